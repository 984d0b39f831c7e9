/- Lemmas of the proof, and the walks of functions that it stands on. -/
import Derived.Test.YtdiilocgjnlmiaaCcoFlat
import Derived.Test.YtdiilocgjnlmiaaCcoPAllx16
import Derived.Test.YtdiilocgjnlmiaaCcoPAllx15
section
namespace Go.Proofs.Ytdiilocgjnlmiaa.PAll
open Go.RowKit Go.Proofs.YtdiilocgjnlmiaaW.PrintWords Go.Proofs.YtdiilocgjnlmiaaW.PrintLast Go.Proofs.YtdiilocgjnlmiaaW.PrintMore
attribute [local go_sem] max2_int min2_int max_two min_two max_three min_three max_four min_four   -- for this text's walks alone
set_option linter.unusedVariables false
set_option linter.unusedSimpArgs false
mutual
def spec_l3null.j0 : Nat → List (S79) → List Bool → Int → Bool → List (S68) → List (S72) → Int → List Int → Int → Option (Bool)
 | 0, _, _, _, _, _, _, _, _, _ => none
 | k + 1, x1, x2, x7, x31, x865000, x865001, x867000, x867001, x867002 => if x31 = true then ((spec_l3target.f x865000 x865001 x867000 x867001 x867002).bind fun t867 => (if 0 ≤ t867 then (if t867 < (x2.length : Int) then (some (rdOf false x2 t867)) else (none)) else (none))) else (if x867000 = 4 then (spec_l3null.j1 k x1 x2 x7 true x865000 x865001 x867000 x867001 x867002) else (spec_l3null.j1 k x1 x2 x7 (x867000 == 5) x865000 x865001 x867000 x867001 x867002))
def spec_l3null.j1 : Nat → List (S79) → List Bool → Int → Bool → List (S68) → List (S72) → Int → List Int → Int → Option (Bool)
 | 0, _, _, _, _, _, _, _, _, _ => none
 | k + 1, x1, x2, x7, x45, x865000, x865001, x867000, x867001, x867002 => if x45 = true then ((spec_l2start.f k x1 (wrap64 (x7 - 1))).bind fun t869 => (if 0 ≤ t869 then (if t869 ≤ (wrap64 (x7 - 1)) then (if (wrap64 (x7 - 1)) ≤ (x1.length : Int) then ((spec_l3null.f k x865000 x865001 ((x1.take ((wrap64 (x7 - 1)) : Int).toNat).drop (t869 : Int).toNat) x2).bind fun t874 => (if x867000 = 4 then (if t874 = true then (if t869 ≤ (x1.length : Int) then ((spec_l3null.f k x865000 x865001 (x1.take (t869 : Int).toNat) x2).bind fun t879 => (some t879)) else (none)) else (some false)) else (if t874 = true then (some true) else (if t869 ≤ (x1.length : Int) then ((spec_l3null.f k x865000 x865001 (x1.take (t869 : Int).toNat) x2).bind fun t884 => (some t884)) else (none))))) else (none)) else (none)) else (none))) else (some true)
def spec_l3null.f : Nat → List (S68) → List (S72) → List (S79) → List Bool → Option (Bool)
 | 0, _, _, _, _ => none
 | k + 1, l0_0, l0_1, l1, l2 => if (l1.length : Int) = 0 then (some false) else (if 0 ≤ (wrap64 ((l1.length : Int) - 1)) then (if (wrap64 ((l1.length : Int) - 1)) < (l1.length : Int) then (if ((rd_T79 l1 (wrap64 ((l1.length : Int) - 1))).f0) = 1 then (some false) else (if ((rd_T79 l1 (wrap64 ((l1.length : Int) - 1))).f0) = 2 then (spec_l3null.j0 k l1 l2 (l1.length : Int) true l0_0 l0_1 ((rd_T79 l1 (wrap64 ((l1.length : Int) - 1))).f0) ((rd_T79 l1 (wrap64 ((l1.length : Int) - 1))).f1) ((rd_T79 l1 (wrap64 ((l1.length : Int) - 1))).f2)) else (spec_l3null.j0 k l1 l2 (l1.length : Int) (((rd_T79 l1 (wrap64 ((l1.length : Int) - 1))).f0) == 3) l0_0 l0_1 ((rd_T79 l1 (wrap64 ((l1.length : Int) - 1))).f0) ((rd_T79 l1 (wrap64 ((l1.length : Int) - 1))).f1) ((rd_T79 l1 (wrap64 ((l1.length : Int) - 1))).f2)))) else (none)) else (none))
end
theorem spec_l3null.mono_l : ∀ k, (∀ y0 y1 y2 y3, LeO (spec_l3null.f k y0 y1 y2 y3) (spec_l3null.f (k + 1) y0 y1 y2 y3)) ∧ (∀ y0 y1 y2 y3 y4 y5 y6 y7 y8, LeO (spec_l3null.j0 k y0 y1 y2 y3 y4 y5 y6 y7 y8) (spec_l3null.j0 (k + 1) y0 y1 y2 y3 y4 y5 y6 y7 y8)) ∧ (∀ y0 y1 y2 y3 y4 y5 y6 y7 y8, LeO (spec_l3null.j1 k y0 y1 y2 y3 y4 y5 y6 y7 y8) (spec_l3null.j1 (k + 1) y0 y1 y2 y3 y4 y5 y6 y7 y8))
 | 0 => ⟨fun _ _ _ _ r h => by simp [spec_l3null.f] at h, fun _ _ _ _ _ _ _ _ _ r h => by simp [spec_l3null.j0] at h, fun _ _ _ _ _ _ _ _ _ r h => by simp [spec_l3null.j1] at h⟩
 | k + 1 => by
  obtain ⟨ih0, ih1, ih2⟩ := spec_l3null.mono_l k
  refine ⟨?_, ?_, ?_⟩
  ·intro y0 y1 y2 y3
   unfold spec_l3null.f
   repeat' first
   | (with_reducible exact ih0 _ _ _ _)
   | (with_reducible exact ih1 _ _ _ _ _ _ _ _ _)
   | (with_reducible exact ih2 _ _ _ _ _ _ _ _ _)
   | (with_reducible exact spec_l2start.mono _ _ _)
   | (with_reducible exact LeO.refl _)
   | (with_reducible exact LeO.none _)
   | (with_reducible refine LeO.ite ?_ ?_)
   | (with_reducible refine LeO.bind ?_ (fun _ => ?_))
   | exact ih0 _ _ _ _
   | exact ih1 _ _ _ _ _ _ _ _ _
   | exact ih2 _ _ _ _ _ _ _ _ _
   | exact spec_l2start.mono _ _ _
   | exact LeO.none _
   | refine LeO.ite ?_ ?_
   | refine LeO.bind ?_ (fun _ => ?_)
  ·intro y0 y1 y2 y3 y4 y5 y6 y7 y8
   unfold spec_l3null.j0
   repeat' first
   | (with_reducible exact ih0 _ _ _ _)
   | (with_reducible exact ih1 _ _ _ _ _ _ _ _ _)
   | (with_reducible exact ih2 _ _ _ _ _ _ _ _ _)
   | (with_reducible exact spec_l2start.mono _ _ _)
   | (with_reducible exact LeO.refl _)
   | (with_reducible exact LeO.none _)
   | (with_reducible refine LeO.ite ?_ ?_)
   | (with_reducible refine LeO.bind ?_ (fun _ => ?_))
   | exact ih0 _ _ _ _
   | exact ih1 _ _ _ _ _ _ _ _ _
   | exact ih2 _ _ _ _ _ _ _ _ _
   | exact spec_l2start.mono _ _ _
   | exact LeO.none _
   | refine LeO.ite ?_ ?_
   | refine LeO.bind ?_ (fun _ => ?_)
  intro y0 y1 y2 y3 y4 y5 y6 y7 y8
  unfold spec_l3null.j1
  repeat' first
  | (with_reducible exact ih0 _ _ _ _)
  | (with_reducible exact ih1 _ _ _ _ _ _ _ _ _)
  | (with_reducible exact ih2 _ _ _ _ _ _ _ _ _)
  | (with_reducible exact spec_l2start.mono _ _ _)
  | (with_reducible exact LeO.refl _)
  | (with_reducible exact LeO.none _)
  | (with_reducible refine LeO.ite ?_ ?_)
  | (with_reducible refine LeO.bind ?_ (fun _ => ?_))
  | exact ih0 _ _ _ _
  | exact ih1 _ _ _ _ _ _ _ _ _
  | exact ih2 _ _ _ _ _ _ _ _ _
  | exact spec_l2start.mono _ _ _
  | exact LeO.none _
  | refine LeO.ite ?_ ?_
  | refine LeO.bind ?_ (fun _ => ?_)
theorem spec_l3null.mono : ∀ a0 a1 a2 a3 k, LeO (spec_l3null.f k a0 a1 a2 a3) (spec_l3null.f (k + 1) a0 a1 a2 a3) := by
 intro a0 a1 a2 a3 k
 obtain ⟨ih0, ih1, ih2⟩ := spec_l3null.mono_l k
 exact ih0 a0 a1 a2 a3
end Go.Proofs.Ytdiilocgjnlmiaa.PAll
end
section
namespace Go.Proofs.Ytdiilocgjnlmiaa.Tre
open Go.RowKit Go.Proofs.YtdiilocgjnlmiaaW.PrintWords Go.Proofs.YtdiilocgjnlmiaaW.PrintLast Go.Proofs.YtdiilocgjnlmiaaW.PrintMore
open Go.Proofs.Ytdiilocgjnlmiaa.PAll
set_option linter.unusedVariables false
set_option linter.unusedSimpArgs false
theorem rd_at {pre post : List Op} {o : Op} {i : Int} (hi : i = (pre.length : Int)) : rd_T79 (pre ++ (o :: post)) i = o := by
 subst hi
 simp [rd_T79, List.getD_eq_getElem?_getD]
theorem flat_pos : ∀ (t : Tr), 0 < (flat t).length
 | .emp => Nat.one_pos
 | .set _ => Nat.one_pos
 | .ref _ => Nat.one_pos
 | .thr _ => Nat.one_pos
 | .seq l r => by simp [flat]; omega
 | .alt l r => by simp [flat]; omega
 | .star x => by simp [flat]
 | .neg x => by simp [flat]
theorem start_step (pre post : List Op) (o : Op) (k n : Nat) (hk : 0 < k) (hl : (pre ++ o :: post).length ≤ 1099511627776) (hn : n ≤ 1099511627776) :
 spec_l2start.l0 (k + 1) (pre ++ o :: post) ((n : Int) + 1) (((pre.length + 1 : Nat)) : Int) = spec_l2start.l0 k (pre ++ o :: post) ((n : Int) + (ar o.f0 : Int)) (pre.length : Int) := by
 have h1 : pre.length + 1 ≤ (pre ++ o :: post).length := by simp
 have e : ((pre.length + 1 : Nat) : Int) - 1 = (pre.length : Int) := by omega
 have ha := ar_le o.f0
 rw [spec_l2start.l0, if_pos (by omega), if_pos (by omega), e, wid (by omega) (by omega), if_pos (by omega), if_pos (by omega), rd_at rfl, arity_f _ _ hk, Option.bind_some, wid (x := (ar o.f0 : Int) - 1) (by omega) (by omega), wid (by omega) (by omega)]
 congr 1
 omega
theorem start_tree : ∀ (t : Tr) (pre post : List Op) (k n : Nat), 0 < k → (pre ++ (flat t ++ post)).length ≤ 1099511627776 → n + (flat t).length ≤ 1099511627776 →
 spec_l2start.l0 (k + (flat t).length) (pre ++ (flat t ++ post)) ((n : Int) + 1) (((pre.length + (flat t).length : Nat)) : Int) = spec_l2start.l0 k (pre ++ (flat t ++ post)) (n : Int) (pre.length : Int)
 | .emp, pre, post, k, n, hk, hl, hn => (start_step pre post ⟨0, [], 0⟩ k n hk hl (by simp [flat] at hn; omega)).trans (by simp [ar]; rfl)
 | .set s, pre, post, k, n, hk, hl, hn => (start_step pre post ⟨1, s, 0⟩ k n hk hl (by simp [flat] at hn; omega)).trans (by simp [ar]; rfl)
 | .ref a, pre, post, k, n, hk, hl, hn => (start_step pre post ⟨2, [], a⟩ k n hk hl (by simp [flat] at hn; omega)).trans (by simp [ar]; rfl)
 | .thr a, pre, post, k, n, hk, hl, hn => (start_step pre post ⟨3, [], a⟩ k n hk hl (by simp [flat] at hn; omega)).trans (by simp [ar]; rfl)
 | .star x, pre, post, k, n, hk, hl, hn => by
  have e : pre ++ (flat (.star x) ++ post) = pre ++ (flat x ++ (⟨6, [], 0⟩ :: post)) := by simp [flat]
  have e2 : pre ++ (flat (.star x) ++ post) = (pre ++ flat x) ++ (⟨6, [], 0⟩ : Op) :: post := by simp [flat]
  have e3 : (flat (.star x)).length = (flat x).length + 1 := by simp [flat]
  rw [e] at hl
  rw [e3] at hn
  have h1 := start_step (pre ++ flat x) post ⟨6, [], 0⟩ (k + (flat x).length) n (by omega) (by rw [← e2, e]; exact hl) (by omega)
  rw [← e2, e] at h1
  rw [e, e3, ← start_tree x pre (⟨6, [], 0⟩ :: post) k n hk hl (by omega), ← Nat.add_assoc, ← Nat.add_assoc]
  rw [List.length_append] at h1
  exact h1
 | .neg x, pre, post, k, n, hk, hl, hn => by
  have e : pre ++ (flat (.neg x) ++ post) = pre ++ (flat x ++ (⟨7, [], 0⟩ :: post)) := by simp [flat]
  have e2 : pre ++ (flat (.neg x) ++ post) = (pre ++ flat x) ++ (⟨7, [], 0⟩ : Op) :: post := by simp [flat]
  have e3 : (flat (.neg x)).length = (flat x).length + 1 := by simp [flat]
  rw [e] at hl
  rw [e3] at hn
  have h1 := start_step (pre ++ flat x) post ⟨7, [], 0⟩ (k + (flat x).length) n (by omega) (by rw [← e2, e]; exact hl) (by omega)
  rw [← e2, e] at h1
  rw [e, e3, ← start_tree x pre (⟨7, [], 0⟩ :: post) k n hk hl (by omega), ← Nat.add_assoc, ← Nat.add_assoc]
  rw [List.length_append] at h1
  exact h1
 | .seq l r, pre, post, k, n, hk, hl, hn => by
  have e : pre ++ (flat (.seq l r) ++ post) = pre ++ (flat l ++ (flat r ++ (⟨4, [], 0⟩ :: post))) := by simp [flat]
  have e1 : pre ++ (flat (.seq l r) ++ post) = (pre ++ flat l) ++ (flat r ++ (⟨4, [], 0⟩ :: post)) := by simp [flat]
  have e2 : pre ++ (flat (.seq l r) ++ post) = ((pre ++ flat l) ++ flat r) ++ (⟨4, [], 0⟩ : Op) :: post := by simp [flat]
  have e3 : (flat (.seq l r)).length = (flat l).length + (flat r).length + 1 := by simp [flat]; omega
  rw [e3] at hn
  have h1 := start_step ((pre ++ flat l) ++ flat r) post ⟨4, [], 0⟩ (k + (flat l).length + (flat r).length) n (by omega) (by rw [← e2]; exact hl) (by omega)
  have h2 := start_tree r (pre ++ flat l) (⟨4, [], 0⟩ :: post) (k + (flat l).length) (n + 1) (by omega) (by rw [← e1]; exact hl) (by omega)
  have h3 := start_tree l pre (flat r ++ (⟨4, [], 0⟩ :: post)) k n hk (by rw [← e]; exact hl) (by omega)
  rw [← e2] at h1
  rw [← e1] at h2
  rw [← e] at h3
  simp only [List.length_append] at h1 h2
  rw [e3, ← h3, ← Nat.add_assoc, ← Nat.add_assoc, ← Nat.add_assoc, ← Nat.add_assoc, h1]
  exact h2
 | .alt l r, pre, post, k, n, hk, hl, hn => by
  have e : pre ++ (flat (.alt l r) ++ post) = pre ++ (flat l ++ (flat r ++ (⟨5, [], 0⟩ :: post))) := by simp [flat]
  have e1 : pre ++ (flat (.alt l r) ++ post) = (pre ++ flat l) ++ (flat r ++ (⟨5, [], 0⟩ :: post)) := by simp [flat]
  have e2 : pre ++ (flat (.alt l r) ++ post) = ((pre ++ flat l) ++ flat r) ++ (⟨5, [], 0⟩ : Op) :: post := by simp [flat]
  have e3 : (flat (.alt l r)).length = (flat l).length + (flat r).length + 1 := by simp [flat]; omega
  rw [e3] at hn
  have h1 := start_step ((pre ++ flat l) ++ flat r) post ⟨5, [], 0⟩ (k + (flat l).length + (flat r).length) n (by omega) (by rw [← e2]; exact hl) (by omega)
  have h2 := start_tree r (pre ++ flat l) (⟨5, [], 0⟩ :: post) (k + (flat l).length) (n + 1) (by omega) (by rw [← e1]; exact hl) (by omega)
  have h3 := start_tree l pre (flat r ++ (⟨5, [], 0⟩ :: post)) k n hk (by rw [← e]; exact hl) (by omega)
  rw [← e2] at h1
  rw [← e1] at h2
  rw [← e] at h3
  simp only [List.length_append] at h1 h2
  rw [e3, ← h3, ← Nat.add_assoc, ← Nat.add_assoc, ← Nat.add_assoc, ← Nat.add_assoc, h1]
  exact h2
theorem start_f (t : Tr) (pre post : List Op) (k : Nat) (hk : (flat t).length < k) (hl : (pre ++ (flat t ++ post)).length ≤ 1099511627776) : spec_l2start.f k (pre ++ (flat t ++ post)) (((pre.length + (flat t).length : Nat)) : Int) = some (pre.length : Int) := by
 obtain ⟨j, rfl⟩ : ∃ j, k = (j + 1) + (flat t).length := ⟨k - (flat t).length - 1, by omega⟩
 have h2 : (flat t).length ≤ (pre ++ (flat t ++ post)).length := by simp; omega
 have h := start_tree t pre post (j + 1) 0 (by omega) hl (by omega)
 rw [spec_l2start.f]
 refine Eq.trans h ?_
 rw [spec_l2start.l0]
 split <;> simp
theorem rdOf_mkd {m : List Bool} {i : Int} {k : Nat} (h : i = (k : Int)) : rdOf false m i = mkd m k := by
 subst h; simp [rdOf, mkd]
end Go.Proofs.Ytdiilocgjnlmiaa.Tre
end
section
namespace Go.Proofs.Ytdiilocgjnlmiaa.PAll
open Go.RowKit Go.Proofs.YtdiilocgjnlmiaaW.PrintWords Go.Proofs.YtdiilocgjnlmiaaW.PrintLast Go.Proofs.YtdiilocgjnlmiaaW.PrintMore
attribute [local go_sem] max2_int min2_int max_two min_two max_three min_three max_four min_four   -- for this text's walks alone
set_option linter.unusedVariables false
set_option linter.unusedSimpArgs false
mutual
def spec_l3nullable.l0 : Nat → Int → List Bool → Int → List (S68) → List (S72) → Option (List Bool)
 | 0, _, _, _, _, _ => none
 | k + 1, x3, x4, x5, x974000, x974001 => if x5 < x3 then (if 0 ≤ x3 then (if (x3 : Int).toNat ≤ 281474976710656 then (spec_l3nullable.l1 k x3 x4 x5 (List.replicate (x3 : Int).toNat false) 0 x974000 x974001) else (none)) else (none)) else (some x4)
def spec_l3nullable.l1 : Nat → Int → List Bool → Int → List Bool → Int → List (S68) → List (S72) → Option (List Bool)
 | 0, _, _, _, _, _, _, _ => none
 | k + 1, x3, x4, x5, x6, x7, x974000, x974001 => if x7 < x3 then ((spec_l3body.f x974000 x974001 x7).bind fun t981 => ((spec_l3null.f k x974000 x974001 t981 x4).bind fun t984 => (if 0 ≤ x7 then (if x7 < (x6.length : Int) then (spec_l3nullable.l1 k x3 x4 x5 (x6.set (x7 : Int).toNat t984) (wrap64 (x7 + 1)) x974000 x974001) else (none)) else (none)))) else (spec_l3nullable.l0 k x3 x6 (wrap64 (x5 + 1)) x974000 x974001)
end
def spec_l3nullable.f (k : Nat) (l0_0 : List (S68)) (l0_1 : List (S72)) : Option (List Bool) := (spec_l3nodes.f l0_0 l0_1).bind fun t974 => (if 0 ≤ t974 then (if (t974 : Int).toNat ≤ 281474976710656 then (spec_l3nullable.l0 k t974 (List.replicate (t974 : Int).toNat false) 0 l0_0 l0_1) else (none)) else (none))
theorem spec_l3nullable.mono_l : ∀ k, (∀ y0 y1 y2 y3 y4, LeO (spec_l3nullable.l0 k y0 y1 y2 y3 y4) (spec_l3nullable.l0 (k + 1) y0 y1 y2 y3 y4)) ∧ (∀ y0 y1 y2 y3 y4 y5 y6, LeO (spec_l3nullable.l1 k y0 y1 y2 y3 y4 y5 y6) (spec_l3nullable.l1 (k + 1) y0 y1 y2 y3 y4 y5 y6))
 | 0 => ⟨fun _ _ _ _ _ r h => by simp [spec_l3nullable.l0] at h, fun _ _ _ _ _ _ _ r h => by simp [spec_l3nullable.l1] at h⟩
 | k + 1 => by
  obtain ⟨ih0, ih1⟩ := spec_l3nullable.mono_l k
  refine ⟨?_, ?_⟩
  ·intro y0 y1 y2 y3 y4
   unfold spec_l3nullable.l0
   repeat' first
   | (with_reducible exact ih0 _ _ _ _ _)
   | (with_reducible exact ih1 _ _ _ _ _ _ _)
   | (with_reducible exact spec_l3null.mono _ _ _ _ _)
   | (with_reducible exact LeO.refl _)
   | (with_reducible exact LeO.none _)
   | (with_reducible refine LeO.ite ?_ ?_)
   | (with_reducible refine LeO.bind ?_ (fun _ => ?_))
   | exact ih0 _ _ _ _ _
   | exact ih1 _ _ _ _ _ _ _
   | exact spec_l3null.mono _ _ _ _ _
   | exact LeO.none _
   | refine LeO.ite ?_ ?_
   | refine LeO.bind ?_ (fun _ => ?_)
  intro y0 y1 y2 y3 y4 y5 y6
  unfold spec_l3nullable.l1
  repeat' first
  | (with_reducible exact ih0 _ _ _ _ _)
  | (with_reducible exact ih1 _ _ _ _ _ _ _)
  | (with_reducible exact spec_l3null.mono _ _ _ _ _)
  | (with_reducible exact LeO.refl _)
  | (with_reducible exact LeO.none _)
  | (with_reducible refine LeO.ite ?_ ?_)
  | (with_reducible refine LeO.bind ?_ (fun _ => ?_))
  | exact ih0 _ _ _ _ _
  | exact ih1 _ _ _ _ _ _ _
  | exact spec_l3null.mono _ _ _ _ _
  | exact LeO.none _
  | refine LeO.ite ?_ ?_
  | refine LeO.bind ?_ (fun _ => ?_)
theorem spec_l3nullable.mono : ∀ a0 a1 k, LeO (spec_l3nullable.f k a0 a1) (spec_l3nullable.f (k + 1) a0 a1) := by
 intro a0 a1 k
 obtain ⟨ih0, ih1⟩ := spec_l3nullable.mono_l k
 unfold spec_l3nullable.f
 repeat' first
  | (with_reducible exact ih0 _ _ _ _ _)
  | (with_reducible exact ih1 _ _ _ _ _ _ _)
  | (with_reducible exact spec_l3null.mono _ _ _ _ _)
  | (with_reducible exact LeO.refl _)
  | (with_reducible exact LeO.none _)
  | (with_reducible refine LeO.ite ?_ ?_)
  | (with_reducible refine LeO.bind ?_ (fun _ => ?_))
  | exact ih0 _ _ _ _ _
  | exact ih1 _ _ _ _ _ _ _
  | exact spec_l3null.mono _ _ _ _ _
  | exact LeO.none _
  | refine LeO.ite ?_ ?_
  | refine LeO.bind ?_ (fun _ => ?_)
end Go.Proofs.Ytdiilocgjnlmiaa.PAll
end
section
namespace Go.Proofs.Ytdiilocgjnlmiaa.PAll
open Go.RowKit Go.Proofs.YtdiilocgjnlmiaaW.PrintWords Go.Proofs.YtdiilocgjnlmiaaW.PrintLast Go.Proofs.YtdiilocgjnlmiaaW.PrintMore
attribute [local go_sem] max2_int min2_int max_two min_two max_three min_three max_four min_four   -- for this text's walks alone
set_option linter.unusedVariables false
set_option linter.unusedSimpArgs false
def spec_l3loops.l0 : Nat → List (S79) → List Bool → Int → List (S68) → List (S72) → Option (Bool)
 | 0, _, _, _, _, _ => none
 | k + 1, x1, x2, x7, x990000, x990001 => if x7 < (x1.length : Int) then (if 0 ≤ x7 then (if ((rd_T79 x1 x7).f0) = 6 then ((spec_l2start.f k x1 x7).bind fun t991 => (if 0 ≤ t991 then (if t991 ≤ x7 then (if x7 ≤ (x1.length : Int) then ((spec_l3null.f k x990000 x990001 ((x1.take (x7 : Int).toNat).drop (t991 : Int).toNat) x2).bind fun t996 => (if t996 = true then (some true) else (spec_l3loops.l0 k x1 x2 (wrap64 (x7 + 1)) x990000 x990001))) else (none)) else (none)) else (none))) else (spec_l3loops.l0 k x1 x2 (wrap64 (x7 + 1)) x990000 x990001)) else (none)) else (some false)
def spec_l3loops.f (k : Nat) (l0_0 : List (S68)) (l0_1 : List (S72)) (l1 : List (S79)) (l2 : List Bool) : Option (Bool) := spec_l3loops.l0 k l1 l2 1 l0_0 l0_1
theorem spec_l3loops.mono_l : ∀ k, (∀ y0 y1 y2 y3 y4, LeO (spec_l3loops.l0 k y0 y1 y2 y3 y4) (spec_l3loops.l0 (k + 1) y0 y1 y2 y3 y4))
 | 0 => fun _ _ _ _ _ r h => by simp [spec_l3loops.l0] at h
 | k + 1 => by
  have ih0 := spec_l3loops.mono_l k
  intro y0 y1 y2 y3 y4
  unfold spec_l3loops.l0
  repeat' first
  | (with_reducible exact ih0 _ _ _ _ _)
  | (with_reducible exact spec_l2start.mono _ _ _)
  | (with_reducible exact spec_l3null.mono _ _ _ _ _)
  | (with_reducible exact LeO.refl _)
  | (with_reducible exact LeO.none _)
  | (with_reducible refine LeO.ite ?_ ?_)
  | (with_reducible refine LeO.bind ?_ (fun _ => ?_))
  | exact ih0 _ _ _ _ _
  | exact spec_l2start.mono _ _ _
  | exact spec_l3null.mono _ _ _ _ _
  | exact LeO.none _
  | refine LeO.ite ?_ ?_
  | refine LeO.bind ?_ (fun _ => ?_)
theorem spec_l3loops.mono : ∀ a0 a1 a2 a3 k, LeO (spec_l3loops.f k a0 a1 a2 a3) (spec_l3loops.f (k + 1) a0 a1 a2 a3) := by
 intro a0 a1 a2 a3 k
 have ih0 := spec_l3loops.mono_l k
 unfold spec_l3loops.f
 repeat' first
  | (with_reducible exact ih0 _ _ _ _ _)
  | (with_reducible exact spec_l2start.mono _ _ _)
  | (with_reducible exact spec_l3null.mono _ _ _ _ _)
  | (with_reducible exact LeO.refl _)
  | (with_reducible exact LeO.none _)
  | (with_reducible refine LeO.ite ?_ ?_)
  | (with_reducible refine LeO.bind ?_ (fun _ => ?_))
  | exact ih0 _ _ _ _ _
  | exact spec_l2start.mono _ _ _
  | exact spec_l3null.mono _ _ _ _ _
  | exact LeO.none _
  | refine LeO.ite ?_ ?_
  | refine LeO.bind ?_ (fun _ => ?_)
end Go.Proofs.Ytdiilocgjnlmiaa.PAll
end
section
namespace Go.Proofs.Ytdiilocgjnlmiaa.Tre
open Go.RowKit Go.Proofs.YtdiilocgjnlmiaaW.PrintWords Go.Proofs.YtdiilocgjnlmiaaW.PrintLast Go.Proofs.YtdiilocgjnlmiaaW.PrintMore
open Go.Proofs.Ytdiilocgjnlmiaa.PAll
set_option linter.unusedVariables false
set_option linter.unusedSimpArgs false
def bodyN (Rs : List Ru) (Ls : List La) (i : Nat) : List Op := (bodies Rs Ls).getD i []
def trees (Rs : List Ru) (Ls : List La) : List (Option Tr) := (bodies Rs Ls).map treeF
theorem len_bodies (Rs : List Ru) (Ls : List La) : (bodies Rs Ls).length = Rs.length + Ls.length := by simp [bodies]
theorem len_trees (Rs : List Ru) (Ls : List La) : (trees Rs Ls).length = Rs.length + Ls.length := by simp [trees, len_bodies]
theorem tr_trees {Rs : List Ru} {Ls : List La} {i : Nat} (hi : i < Rs.length + Ls.length) : tr (trees Rs Ls) i = treeF (bodyN Rs Ls i) := by
 have h1 : i < (bodies Rs Ls).length := by rw [len_bodies]; exact hi
 simp [tr, trees, bodyN, List.getD_eq_getElem?_getD, h1]
theorem bodyN_ru {Rs : List Ru} {Ls : List La} {i : Nat} (hi : i < Rs.length) : bodyN Rs Ls i = (ru Rs i).f1 := by
 simp [bodyN, bodies, List.getD_eq_getElem?_getD, List.getElem?_append, hi, ru, rd_T68]
theorem bodyN_la {Rs : List Ru} {Ls : List La} {j : Nat} (hj : j < Ls.length) : bodyN Rs Ls (Rs.length + j) = (la Ls j).f2 := by
 simp [bodyN, bodies, List.getD_eq_getElem?_getD, List.getElem?_append, hj, la, rd_T72]
structure Nice (Rs : List Ru) (Ls : List La) : Prop where
 r : Rs.length ≤ 100
 l : Ls.length ≤ 100
 body : ∀ i, i < Rs.length + Ls.length → (bodyN Rs Ls i = [] ∧ tr (trees Rs Ls) i = none) ∨ ∃ x, tr (trees Rs Ls) i = some x ∧ bodyN Rs Ls i = flat x ∧ okT Rs.length Ls.length x ∧ (flat x).length ≤ 2000
theorem opB_can {R L : Int} {o : Op} (h : opB R L o = true) (h0 : 0 ≤ o.f0) (h7 : o.f0 ≤ 7) : Can o := by
 unfold opB at h
 rw [Bool.and_eq_true, decide_eq_true_eq] at h
 refine ⟨h0, h7, fun h1 => ?_, fun h2 h3 => ?_⟩
 ·have := h.1
  rw [if_neg h1, decide_eq_true_eq] at this
  exact List.length_eq_zero_iff.1 this
 have := h.2
 unfold mostF at this
 rw [if_neg h3, if_neg h2] at this
 omega
theorem okT_flat {R L : Nat} : ∀ (x : Tr), (∀ o ∈ flat x, opB (R : Int) (L : Int) o = true) → okT R L x
 | .emp, _ => trivial
 | .set _, _ => trivial
 | .ref n, h => by
  have := h ⟨2, [], n⟩ List.mem_cons_self
  unfold opB mostF at this
  rw [Bool.and_eq_true, decide_eq_true_eq] at this
  have h2 := this.2
  simp at h2
  exact h2
 | .thr n, h => by
  have := h ⟨3, [], n⟩ List.mem_cons_self
  unfold opB mostF at this
  rw [Bool.and_eq_true, decide_eq_true_eq] at this
  have h2 := this.2
  simp at h2
  exact h2
 | .seq l r, h => ⟨okT_flat l fun o ho => h o (by simp [flat, ho]), okT_flat r fun o ho => h o (by simp [flat, ho])⟩
 | .alt l r, h => ⟨okT_flat l fun o ho => h o (by simp [flat, ho]), okT_flat r fun o ho => h o (by simp [flat, ho])⟩
 | .star x, h => okT_flat x fun o ho => h o (by simp [flat, ho])
 | .neg x, h => okT_flat x fun o ho => h o (by simp [flat, ho])
theorem stepT_kind {st st1 : List Tr} {o : Op} (h : stepT st o = some st1) : 0 ≤ o.f0 ∧ o.f0 ≤ 7 := by
 refine Classical.byContradiction fun hn => ?_
 obtain ⟨k, s, n⟩ := o
 rw [stepT_bad (by simp only at hn; omega)] at h
 cases h
theorem runT_kinds : ∀ (ops : List Op) {st st1 : List Tr}, runT st ops = some st1 → ∀ o ∈ ops, 0 ≤ o.f0 ∧ o.f0 ≤ 7
 | [], _, _, _ => fun o ho => by cases ho
 | o :: ops, st, st1, h => by
  rw [runT] at h
  cases hs : stepT st o with
  | none => rw [hs] at h; cases h
  | some s =>
   rw [hs, Option.bind_some] at h
   intro q hq
   rcases List.mem_cons.1 hq with rfl | hq
   ·exact stepT_kind hs
   exact runT_kinds ops h q hq
theorem body_tree {R L : Nat} {ops : List Op} (h : bodyB (R : Int) (L : Int) ops = true) : ∃ x, treeF ops = some x ∧ ops = flat x ∧ okT R L x := by
 unfold bodyB at h
 rw [Bool.and_eq_true, List.all_eq_true] at h
 obtain ⟨x, hx⟩ := Option.isSome_iff_exists.1 h.2
 have hk : ∀ o ∈ ops, 0 ≤ o.f0 ∧ o.f0 ≤ 7 := by
  unfold treeF at hx
  split at hx
  ·rename_i t ht
   exact runT_kinds ops ht
  cases hx
 have hf := flat_of_treeF (fun o ho => opB_can (h.1 o ho) (hk o ho).1 (hk o ho).2) hx
 exact ⟨x, hx, hf.symm, okT_flat x (by rw [hf]; exact h.1)⟩
theorem len_le_sum {bs : List (List Op)} {i : Nat} : (bs.getD i []).length ≤ sumOps bs := by
 induction bs generalizing i with
 | nil => simp [sumOps]
 | cons b bs ih =>
  have : sumOps (b :: bs) = b.length + sumOps bs := by simp [sumOps]
  rw [this]
  cases i with
  | zero => simp
  | succ i => have := ih (i := i); simp only [List.getD_cons_succ]; omega
theorem Valid.nice {Rs : List Ru} {Ls : List La} (h : Valid Rs Ls) : Nice Rs Ls := by
 refine ⟨h.r2, h.l2, fun i hi => ?_⟩
 rw [tr_trees hi]
 have hlen : (bodyN Rs Ls i).length ≤ 2000 := Nat.le_trans len_le_sum h.ops
 rcases Nat.lt_or_ge i Rs.length with hr | hr
 ·obtain ⟨x, h1, h2, h3⟩ := body_tree (h.rules i hr).body
  rw [← bodyN_ru (Ls := Ls) hr] at h1 h2
  exact .inr ⟨x, h1, h2, h3, by rw [← h2]; exact hlen⟩
 obtain ⟨j, rfl⟩ : ∃ j, i = Rs.length + j := ⟨i - Rs.length, by omega⟩
 have hj : j < Ls.length := by omega
 have hb := h.labels j hj
 cases hh : (la Ls j).f1 with
 | true =>
  obtain ⟨x, h1, h2, h3⟩ := body_tree (hb.body hh)
  rw [← bodyN_la (Rs := Rs) hj] at h1 h2
  exact .inr ⟨x, h1, h2, h3, by rw [← h2]; exact hlen⟩
 | false =>
  have := List.length_eq_zero_iff.1 (hb.none hh)
  rw [← bodyN_la (Rs := Rs) hj] at this
  rw [this]
  exact .inl ⟨rfl, rfl⟩
section
variable {Rs : List Ru} {Ls : List La}
theorem nodes_f (h : Nice Rs Ls) : spec_l3nodes.f Rs Ls = some ((Rs.length + Ls.length : Nat) : Int) := by
 have := h.r
 have := h.l
 rw [spec_l3nodes.f, wid (by omega) (by omega)]
 congr 1
theorem body_f (h : Nice Rs Ls) {i : Nat} (hi : i < Rs.length + Ls.length) : spec_l3body.f Rs Ls (i : Int) = some (bodyN Rs Ls i) := by
 have := h.r
 have := h.l
 rw [spec_l3body.f]
 by_cases hr : i < Rs.length
 ·rw [if_pos (by omega), if_pos (by omega), bodyN_ru hr]
 obtain ⟨j, rfl⟩ : ∃ j, i = Rs.length + j := ⟨i - Rs.length, by omega⟩
 have e : ((Rs.length + j : Nat) : Int) - (Rs.length : Int) = (j : Int) := by omega
 rw [if_neg (by omega), e, wid (by omega) (by omega), if_pos (by omega), if_pos (by omega), bodyN_la (by omega)]
end
end Go.Proofs.Ytdiilocgjnlmiaa.Tre
end
