/- Lemmas of the proof, and the walks of functions that it stands on. -/
import Derived.Test.YtdiilocgjnlmiaaCnuFlat
import Derived.Test.YtdiilocgjnlmiaaCnuPAllx15
import Derived.Test.YtdiilocgjnlmiaaCnuVSpec
import Derived.Test.YtdiilocgjnlmiaaCnuMarkedC
import Derived.Test.YtdiilocgjnlmiaaCnuPAllx16
import Derived.Test.YtdiilocgjnlmiaaCnuPAllx1
import Derived.Test.YtdiilocgjnlmiaaCnuPAllx6
import Derived.Test.YtdiilocgjnlmiaaCnuPAllx9
import Derived.Test.YtdiilocgjnlmiaaCnuValid
section
namespace Go.Proofs.Ytdiilocgjnlmiaa.PAll
open Go.RowKit Go.Proofs.YtdiilocgjnlmiaaW.PrintWords Go.Proofs.YtdiilocgjnlmiaaW.PrintLast Go.Proofs.YtdiilocgjnlmiaaW.PrintMore
attribute [local go_sem] max2_int min2_int max_two min_two max_three min_three max_four min_four   -- for this text's walks alone
set_option linter.unusedVariables false
set_option linter.unusedSimpArgs false
mutual
noncomputable def spec_Erase.l0 : Nat → Int → List (S68) → List (S72) → List (S68) → Option ((List (S68)) × (List (S72)))
 | 0, _, _, _, _ => none
 | k + 1, x4, x1061000, x1061001, x1064000 => if x4 < (x1061000.length : Int) then (if 0 ≤ x4 then ((spec_l2copy.f k ((rd_T68 x1061000 x4).f1)).bind fun t1065 => (spec_Erase.l1 k x4 t1065 0 x1061000 x1061001 x1064000)) else (none)) else (some (x1064000, ([] : List (S72))))
noncomputable def spec_Erase.l1 : Nat → Int → List (S79) → Int → List (S68) → List (S72) → List (S68) → Option ((List (S68)) × (List (S72)))
 | 0, _, _, _, _, _, _ => none
 | k + 1, x4, x5, x6, x1061000, x1061001, x1064000 => if x6 < (x5.length : Int) then (if 0 ≤ x6 then (if ((rd_T79 x5 x6).f0) = 3 then (spec_Erase.l1 k x4 (x5.set (x6 : Int).toNat (⟨1, ([] : List Int), 0⟩ : S79)) (wrap64 (x6 + 1)) x1061000 x1061001 x1064000) else (spec_Erase.l1 k x4 x5 (wrap64 (x6 + 1)) x1061000 x1061001 x1064000)) else (none)) else ((some (([] : List Int) : List Int)).bind fun y1070 => (if 0 ≤ x4 then (if x4 < (x1061000.length : Int) then (if y1070.length + ((rd_T68 x1061000 x4).f0).length < 140737488355328 then (if x1064000.length < 2932031007402 then (spec_Erase.l0 k (wrap64 (x4 + 1)) x1061000 x1061001 (x1064000 ++ [(⟨(y1070 ++ ((rd_T68 x1061000 x4).f0)), x5⟩ : S68)])) else (none)) else (none)) else (none)) else (none)))
end
noncomputable def spec_Erase.f (k : Nat) (l0_0 : List (S68)) (l0_1 : List (S72)) : Option ((List (S68)) × (List (S72))) := (spec_ValidGrammar.f l0_0 l0_1).bind fun t1062 => (if t1062 = true then (spec_Erase.l0 k 0 l0_0 l0_1 ([] : List (S68))) else (some (([] : List (S68)), ([] : List (S72)))))
theorem spec_Erase.mono_l : ∀ k, (∀ y0 y1 y2 y3, LeO (spec_Erase.l0 k y0 y1 y2 y3) (spec_Erase.l0 (k + 1) y0 y1 y2 y3)) ∧ (∀ y0 y1 y2 y3 y4 y5, LeO (spec_Erase.l1 k y0 y1 y2 y3 y4 y5) (spec_Erase.l1 (k + 1) y0 y1 y2 y3 y4 y5))
 | 0 => ⟨fun _ _ _ _ r h => by simp [spec_Erase.l0] at h, fun _ _ _ _ _ _ r h => by simp [spec_Erase.l1] at h⟩
 | k + 1 => by
  obtain ⟨ih0, ih1⟩ := spec_Erase.mono_l k
  refine ⟨?_, ?_⟩
  ·intro y0 y1 y2 y3
   unfold spec_Erase.l0
   repeat' first
   | (with_reducible exact ih0 _ _ _ _)
   | (with_reducible exact ih1 _ _ _ _ _ _)
   | (with_reducible exact spec_l2copy.mono _ _)
   | (with_reducible exact LeO.refl _)
   | (with_reducible exact LeO.none _)
   | (with_reducible refine LeO.ite ?_ ?_)
   | (with_reducible refine LeO.bind ?_ (fun _ => ?_))
   | exact ih0 _ _ _ _
   | exact ih1 _ _ _ _ _ _
   | exact spec_l2copy.mono _ _
   | exact LeO.none _
   | refine LeO.ite ?_ ?_
   | refine LeO.bind ?_ (fun _ => ?_)
  intro y0 y1 y2 y3 y4 y5
  unfold spec_Erase.l1
  repeat' first
  | (with_reducible exact ih0 _ _ _ _)
  | (with_reducible exact ih1 _ _ _ _ _ _)
  | (with_reducible exact spec_l2copy.mono _ _)
  | (with_reducible exact LeO.refl _)
  | (with_reducible exact LeO.none _)
  | (with_reducible refine LeO.ite ?_ ?_)
  | (with_reducible refine LeO.bind ?_ (fun _ => ?_))
  | exact ih0 _ _ _ _
  | exact ih1 _ _ _ _ _ _
  | exact spec_l2copy.mono _ _
  | exact LeO.none _
  | refine LeO.ite ?_ ?_
  | refine LeO.bind ?_ (fun _ => ?_)
theorem spec_Erase.mono : ∀ a0 a1 k, LeO (spec_Erase.f k a0 a1) (spec_Erase.f (k + 1) a0 a1) := by
 intro a0 a1 k
 obtain ⟨ih0, ih1⟩ := spec_Erase.mono_l k
 unfold spec_Erase.f
 repeat' first
  | (with_reducible exact ih0 _ _ _ _)
  | (with_reducible exact ih1 _ _ _ _ _ _)
  | (with_reducible exact spec_l2copy.mono _ _)
  | (with_reducible exact LeO.refl _)
  | (with_reducible exact LeO.none _)
  | (with_reducible refine LeO.ite ?_ ?_)
  | (with_reducible refine LeO.bind ?_ (fun _ => ?_))
  | exact ih0 _ _ _ _
  | exact ih1 _ _ _ _ _ _
  | exact spec_l2copy.mono _ _
  | exact LeO.none _
  | refine LeO.ite ?_ ?_
  | refine LeO.bind ?_ (fun _ => ?_)
end Go.Proofs.Ytdiilocgjnlmiaa.PAll
end
section
namespace Go.Proofs.Ytdiilocgjnlmiaa.Tre
open Go.RowKit Go.Proofs.YtdiilocgjnlmiaaW.PrintWords Go.Proofs.YtdiilocgjnlmiaaW.PrintLast Go.Proofs.YtdiilocgjnlmiaaW.PrintMore
open Go.Proofs.Ytdiilocgjnlmiaa.PAll
set_option linter.unusedVariables false
set_option linter.unusedSimpArgs false
end Go.Proofs.Ytdiilocgjnlmiaa.Tre
end
section
namespace Go.Proofs.Ytdiilocgjnlmiaa.Tre
open Go.RowKit Go.Proofs.YtdiilocgjnlmiaaW.PrintWords Go.Proofs.YtdiilocgjnlmiaaW.PrintLast Go.Proofs.YtdiilocgjnlmiaaW.PrintMore
open Go.Proofs.Ytdiilocgjnlmiaa.PAll
set_option linter.unusedVariables false
set_option linter.unusedSimpArgs false
structure GrC (W : World) (A0 : Option Addr) (c0 : Nat) (A1 : Option Addr) (c1 : Nat) (Rs : List Ru) (Ls : List La) : Prop where
 r : Kd.C k68 W A0 Rs.length Rs
 rc : Rs.length ≤ c0
 l : Kd.C k72 W A1 Ls.length Ls
 lc : Ls.length ≤ c1
theorem GrC.below {W W' : World} {A0 A1 : Option Addr} {c0 c1 : Nat} {Rs : List Ru} {Ls : List La} (h : GrC W A0 c0 A1 c1 Rs Ls) (hb : Below W.heap.size W W') : GrC W' A0 c0 A1 c1 Rs Ls := ⟨Kd.C_below h.r hb, h.rc, Kd.C_below h.l hb, h.lc⟩
theorem grc_of_R {W : World} {B : Nat} {ok ok' : Nat → Prop} {v0 v1 : Value} {Rs : List Ru} {Ls : List La} (h0 : Kd.R k68 68 W B ok v0 Rs) (h1 : Kd.R k72 72 W B ok' v1 Ls) : ∃ A0 c0 A1 c1, v0 = .slice A0 Rs.length c0 ∧ v1 = .slice A1 Ls.length c1 ∧ GrC W A0 c0 A1 c1 Rs Ls := by
 obtain ⟨A0, c0, e0, l0, r0⟩ := Kd.R_reads h0
 obtain ⟨A1, c1, e1, l1, r1⟩ := Kd.R_reads h1
 exact ⟨A0, c0, A1, c1, e0, e1, ⟨r0, l0, r1, l1⟩⟩
def TruePost (w : World) (e : Ending) (w' : World) : Prop := e = .returned (.bool true) ∧ Below w.heap.size w w'
theorem eq_in {W : World} {A0 A1 B0 B1 : Option Addr} {c0 c1 d0 d1 : Nat} {Rs : List Ru} {Ls : List La} (h : GrC W A0 c0 A1 c1 Rs Ls) (g : GrC W B0 d0 B1 d1 Rs Ls) (hR : ssRs Rs) (hL : ssLs Ls) :
 Calls Try.prog 14 #[.agg #[.slice A0 Rs.length c0, .slice A1 Ls.length c1], .agg #[.slice B0 Rs.length d0, .slice B1 Ls.length d1]] W (TruePost W) :=
 (laws_eqGrammar.calls 3200001 A0 c0 Rs A1 c1 Ls B0 d0 Rs B1 d1 Ls true W h.r h.rc h.l h.lc g.r g.rc g.l g.lc (eqGrammar_f Rs Ls hR hL _ (by omega))).mono fun e w' h => h
theorem grX_in {W : World} {X : Nat → Prop} {G : Gr} (h : WGr W X G) {b : Nat} (hb : grX G b) : X b ∧ b < W.heap.size := by
 rcases hb with ⟨j, hj, hb⟩ | hb | ⟨j, hj, hb⟩
 ·obtain ⟨h1, h2, _⟩ := (WRules.it h.1 j hj).types hb
  exact ⟨h1, h2⟩
 ·obtain ⟨hX, cur, hc⟩ := WRow.block h.2 (ownV_slice.2 hb)
  exact ⟨hX, (Array.getElem?_eq_some_iff.1 hc).1⟩
 obtain ⟨h1, h2, _⟩ := (WLabels.it h.2 j hj).types hb
 exact ⟨h1, h2⟩
end Go.Proofs.Ytdiilocgjnlmiaa.Tre
end
section
namespace Go.Proofs.Ytdiilocgjnlmiaa.Tre
open Go.RowKit Go.Proofs.YtdiilocgjnlmiaaW.PrintWords Go.Proofs.YtdiilocgjnlmiaaW.PrintLast Go.Proofs.YtdiilocgjnlmiaaW.PrintMore
open Go.Proofs.Ytdiilocgjnlmiaa.PAll
set_option linter.unusedVariables false
set_option linter.unusedSimpArgs false
def occ (R : Nat) : Tr → List Nat
 | .emp => []
 | .set _ => []
 | .ref n => [n.toNat]
 | .thr n => [R + n.toNat]
 | .seq l r => occ R l ++ occ R r
 | .alt l r => occ R l ++ occ R r
 | .star x => occ R x
 | .neg x => occ R x
def okT (R L : Nat) : Tr → Prop
 | .emp => True
 | .set _ => True
 | .ref n => 0 ≤ n ∧ n < (R : Int)
 | .thr n => 0 ≤ n ∧ n < (L : Int)
 | .seq l r => okT R L l ∧ okT R L r
 | .alt l r => okT R L l ∧ okT R L r
 | .star x => okT R L x
 | .neg x => okT R L x
def mkd (m : List Bool) (k : Nat) : Bool := m.getD k false
def nullT (R : Nat) (m : List Bool) : Tr → Bool
 | .emp => true
 | .set _ => false
 | .ref n => mkd m n.toNat
 | .thr n => mkd m (R + n.toNat)
 | .seq l r => nullT R m l && nullT R m r
 | .alt l r => nullT R m l || nullT R m r
 | .star _ => true
 | .neg _ => true
def nullO (R : Nat) (m : List Bool) : Option Tr → Bool
 | none => false
 | some t => nullT R m t
def okO (R L : Nat) (o : Option Tr) : Prop := ∀ t, o = some t → okT R L t
def occO (R : Nat) : Option Tr → List Nat
 | none => []
 | some t => occ R t
theorem nullT_congr {R : Nat} {m m' : List Bool} : ∀ (t : Tr), (∀ k ∈ occ R t, mkd m k = mkd m' k) → nullT R m t = nullT R m' t
 | .emp, _ => rfl
 | .set _, _ => rfl
 | .ref n, h => h _ (List.mem_singleton.2 rfl)
 | .thr n, h => h _ (List.mem_singleton.2 rfl)
 | .seq l r, h => by simp only [nullT]; rw [nullT_congr l fun k hk => h k (List.mem_append_left _ hk), nullT_congr r fun k hk => h k (List.mem_append_right _ hk)]
 | .alt l r, h => by simp only [nullT]; rw [nullT_congr l fun k hk => h k (List.mem_append_left _ hk), nullT_congr r fun k hk => h k (List.mem_append_right _ hk)]
 | .star _, _ => rfl
 | .neg _, _ => rfl
theorem nullO_congr {R : Nat} {m m' : List Bool} {o : Option Tr} (h : ∀ k ∈ occO R o, mkd m k = mkd m' k) : nullO R m o = nullO R m' o := by
 cases o with
 | none => rfl
 | some t => exact nullT_congr t h
def LeM (m m' : List Bool) : Prop := ∀ k, mkd m k = true → mkd m' k = true
theorem nullT_mono {R : Nat} {m m' : List Bool} (hm : LeM m m') : ∀ (t : Tr), nullT R m t = true → nullT R m' t = true
 | .emp, h => rfl
 | .set _, h => by cases h
 | .ref n, h => hm _ h
 | .thr n, h => hm _ h
 | .seq l r, h => by
  simp only [nullT, Bool.and_eq_true] at h ⊢
  exact ⟨nullT_mono hm l h.1, nullT_mono hm r h.2⟩
 | .alt l r, h => by
  simp only [nullT, Bool.or_eq_true] at h ⊢
  exact h.imp (nullT_mono hm l) (nullT_mono hm r)
 | .star _, h => rfl
 | .neg _, h => rfl
theorem nullO_mono {R : Nat} {m m' : List Bool} (hm : LeM m m') {o : Option Tr} (h : nullO R m o = true) : nullO R m' o = true := by
 cases o with
 | none => cases h
 | some t => exact nullT_mono hm t h
def roundM (R : Nat) (ts : List (Option Tr)) (m : List Bool) : List Bool := ts.map (nullO R m)
def iterM (R : Nat) (ts : List (Option Tr)) : Nat → List Bool
 | 0 => List.replicate ts.length false
 | k + 1 => roundM R ts (iterM R ts k)
def nullF (R : Nat) (ts : List (Option Tr)) : List Bool := iterM R ts ts.length
def tr (ts : List (Option Tr)) (i : Nat) : Option Tr := ts.getD i none
theorem mkd_round {R : Nat} {ts : List (Option Tr)} {m : List Bool} {i : Nat} (hi : i < ts.length) : mkd (roundM R ts m) i = nullO R m (tr ts i) := by
 simp [mkd, roundM, tr, List.getD_eq_getElem?_getD, hi]
theorem mkd_lt {m : List Bool} {i : Nat} (h : mkd m i = true) : i < m.length := by
 unfold mkd at h
 rw [List.getD_eq_getElem?_getD] at h
 rcases Nat.lt_or_ge i m.length with h1 | h1
 ·exact h1
 rw [List.getElem?_eq_none h1] at h; cases h
theorem len_iter {R : Nat} {ts : List (Option Tr)} : ∀ k, (iterM R ts k).length = ts.length
 | 0 => List.length_replicate
 | k + 1 => List.length_map _
def Closed (R : Nat) (ts : List (Option Tr)) (m : List Bool) : Prop := ∀ i, i < ts.length → nullO R m (tr ts i) = true → mkd m i = true
structure Least (R : Nat) (ts : List (Option Tr)) (m : List Bool) : Prop where
 len : m.length = ts.length
 closed : Closed R ts m
 least : ∀ x, Closed R ts x → LeM m x
theorem mkd_ext {m m' : List Bool} (hl : m.length = m'.length) (h : ∀ i, i < m.length → mkd m i = mkd m' i) : m = m' := by
 refine List.ext_getElem hl fun i h1 h2 => ?_
 have := h i h1
 simpa [mkd, List.getD_eq_getElem?_getD, h1, h2] using this
theorem Least.unique {R : Nat} {ts : List (Option Tr)} {m m' : List Bool} (h : Least R ts m) (h' : Least R ts m') : m = m' := by
 refine mkd_ext (h.len.trans h'.len.symm) fun i _ => ?_
 rw [Bool.eq_iff_iff]
 exact ⟨h.least _ h'.closed i, h'.least _ h.closed i⟩
theorem iter_le {R : Nat} {ts : List (Option Tr)} : ∀ k, LeM (iterM R ts k) (iterM R ts (k + 1))
 | 0, i, h => by
  simp only [iterM, mkd, List.getD_eq_getElem?_getD, List.getElem?_replicate] at h
  split at h <;> cases h
 | k + 1, i, h => by
  have hi := mkd_lt h
  rw [len_iter] at hi
  rw [iterM, mkd_round hi] at h ⊢
  exact nullO_mono (iter_le k) h
theorem iter_sound {R : Nat} {ts : List (Option Tr)} {x : List Bool} (hx : Closed R ts x) : ∀ k, LeM (iterM R ts k) x
 | 0, i, h => by
  simp only [iterM, mkd, List.getD_eq_getElem?_getD, List.getElem?_replicate] at h
  split at h <;> cases h
 | k + 1, i, h => by
  have hi := mkd_lt h
  rw [len_iter] at hi
  rw [iterM, mkd_round hi] at h
  exact hx i hi (nullO_mono (iter_sound hx k) h)
def cntM (m : List Bool) : Nat := (m.filter id).length
theorem cnt_le : ∀ (m : List Bool), cntM m ≤ m.length := fun m => List.length_filter_le _ _
theorem cnt_grow : ∀ (a b : List Bool), a.length = b.length → (∀ i, mkd a i = true → mkd b i = true) → cntM a ≤ cntM b ∧ (cntM a = cntM b → a = b)
 | [], [], _, _ => ⟨Nat.le_refl _, fun _ => rfl⟩
 | x :: a, y :: b, hl, h => by
  have ih := cnt_grow a b (by simpa using hl) fun i hi => h (i + 1) hi
  have h0 := h 0
  cases x <;> cases y
  ·refine ⟨ih.1, fun e => by rw [ih.2 e]⟩
  ·refine ⟨?_, ?_⟩
   ·have : cntM (false :: a) = cntM a := rfl
    have : cntM (true :: b) = cntM b + 1 := rfl
    omega
   intro e
   have : cntM (false :: a) = cntM a := rfl
   have : cntM (true :: b) = cntM b + 1 := rfl
   omega
  ·cases h0 rfl
  have e1 : cntM (true :: a) = cntM a + 1 := rfl
  have e2 : cntM (true :: b) = cntM b + 1 := rfl
  refine ⟨by omega, fun e => by rw [ih.2 (by omega)]⟩
theorem iter_const {R : Nat} {ts : List (Option Tr)} {k : Nat} (h : iterM R ts k = iterM R ts (k + 1)) : ∀ j, iterM R ts (k + j) = iterM R ts k
 | 0 => rfl
 | j + 1 => by
  show roundM R ts (iterM R ts (k + j)) = _
  rw [iter_const h j]
  exact h.symm
theorem iter_cnt {R : Nat} {ts : List (Option Tr)} {n : Nat} (h : iterM R ts n ≠ iterM R ts (n + 1)) : ∀ k, k ≤ n + 1 → k ≤ cntM (iterM R ts k)
 | 0, _ => Nat.zero_le _
 | k + 1, hk => by
  have ih := iter_cnt h k (by omega)
  have hg := cnt_grow (iterM R ts k) (iterM R ts (k + 1)) (by rw [len_iter, len_iter]) (iter_le k)
  have hne : iterM R ts k ≠ iterM R ts (k + 1) := fun e => h (by
   have e1 := iter_const e (n - k)
   have e2 := iter_const e (n + 1 - k)
   rw [show k + (n - k) = n by omega] at e1
   rw [show k + (n + 1 - k) = n + 1 by omega] at e2
   rw [e1, e2])
  have : cntM (iterM R ts k) ≠ cntM (iterM R ts (k + 1)) := fun e => hne (hg.2 e)
  omega
theorem nullF_least {R : Nat} {ts : List (Option Tr)} : Least R ts (nullF R ts) := by
 refine ⟨len_iter _, ?_, fun x hx => iter_sound hx _⟩
 have hfix : iterM R ts ts.length = iterM R ts (ts.length + 1) := by
  refine Classical.byContradiction fun h => ?_
  have h1 := iter_cnt h (ts.length + 1) (Nat.le_refl _)
  have h2 := cnt_le (iterM R ts (ts.length + 1))
  rw [len_iter] at h2
  omega
 intro i hi h
 unfold nullF at h ⊢
 rw [← mkd_round hi] at h
 rw [hfix]
 exact h
theorem nullF_len {R : Nat} {ts : List (Option Tr)} : (nullF R ts).length = ts.length := len_iter _
structure Work (R : Nat) (ts : List (Option Tr)) (m : List Bool) (items : List Nat) : Prop where
 len : m.length = ts.length
 sound : ∀ x, Closed R ts x → LeM m x
 nodup : items.Nodup
 inn : ∀ i ∈ items, i < ts.length
 done : ∀ i, i < ts.length → mkd m i = false → i ∉ items → nullO R m (tr ts i) = false
theorem nodup_le : ∀ (n : Nat) (l : List Nat), l.Nodup → (∀ i ∈ l, i < n) → l.length ≤ n
 | 0, [], _, _ => Nat.le_refl _
 | 0, x :: l, _, h => absurd (h x List.mem_cons_self) (Nat.not_lt_zero _)
 | n + 1, l, hn, h => by
  have ih := nodup_le n (l.erase n) (hn.erase n) fun i hi => by
   have h1 := h i (List.mem_of_mem_erase hi)
   have h2 : i ≠ n := fun e => by
    subst e
    exact absurd hi hn.not_mem_erase
   omega
  rw [List.length_erase] at ih
  split at ih <;> omega
theorem Work.items_le {R : Nat} {ts : List (Option Tr)} {m : List Bool} {items : List Nat} (h : Work R ts m items) : items.length ≤ ts.length := nodup_le _ _ h.nodup h.inn
theorem mkd_set {m : List Bool} {x : Nat} (hx : x < m.length) (i : Nat) : mkd (m.set x true) i = (decide (i = x) || mkd m i) := by
 unfold mkd
 rw [List.getD_eq_getElem?_getD, List.getElem?_set, List.getD_eq_getElem?_getD]
 by_cases h : x = i
 ·subst h
  rw [if_pos rfl, if_pos hx, decide_eq_true rfl]; rfl
 rw [if_neg h, decide_eq_false (fun e => h e.symm)]; rfl
theorem Work.skip {R : Nat} {ts : List (Option Tr)} {m : List Bool} {x : Nat} {rest : List Nat} (h : Work R ts m (x :: rest)) (hx : mkd m x = true ∨ nullO R m (tr ts x) = false) : Work R ts m rest := by
 refine ⟨h.len, h.sound, (List.nodup_cons.1 h.nodup).2, fun i hi => h.inn i (List.mem_cons_of_mem _ hi), fun i hi hm hn => ?_⟩
 by_cases e : i = x
 ·subst e
  rcases hx with h1 | h1
  ·rw [hm] at h1; cases h1
  exact h1
 exact h.done i hi hm fun hc => (List.mem_cons.1 hc).elim e hn
theorem Work.mark {R : Nat} {ts : List (Option Tr)} {m : List Bool} {x : Nat} {rest items : List Nat} (h : Work R ts m (x :: rest)) (hx : nullO R m (tr ts x) = true)
 (hr : ∀ i ∈ rest, i ∈ items) (hu : ∀ i, i < ts.length → x ∈ occO R (tr ts i) → i ∈ items) (hn : items.Nodup) (hi : ∀ i ∈ items, i < ts.length) : Work R ts (m.set x true) items := by
 have hxl : x < ts.length := h.inn x List.mem_cons_self
 have hxm : x < m.length := by rw [h.len]; exact hxl
 refine ⟨by rw [List.length_set]; exact h.len, fun X hX k hk => ?_, hn, hi, fun i hil hm hni => ?_⟩
 ·rw [mkd_set hxm, Bool.or_eq_true, decide_eq_true_eq] at hk
  rcases hk with rfl | hk
  ·exact hX _ hxl (nullO_mono (h.sound X hX) hx)
  exact h.sound X hX k hk
 rw [mkd_set hxm, Bool.or_eq_false_iff, decide_eq_false_iff_not] at hm
 have h1 := h.done i hil hm.2 fun hc => (List.mem_cons.1 hc).elim hm.1 fun h2 => hni (hr i h2)
 rw [← h1]
 refine nullO_congr fun k hk => ?_
 have e : k ≠ x := fun e => hni (hu i hil (by rw [← e]; exact hk))
 rw [mkd_set hxm, decide_eq_false e]
 rfl
theorem Work.finish {R : Nat} {ts : List (Option Tr)} {m : List Bool} (h : Work R ts m []) : m = nullF R ts := by
 refine Least.unique ⟨h.len, fun i hi hn => ?_, h.sound⟩ nullF_least
 cases hm : mkd m i with
 | true => rfl
 | false => rw [h.done i hi hm List.not_mem_nil] at hn; cases hn
def addF (l : List Nat) (xs : List Nat) : List Nat := xs.foldl (fun l x => if x ∈ l then l else l ++ [x]) l
theorem addF_cons (l : List Nat) (x : Nat) (xs : List Nat) : addF l (x :: xs) = addF (if x ∈ l then l else l ++ [x]) xs := rfl
theorem addF_snoc (l : List Nat) (x : Nat) (xs : List Nat) : addF l (xs ++ [x]) = if x ∈ addF l xs then addF l xs else addF l xs ++ [x] := by unfold addF; rw [List.foldl_append]; rfl
theorem mem_addF {i : Nat} : ∀ (xs l : List Nat), i ∈ addF l xs ↔ i ∈ l ∨ i ∈ xs
 | [], l => by simp [addF]
 | x :: xs, l => by
  rw [addF_cons, mem_addF xs]
  split
  ·rename_i h
   constructor
   ·rintro (h1 | h1)
    ·exact .inl h1
    exact .inr (List.mem_cons_of_mem _ h1)
   rintro (h1 | h1)
   ·exact .inl h1
   rcases List.mem_cons.1 h1 with rfl | h1
   ·exact .inl h
   exact .inr h1
  simp only [List.mem_append, List.mem_singleton, List.mem_cons, List.not_mem_nil, or_false, or_assoc]
theorem nodup_addF : ∀ (xs l : List Nat), l.Nodup → (addF l xs).Nodup
 | [], l, h => h
 | x :: xs, l, h => by
  rw [addF_cons]
  refine nodup_addF xs _ ?_
  split
  ·exact h
  rename_i hx
  exact List.nodup_append.2 ⟨h, (List.nodup_cons.2 ⟨List.not_mem_nil, List.nodup_nil⟩), fun a ha b hb => by rw [List.mem_singleton] at hb; subst hb; exact fun e => hx (e ▸ ha)⟩
theorem work_start {R : Nat} {ts : List (Option Tr)} : Work R ts (List.replicate ts.length false) (addF [] (List.range ts.length)) := by
 refine ⟨List.length_replicate, fun x _ k hk => ?_, nodup_addF _ _ List.nodup_nil, fun i hi => ?_, fun i hi _ hn => ?_⟩
 ·simp only [mkd, List.getD_eq_getElem?_getD, List.getElem?_replicate] at hk
  split at hk <;> cases hk
 ·rcases (mem_addF _ _).1 hi with h | h
  ·cases h
  exact List.mem_range.1 h
 exact absurd ((mem_addF _ _).2 (.inr (List.mem_range.2 hi))) hn
def workLeft (n : Nat) (m : List Bool) (items : List Nat) : Nat := (n - cntM m) * (n + 1) + items.length
theorem cnt_set {m : List Bool} : ∀ {x : Nat}, x < m.length → mkd m x = false → cntM (m.set x true) = cntM m + 1 := by
 induction m with
 | nil => intro x h; cases h
 | cons b m ih =>
  intro x hx h
  cases x with
  | zero =>
   have : b = false := by simpa [mkd] using h
   subst this
   rfl
  | succ x =>
   have := ih (x := x) (by simpa using hx) (by simpa [mkd] using h)
   cases b
   ·exact this
   show cntM (m.set x true) + 1 = cntM m + 1 + 1
   omega
theorem left_mark {R : Nat} {ts : List (Option Tr)} {m : List Bool} {x : Nat} {rest items : List Nat} (h : Work R ts m (x :: rest)) (hm : mkd m x = false) (h' : Work R ts (m.set x true) items) : workLeft ts.length (m.set x true) items < workLeft ts.length m (x :: rest) := by
 have hx : x < m.length := by rw [h.len]; exact h.inn x List.mem_cons_self
 have h1 := h'.items_le
 have h2 := cnt_le (m.set x true)
 rw [h'.len] at h2
 unfold workLeft
 rw [cnt_set hx hm] at h2 ⊢
 have e : ts.length - cntM m = (ts.length - (cntM m + 1)) + 1 := by omega
 rw [e, Nat.add_mul, List.length_cons]
 omega
def pushU (i : Nat) (us : List (List Nat)) (k : Nat) : List (List Nat) := us.set k (us.getD k [] ++ [i])
def usT (i : Nat) (us : List (List Nat)) (ks : List Nat) : List (List Nat) := ks.foldl (pushU i) us
def usN (R : Nat) (ts : List (Option Tr)) : Nat → List (List Nat)
 | 0 => List.replicate ts.length []
 | i + 1 => usT i (usN R ts i) (occO R (tr ts i))
theorem len_usT {i : Nat} : ∀ (ks : List Nat) (us : List (List Nat)), (usT i us ks).length = us.length
 | [], us => rfl
 | k :: ks, us => by
  show (usT i (pushU i us k) ks).length = _
  rw [len_usT ks]; exact List.length_set
theorem len_usN {R : Nat} {ts : List (Option Tr)} : ∀ i, (usN R ts i).length = ts.length
 | 0 => List.length_replicate
 | i + 1 => by rw [usN, len_usT, len_usN i]
theorem usT_append (i : Nat) (us : List (List Nat)) (a b : List Nat) : usT i us (a ++ b) = usT i (usT i us a) b := List.foldl_append ..
theorem getD_pushU {i k x : Nat} {us : List (List Nat)} (hk : k < us.length) : (pushU i us k).getD x [] = if k = x then us.getD x [] ++ [i] else us.getD x [] := by
 unfold pushU
 rw [List.getD_eq_getElem?_getD, List.getElem?_set]
 by_cases h : k = x
 ·subst h
  rw [if_pos rfl, if_pos hk, if_pos rfl]; rfl
 rw [if_neg h, if_neg h, List.getD_eq_getElem?_getD]
theorem mem_usT {i x j : Nat} : ∀ (ks : List Nat) (us : List (List Nat)), (∀ k ∈ ks, k < us.length) → (j ∈ (usT i us ks).getD x [] ↔ j ∈ us.getD x [] ∨ (j = i ∧ x ∈ ks))
 | [], us, _ => by simp [usT]
 | k :: ks, us, h => by
  have hk := h k List.mem_cons_self
  have ih := mem_usT (i := i) (x := x) (j := j) ks (pushU i us k) fun q hq => by rw [pushU, List.length_set]; exact h q (List.mem_cons_of_mem _ hq)
  show j ∈ (usT i (pushU i us k) ks).getD x [] ↔ _
  rw [ih, getD_pushU hk]
  by_cases e : k = x
  ·subst e
   rw [if_pos rfl]
   simp only [List.mem_append, List.mem_cons, List.not_mem_nil, or_false, true_or, and_true]
   constructor
   ·rintro ((h1 | h1) | ⟨h1, _⟩)
    ·exact .inl h1
    ·exact .inr h1
    exact .inr h1
   rintro (h1 | h1)
   ·exact .inl (.inl h1)
   exact .inl (.inr h1)
  rw [if_neg e]
  simp only [List.mem_cons]
  constructor
  ·rintro (h1 | ⟨h1, h2⟩)
   ·exact .inl h1
   exact .inr ⟨h1, .inr h2⟩
  rintro (h1 | ⟨h1, h2 | h2⟩)
  ·exact .inl h1
  ·exact absurd h2.symm e
  exact .inr ⟨h1, h2⟩
theorem len_row_usT {i x : Nat} : ∀ (ks : List Nat) (us : List (List Nat)), (∀ k ∈ ks, k < us.length) → ((usT i us ks).getD x []).length ≤ (us.getD x []).length + ks.length
 | [], us, _ => Nat.le_refl _
 | k :: ks, us, h => by
  have hk := h k List.mem_cons_self
  have ih := len_row_usT (i := i) (x := x) ks (pushU i us k) fun q hq => by rw [pushU, List.length_set]; exact h q (List.mem_cons_of_mem _ hq)
  show ((usT i (pushU i us k) ks).getD x []).length ≤ _
  rw [getD_pushU hk] at ih
  rw [List.length_cons]
  split at ih
  ·rw [List.length_append, List.length_singleton] at ih; omega
  omega
def okTs (R : Nat) (ts : List (Option Tr)) : Prop := ∀ i, i < ts.length → ∀ k ∈ occO R (tr ts i), k < ts.length
theorem mem_usN {R : Nat} {ts : List (Option Tr)} (h : okTs R ts) {x j : Nat} : ∀ i, i ≤ ts.length → (j ∈ (usN R ts i).getD x [] ↔ j < i ∧ x ∈ occO R (tr ts j))
 | 0, _ => by
  rw [usN, List.getD_eq_getElem?_getD, List.getElem?_replicate]
  split <;> simp
 | i + 1, hi => by
  have ih := mem_usN h (x := x) (j := j) i (by omega)
  rw [usN, mem_usT _ _ (by rw [len_usN]; exact h i (by omega)), ih]
  constructor
  ·rintro (⟨h1, h2⟩ | ⟨rfl, h2⟩)
   ·exact ⟨by omega, h2⟩
   exact ⟨by omega, h2⟩
  rintro ⟨h1, h2⟩
  by_cases e : j = i
  ·exact .inr ⟨e, e ▸ h2⟩
  exact .inl ⟨by omega, h2⟩
def occSum (R : Nat) (ts : List (Option Tr)) : Nat → Nat
 | 0 => 0
 | i + 1 => occSum R ts i + (occO R (tr ts i)).length
theorem len_row_usN {R : Nat} {ts : List (Option Tr)} (h : okTs R ts) {x : Nat} : ∀ i, i ≤ ts.length → ((usN R ts i).getD x []).length ≤ occSum R ts i
 | 0, _ => by
  rw [usN, List.getD_eq_getElem?_getD, List.getElem?_replicate]
  split <;> simp
 | i + 1, hi => by
  have ih := len_row_usN h (x := x) i (by omega)
  have := len_row_usT (i := i) (x := x) (occO R (tr ts i)) (usN R ts i) (by rw [len_usN]; exact h i (by omega))
  rw [usN, occSum]
  omega
end Go.Proofs.Ytdiilocgjnlmiaa.Tre
end
