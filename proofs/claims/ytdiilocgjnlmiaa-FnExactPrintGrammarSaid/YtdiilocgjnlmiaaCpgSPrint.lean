/- Lemmas of the proof, and the walks of functions that it stands on. -/
import Derived.Test.YtdiilocgjnlmiaaCpgCanonSet
import Derived.Test.YtdiilocgjnlmiaaCpgSText
import Derived.Test.YtdiilocgjnlmiaaCpgWork
import Derived.Laws.AppendOwn
import Derived.Laws.IdiomStrings
import Derived.Lib.AppendStr
import Derived.Lib.FrozenHead
import Derived.Below
import Derived.Deep.Draws
import Derived.Test.YtdiilocgjnlmiaaCpgFlat
import Derived.Test.YtdiilocgjnlmiaaCpgPAllx7
import Derived.Test.YtdiilocgjnlmiaaCpgByteText
import Derived.Test.YtdiilocgjnlmiaaCpgMarkedC
import Derived.Test.YtdiilocgjnlmiaaCpgVSpec
section
namespace Go.Proofs.Ytdiilocgjnlmiaa.Tre
open Go.RowKit Go.Proofs.YtdiilocgjnlmiaaW.PrintWords Go.Proofs.YtdiilocgjnlmiaaW.PrintLast Go.Proofs.YtdiilocgjnlmiaaW.PrintMore
open Go.Proofs.Ytdiilocgjnlmiaa.PAll
set_option linter.unusedVariables false
set_option linter.unusedSimpArgs false
def lineB (h t : ByteArray) : ByteArray := ((h ++ ⟨#[32, 61, 32]⟩) ++ t) ++ ⟨#[32, 59, 10]⟩
def txO (Rs : List Ru) (Ls : List La) : Option Tr → ByteArray
 | some x => txT (rnR Rs) (lnL Ls) x
 | none => ByteArray.empty
def prR (Rs : List Ru) (Ls : List La) : Nat → ByteArray
 | 0 => ByteArray.empty
 | i + 1 => prR Rs Ls i ++ lineB (rnR Rs i) (txO Rs Ls (tr (trees Rs Ls) i))
def prL (Rs : List Ru) (Ls : List La) : Nat → ByteArray
 | 0 => prR Rs Ls Rs.length
 | j + 1 => if (rd_T72 Ls (j : Int)).f1 = true then prL Rs Ls j ++ lineB (⟨#[94]⟩ ++ lnL Ls j) (txO Rs Ls (tr (trees Rs Ls) (Rs.length + j))) else prL Rs Ls j
noncomputable def prF (Rs : List Ru) (Ls : List La) : ByteArray := if validB Rs Ls = true then prL Rs Ls Ls.length else ByteArray.empty
theorem canon_len : ∀ (s : List Int) (last : Int), canonG last s = true → last ≤ 255 → (s.length : Int) + last ≤ 255
 | [], last, _, h => by simpa using h
 | [x], last, h, _ => by simp [canonG] at h
 | lo :: hi :: r, last, h, _ => by
  rw [canonG, Bool.and_eq_true, decide_eq_true_eq] at h
  obtain ⟨⟨a, b, c, _⟩, d⟩ := h
  have := canon_len r hi d c
  simp only [List.length_cons]
  omega
def smS : Tr → Prop
 | .set s => s.length ≤ 300
 | .seq l r => smS l ∧ smS r
 | .alt l r => smS l ∧ smS r
 | .star x => smS x
 | .neg x => smS x
 | _ => True
theorem size_tx2 (rn ln : Nat → ByteArray) (hr : ∀ n, (rn n).size ≤ 32) (hl : ∀ n, (ln n).size ≤ 32) : ∀ (t : Tr), smS t → (txT rn ln t).size ≤ 3000 * ndT t
 | .emp, _ => by show 2 ≤ _; simp [ndT]
 | .set s, h => by
  have := size_stF s
  have h' : s.length ≤ 300 := h
  show (stF s).size ≤ 3000 * 1
  omega
 | .ref n, _ => by
  have := hr n.toNat
  show (rn n.toNat).size ≤ 3000 * 1
  omega
 | .thr n, _ => by
  have := hl n.toNat
  show (⟨#[94]⟩ ++ ln n.toNat : ByteArray).size ≤ 3000 * 1
  rw [ByteArray.size_append]
  show 1 + _ ≤ _
  omega
 | .seq l r, h => by
  have a := size_tx2 rn ln hr hl l h.1
  have b := size_tx2 rn ln hr hl r h.2
  have c := size_grB (decide (bndT l < 1)) (txT rn ln l)
  have d := size_grB (decide (bndT r < 2)) (txT rn ln r)
  rw [txT, ByteArray.size_append, ByteArray.size_append, ndT]
  show (_ + 1) + _ ≤ _
  omega
 | .alt l r, h => by
  have a := size_tx2 rn ln hr hl l h.1
  have b := size_tx2 rn ln hr hl r h.2
  have c := size_grB (decide (bndT l < 0)) (txT rn ln l)
  have d := size_grB (decide (bndT r < 1)) (txT rn ln r)
  rw [txT, ByteArray.size_append, ByteArray.size_append, ndT]
  show (_ + 3) + _ ≤ _
  omega
 | .star x, h => by
  have a := size_tx2 rn ln hr hl x h
  have c := size_grB (decide (bndT x < 4)) (txT rn ln x)
  rw [txT, ByteArray.size_append, ndT]
  show _ + 1 ≤ _
  omega
 | .neg x, h => by
  have a := size_tx2 rn ln hr hl x h
  have c := size_grB (decide (bndT x < 2)) (txT rn ln x)
  rw [txT, ByteArray.size_append, ndT]
  show 1 + _ ≤ _
  omega
theorem nd_flat : ∀ (t : Tr), ndT t = (flat t).length
 | .emp => rfl
 | .set _ => rfl
 | .ref _ => rfl
 | .thr _ => rfl
 | .seq l r => by have a := nd_flat l; have b := nd_flat r; simp [ndT, flat, a, b]; omega
 | .alt l r => by have a := nd_flat l; have b := nd_flat r; simp [ndT, flat, a, b]; omega
 | .star x => by have a := nd_flat x; simp [ndT, flat, a]
 | .neg x => by have a := nd_flat x; simp [ndT, flat, a]
theorem okSt_flat : ∀ (t : Tr), (∀ o ∈ flat t, o.f0 = 1 → canonB o.f1 = true) → okSt t ∧ smS t ∧ smT t
 | .emp, _ => ⟨trivial, trivial, trivial⟩
 | .set s, h => by
  have hc : canonB s = true := h ⟨1, s, 0⟩ (by simp [flat]) rfl
  have := canon_len s _ hc (by decide)
  have hl : s.length ≤ 257 := by omega
  exact ⟨okS_canon hc (by omega), (by show s.length ≤ 300; omega), (by show s.length ≤ 1048576; omega)⟩
 | .ref _, _ => ⟨trivial, trivial, trivial⟩
 | .thr _, _ => ⟨trivial, trivial, trivial⟩
 | .seq l r, h => by
  have a := okSt_flat l fun o ho => h o (by simp [flat, ho])
  have b := okSt_flat r fun o ho => h o (by simp [flat, ho])
  exact ⟨⟨a.1, b.1⟩, ⟨a.2.1, b.2.1⟩, ⟨a.2.2, b.2.2⟩⟩
 | .alt l r, h => by
  have a := okSt_flat l fun o ho => h o (by simp [flat, ho])
  have b := okSt_flat r fun o ho => h o (by simp [flat, ho])
  exact ⟨⟨a.1, b.1⟩, ⟨a.2.1, b.2.1⟩, ⟨a.2.2, b.2.2⟩⟩
 | .star x, h => okSt_flat x fun o ho => h o (by simp [flat, ho])
 | .neg x, h => okSt_flat x fun o ho => h o (by simp [flat, ho])
theorem body_canon {R L : Int} {ops : List Op} (h : bodyB R L ops = true) : ∀ o ∈ ops, o.f0 = 1 → canonB o.f1 = true := fun o ho h1 => by
 unfold bodyB at h
 rw [Bool.and_eq_true, List.all_eq_true] at h
 have := h.1 o ho
 unfold opB at this
 rw [if_pos h1, Bool.and_eq_true] at this
 exact this.1
theorem nameB_len {l : List Int} (h : nameB l = true) : l.length ≤ 32 := by
 unfold nameB at h
 rw [Bool.and_eq_true, Bool.and_eq_true, decide_eq_true_eq] at h
 exact h.1.1.2
structure PrintOK (Rs : List Ru) (Ls : List La) : Prop where
 rn : ∀ n, (rnR Rs n).size ≤ 32
 ln : ∀ n, (lnL Ls n).size ≤ 32
 body : ∀ i x, i < Rs.length + Ls.length → tr (trees Rs Ls) i = some x → bodyN Rs Ls i = flat x ∧ okT Rs.length Ls.length x ∧ okSt x ∧ smT x ∧ ndT x ≤ 2000 ∧ (txT (rnR Rs) (lnL Ls) x).size ≤ 6000000
theorem out_T68 {Rs : List Ru} {n : Nat} (h : ¬ n < Rs.length) : (rd_T68 Rs (n : Int)).f0.length = 0 := by
 simp [rd_T68, List.getD_eq_getElem?_getD, List.getElem?_eq_none (Nat.le_of_not_lt h)]; rfl
theorem out_T72 {Ls : List La} {n : Nat} (h : ¬ n < Ls.length) : (rd_T72 Ls (n : Int)).f0.length = 0 := by
 simp [rd_T72, List.getD_eq_getElem?_getD, List.getElem?_eq_none (Nat.le_of_not_lt h)]; rfl
theorem Valid.prints {Rs : List Ru} {Ls : List La} (h : Valid Rs Ls) : PrintOK Rs Ls := by
 have hrn : ∀ n, (rnR Rs n).size ≤ 32 := fun n => by
  rw [rnR, size_nums]
  by_cases hn : n < Rs.length
  ·exact nameB_len (h.rules n hn).name
  rw [out_T68 hn]; exact Nat.zero_le _
 have hln : ∀ n, (lnL Ls n).size ≤ 32 := fun n => by
  rw [lnL, size_nums]
  by_cases hn : n < Ls.length
  ·exact nameB_len (h.labels n hn).name
  rw [out_T72 hn]; exact Nat.zero_le _
 refine ⟨hrn, hln, fun i x hi hx => ?_⟩
 have key : bodyB (Rs.length : Int) (Ls.length : Int) (bodyN Rs Ls i) = true := by
  by_cases hlt : i < Rs.length
  ·rw [bodyN_ru hlt]; exact (h.rules i hlt).body
  obtain ⟨j, rfl⟩ : ∃ j, i = Rs.length + j := ⟨i - Rs.length, by omega⟩
  have hj : j < Ls.length := by omega
  cases hh : (la Ls j).f1 with
  | true => rw [bodyN_la hj]; exact (h.labels j hj).body hh
  | false =>
   have e := List.length_eq_zero_iff.1 ((h.labels j hj).none hh)
   rw [tr_trees hi, bodyN_la hj, e] at hx
   cases hx
 rcases h.nice.body i hi with ⟨_, e2⟩ | ⟨y, e1, e2, e3, e4⟩
 ·rw [e2] at hx; cases hx
 rw [e1] at hx
 injection hx with hx
 subst hx
 rw [e2] at key
 obtain ⟨a, b, c⟩ := okSt_flat y (body_canon key)
 have hn := nd_flat y
 have hs := size_tx2 (rnR Rs) (lnL Ls) hrn hln y b
 exact ⟨e2, e3, a, c, by omega, by omega⟩
theorem size_line (h t : ByteArray) : (lineB h t).size = h.size + t.size + 6 := by
 unfold lineB
 rw [ByteArray.size_append, ByteArray.size_append, ByteArray.size_append]
 show ((h.size + 3) + t.size) + 3 = _
 omega
theorem size_prR {Rs : List Ru} {Ls : List La} (h : PrintOK Rs Ls) : ∀ i, i ≤ Rs.length → (prR Rs Ls i).size ≤ 6000100 * i
 | 0, _ => Nat.zero_le _
 | i + 1, hi => by
  have ih := size_prR h i (by omega)
  have hx : (txO Rs Ls (tr (trees Rs Ls) i)).size ≤ 6000000 := by
   cases ht : tr (trees Rs Ls) i with
   | none => exact Nat.zero_le _
   | some x => exact (h.body i x (by omega) ht).2.2.2.2.2
  have := h.rn i
  rw [prR, ByteArray.size_append, size_line]
  omega
theorem size_prL {Rs : List Ru} {Ls : List La} (h : PrintOK Rs Ls) : ∀ j, j ≤ Ls.length → (prL Rs Ls j).size ≤ 6000100 * (Rs.length + j)
 | 0, _ => size_prR h _ (Nat.le_refl _)
 | j + 1, hj => by
  have ih := size_prL h j (by omega)
  have hx : (txO Rs Ls (tr (trees Rs Ls) (Rs.length + j))).size ≤ 6000000 := by
   cases ht : tr (trees Rs Ls) (Rs.length + j) with
   | none => exact Nat.zero_le _
   | some x => exact (h.body (Rs.length + j) x (by omega) ht).2.2.2.2.2
  have := h.ln j
  have e : (⟨#[94]⟩ ++ lnL Ls j : ByteArray).size = 1 + (lnL Ls j).size := by rw [ByteArray.size_append]; rfl
  rw [prL]
  split
  ·rw [ByteArray.size_append, size_line, e]
   omega
  omega
end Go.Proofs.Ytdiilocgjnlmiaa.Tre
end
section
namespace Go.Proofs.Ytdiilocgjnlmiaa.OwnM
open Go Go.RowKit
def Owns (w : World) (base : Nat) (e : TypeId) (v : Value) (n : Nat) (xs : List Value) : Prop :=
 xs.length = n ∧
 ((v = .slice none 0 0 ∧ n = 0) ∨
  ∃ g cap cur fz, v = .slice (some ⟨g, 0, none⟩) n cap ∧ base ≤ g ∧ w.heap[g]? = some (.cells cur e fz) ∧ (fz.2 = 0 ∨ cap ≤ fz.1) ∧ n ≤ cap ∧ cap ≤ maxLen ∧ cur.size = cap ∧ cur.toList.take n = xs)
section
variable {w : World} {base : Nat} {e : TypeId} {v : Value} {n : Nat} {xs : List Value}
theorem Owns.step {w' : World} (h : Owns w base e v n xs) (hk : ∀ g, v.ownBlock = some g → w'.heap[g]? = w.heap[g]?) : Owns w' base e v n xs := by
 refine ⟨h.1, ?_⟩
 rcases h.2 with hn | ⟨g, cap, cur, fz, rfl, hb, hgg, rest⟩
 ·exact .inl hn
 exact .inr ⟨g, cap, cur, fz, rfl, hb, (hk g rfl).trans hgg, rest⟩
theorem Owns.lt (h : Owns w base e v n xs) : ∀ k, v.ownBlock = some k → base ≤ k ∧ k < w.heap.size := by
 intro k hk
 rcases h.2 with ⟨rfl, _⟩ | ⟨g, cap, cur, fz, rfl, hb, hg, _⟩
 ·simp [Value.ownBlock] at hk
 simp [Value.ownBlock] at hk
 subst hk
 exact ⟨hb, (Array.getElem?_eq_some_iff.1 hg).1⟩
theorem Owns.drewN (h : Owns w base e v n xs) (k : Nat) : Owns (w.drewN k) base e v n xs := h.step (fun _ _ => rfl)
theorem Owns.alloc (h : Owns w base e v n xs) (o : Obj) : Owns (w.alloc o) base e v n xs := h.step (fun g hg => Below.heap_alloc w o g (h.lt g hg).2)
theorem Owns.below {w' : World} (h : Owns w base e v n xs) (hb : Below w.heap.size w w') : Owns w' base e v n xs := h.step (fun g hg => hb.block g (h.lt g hg).2)
theorem Owns.len (h : Owns w base e v n xs) : n ≤ maxLen := by
 rcases h.2 with ⟨_, hn⟩ | ⟨g, cap, cur, fz, _, _, _, _, h1, h2, _⟩
 ·simp only [maxLen]; omega
 omega
theorem Owns.form (h : Owns w base e v n xs) : ∃ A c, v = .slice A n c ∧ n ≤ c := by
 rcases h.2 with ⟨rfl, rfl⟩ | ⟨g, cap, cur, fz, rfl, _, _, _, h1, _⟩
 ·exact ⟨none, 0, rfl, Nat.le_refl _⟩
 exact ⟨_, cap, rfl, h1⟩
theorem Owns.cells (h : Owns w base e v n xs) {g : Nat} (hg : v.ownBlock = some g) : ∀ j u, xs[j]? = some u → w.cell? ((⟨g, 0, none⟩ : Addr).add j) = some u := by
 intro j u hu
 rcases h.2 with ⟨rfl, _⟩ | ⟨g', cap, cur, fz, rfl, _, hgg, _, _, _, _, htake⟩
 ·simp [Value.ownBlock] at hg
 simp [Value.ownBlock] at hg
 subst hg
 have hadd : (⟨g', 0, none⟩ : Addr).add j = ⟨g', j, none⟩ := by unfold Addr.add; split <;> simp_all
 rw [hadd, cell_of_row w g' j cur e fz hgg]
 rw [← htake, List.getElem?_take] at hu
 split at hu
 ·simpa using hu
 cases hu
end
section
variable {P : Program} (w : World)
theorem Owns.conv (w : World) (base : Nat) (e : TypeId) (s : ByteArray) (hs : s.size ≤ maxLen) (hb : base ≤ w.heap.size) :
 Owns (w.drew.alloc (.cells (bytesRow s (grownCap w s.size 0 e)) e ((bytesRow s (grownCap w s.size 0 e)).size, (bytesRow s (grownCap w s.size 0 e)).size + 1))) base e
  (.slice (some ⟨w.heap.size, 0, none⟩) s.size (grownCap w s.size 0 e)) s.size (Lib.strCells s) := by
 have hge := grownCap_ge w s.size 0 e
 have hsz : (bytesRow s (grownCap w s.size 0 e)).size = grownCap w s.size 0 e := by
  rw [bytesRow, Array.size_append, Array.size_map, Array.size_replicate]
  have h0 : s.data.size = s.size := rfl
  omega
 refine ⟨Lib.strCells_length s, .inr ⟨w.heap.size, _, _, _, rfl, hb, heap_alloc_new w.drew _, .inr (by rw [hsz]; exact Nat.le_refl _), hge, grownCap_le_maxLen w s.size 0 e hs, hsz, ?_⟩⟩
 have hl : (Lib.strCells s).length = s.size := Lib.strCells_length s
 have he : (bytesRow s (grownCap w s.size 0 e)).toList = Lib.strCells s ++ List.replicate (grownCap w s.size 0 e - s.size) (.int .u8 0) := by
  simp [bytesRow, Lib.strCells]
 rw [he, ← hl]
 exact List.take_left
end
end Go.Proofs.Ytdiilocgjnlmiaa.OwnM
end
section
namespace Go.Proofs.Ytdiilocgjnlmiaa.PAll
open Go.RowKit Go.Proofs.YtdiilocgjnlmiaaW.PrintWords Go.Proofs.YtdiilocgjnlmiaaW.PrintLast Go.Proofs.YtdiilocgjnlmiaaW.PrintMore
attribute [local go_sem] max2_int min2_int max_two min_two max_three min_three max_four min_four   -- for this text's walks alone
set_option linter.unusedVariables false
set_option linter.unusedSimpArgs false
def impl_holds.l0 : Nat → List Int → Int → Int → Option (Bool)
 | 0, _, _, _ => none
 | k + 1, x0, x1, x5 => if (wrap64 (x5 + 1)) < (x0.length : Int) then (if 0 ≤ x5 then (if x5 < (x0.length : Int) then (if (rd x0 x5) ≤ x1 then (if 0 ≤ (wrap64 (x5 + 1)) then (if x1 ≤ (rd x0 (wrap64 (x5 + 1))) then (some true) else (impl_holds.l0 k x0 x1 (wrap64 (x5 + 2)))) else (none)) else (impl_holds.l0 k x0 x1 (wrap64 (x5 + 2)))) else (none)) else (none)) else (some false)
def impl_holds.f (k : Nat) (l0 : List Int) (a1 : Int) : Option (Bool) := impl_holds.l0 k l0 a1 0
theorem impl_holds.mono_l : ∀ k, (∀ y0 y1 y2, LeO (impl_holds.l0 k y0 y1 y2) (impl_holds.l0 (k + 1) y0 y1 y2))
 | 0 => fun _ _ _ r h => by simp [impl_holds.l0] at h
 | k + 1 => by
  have ih0 := impl_holds.mono_l k
  intro y0 y1 y2
  unfold impl_holds.l0
  repeat' first
  | (with_reducible exact ih0 _ _ _)
  | (with_reducible exact LeO.refl _)
  | (with_reducible exact LeO.none _)
  | (with_reducible refine LeO.ite ?_ ?_)
  | (with_reducible refine LeO.bind ?_ (fun _ => ?_))
  | exact ih0 _ _ _
  | exact LeO.none _
  | refine LeO.ite ?_ ?_
  | refine LeO.bind ?_ (fun _ => ?_)
theorem impl_holds.mono : ∀ a0 a1 k, LeO (impl_holds.f k a0 a1) (impl_holds.f (k + 1) a0 a1) := by
 intro a0 a1 k
 have ih0 := impl_holds.mono_l k
 unfold impl_holds.f
 repeat' first
  | (with_reducible exact ih0 _ _ _)
  | (with_reducible exact LeO.refl _)
  | (with_reducible exact LeO.none _)
  | (with_reducible refine LeO.ite ?_ ?_)
  | (with_reducible refine LeO.bind ?_ (fun _ => ?_))
  | exact ih0 _ _ _
  | exact LeO.none _
  | refine LeO.ite ?_ ?_
  | refine LeO.bind ?_ (fun _ => ?_)
def laws_eqEvent.f (a0_0 : Int) (a0_1 : Int) (a0_2 : Int) (a1_0 : Int) (a1_1 : Int) (a1_2 : Int) : Option (Bool) := if a0_0 = a1_0 then (if a0_1 = a1_1 then (if a0_2 = a1_2 then (some true) else (some false)) else (some false)) else (some false)
def laws_eqEventS.l0 : Nat → List (S103) → List (S103) → Int → Option (Bool)
 | 0, _, _, _ => none
 | k + 1, x0, x1, x5 => if x5 < (x0.length : Int) then (if 0 ≤ x5 then (if x5 < (x1.length : Int) then ((laws_eqEvent.f ((rd_T103 x0 x5).f0) ((rd_T103 x0 x5).f1) ((rd_T103 x0 x5).f2) ((rd_T103 x1 x5).f0) ((rd_T103 x1 x5).f1) ((rd_T103 x1 x5).f2)).bind fun t709 => (if t709 = true then (laws_eqEventS.l0 k x0 x1 (wrap64 (x5 + 1))) else (some false))) else (none)) else (none)) else (some true)
def laws_eqEventS.f (k : Nat) (l0 : List (S103)) (l1 : List (S103)) : Option (Bool) := if (l0.length : Int) = (l1.length : Int) then (laws_eqEventS.l0 k l0 l1 0) else (some false)
theorem laws_eqEventS.mono_l : ∀ k, (∀ y0 y1 y2, LeO (laws_eqEventS.l0 k y0 y1 y2) (laws_eqEventS.l0 (k + 1) y0 y1 y2))
 | 0 => fun _ _ _ r h => by simp [laws_eqEventS.l0] at h
 | k + 1 => by
  have ih0 := laws_eqEventS.mono_l k
  intro y0 y1 y2
  unfold laws_eqEventS.l0
  repeat' first
  | (with_reducible exact ih0 _ _ _)
  | (with_reducible exact LeO.refl _)
  | (with_reducible exact LeO.none _)
  | (with_reducible refine LeO.ite ?_ ?_)
  | (with_reducible refine LeO.bind ?_ (fun _ => ?_))
  | exact ih0 _ _ _
  | exact LeO.none _
  | refine LeO.ite ?_ ?_
  | refine LeO.bind ?_ (fun _ => ?_)
theorem laws_eqEventS.mono : ∀ a0 a1 k, LeO (laws_eqEventS.f k a0 a1) (laws_eqEventS.f (k + 1) a0 a1) := by
 intro a0 a1 k
 have ih0 := laws_eqEventS.mono_l k
 unfold laws_eqEventS.f
 repeat' first
  | (with_reducible exact ih0 _ _ _)
  | (with_reducible exact LeO.refl _)
  | (with_reducible exact LeO.none _)
  | (with_reducible refine LeO.ite ?_ ?_)
  | (with_reducible refine LeO.bind ?_ (fun _ => ?_))
  | exact ih0 _ _ _
  | exact LeO.none _
  | refine LeO.ite ?_ ?_
  | refine LeO.bind ?_ (fun _ => ?_)
def laws_eqOutcome.f (k : Nat) (a0_0 : Int) (a0_1 : Int) (a0_2 : Int) (a0_3 : Int) (l0_4 : List Int) (a0_5 : Int) (a0_6 : Int) (l0_7 : List (S103)) (a1_0 : Int) (a1_1 : Int) (a1_2 : Int) (a1_3 : Int) (l1_4 : List Int) (a1_5 : Int) (a1_6 : Int) (l1_7 : List (S103)) : Option (Bool) := if a0_0 = a1_0 then (if a0_1 = a1_1 then (if a0_2 = a1_2 then (if a0_3 = a1_3 then ((laws_eqIntS.f k l0_4 l1_4).bind fun t712 => (if t712 = true then (if a0_5 = a1_5 then (if a0_6 = a1_6 then ((laws_eqEventS.f k l0_7 l1_7).bind fun t713 => (if t713 = true then (some true) else (some false))) else (some false)) else (some false)) else (some false))) else (some false)) else (some false)) else (some false)) else (some false)
theorem laws_eqOutcome.mono : ∀ a0 a1 a2 a3 a4 a5 a6 a7 a8 a9 a10 a11 a12 a13 a14 a15 k, LeO (laws_eqOutcome.f k a0 a1 a2 a3 a4 a5 a6 a7 a8 a9 a10 a11 a12 a13 a14 a15) (laws_eqOutcome.f (k + 1) a0 a1 a2 a3 a4 a5 a6 a7 a8 a9 a10 a11 a12 a13 a14 a15) := by
 intro a0 a1 a2 a3 a4 a5 a6 a7 a8 a9 a10 a11 a12 a13 a14 a15 k
 unfold laws_eqOutcome.f
 repeat' first
  | (with_reducible exact laws_eqEventS.mono _ _ _)
  | (with_reducible exact laws_eqIntS.mono _ _ _)
  | (with_reducible exact LeO.refl _)
  | (with_reducible exact LeO.none _)
  | (with_reducible refine LeO.ite ?_ ?_)
  | (with_reducible refine LeO.bind ?_ (fun _ => ?_))
  | exact laws_eqEventS.mono _ _ _
  | exact laws_eqIntS.mono _ _ _
  | exact LeO.none _
  | refine LeO.ite ?_ ?_
  | refine LeO.bind ?_ (fun _ => ?_)
def laws_eqIns.f (k : Nat) (a0_0 : Int) (a0_1 : Int) (a0_2 : Int) (l0_3 : List Int) (a1_0 : Int) (a1_1 : Int) (a1_2 : Int) (l1_3 : List Int) : Option (Bool) := if a0_0 = a1_0 then (if a0_1 = a1_1 then (if a0_2 = a1_2 then ((laws_eqIntS.f k l0_3 l1_3).bind fun t716 => (if t716 = true then (some true) else (some false))) else (some false)) else (some false)) else (some false)
theorem laws_eqIns.mono : ∀ a0 a1 a2 a3 a4 a5 a6 a7 k, LeO (laws_eqIns.f k a0 a1 a2 a3 a4 a5 a6 a7) (laws_eqIns.f (k + 1) a0 a1 a2 a3 a4 a5 a6 a7) := by
 intro a0 a1 a2 a3 a4 a5 a6 a7 k
 unfold laws_eqIns.f
 repeat' first
  | (with_reducible exact laws_eqIntS.mono _ _ _)
  | (with_reducible exact LeO.refl _)
  | (with_reducible exact LeO.none _)
  | (with_reducible refine LeO.ite ?_ ?_)
  | (with_reducible refine LeO.bind ?_ (fun _ => ?_))
  | exact laws_eqIntS.mono _ _ _
  | exact LeO.none _
  | refine LeO.ite ?_ ?_
  | refine LeO.bind ?_ (fun _ => ?_)
end Go.Proofs.Ytdiilocgjnlmiaa.PAll
end
section
namespace Go.Proofs.Ytdiilocgjnlmiaa.PAll
open Go.RowKit Go.Proofs.YtdiilocgjnlmiaaW.PrintWords Go.Proofs.YtdiilocgjnlmiaaW.PrintLast Go.Proofs.YtdiilocgjnlmiaaW.PrintMore
attribute [local go_sem] max2_int min2_int max_two min_two max_three min_three max_four min_four   -- for this text's walks alone
set_option linter.unusedVariables false
set_option linter.unusedSimpArgs false
def laws_eqInsS.l0 : Nat → List (S88) → List (S88) → Int → Option (Bool)
 | 0, _, _, _ => none
 | k + 1, x0, x1, x5 => if x5 < (x0.length : Int) then (if 0 ≤ x5 then (if x5 < (x1.length : Int) then ((laws_eqIns.f k ((rd_T88 x0 x5).f0) ((rd_T88 x0 x5).f1) ((rd_T88 x0 x5).f2) ((rd_T88 x0 x5).f3) ((rd_T88 x1 x5).f0) ((rd_T88 x1 x5).f1) ((rd_T88 x1 x5).f2) ((rd_T88 x1 x5).f3)).bind fun t719 => (if t719 = true then (laws_eqInsS.l0 k x0 x1 (wrap64 (x5 + 1))) else (some false))) else (none)) else (none)) else (some true)
def laws_eqInsS.f (k : Nat) (l0 : List (S88)) (l1 : List (S88)) : Option (Bool) := if (l0.length : Int) = (l1.length : Int) then (laws_eqInsS.l0 k l0 l1 0) else (some false)
theorem laws_eqInsS.mono_l : ∀ k, (∀ y0 y1 y2, LeO (laws_eqInsS.l0 k y0 y1 y2) (laws_eqInsS.l0 (k + 1) y0 y1 y2))
 | 0 => fun _ _ _ r h => by simp [laws_eqInsS.l0] at h
 | k + 1 => by
  have ih0 := laws_eqInsS.mono_l k
  intro y0 y1 y2
  unfold laws_eqInsS.l0
  repeat' first
  | (with_reducible exact ih0 _ _ _)
  | (with_reducible exact laws_eqIns.mono _ _ _ _ _ _ _ _ _)
  | (with_reducible exact LeO.refl _)
  | (with_reducible exact LeO.none _)
  | (with_reducible refine LeO.ite ?_ ?_)
  | (with_reducible refine LeO.bind ?_ (fun _ => ?_))
  | exact ih0 _ _ _
  | exact laws_eqIns.mono _ _ _ _ _ _ _ _ _
  | exact LeO.none _
  | refine LeO.ite ?_ ?_
  | refine LeO.bind ?_ (fun _ => ?_)
theorem laws_eqInsS.mono : ∀ a0 a1 k, LeO (laws_eqInsS.f k a0 a1) (laws_eqInsS.f (k + 1) a0 a1) := by
 intro a0 a1 k
 have ih0 := laws_eqInsS.mono_l k
 unfold laws_eqInsS.f
 repeat' first
  | (with_reducible exact ih0 _ _ _)
  | (with_reducible exact laws_eqIns.mono _ _ _ _ _ _ _ _ _)
  | (with_reducible exact LeO.refl _)
  | (with_reducible exact LeO.none _)
  | (with_reducible refine LeO.ite ?_ ?_)
  | (with_reducible refine LeO.bind ?_ (fun _ => ?_))
  | exact ih0 _ _ _
  | exact laws_eqIns.mono _ _ _ _ _ _ _ _ _
  | exact LeO.none _
  | refine LeO.ite ?_ ?_
  | refine LeO.bind ?_ (fun _ => ?_)
def laws_markIntS.l0 : Nat → List Int → Int → Int → Option (Int × List Int)
 | 0, _, _, _ => none
 | k + 1, x0, x1, x5 => if x5 < (x0.length : Int) then (if 0 ≤ x5 then (laws_markIntS.l0 k (x0.set (x5 : Int).toNat x1) (wrap64 (x1 + 1)) (wrap64 (x5 + 1))) else (none)) else (some (x1, x0))
def laws_markIntS.f (k : Nat) (l0 : List Int) (a1 : Int) : Option (Int × List Int) := laws_markIntS.l0 k l0 a1 0
theorem laws_markIntS.mono_l : ∀ k, (∀ y0 y1 y2, LeO (laws_markIntS.l0 k y0 y1 y2) (laws_markIntS.l0 (k + 1) y0 y1 y2))
 | 0 => fun _ _ _ r h => by simp [laws_markIntS.l0] at h
 | k + 1 => by
  have ih0 := laws_markIntS.mono_l k
  intro y0 y1 y2
  unfold laws_markIntS.l0
  repeat' first
  | (with_reducible exact ih0 _ _ _)
  | (with_reducible exact LeO.refl _)
  | (with_reducible exact LeO.none _)
  | (with_reducible refine LeO.ite ?_ ?_)
  | (with_reducible refine LeO.bind ?_ (fun _ => ?_))
  | exact ih0 _ _ _
  | exact LeO.none _
  | refine LeO.ite ?_ ?_
  | refine LeO.bind ?_ (fun _ => ?_)
theorem laws_markIntS.mono : ∀ a0 a1 k, LeO (laws_markIntS.f k a0 a1) (laws_markIntS.f (k + 1) a0 a1) := by
 intro a0 a1 k
 have ih0 := laws_markIntS.mono_l k
 unfold laws_markIntS.f
 repeat' first
  | (with_reducible exact ih0 _ _ _)
  | (with_reducible exact LeO.refl _)
  | (with_reducible exact LeO.none _)
  | (with_reducible refine LeO.ite ?_ ?_)
  | (with_reducible refine LeO.bind ?_ (fun _ => ?_))
  | exact ih0 _ _ _
  | exact LeO.none _
  | refine LeO.ite ?_ ?_
  | refine LeO.bind ?_ (fun _ => ?_)
def laws_markByteS.l0 : Nat → List Int → Int → Int → Option (Int × List Int)
 | 0, _, _, _ => none
 | k + 1, x0, x1, x5 => if x5 < (x0.length : Int) then (if 0 ≤ x5 then (laws_markByteS.l0 k (x0.set (x5 : Int).toNat ((x1) % 256)) (wrap64 (x1 + 1)) (wrap64 (x5 + 1))) else (none)) else (some (x1, x0))
def laws_markByteS.f (k : Nat) (l0 : List Int) (a1 : Int) : Option (Int × List Int) := laws_markByteS.l0 k l0 a1 0
theorem laws_markByteS.mono_l : ∀ k, (∀ y0 y1 y2, LeO (laws_markByteS.l0 k y0 y1 y2) (laws_markByteS.l0 (k + 1) y0 y1 y2))
 | 0 => fun _ _ _ r h => by simp [laws_markByteS.l0] at h
 | k + 1 => by
  have ih0 := laws_markByteS.mono_l k
  intro y0 y1 y2
  unfold laws_markByteS.l0
  repeat' first
  | (with_reducible exact ih0 _ _ _)
  | (with_reducible exact LeO.refl _)
  | (with_reducible exact LeO.none _)
  | (with_reducible refine LeO.ite ?_ ?_)
  | (with_reducible refine LeO.bind ?_ (fun _ => ?_))
  | exact ih0 _ _ _
  | exact LeO.none _
  | refine LeO.ite ?_ ?_
  | refine LeO.bind ?_ (fun _ => ?_)
theorem laws_markByteS.mono : ∀ a0 a1 k, LeO (laws_markByteS.f k a0 a1) (laws_markByteS.f (k + 1) a0 a1) := by
 intro a0 a1 k
 have ih0 := laws_markByteS.mono_l k
 unfold laws_markByteS.f
 repeat' first
  | (with_reducible exact ih0 _ _ _)
  | (with_reducible exact LeO.refl _)
  | (with_reducible exact LeO.none _)
  | (with_reducible refine LeO.ite ?_ ?_)
  | (with_reducible refine LeO.bind ?_ (fun _ => ?_))
  | exact ih0 _ _ _
  | exact LeO.none _
  | refine LeO.ite ?_ ?_
  | refine LeO.bind ?_ (fun _ => ?_)
def laws_markEventS.l0 : Nat → List (S103) → Int → Int → Option (Int × (List (S103)))
 | 0, _, _, _ => none
 | k + 1, x0, x1, x5 => if x5 < (x0.length : Int) then (if 0 ≤ x5 then ((some (x0.set (x5 : Int).toNat (⟨x1, (rd_T103 x0 x5).f1, (rd_T103 x0 x5).f2⟩ : S103) : List (S103))).bind fun y722 => ((some (y722.set (x5 : Int).toNat (⟨(rd_T103 y722 x5).f0, wrap64 (x1 + 1), (rd_T103 y722 x5).f2⟩ : S103) : List (S103))).bind fun y723 => (laws_markEventS.l0 k (y723.set (x5 : Int).toNat (⟨(rd_T103 y723 x5).f0, (rd_T103 y723 x5).f1, wrap64 ((wrap64 (x1 + 1)) + 1)⟩ : S103)) (wrap64 ((wrap64 ((wrap64 (x1 + 1)) + 1)) + 1)) (wrap64 (x5 + 1))))) else (none)) else (some (x1, x0))
def laws_markEventS.f (k : Nat) (l0 : List (S103)) (a1 : Int) : Option (Int × (List (S103))) := laws_markEventS.l0 k l0 a1 0
theorem laws_markEventS.mono_l : ∀ k, (∀ y0 y1 y2, LeO (laws_markEventS.l0 k y0 y1 y2) (laws_markEventS.l0 (k + 1) y0 y1 y2))
 | 0 => fun _ _ _ r h => by simp [laws_markEventS.l0] at h
 | k + 1 => by
  have ih0 := laws_markEventS.mono_l k
  intro y0 y1 y2
  unfold laws_markEventS.l0
  repeat' first
  | (with_reducible exact ih0 _ _ _)
  | (with_reducible exact LeO.refl _)
  | (with_reducible exact LeO.none _)
  | (with_reducible refine LeO.ite ?_ ?_)
  | (with_reducible refine LeO.bind ?_ (fun _ => ?_))
  | exact ih0 _ _ _
  | exact LeO.none _
  | refine LeO.ite ?_ ?_
  | refine LeO.bind ?_ (fun _ => ?_)
theorem laws_markEventS.mono : ∀ a0 a1 k, LeO (laws_markEventS.f k a0 a1) (laws_markEventS.f (k + 1) a0 a1) := by
 intro a0 a1 k
 have ih0 := laws_markEventS.mono_l k
 unfold laws_markEventS.f
 repeat' first
  | (with_reducible exact ih0 _ _ _)
  | (with_reducible exact LeO.refl _)
  | (with_reducible exact LeO.none _)
  | (with_reducible refine LeO.ite ?_ ?_)
  | (with_reducible refine LeO.bind ?_ (fun _ => ?_))
  | exact ih0 _ _ _
  | exact LeO.none _
  | refine LeO.ite ?_ ?_
  | refine LeO.bind ?_ (fun _ => ?_)
def laws_markOutcome.f (k : Nat) (a0_0 : Int) (a0_1 : Int) (a0_2 : Int) (a0_3 : Int) (l0_4 : List Int) (a0_5 : Int) (a0_6 : Int) (l0_7 : List (S103)) (a1 : Int) : Option (Int × List Int × (List (S103))) := (laws_markIntS.f k l0_4 a1).bind fun bt726 => ((laws_markEventS.f k l0_7 bt726.1).bind fun bt728 => (some (bt728.1, bt726.2, bt728.2)))
theorem laws_markOutcome.mono : ∀ a0 a1 a2 a3 a4 a5 a6 a7 a8 k, LeO (laws_markOutcome.f k a0 a1 a2 a3 a4 a5 a6 a7 a8) (laws_markOutcome.f (k + 1) a0 a1 a2 a3 a4 a5 a6 a7 a8) := by
 intro a0 a1 a2 a3 a4 a5 a6 a7 a8 k
 unfold laws_markOutcome.f
 repeat' first
  | (with_reducible exact laws_markEventS.mono _ _ _)
  | (with_reducible exact laws_markIntS.mono _ _ _)
  | (with_reducible exact LeO.refl _)
  | (with_reducible exact LeO.none _)
  | (with_reducible refine LeO.ite ?_ ?_)
  | (with_reducible refine LeO.bind ?_ (fun _ => ?_))
  | exact laws_markEventS.mono _ _ _
  | exact laws_markIntS.mono _ _ _
  | exact LeO.none _
  | refine LeO.ite ?_ ?_
  | refine LeO.bind ?_ (fun _ => ?_)
end Go.Proofs.Ytdiilocgjnlmiaa.PAll
end
section
namespace Go.Proofs.Ytdiilocgjnlmiaa.Tre
open Go.RowKit Go.Proofs.YtdiilocgjnlmiaaW.PrintWords Go.Proofs.YtdiilocgjnlmiaaW.PrintLast Go.Proofs.YtdiilocgjnlmiaaW.PrintMore
open Go.Proofs.Ytdiilocgjnlmiaa.PAll Go.Proofs.Ytdiilocgjnlmiaa.OwnM
set_option linter.unusedVariables false
set_option linter.unusedSimpArgs false
def nB (s : ByteArray) : List Int := s.data.toList.map fun b => (b.toNat : Int)
theorem nB_len (s : ByteArray) : (nB s).length = s.size := by
 rw [nB, List.length_map, Array.length_toList]
 rfl
theorem nB_cells (s : ByteArray) : Lib.strCells s = nums .u8 (nB s) := by simp [Lib.strCells, nB, nums]
def OwY (B : Nat) (W : World) (v : Value) (xs : List Int) : Prop := Owns W B 5 v xs.length (nums .u8 xs)
theorem OwY.below {B : Nat} {W W' : World} {v : Value} {xs : List Int} (h : OwY B W v xs) (hb : Below W.heap.size W W') : OwY B W' v xs := Owns.below h hb
theorem OwY.form {B : Nat} {W : World} {v : Value} {xs : List Int} (h : OwY B W v xs) : ∃ A c, v = .slice A xs.length c := by
 obtain ⟨A, c, e, _⟩ := Owns.form h
 exact ⟨A, c, e⟩
theorem OwY.C {B : Nat} {W : World} {A : Option Addr} {n c : Nat} {xs : List Int} (h : OwY B W (.slice A n c) xs) : (Kd.int .u8).C W A xs.length xs ∧ xs.length ≤ c := by
 obtain ⟨A', c', e, hc⟩ := Owns.form h
 injection e with e1 e2 e3
 subst e1
 subst e3
 refine ⟨⟨rfl, by have := Owns.len h; simp only [maxLen] at this; omega, fun hp => ?_⟩, hc⟩
 rcases h.2 with ⟨_, hn⟩ | ⟨g, cap, cur, fz, e, _⟩
 ·omega
 injection e with e1
 subst e1
 refine ⟨⟨g, 0, none⟩, rfl, fun j p hj => ⟨[.int .u8 p], rfl, rfl, fun i u hu => ?_⟩⟩
 match i, hu with
 | 0, hu =>
  simp at hu
  subst hu
  refine Owns.cells h (g := g) rfl (j * 1 + 0) _ ?_
  simp [nums, hj]
 | i + 1, hu => simp at hu
theorem Owns.keepB {B : Nat} {W : World} {v : Value} {xs : List Int} (h : OwY B W v xs) {W' : World} (hk : ∀ b, B ≤ b → b < W.heap.size → W'.heap[b]? = W.heap[b]?) : OwY B W' v xs :=
 Owns.step h fun g hg => hk g (Owns.lt h g hg).1 (Owns.lt h g hg).2
theorem OwY.at {B : Nat} {W : World} {A : Option Addr} {n c i : Nat} {xs : List Int} (h : OwY B W (.slice A n c) xs) (hi : i < xs.length) : ∃ g u, A = some ⟨g, 0, none⟩ ∧ B ≤ g ∧ g < W.heap.size ∧ W.cell? ⟨g, i, none⟩ = some u ∧ W.frozen? ⟨g, i, none⟩ = false ∧ ∀ q, OwY B (W.setCell ⟨g, i, none⟩ (.int .u8 q)) (.slice A n c) (xs.set i q) := by
 rcases h.2 with ⟨_, hn⟩ | ⟨g, cap, cur, fz, e, hB, hg, hz, hn, hm, hc, ht⟩
 ·omega
 injection e with e1 e2 e3
 subst e1
 subst e3
 have hi2 : i < cur.size := by omega
 refine ⟨g, cur[i], rfl, hB, (Array.getElem?_eq_some_iff.1 hg).1, ?_, ?_, fun q => ?_⟩
 ·rw [cell_of_row W g i cur _ fz hg]; exact Array.getElem?_eq_getElem hi2
 ·have : W.frozen? ⟨g, i, none⟩ = (decide (fz.1 ≤ i) && decide (i < fz.2)) := by simp [World.frozen?, hg]
  rw [this]
  rcases hz with hz | hz
  ·rw [hz]; simp
  have : ¬ fz.1 ≤ i := by omega
  simp [this]
 have hs := setCell_eq_setRow W g i cur 5 fz (.int .u8 q) hg
 refine ⟨by simp [nums], .inr ⟨g, c, cur.setIfInBounds i (.int .u8 q), fz, by rw [e2, List.length_set], hB, ?_, hz, by rw [List.length_set]; exact hn, hm, by simpa using hc, ?_⟩⟩
 ·rw [hs]; exact setRow_heap W g cur _ _ fz hg
 rw [Array.toList_setIfInBounds, List.length_set, List.take_set, ht]
 simp [nums, List.map_set]
theorem eqBy_l0 (l : List Int) (hm : l.length ≤ 4611686018427387904) : ∀ (k : Nat) (i : Nat), i ≤ l.length → l.length - i < k → laws_eqByteS.l0 k l l (i : Int) = some true
 | 0, i, _, h => by omega
 | k + 1, i, hi, hk => by
  rw [laws_eqByteS.l0]
  by_cases h : i < l.length
  ·rw [if_pos (by omega), if_pos (by omega), if_pos (by omega), if_pos rfl, wid (by omega) (by omega), show (i : Int) + 1 = ((i + 1 : Nat) : Int) from rfl]
   exact eqBy_l0 l hm k (i + 1) (by omega) (by omega)
  rw [if_neg (by omega)]
theorem eqBy_f (l : List Int) (hm : l.length ≤ 4611686018427387904) (k : Nat) (hk : l.length < k) : laws_eqByteS.f k l l = some true := by
 rw [laws_eqByteS.f, if_pos rfl]; exact eqBy_l0 l hm k 0 (by omega) (by omega)
theorem eqY_in {W : World} {A0 A1 : Option Addr} {c0 c1 n0 n1 : Nat} {m : List Int} (e0 : n0 = m.length) (e1 : n1 = m.length) (h0 : (Kd.int .u8).C W A0 m.length m ∧ m.length ≤ c0) (h1 : (Kd.int .u8).C W A1 m.length m ∧ m.length ≤ c1) (hm : m.length ≤ 4611686018427387904) :
 Calls Try.prog 22 #[.slice A0 n0 c0, .slice A1 n1 c1] W (TruePost W) := by
 subst e0
 rw [e1]
 exact (laws_eqByteS.calls (m.length + 1) A0 c0 m A1 c1 m true W h0.1 h0.2 h1.1 h1.2 (eqBy_f m hm _ (by omega))).mono fun e w' h => ⟨h.1, h.2.below⟩
theorem heldY_in {W : World} {A : Option Addr} {c n0 n : Nat} (e0 : n0 = n) (h : (Kd.int .u8).C W A (mkB 1 n).length (mkB 1 n) ∧ (mkB 1 n).length ≤ c) (hm : n ≤ 1099511627776) :
 Calls Try.prog 40 #[.slice A n0 c, .int .i64 1] W fun e w' => e = .returned (.int .i64 (1 + (n : Int))) ∧ Below W.heap.size W w' := by
 subst e0
 have := laws_heldByteS.calls (n0 + 1) A c (mkB 1 n0) 1 (1 + (n0 : Int)) W h.1 h.2 (heldByteS_f 1 n0 (n0 + 1) (by omega) (by omega) (by omega))
 rw [mkB_len] at this
 exact this.mono fun e w' h => ⟨h.1, h.2.below⟩
def mkP (xs : List Int) : Nat → List Int
 | 0 => xs
 | i + 1 => (mkP xs i).set i (((1 : Int) + i) % 256)
theorem mkP_len (xs : List Int) : ∀ i, (mkP xs i).length = xs.length
 | 0 => rfl
 | i + 1 => by rw [mkP, List.length_set, mkP_len xs i]
theorem mkP_at (xs : List Int) : ∀ i j, i ≤ xs.length → (mkP xs i)[j]? = if j < i then some (((1 : Int) + j) % 256) else xs[j]?
 | 0, j, _ => by simp [mkP]
 | i + 1, j, h => by
  have ih := mkP_at xs i j (by omega)
  have hl := mkP_len xs i
  rw [mkP, List.getElem?_set]
  by_cases e : i = j
  ·subst e
   rw [if_pos rfl, if_pos (by omega), if_pos (by omega)]
  rw [if_neg e, ih]
  by_cases h1 : j < i
  ·rw [if_pos h1, if_pos (by omega)]
  rw [if_neg h1, if_neg (by omega)]
theorem mkP_all (xs : List Int) : mkP xs xs.length = mkB 1 xs.length := by
 apply List.ext_getElem?
 intro j
 rw [mkP_at xs _ j (Nat.le_refl _)]
 by_cases h : j < xs.length
 ·rw [if_pos h]
  simp [mkB, h]
 rw [if_neg h, List.getElem?_eq_none (by omega), List.getElem?_eq_none (by rw [mkB_len]; omega)]
set_option maxRecDepth 100000 in
set_option maxHeartbeats 4000000 in
theorem markY_in {w0 W : World} {v : Value} {xs : List Int} (hB : Below w0.heap.size w0 W) (ho : OwY w0.heap.size W v xs) (hm : xs.length ≤ 1099511627776) :
 Calls Try.prog 24 #[v, .int .i64 1] W fun e w' => e = .returned (.int .i64 (1 + (xs.length : Int))) ∧ OwY w0.heap.size w' v (mkB 1 xs.length) ∧ Below w0.heap.size w0 w' := by
 obtain ⟨A, c, rfl⟩ := ho.form
 have HB := Aside0.mk hB
 obtain ⟨n, hn⟩ : ∃ n, n = xs.length := ⟨_, rfl⟩
 have HN := Aside0.mk hn
 rw [← hn] at hm ho ⊢
 have HO := Aside0.mk ho
 clear ho hB hn
 go_enter Try.func24, Try.ntmps24
 go_wp2
 go_loopg [1, 5] (n + 1) (fun kq v1 v5 W' => ∃ (i : Nat), v1 = .int .i64 (1 + (i : Int)) ∧ v5 = .int .i64 (i : Int) ∧ Aside0 (i ≤ n ∧ n < i + kq) ∧ Aside0 (OwY w0.heap.size W' (.slice A n c) (mkP xs i)) ∧ Aside0 (Below w0.heap.size w0 W'))
 case atStart => exact ⟨0, by simp, rfl, ⟨by omega, by omega⟩, HO, HB⟩
 case round =>
  clear HO HB
  obtain ⟨i, rfl, rfl, HI, HO, HB⟩ := hrel
  obtain ⟨i1, i2⟩ := HI.out
  clear HI
  cases gk with
  | zero => omega
  | succ k1 =>
   by_cases hi : i < n
   ·have d1 : decide ((i : Int) < (n : Int)) = true := decide_eq_true (by omega)
    have d1n : decide (i < n) = true := decide_eq_true hi
    obtain ⟨g, u, rfl, hBg, hg, hc, hf, hs⟩ := OwY.at HO.out (i := i) (by rw [mkP_len, ← HN.out]; exact hi)
    have e2 : (0 ≤ (i : Int)) = True := eq_true (by omega)
    have e3 : ((i : Int) < (n : Int)) = True := eq_true (by omega)
    have HS := Aside0.mk hs
    clear hs
    go_wp2
    go_roundg k1
    case measure => omega
    case rel => exact ⟨i + 1, by first | (simp; omega) | (rw [wid (by omega) (by omega)]; simp; omega), by first | rfl | (simp; done) | (rw [wid (by omega) (by omega)]; simp), ⟨by omega, by omega⟩, ⟨HS.out _⟩, ⟨HB.out.setCell hBg _⟩⟩
   have d1 : decide ((i : Int) < (n : Int)) = false := decide_eq_false (by omega)
   have d1n : decide (i < n) = false := decide_eq_false hi
   have e : i = n := by omega
   have HE : Aside0 (OwY w0.heap.size wr (.slice A n c) (mkB 1 n)) := ⟨by have h := HO.out; rw [e] at h; have h2 := mkP_all xs; rw [← HN.out] at h2; rw [h2] at h; exact h⟩
   clear HO i2
   subst e
   go_wp2
   go_ret
   exact ⟨rfl, HE.out, HB.out⟩
end Go.Proofs.Ytdiilocgjnlmiaa.Tre
end
section
namespace Go.Proofs.Ytdiilocgjnlmiaa.Tre
open Go.RowKit Go.Proofs.YtdiilocgjnlmiaaW.PrintWords Go.Proofs.YtdiilocgjnlmiaaW.PrintLast Go.Proofs.YtdiilocgjnlmiaaW.PrintMore
open Go.Proofs.Ytdiilocgjnlmiaa.PAll Go.Proofs.Ytdiilocgjnlmiaa.OwnM
set_option linter.unusedVariables false
set_option linter.unusedSimpArgs false
def BytesPost (w : World) (s : ByteArray) (e : Ending) (w' : World) : Prop := ∃ v, e = .returned v ∧ OwY w.heap.size w' v (nB s) ∧ Below w.heap.size w w'
theorem OwY.nil (B : Nat) (W : World) : OwY B W (.slice none 0 0) (nB ByteArray.empty) := ⟨rfl, .inl ⟨rfl, rfl⟩⟩
theorem conv_y {ops : Array Oper} {rest : List Oper} {o : Oper} {a : Act} {Q : Exit → Act → World → Prop} (w0 W : World) (hB : Below w0.heap.size w0 W) (hgd : o.guard = none) (x : Operand)
 (ho : o.op = .convert 9 36 x) (S : ByteArray) (hx : a.eval x = .string S) (hs : S.size ≤ 1099511627776)
 (h : ∀ v' W', OwY w0.heap.size W' v' (nB S) → Below w0.heap.size w0 W' → wpList Try.prog ops Q rest (a.put o.dst v') W') : wpList Try.prog ops Q (o :: rest) a W := by
 refine wpList_plain hgd fun K hK => ?_
 have hr := run_bytes_of_string (P := Try.prog) W 9 36 5 S Try.underlying9 Try.underlying36 Try.underlying5
 have hO := Owns.conv W w0.heap.size 5 S (by simp only [maxLen]; omega) hB.size
 unfold Oper.wp execOp
 simp only [ho, resolve, Sem.run_bind, Sem.run_pure, Result.andThen_ok, hx, hr]
 refine hK _ _ (h _ _ ?_ (below_alloc hB.drew _))
 unfold OwY
 rw [nB_len, ← nB_cells]
 exact hO
def spR.T : Bool × List (List Nat × List Nat) := (true, [([], []), ([], []), ([1], [1]), ([], []), ([2, 3], [2, 3]), ([4], [4]), ([5], [5]), ([6], [6]), ([7], [7]), ([], []), ([], []), ([10], [10]), ([], []), ([11, 12], [11, 12]), ([13], [13]), ([14], [14]), ([9, 15], [9, 15]), ([8, 16], [8, 16]), ([17], [17]), ([0, 18], [0, 18]), ([19, 16, 0, 1, 2, 3, 4, 5, 6, 7, 8, 9, 10, 11, 12, 13, 14, 15, 16, 17, 18, 19], [0, 19])])
def spR.B : List Nat := [0, 0, 2, 0, 14, 30, 62, 126, 254, 0, 0, 1024, 0, 7168, 15360, 31744, 65024, 131070, 262142, 524287, 1048575]
theorem spR.tab : rtab .any (opsOf Try.f38 7) = spR.T := by kernel_rfl
theorem spR.bits : waitsOk spR.T.2 spR.B = true := by kernel_rfl
def spL.T : Bool × List (List Nat × List Nat) := (true, [([], []), ([], []), ([1], [1]), ([], []), ([2, 3], [2, 3]), ([4], [4]), ([5], [5]), ([6], [6]), ([7], [7]), ([8], [8]), ([], []), ([], []), ([11], [11]), ([], []), ([12, 13], [12, 13]), ([14], [14]), ([15], [15]), ([10, 16], [10, 16]), ([9, 17], [9, 17]), ([18], [18]), ([0, 19], [0, 19]), ([20, 17, 0, 1, 2, 3, 4, 5, 6, 7, 8, 9, 10, 11, 12, 13, 14, 15, 16, 17, 18, 19, 20], [0, 20])])
def spL.B : List Nat := [0, 0, 2, 0, 14, 30, 62, 126, 254, 510, 0, 0, 2048, 0, 14336, 30720, 63488, 130048, 262142, 524286, 1048575, 2097151]
theorem spL.tab : rtab .any (opsOf Try.f38 12) = spL.T := by kernel_rfl
theorem spL.bits : waitsOk spL.T.2 spL.B = true := by kernel_rfl
set_option maxRecDepth 100000 in
set_option maxHeartbeats 16000000 in
theorem sprint_in (w : World) (A0 A1 : Option Addr) (c0 c1 : Nat) (Rs : List Ru) (Ls : List La) (hr0 : Kd.C k68 w A0 Rs.length Rs) (hc0 : Rs.length ≤ c0) (hr1 : Kd.C k72 w A1 Ls.length Ls) (hc1 : Ls.length ≤ c1) (hok : okG Rs Ls = true) :
 Calls Try.prog 38 #[.agg #[.slice A0 Rs.length c0, .slice A1 Ls.length c1]] w (BytesPost w (prF Rs Ls)) := by
 have hb1 : Below w.heap.size w (w.alloc (Obj.cells #[.slice A0 Rs.length c0, .slice A1 Ls.length c1] 31)) := below_alloc (Below.refl _ _) _
 have HVF : Aside0 (spec_ValidGrammar.f Rs Ls = some (validB Rs Ls)) := ⟨by unfold spec_ValidGrammar.f; rw [if_pos hok]⟩
 have HR0 := Aside0.mk (Kd.C_below hr0 hb1)
 have HL0 := Aside0.mk (Kd.C_below hr1 hb1)
 have HG := Aside0.mk (GrC.mk hr0 hc0 hr1 hc1)
 have HB1 := Aside0.mk hb1
 have HBG := Aside0.mk (blk_new w (Obj.cells #[.slice A0 Rs.length c0, .slice A1 Ls.length c1] 31))
 clear hr0 hr1 hb1
 cases hvb : validB Rs Ls with
 | false =>
  have HVB := Lib.hid hvb
  have HE : Aside0 (prF Rs Ls = ByteArray.empty) := ⟨by unfold prF; rw [hvb]; rfl⟩
  clear hvb
  go_enter Try.func38, Try.ntmps38
  go_wp2_with (go_at_call 11; refine (spec_ValidGrammar.calls A0 c0 Rs A1 c1 Ls _ _ HR0.out hc0 HL0.out hc1 HVF.out).mono ?_; go_must (rintro e W1 ⟨rfl, hb⟩; rw [HVB.out]; have HB := Aside0.mk (below_then HB1.out HB1.out.size hb); clear hb))
  go_ret
  rw [HE.out]
  exact ⟨_, rfl, OwY.nil _ _, HB.out⟩
 | true =>
  have hv := validB_iff.1 hvb
  have HP := Aside0.mk hv.prints
  have HGO := Aside0.mk hv.gok
  have HN := Aside0.mk hv.nice
  have HVB := Lib.hid hvb
  have hr2 := hv.r2
  have hl2 := hv.l2
  have HE : Aside0 (prF Rs Ls = prL Rs Ls Ls.length) := ⟨by unfold prF; rw [hvb]; rfl⟩
  have HTX : Aside0 (∀ (x : Tr), okT Rs.length Ls.length x → okSt x → smT x → ndT x ≤ 10000 → (flat x).length ≤ 2000 → ∀ (w' : World) (A : Option Addr) (c : Nat), Below w.heap.size w w' → Kd.C k79 w A (flat x).length (flat x) → (flat x).length ≤ c →
   Calls Try.prog 88 #[.agg #[.slice A0 Rs.length c0, .slice A1 Ls.length c1], .slice A (flat x).length c] w' (StrPost w' (txT (rnR Rs) (lnL Ls) x))) := ⟨stext_in w A0 A1 c0 c1 Rs Ls HG.out (by omega) (by omega) (fun n => Nat.le_trans (HP.out.rn n) (by omega)) (fun n => Nat.le_trans (HP.out.ln n) (by omega))⟩
  clear hvb hv
  go_enter Try.func38, Try.ntmps38
  go_wp2_with (go_at_call 11; refine (spec_ValidGrammar.calls A0 c0 Rs A1 c1 Ls _ _ HR0.out hc0 HL0.out hc1 HVF.out).mono ?_; go_must (rintro e W1 ⟨rfl, hb⟩; rw [HVB.out]; have HB := Aside0.mk (below_then HB1.out HB1.out.size hb); have HX := Aside0.mk (blk_below HBG.out hb); clear hb))
  go_loopg [3, 4] (Rs.length + 1) (fun kq v3 v4 W' => ∃ (i : Nat), v3 = .string (prR Rs Ls i) ∧ v4 = .int .i64 (i : Int) ∧ Aside0 (i ≤ Rs.length ∧ Rs.length < i + kq) ∧ Aside0 (Below w.heap.size w W') ∧ Aside0 (W'.heap[w.heap.size]? = some (Obj.cells #[.slice A0 Rs.length c0, .slice A1 Ls.length c1] 31 (0, 0))))
  case atStart => exact ⟨0, rfl, rfl, ⟨by omega, by omega⟩, HB, HX⟩
  case round =>
   clear HB HX
   obtain ⟨i, rfl, rfl, HI, HB, HX⟩ := hrel
   obtain ⟨i1, i2⟩ := HI.out
   clear HI
   have g0 := blk_cell HX.out 0
   have g1 := blk_cell HX.out 1
   have lg := blk_lt HX.out
   cases gk with
   | zero => omega
   | succ k1 =>
    by_cases hi : i < Rs.length
    ·have d1 : decide ((i : Int) < (Rs.length : Int)) = true := decide_eq_true (by omega)
     have d1n : decide (i < Rs.length) = true := decide_eq_true hi
     obtain ⟨x, ht⟩ := HGO.out.rt i hi
     have hT := tr_ru (Ls := Ls) hi ht
     obtain ⟨b1, b2, b3, b4, b5, b6⟩ := HP.out.body i x (by omega) hT
     rw [bodyN_ru hi] at b1
     have hnm := HP.out.rn i
     have hacc := size_prR HP.out i (by omega)
     have HS : Aside0 (prR Rs Ls (i + 1) = prR Rs Ls i ++ lineB (rnR Rs i) (txT (rnR Rs) (lnL Ls) x)) := ⟨by rw [prR, hT]; rfl⟩
     have HTX2 : Aside0 (∀ (w' : World) (A : Option Addr) (c : Nat), Below w.heap.size w w' → Kd.C k79 w A (flat x).length (flat x) → (flat x).length ≤ c → Calls Try.prog 88 #[.agg #[.slice A0 Rs.length c0, .slice A1 Ls.length c1], .slice A (flat x).length c] w' (StrPost w' (txT (rnR Rs) (lnL Ls) x))) := ⟨HTX.out x b2 b3 b4 (by omega) (by have := nd_flat x; omega)⟩
     generalize txT (rnR Rs) (lnL Ls) x = X at *
     generalize hP : prR Rs Ls i = P at *
     have hP2 := Aside0.mk hP
     have hacc2 : P.size ≤ 9999999999 := by omega
     clear hP hacc
     obtain ⟨ad, AN, cN, AB, cB, hA, x0, x1, y1, y2, y3, y4⟩ := at_T68 HG.out.r (i : Int) (by omega) (by omega)
     rw [Int.toNat_natCast] at x0 x1
     replace x0 := pw_cell_below HB.out x0
     replace x1 := pw_cell_below HB.out x1
     have lx := World.block_lt_of_cell? _ _ x0
     have e2 : (0 ≤ (i : Int)) = True := eq_true (by omega)
     have e3 : ((i : Int) < (Rs.length : Int)) = True := eq_true (by omega)
     change (rd_T68 Rs (i : Int)).f1 = flat x at b1
     rw [rnR] at hnm HS
     rw [b1] at x1 y3 y4
     have hcv : ∀ W', Below w.heap.size w W' → (convert 36 9 (.slice AN (rd_T68 Rs (i : Int)).f0.length cN)).run Try.prog W' = .ok (.string (strOfNums (rd_T68 Rs (i : Int)).f0)) W' := fun W' hb => Kd.C_string (P := Try.prog) (dst := 9) (c := cN) Try.underlying36 Try.underlying5 Try.underlying9 (Kd.C_below y2 hb)
     generalize (rd_T68 Rs (i : Int)).f0.length = nl at *
     generalize strOfNums (rd_T68 Rs (i : Int)).f0 = NM at *
     have HCV := Aside0.mk hcv
     have HY3 := Aside0.mk y3
     have HY4 := Aside0.mk y4
     have f1 := eq_false (show ¬ (9223372036854775807 < NM.size + 3) by omega)
     have f2 := eq_false (show ¬ (9223372036854775807 < NM.size + 3 + X.size) by omega)
     have f3 := eq_false (show ¬ (9223372036854775807 < NM.size + 3 + X.size + 3) by omega)
     have f4 := eq_false (show ¬ (9223372036854775807 < P.size + (NM.size + 3 + X.size + 3)) by omega)
     have HLB : Aside0 (lineB NM X = ((NM ++ ⟨#[32, 61, 32]⟩) ++ X) ++ ⟨#[32, 59, 10]⟩) := ⟨rfl⟩
     subst hA
     have HGX := Aside0.mk HX.out
     clear ht hT b1 b2 b3 b4 b5 b6 y1 y2 y3 y4 hcv hnm hacc2
     go_upto_region 7 with fail
     refine start_ (n := 21) (S := fun W' => W'.cell? ⟨w.heap.size, 0, none⟩ = some (.slice (some ad) Rs.length c0) ∧ W'.cell? ⟨w.heap.size, 1, none⟩ = some (.slice A1 Ls.length c1) ∧ W'.cell? (ad.add (i * 2)) = some (.slice AN nl cN) ∧ W'.cell? ⟨(ad.add (i * 2)).block, (ad.add (i * 2)).off + 1, none⟩ = some (.slice AB (flat x).length cB) ∧ (convert 36 9 (.slice AN nl cN)).run Try.prog W' = .ok (.string NM) W') (ds := []) #[false, false, false, false, false, false, false, false, false, false, false, false, false, false, false, false, false, false, false, false, false] (by kernel_rfl) rfl rfl (⟨g0, g1, x0, x1, HCV.out _ (below_then HB.out HB.out.size (by repeat (first | exact Below.refl _ _ | apply pw_below_drewN | apply Below.drew)))⟩) (fun hHeld => ?_); refine with_tabW spR.tab spR.bits (fun HT_ HW_ => ?_)
     refine pu_ 0 16 HT_ ?_
     refine pu_ 1 17 HT_ ?_
     refine ta_ 2 18 HT_ HW_ hHeld ?_
     refine pu_ 3 19 HT_ ?_
     refine pu_ 4 20 HT_ ?_
     refine pu_ 5 21 HT_ ?_
     refine ta_ 6 22 HT_ HW_ hHeld ?_
     refine ta_ 7 23 HT_ HW_ hHeld ?_
     refine pu_ 8 24 HT_ ?_
     refine ta_ 9 25 HT_ HW_ hHeld ?_
     refine pu_ 10 26 HT_ ?_
     refine ta_ 11 27 HT_ HW_ hHeld ?_
     refine pu_ 12 28 HT_ ?_
     refine pu_ 13 29 HT_ ?_
     refine pu_ 14 30 HT_ ?_
     refine ta_ 15 31 HT_ HW_ hHeld ?_
     refine on_ 16 (some 32) HT_ (fun K hK => ?_)
     refine ge_ Try.func88 #[.agg #[.slice (some ad) Rs.length c0, .slice A1 Ls.length c1], .slice AB (flat x).length cB] ?_
     refine (HTX2.out _ AB cB (below_then HB.out HB.out.size (by repeat (first | exact Below.refl _ _ | apply pw_below_drewN | apply Below.drew))) HY4.out HY3.out).mono ?_
     rintro e W3 ⟨rfl, hb0⟩
     refine ⟨_, rfl, ?_⟩
     have hb1 : Below wr.heap.size wr W3 := below_then (by repeat (first | exact Below.refl _ _ | apply pw_below_drewN | apply Below.drew)) (by simp) hb0
     have hx3 := blk_below HX.out hb1
     have a0 := blk_cell hx3 0
     have a1 := blk_cell hx3 1
     have a2 := pw_cell_below hb1 x0
     have a3 := pw_cell_below hb1 x1
     have HX3 := Aside0.mk hx3
     have HB3 := Aside0.mk (below_then HB.out HB.out.size hb1)
     have a4 := HCV.out _ HB3.out
     clear hb0 hb1 hx3
     refine hK.out _ _ (⟨a0, a1, a2, a3, a4⟩) (fun hHeld => ?_)
     clear hK K
     refine no_ (some 32) ?_
     refine pu_ 17 33 HT_ ?_
     refine pu_ 18 34 HT_ ?_
     refine pu_ 19 35 HT_ ?_
     refine pu_ 20 3 HT_ ?_
     refine done_ (done_of HT_.out (by kernel_rfl)) ?_
     go_wp2_with fail
     go_roundg k1
     case measure => omega
     case rel => exact ⟨i + 1, by rw [HS.out, HLB.out], by first | rfl | (rw [wid (by omega) (by omega)]; simp), ⟨by omega, by omega⟩, HB3, HX3⟩
    have d1 : decide ((i : Int) < (Rs.length : Int)) = false := decide_eq_false (by omega)
    have d1n : decide (i < Rs.length) = false := decide_eq_false hi
    obtain rfl : i = Rs.length := by omega
    go_wp2_with fail
    go_loopg [3, 5] (Ls.length + 1) (fun kq v3 v5 W' => ∃ (j : Nat), v3 = .string (prL Rs Ls j) ∧ v5 = .int .i64 (j : Int) ∧ Aside0 (j ≤ Ls.length ∧ Ls.length < j + kq) ∧ Aside0 (Below w.heap.size w W') ∧ Aside0 (W'.heap[w.heap.size]? = some (Obj.cells #[.slice A0 Rs.length c0, .slice A1 Ls.length c1] 31 (0, 0))))
    case atStart => exact ⟨0, rfl, rfl, ⟨by omega, by omega⟩, HB, HX⟩
    case round =>
     clear HB HX g0 g1 lg d1 d1n i1 i2 hi
     obtain ⟨j, rfl, rfl, HI, HB, HX⟩ := hrel
     obtain ⟨j1, j2⟩ := HI.out
     clear HI
     have g0 := blk_cell HX.out 0
     have g1 := blk_cell HX.out 1
     have lg := blk_lt HX.out
     cases gk with
     | zero => omega
     | succ k2 =>
      by_cases hj : j < Ls.length
      rotate_left
      ·have d1 : decide ((j : Int) < (Ls.length : Int)) = false := decide_eq_false (by omega)
       have d1n : decide (j < Ls.length) = false := decide_eq_false hj
       obtain rfl : j = Ls.length := by omega
       have hsz := size_prL HP.out Ls.length (Nat.le_refl _)
       clear j1 j2 hj
       go_wp2_with ((with_reducible refine gate_dst (N := 71) rfl ?_); go_must (refine conv_y w _ (below_then HB.out HB.out.size (by repeat (first | exact Below.refl _ _ | apply pw_below_drewN | apply Below.drew))) rfl (.tmp 70) rfl (prL Rs Ls Ls.length) rfl (by omega) ?_; intro v5 W5 hO5 hB5; have HO5 := Aside0.mk hO5; have HB5 := Aside0.mk hB5; clear hO5 hB5))
       go_ret
       rw [HE.out]
       exact ⟨_, rfl, HO5.out, HB5.out⟩
      have d1 : decide ((j : Int) < (Ls.length : Int)) = true := decide_eq_true (by omega)
      have d1n : decide (j < Ls.length) = true := decide_eq_true hj
      have hT := tr_la (Rs := Rs) (Ls := Ls) hj
      have ht1 := HGO.out.lt j hj
      obtain ⟨ad, AN, cN, AB, cB, hA, x0, x1, x2, y1, y2, y3, y4⟩ := at_T72 HG.out.l (j : Int) (by omega) (by omega)
      rw [Int.toNat_natCast] at x0 x1 x2
      replace x0 := pw_cell_below HB.out x0
      replace x1 := pw_cell_below HB.out x1
      replace x2 := pw_cell_below HB.out x2
      have lx := World.block_lt_of_cell? _ _ x0
      have e2 : (0 ≤ (j : Int)) = True := eq_true (by omega)
      have e3 : ((j : Int) < (Ls.length : Int)) = True := eq_true (by omega)
      subst hA
      change (rd_T72 Ls (j : Int)).f1 = true → ∃ t, treeF (rd_T72 Ls (j : Int)).f2 = some t at ht1
      change tr (trees Rs Ls) (Rs.length + j) = treeF (rd_T72 Ls (j : Int)).f2 at hT
      cases hh : (rd_T72 Ls (j : Int)).f1 with
      | false =>
       have HS : Aside0 (prL Rs Ls (j + 1) = prL Rs Ls j) := ⟨by rw [prL, hh]; rfl⟩
       rw [hh] at x1
       clear hh ht1 hT x0 x2 y1 y2 y3 y4
       go_wp2_with fail
       go_roundg k2
       case measure => omega
       case rel => exact ⟨j + 1, by rw [HS.out], by first | rfl | (rw [wid (by omega) (by omega)]; simp), ⟨by omega, by omega⟩, HB, HX⟩
      | true =>
       obtain ⟨x, ht⟩ := ht1 hh
       rw [ht] at hT
       rw [hh] at x1
       obtain ⟨b1, b2, b3, b4, b5, b6⟩ := HP.out.body (Rs.length + j) x (by omega) hT
       rw [bodyN_la hj] at b1
       have hnm := HP.out.ln j
       have hacc := size_prL HP.out j (by omega)
       have HS : Aside0 (prL Rs Ls (j + 1) = prL Rs Ls j ++ lineB (⟨#[94]⟩ ++ lnL Ls j) (txT (rnR Rs) (lnL Ls) x)) := ⟨by rw [prL, hh, hT]; rfl⟩
       have HTX2 : Aside0 (∀ (w' : World) (A : Option Addr) (c : Nat), Below w.heap.size w w' → Kd.C k79 w A (flat x).length (flat x) → (flat x).length ≤ c → Calls Try.prog 88 #[.agg #[.slice A0 Rs.length c0, .slice (some ad) Ls.length c1], .slice A (flat x).length c] w' (StrPost w' (txT (rnR Rs) (lnL Ls) x))) := ⟨HTX.out x b2 b3 b4 (by omega) (by have := nd_flat x; omega)⟩
       generalize txT (rnR Rs) (lnL Ls) x = X at *
       generalize hP : prL Rs Ls j = P at *
       have hP2 := Aside0.mk hP
       have hacc2 : P.size ≤ 9999999999 := by omega
       clear hP hacc hh
       change (rd_T72 Ls (j : Int)).f2 = flat x at b1
       rw [lnL] at hnm HS
       rw [b1] at x2 y3 y4
       have hcv : ∀ W', Below w.heap.size w W' → (convert 36 9 (.slice AN (rd_T72 Ls (j : Int)).f0.length cN)).run Try.prog W' = .ok (.string (strOfNums (rd_T72 Ls (j : Int)).f0)) W' := fun W' hb => Kd.C_string (P := Try.prog) (dst := 9) (c := cN) Try.underlying36 Try.underlying5 Try.underlying9 (Kd.C_below y2 hb)
       generalize (rd_T72 Ls (j : Int)).f0.length = nl at *
       generalize strOfNums (rd_T72 Ls (j : Int)).f0 = NM at *
       have HCV := Aside0.mk hcv
       have HY3 := Aside0.mk y3
       have HY4 := Aside0.mk y4
       have f0 := eq_false (show ¬ (9223372036854775807 < 1 + NM.size) by omega)
       have f1 := eq_false (show ¬ (9223372036854775807 < 1 + NM.size + 3) by omega)
       have f2 := eq_false (show ¬ (9223372036854775807 < 1 + NM.size + 3 + X.size) by omega)
       have f3 := eq_false (show ¬ (9223372036854775807 < 1 + NM.size + 3 + X.size + 3) by omega)
       have f4 := eq_false (show ¬ (9223372036854775807 < P.size + (1 + NM.size + 3 + X.size + 3)) by omega)
       have HLB : Aside0 (lineB (⟨#[94]⟩ ++ NM) X = (((⟨#[94]⟩ ++ NM) ++ ⟨#[32, 61, 32]⟩) ++ X) ++ ⟨#[32, 59, 10]⟩) := ⟨rfl⟩
       have HGX := Aside0.mk HX.out
       clear ht hT b1 b2 b3 b4 b5 b6 y1 y2 y3 y4 hcv hnm hacc2 ht1
       go_upto_region 12 with fail
       refine start_ (n := 22) (S := fun W' => W'.cell? ⟨w.heap.size, 0, none⟩ = some (.slice A0 Rs.length c0) ∧ W'.cell? ⟨w.heap.size, 1, none⟩ = some (.slice (some ad) Ls.length c1) ∧ W'.cell? (ad.add (j * 3)) = some (.slice AN nl cN) ∧ W'.cell? ⟨(ad.add (j * 3)).block, (ad.add (j * 3)).off + 2, none⟩ = some (.slice AB (flat x).length cB) ∧ (convert 36 9 (.slice AN nl cN)).run Try.prog W' = .ok (.string NM) W') (ds := []) #[false, false, false, false, false, false, false, false, false, false, false, false, false, false, false, false, false, false, false, false, false, false] (by kernel_rfl) rfl rfl (⟨g0, g1, x0, x2, HCV.out _ (below_then HB.out HB.out.size (by repeat (first | exact Below.refl _ _ | apply pw_below_drewN | apply Below.drew)))⟩) (fun hHeld => ?_); refine with_tabW spL.tab spL.bits (fun HT_ HW_ => ?_)
       refine pu_ 0 49 HT_ ?_
       refine pu_ 1 50 HT_ ?_
       refine ta_ 2 51 HT_ HW_ hHeld ?_
       refine pu_ 3 52 HT_ ?_
       refine pu_ 4 53 HT_ ?_
       refine pu_ 5 54 HT_ ?_
       refine ta_ 6 55 HT_ HW_ hHeld ?_
       refine ta_ 7 56 HT_ HW_ hHeld ?_
       refine pu_ 8 57 HT_ ?_
       refine pu_ 9 58 HT_ ?_
       refine ta_ 10 59 HT_ HW_ hHeld ?_
       refine pu_ 11 60 HT_ ?_
       refine ta_ 12 61 HT_ HW_ hHeld ?_
       refine pu_ 13 62 HT_ ?_
       refine pu_ 14 63 HT_ ?_
       refine pu_ 15 64 HT_ ?_
       refine ta_ 16 65 HT_ HW_ hHeld ?_
       refine on_ 17 (some 66) HT_ (fun K hK => ?_)
       refine ge_ Try.func88 #[.agg #[.slice A0 Rs.length c0, .slice (some ad) Ls.length c1], .slice AB (flat x).length cB] ?_
       refine (HTX2.out _ AB cB (below_then HB.out HB.out.size (by repeat (first | exact Below.refl _ _ | apply pw_below_drewN | apply Below.drew))) HY4.out HY3.out).mono ?_
       rintro e W3 ⟨rfl, hb0⟩
       refine ⟨_, rfl, ?_⟩
       have hb1 : Below wr.heap.size wr W3 := below_then (by repeat (first | exact Below.refl _ _ | apply pw_below_drewN | apply Below.drew)) (by simp) hb0
       have hx3 := blk_below HX.out hb1
       have a0 := blk_cell hx3 0
       have a1 := blk_cell hx3 1
       have a2 := pw_cell_below hb1 x0
       have a3 := pw_cell_below hb1 x2
       have HX3 := Aside0.mk hx3
       have HB3 := Aside0.mk (below_then HB.out HB.out.size hb1)
       have a4 := HCV.out _ HB3.out
       clear hb0 hb1 hx3
       refine hK.out _ _ (⟨a0, a1, a2, a3, a4⟩) (fun hHeld => ?_)
       clear hK K
       refine no_ (some 66) ?_
       refine pu_ 18 67 HT_ ?_
       refine pu_ 19 68 HT_ ?_
       refine pu_ 20 69 HT_ ?_
       refine pu_ 21 3 HT_ ?_
       refine done_ (done_of HT_.out (by kernel_rfl)) ?_
       go_wp2_with fail
       go_roundg k2
       case measure => omega
       case rel => exact ⟨j + 1, by rw [HS.out, HLB.out], by first | rfl | (rw [wid (by omega) (by omega)]; simp), ⟨by omega, by omega⟩, HB3, HX3⟩
end Go.Proofs.Ytdiilocgjnlmiaa.Tre
end
