/- Lemmas of the proof, and the walks of functions that it stands on. -/
import Derived.Test.YtdiilocgjnlmiaaCpgFlat
import Derived.Test.YtdiilocgjnlmiaaCpgTreeWalk
import Derived.Test.YtdiilocgjnlmiaaCpgPAllx6
import Derived.Test.YtdiilocgjnlmiaaCpgPAllx4
import Derived.Test.YtdiilocgjnlmiaaCpgPAllx5
import Derived.Lib.Bytes
section
namespace Go.Proofs.Ytdiilocgjnlmiaa.Tre
open Go.RowKit Go.Proofs.YtdiilocgjnlmiaaW.PrintWords Go.Proofs.YtdiilocgjnlmiaaW.PrintLast Go.Proofs.YtdiilocgjnlmiaaW.PrintMore
open Go.Proofs.Ytdiilocgjnlmiaa.PAll
set_option linter.unusedVariables false
set_option linter.unusedSimpArgs false
def letB (c : Int) : Bool := decide ((97 ≤ c ∧ c ≤ 122) ∨ (65 ≤ c ∧ c ≤ 90) ∨ c = 95)
def digB (c : Int) : Bool := decide (48 ≤ c ∧ c ≤ 57)
def nameB (l : List Int) : Bool := decide (1 ≤ l.length ∧ l.length ≤ 32) && !digB (rd l 0) && l.all fun c => letB c || digB c
def canonG : Int → List Int → Bool
 | _, [] => true
 | _, [_] => false
 | last, lo :: hi :: r => decide (last + 2 ≤ lo ∧ lo ≤ hi ∧ hi ≤ 255 ∧ 0 ≤ lo) && canonG hi r
def canonB (l : List Int) : Bool := canonG (-2) l
def mostF (R L k : Int) : Int := if k = 3 then L else if k = 2 then R else 1
def opB (R L : Int) (o : Op) : Bool := (if o.f0 = 1 then canonB o.f1 else decide (o.f1.length = 0)) && decide (0 ≤ o.f2 ∧ o.f2 < mostF R L o.f0)
def bodyB (R L : Int) (ops : List Op) : Bool := ops.all (opB R L) && (treeF ops).isSome
def throwsB (ops : List Op) (n : Int) : Bool := ops.any fun o => decide (o.f0 = 3 ∧ o.f2 = n)
theorem drop_rd {l : List Int} {i : Nat} (hi : i < l.length) : l.drop i = rd l (i : Int) :: l.drop (i + 1) := by
 rw [List.drop_eq_getElem_cons hi]
 congr 1
 simp [rd, List.getD_eq_getElem?_getD, hi]
theorem isLetter_f (c : Int) : impl_isLetter.f c = some (letB c) := by
 unfold impl_isLetter.f letB
 repeat' split
 all_goals (congr 1; first | (rw [eq_comm]; exact decide_eq_true (by omega)) | (rw [Bool.eq_iff_iff]; simp; omega))
theorem isDigit_f (c : Int) : impl_isDigit.f c = some (digB c) := by
 unfold impl_isDigit.f digB
 repeat' split
 all_goals (congr 1; rw [Bool.eq_iff_iff]; simp; try omega)
theorem sletter_f (c : Int) : spec_l2letter.f c = some (letB c) := by
 unfold spec_l2letter.f letB
 repeat' split
 all_goals (congr 1; first | (rw [eq_comm]; exact decide_eq_true (by omega)) | (rw [Bool.eq_iff_iff]; simp; omega))
theorem sdigit_f (c : Int) : spec_l2digit.f c = some (digB c) := by
 unfold spec_l2digit.f digB
 repeat' split
 all_goals (congr 1; rw [Bool.eq_iff_iff]; simp; try omega)
theorem goodName_l (l : List Int) (hl : l.length ≤ 1099511627776) : ∀ (d k i : Nat), l.length = i + d → d < k → impl_goodName.l0 k l (l.length : Int) (i : Int) = some ((l.drop i).all fun c => letB c || digB c)
 | d, 0, i, h1, h2 => by omega
 | 0, k + 1, i, h1, h2 => by
  rw [impl_goodName.l0, if_neg (by omega), List.drop_eq_nil_of_le (by omega)]
  rfl
 | d + 1, k + 1, i, h1, h2 => by
  rw [impl_goodName.l0, if_pos (by omega), if_pos (by omega), if_pos (by omega), isLetter_f, drop_rd (by omega), wid (by omega) (by omega), List.all_cons]
  have ih := goodName_l l hl d k (i + 1) (by omega) (by omega)
  rw [Int.natCast_succ] at ih
  simp only [Option.bind_some, isDigit_f, ih]
  cases letB (rd l (i : Int)) <;> cases digB (rd l (i : Int)) <;> simp
theorem goodName_f (l : List Int) (k : Nat) (hk : 40 ≤ k) : impl_goodName.f k l = some (nameB l) := by
 obtain ⟨k, rfl⟩ : ∃ m, k = m + 1 := ⟨k - 1, by omega⟩
 rw [impl_goodName.f, nameB]
 by_cases h1 : (l.length : Int) < 1
 ·rw [if_pos h1, impl_goodName.j0, if_pos rfl, show decide (1 ≤ l.length ∧ l.length ≤ 32) = false from decide_eq_false (by omega)]
  rfl
 rw [if_neg h1]
 by_cases h2 : (l.length : Int) > 32
 ·rw [if_pos h2, impl_goodName.j0, if_pos rfl, show decide (1 ≤ l.length ∧ l.length ≤ 32) = false from decide_eq_false (by omega)]
  rfl
 rw [if_neg h2, if_pos (by omega), isDigit_f, Option.bind_some, impl_goodName.j0, show decide (1 ≤ l.length ∧ l.length ≤ 32) = true from decide_eq_true (by omega)]
 have h := goodName_l l (by omega) l.length k 0 (by omega) (by omega)
 rw [List.drop_zero] at h
 rw [show (0 : Int) = ((0 : Nat) : Int) from rfl, h]
 cases digB (rd l ((0 : Nat) : Int)) <;> simp
theorem name_l (l : List Int) (hl : l.length ≤ 1099511627776) : ∀ (d k i : Nat), l.length = i + d → d < k → spec_l2name.l0 k l (i : Int) = some ((l.drop i).all fun c => letB c || digB c)
 | d, 0, i, h1, h2 => by omega
 | 0, k + 1, i, h1, h2 => by
  rw [spec_l2name.l0, if_neg (by omega), List.drop_eq_nil_of_le (by omega)]
  rfl
 | d + 1, k + 1, i, h1, h2 => by
  rw [spec_l2name.l0, if_pos (by omega), if_pos (by omega), sletter_f, drop_rd (by omega), wid (by omega) (by omega), List.all_cons]
  have ih := name_l l hl d k (i + 1) (by omega) (by omega)
  rw [Int.natCast_succ] at ih
  simp only [Option.bind_some, sdigit_f, ih]
  cases letB (rd l (i : Int)) <;> cases digB (rd l (i : Int)) <;> simp
theorem name_f (l : List Int) (k : Nat) (hk : 40 ≤ k) : spec_l2name.f k l = some (nameB l) := by
 obtain ⟨k, rfl⟩ : ∃ m, k = m + 1 := ⟨k - 1, by omega⟩
 rw [spec_l2name.f, nameB]
 by_cases h1 : (l.length : Int) < 1
 ·rw [if_pos h1, spec_l2name.j0, if_pos rfl, show decide (1 ≤ l.length ∧ l.length ≤ 32) = false from decide_eq_false (by omega)]
  rfl
 rw [if_neg h1]
 by_cases h2 : (l.length : Int) > 32
 ·rw [if_pos h2, spec_l2name.j0, if_pos rfl, show decide (1 ≤ l.length ∧ l.length ≤ 32) = false from decide_eq_false (by omega)]
  rfl
 rw [if_neg h2, if_pos (by omega), sletter_f, Option.bind_some, spec_l2name.j0, show decide (1 ≤ l.length ∧ l.length ≤ 32) = true from decide_eq_true (by omega)]
 have h := name_l l (by omega) l.length k 0 (by omega) (by omega)
 rw [show ((0 : Nat) : Int) = 0 from rfl] at h
 rw [h, List.drop_zero]
 have hc := drop_rd (l := l) (i := 0) (by omega)
 rw [List.drop_zero] at hc
 have hx : letB (rd l 0) = true → digB (rd l 0) = false := by
  unfold letB digB
  simp only [decide_eq_true_eq, decide_eq_false_iff_not]
  omega
 have ha : (l.all fun c => letB c || digB c) = ((letB (rd l 0) || digB (rd l 0)) && (l.drop 1).all fun c => letB c || digB c) := by
  conv => lhs; rw [hc]
  rw [List.all_cons]; rfl
 rw [ha]
 generalize ((l.drop 1).all fun c => letB c || digB c) = rest
 generalize letB (rd l 0) = p at *
 generalize digB (rd l 0) = q at *
 clear hc ha h
 cases p
 ·cases q <;> rfl
 rw [hx rfl]; rfl
theorem canonical_l (l : List Int) (hl : l.length ≤ 1099511627776) (he : l.length % 2 = 0) : ∀ (d k i : Nat) (last : Int), l.length = i + 2 * d → d < k → -2 ≤ last → last ≤ 255 → impl_canonical.l0 k l last (i : Int) = some (canonG last (l.drop i))
 | d, 0, i, last, h1, h2, _, _ => by omega
 | 0, k + 1, i, last, h1, h2, _, _ => by
  rw [impl_canonical.l0, if_neg (by omega), List.drop_eq_nil_of_le (by omega)]
  rfl
 | d + 1, k + 1, i, last, h1, h2, h3, h4 => by
  rw [impl_canonical.l0, if_pos (by omega), if_pos (by omega), wid (x := (i : Int) + 1) (by omega) (by omega), if_pos (by omega), if_pos (by omega), wid (x := last + 2) (by omega) (by omega), wid (x := (i : Int) + 2) (by omega) (by omega),
   drop_rd (i := i) (by omega), drop_rd (i := i + 1) (by omega), canonG, Int.natCast_succ]
  generalize rd l (i : Int) = lo
  generalize hhi : rd l ((i : Int) + 1) = hi
  by_cases c1 : lo < last + 2
  ·rw [if_pos c1, show decide (last + 2 ≤ lo ∧ lo ≤ hi ∧ hi ≤ 255 ∧ 0 ≤ lo) = false from decide_eq_false (by omega)]; rfl
  rw [if_neg c1]
  by_cases c2 : lo > hi
  ·rw [if_pos c2, show decide (last + 2 ≤ lo ∧ lo ≤ hi ∧ hi ≤ 255 ∧ 0 ≤ lo) = false from decide_eq_false (by omega)]; rfl
  rw [if_neg c2]
  by_cases c3 : hi > 255
  ·rw [if_pos c3, show decide (last + 2 ≤ lo ∧ lo ≤ hi ∧ hi ≤ 255 ∧ 0 ≤ lo) = false from decide_eq_false (by omega)]; rfl
  rw [if_neg c3]
  by_cases c4 : lo < 0
  ·rw [if_pos c4, show decide (last + 2 ≤ lo ∧ lo ≤ hi ∧ hi ≤ 255 ∧ 0 ≤ lo) = false from decide_eq_false (by omega)]; rfl
  rw [if_neg c4, show decide (last + 2 ≤ lo ∧ lo ≤ hi ∧ hi ≤ 255 ∧ 0 ≤ lo) = true from decide_eq_true (by omega)]
  have ih := canonical_l l hl he d k (i + 2) hi (by omega) (by omega) (by omega) (by omega)
  rw [show ((i + 2 : Nat) : Int) = (i : Int) + 2 by omega] at ih
  rw [ih]
  rfl
theorem canonG_odd : ∀ (l : List Int) (last : Int), l.length % 2 ≠ 0 → canonG last l = false
 | [], _, h => by simp at h
 | [_], _, _ => rfl
 | lo :: hi :: r, last, h => by
  rw [canonG, canonG_odd r hi (by simp only [List.length_cons] at h; omega), Bool.and_false]
theorem canonical_f (l : List Int) (hl : l.length ≤ 1099511627776) (k : Nat) (hk : l.length < k) : impl_canonical.f k l = some (canonB l) := by
 rw [impl_canonical.f, canonB]
 by_cases h : (l.length : Int) % 2 = 0
 ·rw [if_pos h]
  have := canonical_l l hl (by omega) (l.length / 2) k 0 (-2) (by omega) (by omega) (by omega) (by omega)
  rw [List.drop_zero] at this
  exact this
 rw [if_neg h, canonG_odd l _ (by omega)]
theorem canon_l (l : List Int) (hl : l.length ≤ 1099511627776) (he : l.length % 2 = 0) : ∀ (d k i : Nat) (last : Int), l.length = i + 2 * d → i % 2 = 0 → 6 * d + 6 < k → (i = 0 → last = -2) → (0 < i → last = rd l ((i : Int) - 1) ∧ 0 ≤ last ∧ last ≤ 255) →
 spec_l2canon.l0 k l (i : Int) = some (canonG last (l.drop i))
 | d, 0, i, last, h1, _, h2, _, _ => by omega
 | 0, k + 1, i, last, h1, _, h2, _, _ => by
  rw [spec_l2canon.l0, if_neg (by omega), List.drop_eq_nil_of_le (by omega)]
  rfl
 | d + 1, k + 1, i, last, h1, h0, h2, h3, h4 => by
  obtain ⟨k, rfl⟩ : ∃ m, k = m + 5 := ⟨k - 5, by omega⟩
  have e0 : Int.tmod (i : Int) 2 = 0 := by rw [Int.tmod_eq_emod_of_nonneg (by omega)]; omega
  have e1 : Int.tmod ((i : Int) + 1) 2 = 1 := by rw [Int.tmod_eq_emod_of_nonneg (by omega)]; omega
  have hb : last + 2 ≤ rd l (i : Int) → 0 ≤ rd l (i : Int) := by
   intro h
   rcases Nat.eq_zero_or_pos i with q | q
   ·have := h3 q; omega
   have := h4 q; omega
  rw [drop_rd (i := i) (by omega), drop_rd (i := i + 1) (by omega), canonG, Int.natCast_succ]
  have ih := canon_l l hl he d k (i + 2) (rd l ((i : Int) + 1)) (by omega) (by omega) (by omega) (by omega)
  rw [show ((i + 2 : Nat) : Int) = (i : Int) + 2 by omega] at ih
  -- the first place
  have step2 : 0 ≤ rd l (i : Int) → rd l (i : Int) ≤ 255 → spec_l2canon.l0 (k + 3) l ((i : Int) + 1) = some (decide (rd l (i : Int) ≤ rd l ((i : Int) + 1) ∧ rd l ((i : Int) + 1) ≤ 255) && canonG (rd l ((i : Int) + 1)) (l.drop (i + 1 + 1))) := by
   intro q0 q1
   rw [spec_l2canon.l0, if_pos (by omega), if_pos (by omega)]
   have body : ∀ b : Bool, b = decide (rd l ((i : Int) + 1) < 0 ∨ rd l ((i : Int) + 1) > 255) → spec_l2canon.j1 (k + 2) l ((i : Int) + 1) b = some (decide (rd l (i : Int) ≤ rd l ((i : Int) + 1) ∧ rd l ((i : Int) + 1) ≤ 255) && canonG (rd l ((i : Int) + 1)) (l.drop (i + 1 + 1))) := by
    intro b hb
    rw [spec_l2canon.j1]
    by_cases hx : rd l ((i : Int) + 1) < 0 ∨ rd l ((i : Int) + 1) > 255
    ·rw [decide_eq_true hx] at hb
     rw [if_pos hb, show decide (rd l (i : Int) ≤ rd l ((i : Int) + 1) ∧ rd l ((i : Int) + 1) ≤ 255) = false from decide_eq_false (by omega)]; rfl
    rw [decide_eq_false hx] at hb
    rw [if_neg (by rw [hb]; decide), if_pos e1, if_pos (by omega), if_pos (by omega), show (i : Int) + 1 - 1 = i by omega, wid (x := (i : Int)) (by omega) (by omega), if_pos (by omega), if_pos (by omega), spec_l2canon.j2]
    by_cases hy : rd l ((i : Int) + 1) < rd l (i : Int)
    ·rw [if_pos (decide_eq_true hy), show decide (rd l (i : Int) ≤ rd l ((i : Int) + 1) ∧ rd l ((i : Int) + 1) ≤ 255) = false from decide_eq_false (by omega)]; rfl
    rw [if_neg (by rw [decide_eq_true_eq]; exact hy), if_pos (by omega), if_neg (by rw [e1]; decide), wid (x := (i : Int) + 1 + 1) (by omega) (by omega), show (i : Int) + 1 + 1 = i + 2 by omega,
     ih (fun _ => ⟨by congr 1; omega, by omega, by omega⟩), show decide (rd l (i : Int) ≤ rd l ((i : Int) + 1) ∧ rd l ((i : Int) + 1) ≤ 255) = true from decide_eq_true (by omega)]; rfl
   split
   ·exact body true (by rw [eq_comm, decide_eq_true_eq]; omega)
   exact body _ (by rw [Bool.eq_iff_iff]; simp; omega)
  rw [spec_l2canon.l0, if_pos (by omega), if_pos (by omega)]
  have body : ∀ b : Bool, b = decide (rd l (i : Int) < 0 ∨ rd l (i : Int) > 255) → spec_l2canon.j1 (k + 5) l (i : Int) b = some (decide (last + 2 ≤ rd l (i : Int) ∧ rd l (i : Int) ≤ rd l ((i : Int) + 1) ∧ rd l ((i : Int) + 1) ≤ 255 ∧ 0 ≤ rd l (i : Int)) && canonG (rd l ((i : Int) + 1)) (l.drop (i + 1 + 1))) := by
   intro b hb'
   rw [spec_l2canon.j1]
   by_cases hx : rd l (i : Int) < 0 ∨ rd l (i : Int) > 255
   ·rw [decide_eq_true hx] at hb'
    rw [if_pos hb', show decide (last + 2 ≤ rd l (i : Int) ∧ rd l (i : Int) ≤ rd l ((i : Int) + 1) ∧ rd l ((i : Int) + 1) ≤ 255 ∧ 0 ≤ rd l (i : Int)) = false from decide_eq_false (by omega)]; rfl
   rw [decide_eq_false hx] at hb'
   rw [if_neg (by rw [hb']; decide), if_neg (by rw [e0]; decide), spec_l2canon.j2, if_neg (by decide), wid (x := (i : Int) + 1) (by omega) (by omega), step2 (by omega) (by omega)]
   have fin : some (decide (rd l (i : Int) ≤ rd l ((i : Int) + 1) ∧ rd l ((i : Int) + 1) ≤ 255) && canonG (rd l ((i : Int) + 1)) (l.drop (i + 1 + 1))) = some (decide (rd l (i : Int) ≤ rd l ((i : Int) + 1) ∧ rd l ((i : Int) + 1) ≤ 255) && canonG (rd l ((i : Int) + 1)) (l.drop (i + 1 + 1))) := rfl
   by_cases hi0 : (i : Int) > 0
   ·obtain ⟨g1, g2, g3⟩ := h4 (by omega)
    rw [if_pos hi0, if_pos e0, if_pos (by omega), if_pos (by omega), wid (x := (i : Int) - 1) (by omega) (by omega), if_pos (by omega), if_pos (by omega), ← g1, wid (x := last + 2) (by omega) (by omega)]
    by_cases hy : rd l (i : Int) < last + 2
    ·rw [if_pos hy, show decide (last + 2 ≤ rd l (i : Int) ∧ rd l (i : Int) ≤ rd l ((i : Int) + 1) ∧ rd l ((i : Int) + 1) ≤ 255 ∧ 0 ≤ rd l (i : Int)) = false from decide_eq_false (by omega)]; rfl
    rw [if_neg hy]
    congr 2
    rw [decide_eq_decide]
    omega
   rw [if_neg hi0]
   have := h3 (by omega)
   congr 2
   rw [decide_eq_decide]
   omega
  split
  ·exact body true (by rw [eq_comm, decide_eq_true_eq]; omega)
  exact body _ (by rw [Bool.eq_iff_iff]; simp; omega)
theorem canon_f (l : List Int) (hl : l.length ≤ 1099511627776) (k : Nat) (hk : 6 * l.length + 6 < k) : spec_l2canon.f k l = some (canonB l) := by
 rw [spec_l2canon.f, canonB]
 by_cases h : (l.length : Int) % 2 = 0
 ·rw [if_pos h]
  have := canon_l l hl (by omega) (l.length / 2) k 0 (-2) (by omega) (by omega) (by omega) (fun _ => rfl) (by omega)
  rw [List.drop_zero] at this
  exact this
 rw [if_neg h, canonG_odd l _ (by omega)]
theorem arity_f (k : Nat) (x : Int) (hk : 0 < k) : spec_l2arity.f k x = some (ar x : Int) := by
 obtain ⟨k, rfl⟩ : ∃ m, k = m + 1 := ⟨k - 1, by omega⟩
 unfold spec_l2arity.f ar
 by_cases h4 : x = 4
 ·rw [if_pos h4, spec_l2arity.j0, if_pos rfl, if_pos (Or.inl h4)]; rfl
 rw [if_neg h4, spec_l2arity.j0]
 by_cases h5 : x = 5
 ·have : (x == 5) = true := by simpa using h5
  rw [if_pos this, if_pos (Or.inr h5)]; rfl
 have : (x == 5) = false := by simpa using h5
 rw [this, if_neg (by decide), if_neg (show ¬ (x = 4 ∨ x = 5) by omega)]
 by_cases h6 : x = 6
 ·rw [if_pos h6, if_pos (Or.inl h6)]; rfl
 rw [if_neg h6]
 by_cases h7 : x = 7
 ·rw [if_pos h7, if_pos (Or.inr h7)]; rfl
 rw [if_neg h7, if_neg (show ¬ (x = 6 ∨ x = 7) by omega)]; rfl
theorem ar_le (x : Int) : ar x ≤ 2 := by unfold ar; split <;> (try split) <;> omega
theorem take_rev {ops : List Op} {i : Nat} (hi : i < ops.length) : (ops.take (i + 1)).reverse = rd_T79 ops (i : Int) :: (ops.take i).reverse := by
 rw [List.take_succ_eq_append_getElem hi, List.reverse_append, List.reverse_singleton, List.singleton_append]
 congr 1
 simp [rd_T79, List.getD_eq_getElem?_getD, hi]
theorem shape_l (ops : List Op) (hl : ops.length ≤ 1099511627776) : ∀ (i k : Nat) (n : Int), i ≤ ops.length → i + 2 < k → 0 ≤ n → n ≤ ops.length + 1 - i → spec_l2shape.l0 k ops n ((i : Int) - 1) = some (shB n (ops.take i).reverse)
 | i, 0, n, _, h2, _, _ => by omega
 | 0, k + 1, n, _, h2, _, _ => by
  rw [spec_l2shape.l0, if_neg (by omega), List.take_zero]
  rfl
 | i + 1, k + 1, n, h1, h2, h3, h4 => by
  have e : (((i + 1 : Nat)) : Int) - 1 = (i : Int) := by omega
  rw [e, spec_l2shape.l0, if_pos (by omega), take_rev (by omega), shB]
  by_cases h0 : n = 0
  ·rw [if_pos h0, if_pos h0]
  have ha := ar_le (rd_T79 ops (i : Int)).f0
  rw [if_neg h0, if_neg h0, if_pos (by omega), if_pos (by omega), arity_f _ _ (by omega), Option.bind_some, wid (x := (ar (rd_T79 ops (i : Int)).f0 : Int) - 1) (by omega) (by omega), wid (by omega) (by omega), wid (by omega) (by omega)]
  exact shape_l ops hl i k _ (by omega) (by omega) (by omega) (by omega)
theorem shape_f (ops : List Op) (hl : ops.length ≤ 1099511627776) (k : Nat) (hk : ops.length + 2 < k) : spec_l2shape.f k ops = some (shB 1 ops.reverse) := by
 rw [spec_l2shape.f, wid (by omega) (by omega)]
 have := shape_l ops hl ops.length k 1 (by omega) (by omega) (by omega) (by omega)
 rw [List.take_length] at this
 exact this
def opS (R L : Int) (o : Op) : Bool := decide (0 ≤ o.f0 ∧ o.f0 ≤ 7) && opB R L o
theorem bodyOK_l (ops : List Op) (R L : Int) (hl : ops.length ≤ 1099511627776) (S : Nat) (hS : ∀ o ∈ ops, o.f1.length ≤ S) (hS1 : S ≤ 1099511627776) : ∀ (d k i : Nat), ops.length = i + d → 5 * d + 6 * S + ops.length + 20 < k →
 spec_l2bodyOK.l0 k ops R L (i : Int) = some ((ops.drop i).all (opS R L) && shB 1 ops.reverse)
 | d, 0, i, _, h2 => by omega
 | 0, k + 1, i, h1, h2 => by
  rw [spec_l2bodyOK.l0, if_neg (by omega), shape_f ops hl k (by omega), List.drop_eq_nil_of_le (by omega)]
  rfl
 | d + 1, k + 1, i, h1, h2 => by
  obtain ⟨k, rfl⟩ : ∃ m, k = m + 4 := ⟨k - 4, by omega⟩
  have ih := bodyOK_l ops R L hl S hS hS1 d k (i + 1) (by omega) (by omega)
  rw [Int.natCast_succ] at ih
  have hm : rd_T79 ops (i : Int) ∈ ops := by
   have := drop_op (ops := ops) (i := i) (by omega)
   exact List.mem_of_mem_drop (by rw [this]; exact List.mem_cons_self)
  have hs := hS _ hm
  rw [spec_l2bodyOK.l0, if_pos (by omega), if_pos (by omega), drop_op (by omega), List.all_cons]
  generalize rd_T79 ops (i : Int) = o at *
  obtain ⟨x, s, n⟩ := o
  simp only at hs ⊢
  have hk1 : 6 * s.length + 6 < k + 3 := by omega
  have h4 : ∀ m : Int, m = (if x = 2 then R else 1) → spec_l2bodyOK.j4 (k + 1) ops R L (i : Int) m x s n = some (decide (0 ≤ n ∧ n < mostF R L x) && ((ops.drop (i + 1)).all (opS R L) && shB 1 ops.reverse)) := by
   intro m hm
   rw [spec_l2bodyOK.j4, wid (by omega) (by omega), ih]
   unfold mostF
   by_cases c3 : x = 3
   ·rw [if_pos c3, if_pos c3]
    by_cases c : n < 0
    ·rw [if_pos c, decide_eq_false (by omega)]; rfl
    rw [if_neg c]
    by_cases c' : n ≥ L
    ·rw [if_pos c', decide_eq_false (by omega)]; rfl
    rw [if_neg c', decide_eq_true (by omega)]; rfl
   rw [if_neg c3, if_neg c3, ← hm]
   by_cases c : n < 0
   ·rw [if_pos c, decide_eq_false (by omega)]; rfl
   rw [if_neg c]
   by_cases c' : n ≥ m
   ·rw [if_pos c', decide_eq_false (by omega)]; rfl
   rw [if_neg c', decide_eq_true (by omega)]; rfl
  have h3 : ∀ b : Bool, spec_l2bodyOK.j3 (k + 2) ops R L (i : Int) b x s n = some ((!b) && (decide (0 ≤ n ∧ n < mostF R L x) && ((ops.drop (i + 1)).all (opS R L) && shB 1 ops.reverse))) := by
   intro b
   rw [spec_l2bodyOK.j3]
   cases b
   ·rw [if_neg (by decide)]
    by_cases c2 : x = 2
    ·rw [if_pos c2, h4 _ (by rw [if_pos c2])]; rfl
    rw [if_neg c2, h4 _ (by rw [if_neg c2])]; rfl
   rfl
  have h2 : ∀ b : Bool, spec_l2bodyOK.j2 (k + 3) ops R L (i : Int) b x s n = some ((!b) && (decide (x = 1) || decide (s.length = 0)) && (decide (0 ≤ n ∧ n < mostF R L x) && ((ops.drop (i + 1)).all (opS R L) && shB 1 ops.reverse))) := by
   intro b
   rw [spec_l2bodyOK.j2]
   cases b
   ·rw [if_neg (by decide)]
    by_cases c1 : x = 1
    ·rw [if_pos c1, h3, decide_eq_true c1]; rfl
    rw [if_neg c1, h3, decide_eq_false c1]
    by_cases c0 : s.length = 0
    ·rw [decide_eq_true c0, show ((s.length : Int) != 0) = false by simp [c0]]; rfl
    rw [decide_eq_false c0, show ((s.length : Int) != 0) = true by rw [bne_iff_ne]; omega]; rfl
   rfl
  have h1 : ∀ b : Bool, spec_l2bodyOK.j1 (k + 4) ops R L (i : Int) b x s n = some ((!b) && (opB R L ⟨x, s, n⟩ && ((ops.drop (i + 1)).all (opS R L) && shB 1 ops.reverse))) := by
   intro b
   rw [spec_l2bodyOK.j1]
   cases b
   ·rw [if_neg (by decide)]
    unfold opB
    simp only
    by_cases c1 : x = 1
    ·rw [if_pos c1, canon_f s (by omega) _ hk1, Option.bind_some, h2, if_pos c1, decide_eq_true c1]
     cases canonB s <;> rfl
    rw [if_neg c1, h2, if_neg c1, decide_eq_false c1]
    cases decide (s.length = 0) <;> rfl
   rfl
  unfold opS
  simp only
  by_cases c0 : x < 0
  ·rw [if_pos c0, h1, decide_eq_false (by omega)]; rfl
  rw [if_neg c0, h1]
  by_cases c7 : x > 7
  ·rw [decide_eq_true c7, decide_eq_false (by omega)]; rfl
  rw [decide_eq_false c7, decide_eq_true (by omega)]
  simp only [Bool.not_false, Bool.true_and, Bool.and_assoc]
  rfl
theorem bodyS_eq (R L : Int) (ops : List Op) : (ops.all (opS R L) && shB 1 ops.reverse) = bodyB R L ops := by
 unfold bodyB
 by_cases h : ∀ o ∈ ops, 0 ≤ o.f0 ∧ o.f0 ≤ 7
 ·rw [treeF_isSome h]
  congr 1
  rw [Bool.eq_iff_iff, List.all_eq_true, List.all_eq_true]
  constructor
  ·intro g o ho
   have := g o ho
   unfold opS at this
   rw [Bool.and_eq_true] at this
   exact this.2
  intro g o ho
  unfold opS
  rw [g o ho, Bool.and_true]
  exact decide_eq_true (h o ho)
 have e1 : (ops.all (opS R L)) = false := by
  rw [Bool.eq_false_iff]
  intro g
  rw [List.all_eq_true] at g
  refine h fun o ho => ?_
  have := g o ho
  unfold opS at this
  rw [Bool.and_eq_true, decide_eq_true_eq] at this
  exact this.1
 have e2 : (treeF ops).isSome = false := by
  rw [Bool.eq_false_iff]
  intro g
  refine h ?_
  have : ∀ (ops : List Op) (st st1 : List Tr), runT st ops = some st1 → ∀ o ∈ ops, 0 ≤ o.f0 ∧ o.f0 ≤ 7 := by
   intro ops
   induction ops with
   | nil => intro _ _ _ o ho; cases ho
   | cons o ops ih =>
    intro st st1 hr o' ho'
    rw [runT] at hr
    cases hs : stepT st o with
    | none => rw [hs] at hr; cases hr
    | some s =>
     rw [hs, Option.bind_some] at hr
     rcases List.mem_cons.1 ho' with rfl | ho'
     ·obtain ⟨x, s', n⟩ := o'
      simp only
      rcases (by omega : (x < 0 ∨ 7 < x) ∨ (0 ≤ x ∧ x ≤ 7)) with hx | hx
      ·rw [stepT_bad hx] at hs; cases hs
      exact hx
     exact ih _ _ hr o' ho'
  unfold treeF at g
  split at g
  ·rename_i t ht
   exact this ops [] _ ht
  cases g
 rw [e1, e2, Bool.false_and, Bool.and_false]
theorem bodyOK_f (ops : List Op) (R L : Int) (hl : ops.length ≤ 1099511627776) (S : Nat) (hS : ∀ o ∈ ops, o.f1.length ≤ S) (hS1 : S ≤ 1099511627776) (k : Nat) (hk : 6 * ops.length + 6 * S + 20 < k) : spec_l2bodyOK.f k ops R L = some (bodyB R L ops) := by
 rw [spec_l2bodyOK.f, ← bodyS_eq]
 have := bodyOK_l ops R L hl S hS hS1 ops.length k 0 (by omega) (by omega)
 rw [List.drop_zero] at this
 exact this
theorem throws_l (ops : List Op) (n : Int) (hl : ops.length ≤ 1099511627776) : ∀ (d k i : Nat), ops.length = i + d → d < k → spec_l2throws.l0 k ops n (i : Int) = some (throwsB (ops.drop i) n)
 | d, 0, i, _, h2 => by omega
 | 0, k + 1, i, h1, h2 => by
  rw [spec_l2throws.l0, if_neg (by omega), List.drop_eq_nil_of_le (by omega)]
  rfl
 | d + 1, k + 1, i, h1, h2 => by
  have ih := throws_l ops n hl d k (i + 1) (by omega) (by omega)
  rw [Int.natCast_succ] at ih
  rw [spec_l2throws.l0, if_pos (by omega), if_pos (by omega), drop_op (by omega), wid (by omega) (by omega), ih]
  unfold throwsB
  rw [List.any_cons]
  by_cases c3 : (rd_T79 ops (i : Int)).f0 = 3
  ·rw [if_pos c3]
   by_cases c : (rd_T79 ops (i : Int)).f2 = n
   ·rw [if_pos c, decide_eq_true ⟨c3, c⟩]; rfl
   rw [if_neg c, decide_eq_false (fun h => c h.2)]; rfl
  rw [if_neg c3, decide_eq_false (fun h => c3 h.1)]; rfl
theorem throws_f (ops : List Op) (n : Int) (hl : ops.length ≤ 1099511627776) (k : Nat) (hk : ops.length < k) : spec_l2throws.f k ops n = some (throwsB ops n) := by
 rw [spec_l2throws.f]
 exact throws_l ops n hl ops.length k 0 (by omega) (by omega)
end Go.Proofs.Ytdiilocgjnlmiaa.Tre
end
section
namespace Go.Proofs.Ytdiilocgjnlmiaa.Tre
open Go.RowKit Go.Proofs.YtdiilocgjnlmiaaW.PrintWords Go.Proofs.YtdiilocgjnlmiaaW.PrintLast Go.Proofs.YtdiilocgjnlmiaaW.PrintMore
open Go.Proofs.Ytdiilocgjnlmiaa.PAll
set_option linter.unusedVariables false
set_option linter.unusedSimpArgs false
abbrev Ru := S68
abbrev La := S72
abbrev ru (Rs : List Ru) (i : Nat) : Ru := rd_T68 Rs (i : Int)
abbrev la (Ls : List La) (i : Nat) : La := rd_T72 Ls (i : Int)
def okOps (ops : List Op) : Bool := decide (ops.length ≤ 1099511627776) && ops.all fun o => decide (o.f1.length ≤ 1099511627776)
def okG (Rs : List Ru) (Ls : List La) : Bool := decide (Rs.length ≤ 1099511627776 ∧ Ls.length ≤ 1099511627776) && (Rs.all fun r => decide (r.f0.length ≤ 1099511627776) && okOps r.f1) && (Ls.all fun l => decide (l.f0.length ≤ 1099511627776) && okOps l.f2)
theorem okOps_len {ops : List Op} (h : okOps ops = true) : ops.length ≤ 1099511627776 := by
 unfold okOps at h
 rw [Bool.and_eq_true, decide_eq_true_eq] at h
 exact h.1
theorem okOps_set {ops : List Op} (h : okOps ops = true) : ∀ o ∈ ops, o.f1.length ≤ 1099511627776 := by
 unfold okOps at h
 rw [Bool.and_eq_true, List.all_eq_true] at h
 intro o ho
 exact of_decide_eq_true (h.2 o ho)
theorem ru_mem {Rs : List Ru} {i : Nat} (hi : i < Rs.length) : ru Rs i ∈ Rs := by
 have : ru Rs i = Rs[i] := by simp [ru, rd_T68, List.getD_eq_getElem?_getD, hi]
 rw [this]; exact List.getElem_mem _
theorem la_mem {Ls : List La} {i : Nat} (hi : i < Ls.length) : la Ls i ∈ Ls := by
 have : la Ls i = Ls[i] := by simp [la, rd_T72, List.getD_eq_getElem?_getD, hi]
 rw [this]; exact List.getElem_mem _
theorem take_ru {Rs : List Ru} {i : Nat} (hi : i < Rs.length) : Rs.take (i + 1) = Rs.take i ++ [ru Rs i] := by
 rw [List.take_succ_eq_append_getElem hi]
 congr 2
 simp [ru, rd_T68, List.getD_eq_getElem?_getD, hi]
theorem take_la {Ls : List La} {i : Nat} (hi : i < Ls.length) : Ls.take (i + 1) = Ls.take i ++ [la Ls i] := by
 rw [List.take_succ_eq_append_getElem hi]
 congr 2
 simp [la, rd_T72, List.getD_eq_getElem?_getD, hi]
theorem okG_R {Rs : List Ru} {Ls : List La} (h : okG Rs Ls = true) : Rs.length ≤ 1099511627776 := by
 unfold okG at h; simp only [Bool.and_eq_true, decide_eq_true_eq] at h; exact h.1.1.1
theorem okG_L {Rs : List Ru} {Ls : List La} (h : okG Rs Ls = true) : Ls.length ≤ 1099511627776 := by
 unfold okG at h; simp only [Bool.and_eq_true, decide_eq_true_eq] at h; exact h.1.1.2
theorem okG_ru {Rs : List Ru} {Ls : List La} (h : okG Rs Ls = true) {i : Nat} (hi : i < Rs.length) : (ru Rs i).f0.length ≤ 1099511627776 ∧ okOps (ru Rs i).f1 = true := by
 unfold okG at h
 rw [Bool.and_eq_true, Bool.and_eq_true, List.all_eq_true, List.all_eq_true] at h
 have := h.1.2 _ (ru_mem hi)
 rw [Bool.and_eq_true, decide_eq_true_eq] at this
 exact this
theorem okG_la {Rs : List Ru} {Ls : List La} (h : okG Rs Ls = true) {i : Nat} (hi : i < Ls.length) : (la Ls i).f0.length ≤ 1099511627776 ∧ okOps (la Ls i).f2 = true := by
 unfold okG at h
 rw [Bool.and_eq_true, Bool.and_eq_true, List.all_eq_true, List.all_eq_true] at h
 have := h.2 _ (la_mem hi)
 rw [Bool.and_eq_true, decide_eq_true_eq] at this
 exact this
def bytesL (l : List Int) : List UInt8 := Lib.bytesOf l
def lessB (l m : List Int) : Bool := Op.bytesLess (bytesL l) (bytesL m)
structure RuleOK (Rs : List Ru) (Ls : List La) (i : Nat) : Prop where
 name : nameB (ru Rs i).f0 = true
 body : bodyB (Rs.length : Int) (Ls.length : Int) (ru Rs i).f1 = true
 new : ∀ j, j < i → bytesL (ru Rs j).f0 ≠ bytesL (ru Rs i).f0
structure LabelOK (Rs : List Ru) (Ls : List La) (i : Nat) : Prop where
 name : nameB (la Ls i).f0 = true
 less : 0 < i → lessB (la Ls (i - 1)).f0 (la Ls i).f0 = true
 body : (la Ls i).f1 = true → bodyB (Rs.length : Int) (Ls.length : Int) (la Ls i).f2 = true
 none : (la Ls i).f1 = false → (la Ls i).f2.length = 0
def sumOps (bs : List (List Op)) : Nat := (bs.map List.length).sum
def bodies (Rs : List Ru) (Ls : List La) : List (List Op) := Rs.map (·.f1) ++ Ls.map (·.f2)
structure Valid (Rs : List Ru) (Ls : List La) : Prop where
 r1 : 1 ≤ Rs.length
 r2 : Rs.length ≤ 100
 l2 : Ls.length ≤ 100
 rules : ∀ i, i < Rs.length → RuleOK Rs Ls i
 labels : ∀ i, i < Ls.length → LabelOK Rs Ls i
 thrown : ∀ i, i < Ls.length → (la Ls i).f1 = false → (bodies Rs Ls).any (throwsB · (i : Int)) = true
 ops : sumOps (bodies Rs Ls) ≤ 2000
open Classical in
noncomputable def validB (Rs : List Ru) (Ls : List La) : Bool := decide (Valid Rs Ls)
open Classical in
theorem validB_no {Rs : List Ru} {Ls : List La} (h : ¬ Valid Rs Ls) : validB Rs Ls = false := decide_eq_false h
open Classical in
theorem validB_yes {Rs : List Ru} {Ls : List La} (h : Valid Rs Ls) : validB Rs Ls = true := decide_eq_true h
open Classical in
theorem validB_iff {Rs : List Ru} {Ls : List La} : validB Rs Ls = true ↔ Valid Rs Ls := ⟨fun h => of_decide_eq_true h, validB_yes⟩
theorem sumOps_append (a b : List (List Op)) : sumOps (a ++ b) = sumOps a + sumOps b := by simp [sumOps]
theorem sumOps_one (a : List Op) : sumOps [a] = a.length := by simp [sumOps]
theorem sumOps_le (bs : List (List Op)) (h : ∀ b ∈ bs, b.length ≤ 1099511627776) : sumOps bs ≤ bs.length * 1099511627776 := by
 induction bs with
 | nil => simp [sumOps]
 | cons b bs ih =>
  have h1 := h b List.mem_cons_self
  have h2 := ih fun x hx => h x (List.mem_cons_of_mem _ hx)
  have : sumOps (b :: bs) = b.length + sumOps bs := by simp [sumOps]
  rw [this, List.length_cons]
  omega
theorem body_args {R L : Int} {ops : List Op} (h : bodyB R L ops = true) (hR : R ≤ 1099511627776) (hL : L ≤ 1099511627776) : ∀ o ∈ ops, 0 ≤ o.f2 ∧ o.f2 ≤ 1099511627776 := by
 unfold bodyB at h
 rw [Bool.and_eq_true, List.all_eq_true] at h
 intro o ho
 have := h.1 o ho
 unfold opB at this
 rw [Bool.and_eq_true, decide_eq_true_eq] at this
 have h2 := this.2
 unfold mostF at h2
 split at h2
 ·omega
 split at h2 <;> omega
theorem sum_take_R {Rs : List Ru} {Ls : List La} (h : okG Rs Ls = true) (i : Nat) : sumOps ((Rs.map (·.f1)).take i) ≤ Rs.length * 1099511627776 := by
 refine Nat.le_trans (sumOps_le _ fun b hb => ?_) (Nat.mul_le_mul_right _ (by simp; omega))
 obtain ⟨r, hr, rfl⟩ := List.mem_map.1 (List.mem_of_mem_take hb)
 obtain ⟨j, hj, rfl⟩ := List.getElem_of_mem hr
 have := okOps_len (okG_ru h hj).2
 simpa [ru, rd_T68, List.getD_eq_getElem?_getD, hj] using this
theorem sum_take_L {Rs : List Ru} {Ls : List La} (h : okG Rs Ls = true) (i : Nat) : sumOps (Rs.map (·.f1) ++ (Ls.map (·.f2)).take i) ≤ (Rs.length + Ls.length) * 1099511627776 := by
 rw [sumOps_append, Nat.add_mul]
 refine Nat.add_le_add ?_ ?_
 ·have := sum_take_R h Rs.length
  rwa [List.take_of_length_le (by simp)] at this
 refine Nat.le_trans (sumOps_le _ fun b hb => ?_) (Nat.mul_le_mul_right _ (by simp; omega))
 obtain ⟨r, hr, rfl⟩ := List.mem_map.1 (List.mem_of_mem_take hb)
 obtain ⟨j, hj, rfl⟩ := List.getElem_of_mem hr
 have := okOps_len (okG_la h hj).2
 simpa [la, rd_T72, List.getD_eq_getElem?_getD, hj] using this
theorem label_ok {Rs : List Ru} {Ls : List La} {i : Nat} {nm : List Int} {has : Bool} {bd : List Op} (hr : la Ls i = ⟨nm, has, bd⟩) (h1 : nameB nm = true) (h2 : 0 < i → lessB (la Ls (i - 1)).f0 nm = true) (h3 : has = true → bodyB (Rs.length : Int) (Ls.length : Int) bd = true) (h4 : has = false → bd.length = 0) : LabelOK Rs Ls i :=
 ⟨by rw [hr]; exact h1, by rw [hr]; exact h2, by rw [hr]; exact h3, by rw [hr]; exact h4⟩
theorem take_name {Rs : List Ru} {i : Nat} {nm : List Int} {bd : List Op} (h : Rs.take (i + 1) = Rs.take i ++ [ru Rs i]) (hr : ru Rs i = ⟨nm, bd⟩) : (Rs.map (·.f0)).take (i + 1) = (Rs.map (·.f0)).take i ++ [nm] := by
 rw [← List.map_take, h, List.map_append, List.map_take, hr]; rfl
theorem take_body {Rs : List Ru} {i : Nat} {nm : List Int} {bd : List Op} (h : Rs.take (i + 1) = Rs.take i ++ [ru Rs i]) (hr : ru Rs i = ⟨nm, bd⟩) : (Rs.map (·.f1)).take (i + 1) = (Rs.map (·.f1)).take i ++ [bd] := by
 rw [← List.map_take, h, List.map_append, List.map_take, hr]; rfl
end Go.Proofs.Ytdiilocgjnlmiaa.Tre
end
