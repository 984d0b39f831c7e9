/- Lemmas of the proof, and the walks of functions that it stands on. -/
import Derived.Test.YtdiilocgjnlmiaaCnuFlat
import Derived.Test.YtdiilocgjnlmiaaCnuPAllx16
import Derived.Test.YtdiilocgjnlmiaaCnuPAllx21
import Derived.Test.YtdiilocgjnlmiaaCnuNullForm
import Derived.Test.YtdiilocgjnlmiaaCnuPAllx23
import Derived.Test.YtdiilocgjnlmiaaCnuMarkFlat
import Derived.Deep.DeepMust
import Derived.Deep.RegionHeld3
import Derived.Outline
import Derived.Test.YtdiilocgjnlmiaaCnuTreeWalk
import Derived.Test.YtdiilocgjnlmiaaCnuHoldGram
section
namespace Go.Proofs.Ytdiilocgjnlmiaa.PAll
open Go.RowKit Go.Proofs.YtdiilocgjnlmiaaW.PrintWords Go.Proofs.YtdiilocgjnlmiaaW.PrintLast Go.Proofs.YtdiilocgjnlmiaaW.PrintMore
attribute [local go_sem] max2_int min2_int max_two min_two max_three min_three max_four min_four   -- for this text's walks alone
set_option linter.unusedVariables false
set_option linter.unusedSimpArgs false
def spec_l3loops.l0 : Nat → List (S79) → List Bool → Int → List (S68) → List (S72) → Option (Bool)
 | 0, _, _, _, _, _ => none
 | k + 1, x1, x2, x7, x990000, x990001 => if x7 < (x1.length : Int) then (if 0 ≤ x7 then (if ((rd_T79 x1 x7).f0) = 6 then ((spec_l2start.f k x1 x7).bind fun t991 => (if 0 ≤ t991 then (if t991 ≤ x7 then (if x7 ≤ (x1.length : Int) then ((spec_l3null.f k x990000 x990001 ((x1.take (x7 : Int).toNat).drop (t991 : Int).toNat) x2).bind fun t996 => (if t996 = true then (some true) else (spec_l3loops.l0 k x1 x2 (wrap64 (x7 + 1)) x990000 x990001))) else (none)) else (none)) else (none))) else (spec_l3loops.l0 k x1 x2 (wrap64 (x7 + 1)) x990000 x990001)) else (none)) else (some false)
def spec_l3loops.f (k : Nat) (l0_0 : List (S68)) (l0_1 : List (S72)) (l1 : List (S79)) (l2 : List Bool) : Option (Bool) := spec_l3loops.l0 k l1 l2 1 l0_0 l0_1
theorem spec_l3loops.mono_l : ∀ k, (∀ y0 y1 y2 y3 y4, LeO (spec_l3loops.l0 k y0 y1 y2 y3 y4) (spec_l3loops.l0 (k + 1) y0 y1 y2 y3 y4))
 | 0 => fun _ _ _ _ _ r h => by simp [spec_l3loops.l0] at h
 | k + 1 => by
  have ih0 := spec_l3loops.mono_l k
  intro y0 y1 y2 y3 y4
  unfold spec_l3loops.l0
  repeat' first
  | (with_reducible exact ih0 _ _ _ _ _)
  | (with_reducible exact spec_l2start.mono _ _ _)
  | (with_reducible exact spec_l3null.mono _ _ _ _ _)
  | (with_reducible exact LeO.refl _)
  | (with_reducible exact LeO.none _)
  | (with_reducible refine LeO.ite ?_ ?_)
  | (with_reducible refine LeO.bind ?_ (fun _ => ?_))
  | exact ih0 _ _ _ _ _
  | exact spec_l2start.mono _ _ _
  | exact spec_l3null.mono _ _ _ _ _
  | exact LeO.none _
  | refine LeO.ite ?_ ?_
  | refine LeO.bind ?_ (fun _ => ?_)
theorem spec_l3loops.mono : ∀ a0 a1 a2 a3 k, LeO (spec_l3loops.f k a0 a1 a2 a3) (spec_l3loops.f (k + 1) a0 a1 a2 a3) := by
 intro a0 a1 a2 a3 k
 have ih0 := spec_l3loops.mono_l k
 unfold spec_l3loops.f
 repeat' first
  | (with_reducible exact ih0 _ _ _ _ _)
  | (with_reducible exact spec_l2start.mono _ _ _)
  | (with_reducible exact spec_l3null.mono _ _ _ _ _)
  | (with_reducible exact LeO.refl _)
  | (with_reducible exact LeO.none _)
  | (with_reducible refine LeO.ite ?_ ?_)
  | (with_reducible refine LeO.bind ?_ (fun _ => ?_))
  | exact ih0 _ _ _ _ _
  | exact spec_l2start.mono _ _ _
  | exact spec_l3null.mono _ _ _ _ _
  | exact LeO.none _
  | refine LeO.ite ?_ ?_
  | refine LeO.bind ?_ (fun _ => ?_)
end Go.Proofs.Ytdiilocgjnlmiaa.PAll
end
section
namespace Go.Proofs.Ytdiilocgjnlmiaa.Tre
open Go.RowKit Go.Proofs.YtdiilocgjnlmiaaW.PrintWords Go.Proofs.YtdiilocgjnlmiaaW.PrintLast Go.Proofs.YtdiilocgjnlmiaaW.PrintMore
open Go.Proofs.Ytdiilocgjnlmiaa.PAll
set_option linter.unusedVariables false
set_option linter.unusedSimpArgs false
def bodyN (Rs : List Ru) (Ls : List La) (i : Nat) : List Op := (bodies Rs Ls).getD i []
def trees (Rs : List Ru) (Ls : List La) : List (Option Tr) := (bodies Rs Ls).map treeF
theorem len_bodies (Rs : List Ru) (Ls : List La) : (bodies Rs Ls).length = Rs.length + Ls.length := by simp [bodies]
theorem len_trees (Rs : List Ru) (Ls : List La) : (trees Rs Ls).length = Rs.length + Ls.length := by simp [trees, len_bodies]
theorem tr_trees {Rs : List Ru} {Ls : List La} {i : Nat} (hi : i < Rs.length + Ls.length) : tr (trees Rs Ls) i = treeF (bodyN Rs Ls i) := by
 have h1 : i < (bodies Rs Ls).length := by rw [len_bodies]; exact hi
 simp [tr, trees, bodyN, List.getD_eq_getElem?_getD, h1]
theorem bodyN_ru {Rs : List Ru} {Ls : List La} {i : Nat} (hi : i < Rs.length) : bodyN Rs Ls i = (ru Rs i).f1 := by
 simp [bodyN, bodies, List.getD_eq_getElem?_getD, List.getElem?_append, hi, ru, rd_T68]
theorem bodyN_la {Rs : List Ru} {Ls : List La} {j : Nat} (hj : j < Ls.length) : bodyN Rs Ls (Rs.length + j) = (la Ls j).f2 := by
 simp [bodyN, bodies, List.getD_eq_getElem?_getD, List.getElem?_append, hj, la, rd_T72]
structure Nice (Rs : List Ru) (Ls : List La) : Prop where
 r : Rs.length ≤ 100
 l : Ls.length ≤ 100
 body : ∀ i, i < Rs.length + Ls.length → (bodyN Rs Ls i = [] ∧ tr (trees Rs Ls) i = none) ∨ ∃ x, tr (trees Rs Ls) i = some x ∧ bodyN Rs Ls i = flat x ∧ okT Rs.length Ls.length x ∧ (flat x).length ≤ 2000
theorem opB_can {R L : Int} {o : Op} (h : opB R L o = true) (h0 : 0 ≤ o.f0) (h7 : o.f0 ≤ 7) : Can o := by
 unfold opB at h
 rw [Bool.and_eq_true, decide_eq_true_eq] at h
 refine ⟨h0, h7, fun h1 => ?_, fun h2 h3 => ?_⟩
 ·have := h.1
  rw [if_neg h1, decide_eq_true_eq] at this
  exact List.length_eq_zero_iff.1 this
 have := h.2
 unfold mostF at this
 rw [if_neg h3, if_neg h2] at this
 omega
theorem okT_flat {R L : Nat} : ∀ (x : Tr), (∀ o ∈ flat x, opB (R : Int) (L : Int) o = true) → okT R L x
 | .emp, _ => trivial
 | .set _, _ => trivial
 | .ref n, h => by
  have := h ⟨2, [], n⟩ List.mem_cons_self
  unfold opB mostF at this
  rw [Bool.and_eq_true, decide_eq_true_eq] at this
  have h2 := this.2
  simp at h2
  exact h2
 | .thr n, h => by
  have := h ⟨3, [], n⟩ List.mem_cons_self
  unfold opB mostF at this
  rw [Bool.and_eq_true, decide_eq_true_eq] at this
  have h2 := this.2
  simp at h2
  exact h2
 | .seq l r, h => ⟨okT_flat l fun o ho => h o (by simp [flat, ho]), okT_flat r fun o ho => h o (by simp [flat, ho])⟩
 | .alt l r, h => ⟨okT_flat l fun o ho => h o (by simp [flat, ho]), okT_flat r fun o ho => h o (by simp [flat, ho])⟩
 | .star x, h => okT_flat x fun o ho => h o (by simp [flat, ho])
 | .neg x, h => okT_flat x fun o ho => h o (by simp [flat, ho])
theorem stepT_kind {st st1 : List Tr} {o : Op} (h : stepT st o = some st1) : 0 ≤ o.f0 ∧ o.f0 ≤ 7 := by
 refine Classical.byContradiction fun hn => ?_
 obtain ⟨k, s, n⟩ := o
 rw [stepT_bad (by simp only at hn; omega)] at h
 cases h
theorem runT_kinds : ∀ (ops : List Op) {st st1 : List Tr}, runT st ops = some st1 → ∀ o ∈ ops, 0 ≤ o.f0 ∧ o.f0 ≤ 7
 | [], _, _, _ => fun o ho => by cases ho
 | o :: ops, st, st1, h => by
  rw [runT] at h
  cases hs : stepT st o with
  | none => rw [hs] at h; cases h
  | some s =>
   rw [hs, Option.bind_some] at h
   intro q hq
   rcases List.mem_cons.1 hq with rfl | hq
   ·exact stepT_kind hs
   exact runT_kinds ops h q hq
theorem body_tree {R L : Nat} {ops : List Op} (h : bodyB (R : Int) (L : Int) ops = true) : ∃ x, treeF ops = some x ∧ ops = flat x ∧ okT R L x := by
 unfold bodyB at h
 rw [Bool.and_eq_true, List.all_eq_true] at h
 obtain ⟨x, hx⟩ := Option.isSome_iff_exists.1 h.2
 have hk : ∀ o ∈ ops, 0 ≤ o.f0 ∧ o.f0 ≤ 7 := by
  unfold treeF at hx
  split at hx
  ·rename_i t ht
   exact runT_kinds ops ht
  cases hx
 have hf := flat_of_treeF (fun o ho => opB_can (h.1 o ho) (hk o ho).1 (hk o ho).2) hx
 exact ⟨x, hx, hf.symm, okT_flat x (by rw [hf]; exact h.1)⟩
theorem len_le_sum {bs : List (List Op)} {i : Nat} : (bs.getD i []).length ≤ sumOps bs := by
 induction bs generalizing i with
 | nil => simp [sumOps]
 | cons b bs ih =>
  have : sumOps (b :: bs) = b.length + sumOps bs := by simp [sumOps]
  rw [this]
  cases i with
  | zero => simp
  | succ i => have := ih (i := i); simp only [List.getD_cons_succ]; omega
theorem Valid.nice {Rs : List Ru} {Ls : List La} (h : Valid Rs Ls) : Nice Rs Ls := by
 refine ⟨h.r2, h.l2, fun i hi => ?_⟩
 rw [tr_trees hi]
 have hlen : (bodyN Rs Ls i).length ≤ 2000 := Nat.le_trans len_le_sum h.ops
 rcases Nat.lt_or_ge i Rs.length with hr | hr
 ·obtain ⟨x, h1, h2, h3⟩ := body_tree (h.rules i hr).body
  rw [← bodyN_ru (Ls := Ls) hr] at h1 h2
  exact .inr ⟨x, h1, h2, h3, by rw [← h2]; exact hlen⟩
 obtain ⟨j, rfl⟩ : ∃ j, i = Rs.length + j := ⟨i - Rs.length, by omega⟩
 have hj : j < Ls.length := by omega
 have hb := h.labels j hj
 cases hh : (la Ls j).f1 with
 | true =>
  obtain ⟨x, h1, h2, h3⟩ := body_tree (hb.body hh)
  rw [← bodyN_la (Rs := Rs) hj] at h1 h2
  exact .inr ⟨x, h1, h2, h3, by rw [← h2]; exact hlen⟩
 | false =>
  have := List.length_eq_zero_iff.1 (hb.none hh)
  rw [← bodyN_la (Rs := Rs) hj] at this
  rw [this]
  exact .inl ⟨rfl, rfl⟩
theorem okT_occ {R L : Nat} : ∀ (x : Tr), okT R L x → ∀ k ∈ occ R x, k < R + L
 | .emp, _, k, hk => by cases hk
 | .set _, _, k, hk => by cases hk
 | .ref n, h, k, hk => by
  rw [List.mem_singleton.1 hk]
  have h1 : (0 : Int) ≤ n := h.1
  have h2 : n < (R : Int) := h.2
  omega
 | .thr n, h, k, hk => by
  rw [List.mem_singleton.1 hk]
  have h1 : (0 : Int) ≤ n := h.1
  have h2 : n < (L : Int) := h.2
  omega
 | .seq l r, h, k, hk => (List.mem_append.1 hk).elim (okT_occ l h.1 k) (okT_occ r h.2 k)
 | .alt l r, h, k, hk => (List.mem_append.1 hk).elim (okT_occ l h.1 k) (okT_occ r h.2 k)
 | .star x, h, k, hk => okT_occ x h k hk
 | .neg x, h, k, hk => okT_occ x h k hk
theorem Nice.okTs {Rs : List Ru} {Ls : List La} (h : Nice Rs Ls) : okTs Rs.length (trees Rs Ls) := by
 intro i hi k hk
 rw [len_trees] at hi ⊢
 rcases h.body i hi with ⟨_, h2⟩ | ⟨x, h1, _, h3, _⟩
 ·rw [h2] at hk; cases hk
 rw [h1] at hk
 exact okT_occ x h3 k hk
theorem occ_len {R : Nat} : ∀ (x : Tr), (occ R x).length ≤ (flat x).length
 | .emp => by simp [occ, flat]
 | .set _ => by simp [occ, flat]
 | .ref n => by simp [occ, flat]
 | .thr n => by simp [occ, flat]
 | .seq l r => by have := occ_len (R := R) l; have := occ_len (R := R) r; simp [occ, flat]; omega
 | .alt l r => by have := occ_len (R := R) l; have := occ_len (R := R) r; simp [occ, flat]; omega
 | .star x => by have := occ_len (R := R) x; simp [occ, flat]; omega
 | .neg x => by have := occ_len (R := R) x; simp [occ, flat]; omega
theorem Nice.occ_sum {Rs : List Ru} {Ls : List La} (h : Nice Rs Ls) : ∀ i, i ≤ Rs.length + Ls.length → occSum Rs.length (trees Rs Ls) i ≤ i * 2000
 | 0, _ => Nat.zero_le _
 | i + 1, hi => by
  have ih := h.occ_sum i (by omega)
  have : (occO Rs.length (tr (trees Rs Ls) i)).length ≤ 2000 := by
   rcases h.body i (by omega) with ⟨_, h2⟩ | ⟨x, h1, _, _, h4⟩
   ·rw [h2]; exact Nat.zero_le _
   rw [h1]; exact Nat.le_trans (occ_len x) h4
  rw [occSum]
  omega
section
variable {Rs : List Ru} {Ls : List La}
theorem nodes_f (h : Nice Rs Ls) : spec_l3nodes.f Rs Ls = some ((Rs.length + Ls.length : Nat) : Int) := by
 have := h.r
 have := h.l
 rw [spec_l3nodes.f, wid (by omega) (by omega)]
 congr 1
theorem body_f (h : Nice Rs Ls) {i : Nat} (hi : i < Rs.length + Ls.length) : spec_l3body.f Rs Ls (i : Int) = some (bodyN Rs Ls i) := by
 have := h.r
 have := h.l
 rw [spec_l3body.f]
 by_cases hr : i < Rs.length
 ·rw [if_pos (by omega), if_pos (by omega), bodyN_ru hr]
 obtain ⟨j, rfl⟩ : ∃ j, i = Rs.length + j := ⟨i - Rs.length, by omega⟩
 have e : ((Rs.length + j : Nat) : Int) - (Rs.length : Int) = (j : Int) := by omega
 rw [if_neg (by omega), e, wid (by omega) (by omega), if_pos (by omega), if_pos (by omega), bodyN_la (by omega)]
theorem null_body (h : Nice Rs Ls) {m : List Bool} (hm : m.length = Rs.length + Ls.length) {i : Nat} (hi : i < Rs.length + Ls.length) {k : Nat} (hk : 8010 ≤ k) : spec_l3null.f k Rs Ls (bodyN Rs Ls i) m = some (nullO Rs.length m (tr (trees Rs Ls) i)) := by
 have := h.r
 have := h.l
 rcases h.body i hi with ⟨h1, h2⟩ | ⟨x, h1, h2, h3, h4⟩
 ·rw [h1, h2]
  obtain ⟨j, rfl⟩ : ∃ j, k = j + 1 := ⟨k - 1, by omega⟩
  rw [spec_l3null.f]
  rfl
 rw [h1, h2]
 exact l3null_flat Rs Ls m (by omega) (by omega) hm x k h3 (by omega) (by omega)
theorem set_take {m q : List Bool} {i : Nat} (hm : m.length = q.length) (hi : i < q.length) (ht : m.take i = q.take i) : (m.set i (mkd q i)).take (i + 1) = q.take (i + 1) := by
 rw [List.take_succ_eq_append_getElem (by rw [List.length_set, hm]; exact hi), List.take_succ_eq_append_getElem hi, List.take_set_of_le (Nat.le_refl i), ht, List.getElem_set_self]
 simp [mkd, List.getD_eq_getElem?_getD, hi]
theorem null_l1 (h : Nice Rs Ls) {m : List Bool} (hm : m.length = Rs.length + Ls.length) : ∀ (d k i : Nat) (next : List Bool) (r : Int), i + d = Rs.length + Ls.length → 8010 ≤ k → next.length = Rs.length + Ls.length → next.take i = (roundM Rs.length (trees Rs Ls) m).take i →
 spec_l3nullable.l1 (k + d + 1) ((Rs.length + Ls.length : Nat) : Int) m r next (i : Int) Rs Ls = spec_l3nullable.l0 k ((Rs.length + Ls.length : Nat) : Int) (roundM Rs.length (trees Rs Ls) m) (wrap64 (r + 1)) Rs Ls
 | 0, k, i, next, r, h1, h2, h3, h4 => by
  have hq : (roundM Rs.length (trees Rs Ls) m).length = Rs.length + Ls.length := by rw [roundM, List.length_map, len_trees]
  have e : next = roundM Rs.length (trees Rs Ls) m := by
   rw [List.take_of_length_le (by omega), List.take_of_length_le (by omega)] at h4
   exact h4
  rw [spec_l3nullable.l1, if_neg (by omega), e]
 | d + 1, k, i, next, r, h1, h2, h3, h4 => by
  have hr := h.r
  have hl := h.l
  have hq : (roundM Rs.length (trees Rs Ls) m).length = Rs.length + Ls.length := by rw [roundM, List.length_map, len_trees]
  rw [← Nat.add_assoc, spec_l3nullable.l1, if_pos (by omega), body_f h (by omega), Option.bind_some, null_body h hm (by omega) (by omega), Option.bind_some, if_pos (by omega), if_pos (by omega), wid (x := (i : Int) + 1) (by omega) (by omega), Int.toNat_natCast]
  have hs := set_take (m := next) (q := roundM Rs.length (trees Rs Ls) m) (i := i) (by omega) (by omega) h4
  rw [mkd_round (by rw [len_trees]; omega)] at hs
  exact null_l1 h hm d k (i + 1) _ r (by omega) h2 (by rw [List.length_set]; exact h3) hs
theorem null_l0 (h : Nice Rs Ls) : ∀ (d k r : Nat), r + d = Rs.length + Ls.length → 8010 ≤ k →
 spec_l3nullable.l0 (k + d * (Rs.length + Ls.length + 2) + 1) ((Rs.length + Ls.length : Nat) : Int) (iterM Rs.length (trees Rs Ls) r) (r : Int) Rs Ls = some (nullF Rs.length (trees Rs Ls))
 | 0, k, r, h1, h2 => by
  rw [spec_l3nullable.l0, if_neg (by omega), nullF, len_trees]
  rw [show r = Rs.length + Ls.length by omega]
 | d + 1, k, r, h1, h2 => by
  have hr := h.r
  have hl := h.l
  have hm : (iterM Rs.length (trees Rs Ls) r).length = Rs.length + Ls.length := by rw [len_iter, len_trees]
  rw [spec_l3nullable.l0, if_pos (by omega), if_pos (by omega), if_pos (by omega), Int.toNat_natCast]
  have e : k + (d + 1) * (Rs.length + Ls.length + 2) = (k + d * (Rs.length + Ls.length + 2) + 1) + (Rs.length + Ls.length) + 1 := by rw [Nat.add_mul]; omega
  rw [e]
  have := null_l1 h hm (Rs.length + Ls.length) (k + d * (Rs.length + Ls.length + 2) + 1) 0 (List.replicate (Rs.length + Ls.length) false) (r : Int) (by omega) (by omega) List.length_replicate (by rw [List.take_zero, List.take_zero])
  refine Eq.trans this ?_
  rw [wid (by omega) (by omega)]
  exact null_l0 h d k (r + 1) (by omega) h2
theorem nullable_f (h : Nice Rs Ls) : spec_l3nullable.f 60000 Rs Ls = some (nullF Rs.length (trees Rs Ls)) := by
 have hr := h.r
 have hl := h.l
 have hn : (Rs.length + Ls.length) * (Rs.length + Ls.length + 2) ≤ 200 * 202 := Nat.mul_le_mul (by omega) (by omega)
 rw [spec_l3nullable.f, nodes_f h, Option.bind_some, if_pos (by omega), if_pos (by omega), Int.toNat_natCast]
 obtain ⟨k, hk⟩ : ∃ k, 60000 = k + (Rs.length + Ls.length) * (Rs.length + Ls.length + 2) + 1 := ⟨60000 - (Rs.length + Ls.length) * (Rs.length + Ls.length + 2) - 1, by omega⟩
 have := null_l0 h (Rs.length + Ls.length) k 0 (by omega) (by omega)
 rw [← hk] at this
 rw [← this]
 rw [iterM, len_trees]
 rfl
end
end Go.Proofs.Ytdiilocgjnlmiaa.Tre
end
section
namespace Go.Proofs.Ytdiilocgjnlmiaa.Tre
open Go.RowKit Go.Proofs.YtdiilocgjnlmiaaW.PrintWords Go.Proofs.YtdiilocgjnlmiaaW.PrintLast Go.Proofs.YtdiilocgjnlmiaaW.PrintMore
open Go.Proofs.Ytdiilocgjnlmiaa.PAll
set_option linter.unusedVariables false
set_option linter.unusedSimpArgs false
structure MkV (W : World) (A : Option Addr) (c : Nat) (m : List Bool) : Prop where
 cells : Kd.C Kd.bool W A m.length m
 cap : m.length ≤ c
theorem MkV.below {W W' : World} {A : Option Addr} {c : Nat} {m : List Bool} (h : MkV W A c m) (hb : Below W.heap.size W W') : MkV W' A c m := ⟨Kd.C_below h.cells hb, h.cap⟩
theorem MkV.at {W : World} {A : Option Addr} {c : Nat} {m : List Bool} (h : MkV W A c m) {i : Nat} (hi : i < m.length) : ∃ ad, A = some ad ∧ W.cell? (ad.add i) = some (.bool (mkd m i)) := by
 obtain ⟨ad, e, hc⟩ := Kd.at_bool h.cells (i : Int) (by omega) (by omega)
 rw [rdOf_mkd rfl] at hc
 exact ⟨ad, e, by simpa using hc⟩
theorem ta_gen {P : Program} (S X : TypeId) (ut : TypeDesc) (hu : P.underlying S = some ut) (hni : ∀ ms, ut ≠ .interface ms) (z : Value) (hz : ∀ w, (zeroValue S).run P w = .ok z w) (T : TypeId) (u : Value) (w : World) :
 (Instr.typeAssert (.iface T u) X S true).run P w = .ok (if T = S then .tuple #[u, .bool true] else .tuple #[z, .bool false]) w := by
 unfold Instr.typeAssert
 simp only [Sem.run_bind, run_underlying hu, Result.andThen_ok]
 cases ut <;> first | (exact absurd rfl (hni _)) | skip
 all_goals
  by_cases h : T = S
  ·simp [h]
  simp [h, hz]
theorem ta_nil {P : Program} (S X : TypeId) (ut : TypeDesc) (hu : P.underlying S = some ut) (hni : ∀ ms, ut ≠ .interface ms) (z : Value) (hz : ∀ w, (zeroValue S).run P w = .ok z w) (w : World) :
 (Instr.typeAssert .nilIface X S true).run P w = .ok (.tuple #[z, .bool false]) w := by
 unfold Instr.typeAssert
 simp only [Sem.run_bind, run_underlying hu, Result.andThen_ok]
 cases ut <;> first | (exact absurd rfl (hni _)) | skip
 all_goals simp [hz]
theorem ta_set (T : TypeId) (u : Value) (w : World) : (Instr.typeAssert (.iface T u) 127 200 true).run Try.prog w = .ok (if T = 200 then .tuple #[u, .bool true] else .tuple #[.agg #[.slice none 0 0], .bool false]) w :=
 ta_gen _ _ _ Try.underlying200 (by intro ms h; cases h) _ (fun _ => by kernel_rfl) T u w
theorem tn_set (w : World) : (Instr.typeAssert .nilIface 127 200 true).run Try.prog w = .ok (.tuple #[.agg #[.slice none 0 0], .bool false]) w :=
 ta_nil _ _ _ Try.underlying200 (by intro ms h; cases h) _ (fun _ => by kernel_rfl) w
theorem ta_ref (T : TypeId) (u : Value) (w : World) : (Instr.typeAssert (.iface T u) 127 202 true).run Try.prog w = .ok (if T = 202 then .tuple #[u, .bool true] else .tuple #[.agg #[.int .i64 0], .bool false]) w :=
 ta_gen _ _ _ Try.underlying202 (by intro ms h; cases h) _ (fun _ => by kernel_rfl) T u w
theorem tn_ref (w : World) : (Instr.typeAssert .nilIface 127 202 true).run Try.prog w = .ok (.tuple #[.agg #[.int .i64 0], .bool false]) w :=
 ta_nil _ _ _ Try.underlying202 (by intro ms h; cases h) _ (fun _ => by kernel_rfl) w
theorem ta_thr (T : TypeId) (u : Value) (w : World) : (Instr.typeAssert (.iface T u) 127 204 true).run Try.prog w = .ok (if T = 204 then .tuple #[u, .bool true] else .tuple #[.agg #[.int .i64 0], .bool false]) w :=
 ta_gen _ _ _ Try.underlying204 (by intro ms h; cases h) _ (fun _ => by kernel_rfl) T u w
theorem tn_thr (w : World) : (Instr.typeAssert .nilIface 127 204 true).run Try.prog w = .ok (.tuple #[.agg #[.int .i64 0], .bool false]) w :=
 ta_nil _ _ _ Try.underlying204 (by intro ms h; cases h) _ (fun _ => by kernel_rfl) w
theorem ta_seq (T : TypeId) (u : Value) (w : World) : (Instr.typeAssert (.iface T u) 127 189 true).run Try.prog w = .ok (if T = 189 then .tuple #[u, .bool true] else .tuple #[.agg #[.nilIface, .nilIface], .bool false]) w :=
 ta_gen _ _ _ Try.underlying189 (by intro ms h; cases h) _ (fun _ => by kernel_rfl) T u w
theorem tn_seq (w : World) : (Instr.typeAssert .nilIface 127 189 true).run Try.prog w = .ok (.tuple #[.agg #[.nilIface, .nilIface], .bool false]) w :=
 ta_nil _ _ _ Try.underlying189 (by intro ms h; cases h) _ (fun _ => by kernel_rfl) w
theorem ta_alt (T : TypeId) (u : Value) (w : World) : (Instr.typeAssert (.iface T u) 127 190 true).run Try.prog w = .ok (if T = 190 then .tuple #[u, .bool true] else .tuple #[.agg #[.nilIface, .nilIface], .bool false]) w :=
 ta_gen _ _ _ Try.underlying190 (by intro ms h; cases h) _ (fun _ => by kernel_rfl) T u w
theorem tn_alt (w : World) : (Instr.typeAssert .nilIface 127 190 true).run Try.prog w = .ok (.tuple #[.agg #[.nilIface, .nilIface], .bool false]) w :=
 ta_nil _ _ _ Try.underlying190 (by intro ms h; cases h) _ (fun _ => by kernel_rfl) w
theorem ta_star (T : TypeId) (u : Value) (w : World) : (Instr.typeAssert (.iface T u) 127 192 true).run Try.prog w = .ok (if T = 192 then .tuple #[u, .bool true] else .tuple #[.agg #[.nilIface], .bool false]) w :=
 ta_gen _ _ _ Try.underlying192 (by intro ms h; cases h) _ (fun _ => by kernel_rfl) T u w
theorem tn_star (w : World) : (Instr.typeAssert .nilIface 127 192 true).run Try.prog w = .ok (.tuple #[.agg #[.nilIface], .bool false]) w :=
 ta_nil _ _ _ Try.underlying192 (by intro ms h; cases h) _ (fun _ => by kernel_rfl) w
theorem ta_neg (T : TypeId) (u : Value) (w : World) : (Instr.typeAssert (.iface T u) 127 193 true).run Try.prog w = .ok (if T = 193 then .tuple #[u, .bool true] else .tuple #[.agg #[.nilIface], .bool false]) w :=
 ta_gen _ _ _ Try.underlying193 (by intro ms h; cases h) _ (fun _ => by kernel_rfl) T u w
theorem tn_neg (w : World) : (Instr.typeAssert .nilIface 127 193 true).run Try.prog w = .ok (.tuple #[.agg #[.nilIface], .bool false]) w :=
 ta_nil _ _ _ Try.underlying193 (by intro ms h; cases h) _ (fun _ => by kernel_rfl) w
theorem cell_lt {W : World} {a : Addr} {v : Value} (h : W.cell? a = some v) : a.block < W.heap.size := by
 unfold World.cell? at h
 cases hb : W.heap[a.block]? with
 | none => rw [hb] at h; cases h
 | some o => exact (Array.getElem?_eq_some_iff.1 hb).1
set_option maxRecDepth 100000 in
set_option maxHeartbeats 8000000 in
theorem nullT_in (R L : Nat) (m : List Bool) (Am : Option Addr) (cm : Nat) (hml : Aside0 (m.length = R + L)) (hR : R ≤ 100) (hL : L ≤ 100) (gA : Option Addr) (gn gc : Nat) : ∀ (t : Tr) (w : World) (v : Value), TrV w t v → okT R L t → MkV w Am cm m →
 Calls Try.prog 127 #[.agg #[.slice gA gn gc, .int .i64 (R : Int)], v, .slice Am m.length cm] w (BoolPost w (nullT R m t)) := by
 intro t
 induction t with
 | emp =>
  intro w v hv hok hm
  obtain rfl := hv
  have a1 := ta_set; have a2 := ta_ref; have a3 := ta_thr; have a4 := ta_seq; have a5 := ta_alt
  go_enter Try.func127, Try.ntmps127
  go_wp2_with fail
  go_ret
  exact ⟨rfl, below_alloc (Below.refl _ _) _⟩
 | set s =>
  intro w v hv hok hm
  obtain ⟨A, c, rfl, _⟩ := hv
  have a1 := ta_set; have a2 := ta_ref; have a3 := ta_thr; have a4 := ta_seq; have a5 := ta_alt
  go_enter Try.func127, Try.ntmps127
  go_wp2_with fail
  go_ret
  exact ⟨rfl, below_alloc (Below.refl _ _) _⟩
 | ref n =>
  intro w v hv hok hm
  obtain rfl := hv
  obtain ⟨k, rfl⟩ : ∃ k : Nat, n = (k : Int) := ⟨n.toNat, (Int.toNat_of_nonneg hok.1).symm⟩
  have hk : (k : Int) < (R : Int) := hok.2
  have hml' := hml.out
  obtain ⟨ad, rfl, x0⟩ := hm.at (i := k) (by omega)
  have lb := cell_lt x0
  have e1 : (0 ≤ (k : Int)) = True := eq_true (by omega)
  have e2 : ((k : Int) < (m.length : Int)) = True := eq_true (by omega)
  clear hm hok hml'
  have a1 := ta_set; have a2 := ta_ref; have a3 := ta_thr; have a4 := ta_seq; have a5 := ta_alt
  go_enter Try.func127, Try.ntmps127
  go_wp2_with fail
  go_ret
  exact ⟨rfl, below_alloc (below_alloc (Below.refl _ _) _) _⟩
 | thr n =>
  intro w v hv hok hm
  obtain rfl := hv
  obtain ⟨k, rfl⟩ : ∃ k : Nat, n = (k : Int) := ⟨n.toNat, (Int.toNat_of_nonneg hok.1).symm⟩
  have hk : (k : Int) < (L : Int) := hok.2
  have hml' := hml.out
  obtain ⟨ad, rfl, x0⟩ := hm.at (i := R + k) (by omega)
  have lb := cell_lt x0
  have ew := wid (x := (R : Int) + (k : Int)) (by omega) (by omega)
  have e1 : (0 ≤ (R : Int) + (k : Int)) = True := eq_true (by omega)
  have e2 : ((R : Int) + (k : Int) < (m.length : Int)) = True := eq_true (by omega)
  have e3 : ((R : Int) + (k : Int)).toNat = R + k := by omega
  clear hm hok hml'
  have a1 := ta_set; have a2 := ta_ref; have a3 := ta_thr; have a4 := ta_seq; have a5 := ta_alt
  go_enter Try.func127, Try.ntmps127
  go_wp2_with fail
  go_ret
  exact ⟨rfl, below_alloc (below_alloc (Below.refl _ _) _) _⟩
 | star x ih =>
  intro w v hv hok hm
  obtain ⟨a, rfl, _⟩ := hv
  have a1 := ta_set; have a2 := ta_ref; have a3 := ta_thr; have a4 := ta_seq; have a5 := ta_alt
  go_enter Try.func127, Try.ntmps127
  go_wp2_with fail
  go_ret
  exact ⟨rfl, below_alloc (Below.refl _ _) _⟩
 | neg x ih =>
  intro w v hv hok hm
  obtain ⟨a, rfl, _⟩ := hv
  have a1 := ta_set; have a2 := ta_ref; have a3 := ta_thr; have a4 := ta_seq; have a5 := ta_alt
  go_enter Try.func127, Try.ntmps127
  go_wp2_with fail
  go_ret
  exact ⟨rfl, below_alloc (Below.refl _ _) _⟩
 | seq l r ihl ihr =>
  intro w v hv hok hm
  obtain ⟨a, b, rfl, hl, hr⟩ := hv
  obtain ⟨Ta, ua, rfl⟩ := hl.iface
  obtain ⟨Tb, ub, rfl⟩ := hr.iface
  have B0 : ((w.alloc (.cells #[.slice gA gn gc, .int .i64 (R : Int)] 116)).alloc (.cells #[.iface Ta ua, .iface Tb ub] 189)).heap[w.heap.size]? = some (.cells #[.slice gA gn gc, .int .i64 (R : Int)] 116 (0, 0)) := blk_alloc (blk_new _ _) _
  have B1 : ((w.alloc (.cells #[.slice gA gn gc, .int .i64 (R : Int)] 116)).alloc (.cells #[.iface Ta ua, .iface Tb ub] 189)).heap[w.heap.size + 1]? = some (.cells #[.iface Ta ua, .iface Tb ub] 189 (0, 0)) := by
   have := blk_new (w.alloc (.cells #[.slice gA gn gc, .int .i64 (R : Int)] 116)) (.cells #[.iface Ta ua, .iface Tb ub] 189)
   rwa [World.size_alloc] at this
  have hW : Below w.heap.size w ((w.alloc (.cells #[.slice gA gn gc, .int .i64 (R : Int)] 116)).alloc (.cells #[.iface Ta ua, .iface Tb ub] 189)) := below_alloc (below_alloc (Below.refl _ _) _) _
  have HL := Aside0.mk (hl.below hW)
  have HR := Aside0.mk (hr.below hW)
  have HM := Aside0.mk (hm.below hW)
  have HOK := Aside0.mk hok
  have HW := Aside0.mk hW
  have HB0 := Aside0.mk B0
  have HB1 := Aside0.mk B1
  clear hl hr hm hok hW B0 B1
  have a1 := ta_set; have a2 := ta_ref; have a3 := ta_thr; have a4 := ta_seq; have a5 := ta_alt
  cases hn : nullT R m l with
  | false =>
   go_enter Try.func127, Try.ntmps127
   go_wp2_with (go_at_call 127; refine (ihl _ _ HL.out HOK.out.1 HM.out).mono ?_; go_must (rintro e W1 ⟨rfl, hb⟩; rw [hn]; have HX := Aside0.mk hb; have q0 := blk_cell (blk_below HB0.out hb) 0; have q1 := blk_cell (blk_below HB0.out hb) 1; have q2 := blk_cell (blk_below HB1.out hb) 0; have q3 := blk_cell (blk_below HB1.out hb) 1; clear hb))
   go_ret
   exact ⟨by rw [nullT, hn]; rfl, below_then HW.out HW.out.size HX.out⟩
  | true =>
   go_enter Try.func127, Try.ntmps127
   go_wp2_with (first | (go_at_call 127; refine (ihr _ _ (HR.out.below HX.out) HOK.out.2 (HM.out.below HX.out)).mono ?_; go_must (rintro e W2 ⟨rfl, hb⟩; have HY := Aside0.mk hb; clear hb)) | (go_at_call 127; refine (ihl _ _ HL.out HOK.out.1 HM.out).mono ?_; go_must (rintro e W1 ⟨rfl, hb⟩; rw [hn]; have HX := Aside0.mk hb; have q0 := blk_cell (blk_below HB0.out hb) 0; have q1 := blk_cell (blk_below HB0.out hb) 1; have q2 := blk_cell (blk_below HB1.out hb) 0; have q3 := blk_cell (blk_below HB1.out hb) 1; clear hb)))
   go_ret
   exact ⟨by rw [nullT, hn]; rfl, below_then (below_then HW.out HW.out.size HX.out) (Nat.le_trans HW.out.size HX.out.size) HY.out⟩
 | alt l r ihl ihr =>
  intro w v hv hok hm
  obtain ⟨a, b, rfl, hl, hr⟩ := hv
  obtain ⟨Ta, ua, rfl⟩ := hl.iface
  obtain ⟨Tb, ub, rfl⟩ := hr.iface
  have B0 : ((w.alloc (.cells #[.slice gA gn gc, .int .i64 (R : Int)] 116)).alloc (.cells #[.iface Ta ua, .iface Tb ub] 190)).heap[w.heap.size]? = some (.cells #[.slice gA gn gc, .int .i64 (R : Int)] 116 (0, 0)) := blk_alloc (blk_new _ _) _
  have B1 : ((w.alloc (.cells #[.slice gA gn gc, .int .i64 (R : Int)] 116)).alloc (.cells #[.iface Ta ua, .iface Tb ub] 190)).heap[w.heap.size + 1]? = some (.cells #[.iface Ta ua, .iface Tb ub] 190 (0, 0)) := by
   have := blk_new (w.alloc (.cells #[.slice gA gn gc, .int .i64 (R : Int)] 116)) (.cells #[.iface Ta ua, .iface Tb ub] 190)
   rwa [World.size_alloc] at this
  have hW : Below w.heap.size w ((w.alloc (.cells #[.slice gA gn gc, .int .i64 (R : Int)] 116)).alloc (.cells #[.iface Ta ua, .iface Tb ub] 190)) := below_alloc (below_alloc (Below.refl _ _) _) _
  have HL := Aside0.mk (hl.below hW)
  have HR := Aside0.mk (hr.below hW)
  have HM := Aside0.mk (hm.below hW)
  have HOK := Aside0.mk hok
  have HW := Aside0.mk hW
  have HB0 := Aside0.mk B0
  have HB1 := Aside0.mk B1
  clear hl hr hm hok hW B0 B1
  have a1 := ta_set; have a2 := ta_ref; have a3 := ta_thr; have a4 := ta_seq; have a5 := ta_alt
  cases hn : nullT R m l with
  | true =>
   go_enter Try.func127, Try.ntmps127
   go_wp2_with (go_at_call 127; refine (ihl _ _ HL.out HOK.out.1 HM.out).mono ?_; go_must (rintro e W1 ⟨rfl, hb⟩; rw [hn]; have HX := Aside0.mk hb; have q0 := blk_cell (blk_below HB0.out hb) 0; have q1 := blk_cell (blk_below HB0.out hb) 1; have q2 := blk_cell (blk_below HB1.out hb) 0; have q3 := blk_cell (blk_below HB1.out hb) 1; clear hb))
   go_ret
   exact ⟨by rw [nullT, hn]; rfl, below_then HW.out HW.out.size HX.out⟩
  | false =>
   go_enter Try.func127, Try.ntmps127
   go_wp2_with (first | (go_at_call 127; refine (ihr _ _ (HR.out.below HX.out) HOK.out.2 (HM.out.below HX.out)).mono ?_; go_must (rintro e W2 ⟨rfl, hb⟩; have HY := Aside0.mk hb; clear hb)) | (go_at_call 127; refine (ihl _ _ HL.out HOK.out.1 HM.out).mono ?_; go_must (rintro e W1 ⟨rfl, hb⟩; rw [hn]; have HX := Aside0.mk hb; have q0 := blk_cell (blk_below HB0.out hb) 0; have q1 := blk_cell (blk_below HB0.out hb) 1; have q2 := blk_cell (blk_below HB1.out hb) 0; have q3 := blk_cell (blk_below HB1.out hb) 1; clear hb)))
   go_ret
   exact ⟨by rw [nullT, hn]; rfl, below_then (below_then HW.out HW.out.size HX.out) (Nat.le_trans HW.out.size HX.out.size) HY.out⟩
def OV (W : World) : Option Tr → Value → Prop
 | none, v => v = .nilIface
 | some t, v => TrV W t v
theorem OV.below {W W' : World} {o : Option Tr} {v : Value} (h : OV W o v) (hb : Below W.heap.size W W') : OV W' o v := by
 cases o with
 | none => exact h
 | some t => exact TrV.below hb h
theorem OV.one {W : World} {o : Option Tr} {v : Value} (h : OV W o v) : v = .nilIface ∨ ∃ T u, v = .iface T u := by
 cases o with
 | none => exact .inl h
 | some t => exact .inr (TrV.iface h)
set_option maxRecDepth 100000 in
set_option maxHeartbeats 8000000 in
theorem nullO_in {R L : Nat} {m : List Bool} {Am : Option Addr} {cm : Nat} (hml : Aside0 (m.length = R + L)) (hR : R ≤ 100) (hL : L ≤ 100) (gA : Option Addr) (gn gc : Nat) {o : Option Tr} {w : World} {v : Value} (hv : OV w o v) (hok : okO R L o) (hm : MkV w Am cm m) :
 Calls Try.prog 127 #[.agg #[.slice gA gn gc, .int .i64 (R : Int)], v, .slice Am m.length cm] w (BoolPost w (nullO R m o)) := by
 cases o with
 | some t => exact nullT_in R L m Am cm hml hR hL gA gn gc t w v hv (hok t rfl) hm
 | none =>
  obtain rfl := hv
  clear hm hml hok
  have a1 := tn_set
  go_enter Try.func127, Try.ntmps127
  go_wp2_with fail
  go_ret
  exact ⟨rfl, below_alloc (Below.refl _ _) _⟩
end Go.Proofs.Ytdiilocgjnlmiaa.Tre
end
section
namespace Go.Proofs.Ytdiilocgjnlmiaa.Tre
open Go.RowKit Go.Proofs.YtdiilocgjnlmiaaW.PrintWords Go.Proofs.YtdiilocgjnlmiaaW.PrintLast Go.Proofs.YtdiilocgjnlmiaaW.PrintMore
open Go.Proofs.Ytdiilocgjnlmiaa.PAll
set_option linter.unusedVariables false
set_option linter.unusedSimpArgs false
def TsL (W : World) (ts : List (Option Tr)) (i : Nat) (xs : List Value) : Prop := ∀ j, j < i → ∃ u, xs[j]? = some u ∧ OV W (tr ts j) u
theorem TsL.below {W W' : World} {ts : List (Option Tr)} {i : Nat} {xs : List Value} (h : TsL W ts i xs) (hb : Below W.heap.size W W') : TsL W' ts i xs := fun j hj => by
 obtain ⟨u, h1, h2⟩ := h j hj
 exact ⟨u, h1, h2.below hb⟩
structure TsV (W : World) (A : Option Addr) (c : Nat) (ts : List (Option Tr)) : Prop where
 get : ∀ j, j < ts.length → ∃ ad u, A = some ad ∧ W.cell? (ad.add j) = some u ∧ OV W (tr ts j) u
 cap : ts.length ≤ c
theorem TsV.below {W W' : World} {A : Option Addr} {c : Nat} {ts : List (Option Tr)} (h : TsV W A c ts) (hb : Below W.heap.size W W') : TsV W' A c ts := ⟨fun j hj => by
 obtain ⟨ad, u, h1, h2, h3⟩ := h.get j hj
 exact ⟨ad, u, h1, pw_cell_below hb h2, h3.below hb⟩, h.cap⟩
theorem own_get {W : World} {B : Nat} {t : TypeId} {A : Option Addr} {n c : Nat} {xs : List Value} (h : W.ownsRow B t 1 (.slice A n c) n xs) {j : Nat} {u : Value} (hu : xs[j]? = some u) : ∃ ad, A = some ad ∧ W.cell? (ad.add j) = some u := by
 have hl := h.1
 have hj : j < xs.length := (List.getElem?_eq_some_iff.1 hu).1
 rcases h.2 with ⟨_, h0⟩ | ⟨g, cap, cur, e, _⟩
 ·omega
 injection e with e1 e2 e3
 subst e1
 exact ⟨_, rfl, h.cells (g := g) rfl j u hu⟩
theorem own_cap {W : World} {B : Nat} {t : TypeId} {sz : Nat} {A : Option Addr} {n c : Nat} {xs : List Value} (h : W.ownsRow B t sz (.slice A n c) n xs) : n ≤ c := by
 rcases h.2 with ⟨e, h0⟩ | ⟨g, cap, cur, e, _, _, hn, _⟩
 ·omega
 injection e with e1 e2 e3
 omega
theorem ts_of_own {w W : World} {B : Nat} {t : TypeId} {A : Option Addr} {c : Nat} {ts : List (Option Tr)} {xs : List Value} (h : W.ownsRow B t 1 (.slice A ts.length c) ts.length xs) (hr : TsL w ts ts.length xs) (hb : Below w.heap.size w W) : TsV W A c ts :=
 ⟨fun j hj => by
  obtain ⟨u, h1, h2⟩ := hr j hj
  obtain ⟨ad, h3, h4⟩ := own_get h h1
  exact ⟨ad, u, h3, h4, h2.below hb⟩, own_cap h⟩
structure GoSt (w0 w W : World) (B : Nat) (R : Int) (ts : List (Option Tr)) (v : Value) (xs : List Value) (i : Nat) : Prop where
 box : W.heap[B]? = some (.cells #[v, .int .i64 R] 116 (0, 0))
 own : W.ownsRow w.heap.size 127 1 v i xs
 row : TsL w0 ts i xs
 bel : Below w.heap.size w W
theorem GoSt.below {w0 w W W' : World} {B : Nat} {R : Int} {ts : List (Option Tr)} {v : Value} {xs : List Value} {i : Nat} (h : GoSt w0 w W B R ts v xs i) (hb : Below W.heap.size W W') : GoSt w0 w W' B R ts v xs i :=
 ⟨blk_below h.box hb, own_same h.own (fun b _ hl => hb.block b hl), h.row, below_then h.bel h.bel.size hb⟩
theorem gs_append {ops : Array Oper} {rest : List Oper} {o : Oper} {a : Act} {Q : Exit → Act → World → Prop} {w0 w W : World} {B : Nat} {R : Int} {ts : List (Option Tr)} {v x : Value} {xs : List Value} {i : Nat} (hS : GoSt w0 w W B R ts v xs i) (hB : w.heap.size ≤ B) (hx : OV w0 (tr ts i) x)
 (hgd : o.guard = none) (sl y : Operand) (ho : o.op = .call { callee := .builtin .append, args := #[sl, y], argTypes := #[114, 114] })
 (hs : a.eval sl = v) (ob : Obj) (hob : ob = .cells #[x] 127) (c m : Nat) (hy : a.eval y = .slice (some ⟨m, 0, none⟩) 1 c) (hm : m = W.heap.size) (hl : i ≤ 1000)
 (h : ∀ A' c' W', W'.heap[B]? = some (.cells #[v, .int .i64 R] 116 (0, 0)) → Aside0 (GoSt w0 w (W'.setCell ⟨B, 0, none⟩ (.slice A' (i + 1) c')) B R ts (.slice A' (i + 1) c') (xs ++ [x]) (i + 1)) → wpList Try.prog ops Q rest (a.put o.dst (.slice A' (i + 1) c')) W') : wpList Try.prog ops Q (o :: rest) a (W.alloc ob) := by
 obtain ⟨ii, hi, hz, hs1, hby⟩ := info_parts infoE
 have hc1 : x.oneCell' = true := by rcases hx.one with rfl | ⟨T, u, rfl⟩ <;> rfl
 have hxl : xs.length = i := by have := hS.own.1; omega
 subst hob hm
 refine wpList_append_own (W.alloc _) hgd sl y 114 ho w.heap.size 127 ii .nilIface 1 16 Try.underlying114 hi hz hs1 hby rfl (by decide) v _ xs hs (hS.own.alloc _) ⟨W.heap.size, 0, none⟩ 1 c [x] hy rfl ?_ ?_ ?_ ?_ ?_ ?_
 ·intro j u hu
  match j, hu with
  | 0, hu => cases hu; exact (Boxed.new W _ _).cell
  | j + 1, hu => cases hu
 ·intro u hu
  rw [List.mem_singleton] at hu
  rw [hu]; exact hc1
 ·unfold maxLen; omega
 ·omega
 ·have := hS.bel.size; simp; omega
 intro v' w' hown' hgrow _
 obtain ⟨A', c', rfl⟩ : ∃ A' c', v' = .slice A' (i + 1) c' := own_form1 hown'
 have hb1 := blk_alloc hS.box (.cells #[x] 127)
 have ho1 := hS.own.alloc (.cells #[x] 127)
 have hbx : w'.heap[B]? = some (.cells #[v, .int .i64 R] 116 (0, 0)) := blk_grown hb1 hgrow (own_box ho1 hb1 (by decide))
 have hbw : Below w.heap.size w w' := (below_alloc hS.bel _).grown hgrow (by have := hS.bel.size; simp; omega) fun k hk => (hS.own.lt k hk).1
 refine h A' c' w' hbx ⟨blk_put hbx 0 _ rfl, own_set hown' hbx (by decide) 0 _, ?_, hbw.setCell hB _⟩
 intro j hj
 rcases (by omega : j < i ∨ j = i) with h' | rfl
 ·obtain ⟨u, h1, h2⟩ := hS.row j h'
  exact ⟨u, by rw [List.getElem?_append_left (by omega)]; exact h1, h2⟩
 exact ⟨x, by rw [List.getElem?_append_right (by omega), hxl, Nat.sub_self]; rfl, hx⟩
theorem ov_of_post {w0 w w' : World} {ops : List Op} {e : Ending} (h : TreePost w0 w ops e w') : ∃ v b, e = .returned (.tuple #[v, .bool b]) ∧ OV w0 (treeF ops) v ∧ Below w.heap.size w w' := by
 obtain ⟨v, b, h1, h2, _, h4, h5⟩ := h
 refine ⟨v, b, h1, ?_, h2⟩
 cases ht : treeF ops with
 | none => exact h4 ht
 | some t => exact h5 t ht
def GraphPost (w : World) (ts : List (Option Tr)) (R : Nat) (e : Ending) (w' : World) : Prop := ∃ A c, e = .returned (.agg #[.slice A ts.length c, .int .i64 (R : Int)]) ∧ TsV w' A c ts ∧ Below w.heap.size w w'
structure GOK (Rs : List Ru) (Ls : List La) : Prop where
 rt : ∀ i, i < Rs.length → ∃ t, treeF (ru Rs i).f1 = some t
 lt : ∀ j, j < Ls.length → (la Ls j).f1 = true → ∃ t, treeF (la Ls j).f2 = some t
 ln : ∀ j, j < Ls.length → (la Ls j).f1 = false → (la Ls j).f2 = []
theorem Valid.gok {Rs : List Ru} {Ls : List La} (h : Valid Rs Ls) : GOK Rs Ls := by
 refine ⟨fun i hi => ?_, fun j hj hh => ?_, fun j hj hh => List.length_eq_zero_iff.1 ((h.labels j hj).none hh)⟩
 ·obtain ⟨x, h1, _⟩ := body_tree (h.rules i hi).body
  exact ⟨x, h1⟩
 obtain ⟨x, h1, _⟩ := body_tree ((h.labels j hj).body hh)
 exact ⟨x, h1⟩
theorem tr_ru {Rs : List Ru} {Ls : List La} {i : Nat} (hi : i < Rs.length) {t : Tr} (h : treeF (ru Rs i).f1 = some t) : tr (trees Rs Ls) i = some t := by rw [tr_trees (by omega), bodyN_ru hi]; exact h
theorem tr_la {Rs : List Ru} {Ls : List La} {j : Nat} (hj : j < Ls.length) : tr (trees Rs Ls) (Rs.length + j) = treeF (la Ls j).f2 := by rw [tr_trees (by omega), bodyN_la hj]
set_option maxRecDepth 100000 in
set_option maxHeartbeats 8000000 in
theorem graphOf_in (w : World) (A0 A1 : Option Addr) (c0 c1 : Nat) (Rs : List Ru) (Ls : List La) (hr0 : Kd.C k68 w A0 Rs.length Rs) (hc0 : Rs.length ≤ c0) (hr1 : Kd.C k72 w A1 Ls.length Ls) (hc1 : Ls.length ≤ c1) (hok : okG Rs Ls = true) (hR : Rs.length ≤ 100) (hL : Ls.length ≤ 100) (hnb : GOK Rs Ls) :
 Calls Try.prog 80 #[.agg #[.slice A0 Rs.length c0, .slice A1 Ls.length c1]] w (GraphPost w (trees Rs Ls) Rs.length) := by
 have HR0 := Aside0.mk hr0
 have HL0 := Aside0.mk hr1
 have HNB := Aside0.mk hnb
 have HOK := Aside0.mk hok
 have HW2 : Aside0 (Below w.heap.size w ((w.alloc (Obj.cells #[.slice A0 Rs.length c0, .slice A1 Ls.length c1] 31)).alloc (Obj.cells #[.slice none 0 0, .int .i64 0] 116))) := ⟨below_alloc (below_alloc (Below.refl _ _) _) _⟩
 have HS2 : Aside0 (((w.alloc (Obj.cells #[.slice A0 Rs.length c0, .slice A1 Ls.length c1] 31)).alloc (Obj.cells #[.slice none 0 0, .int .i64 0] 116)).heap.size = w.heap.size + 1 + 1) := ⟨by simp⟩
 have HG2 := Aside0.mk (blk_alloc (blk_new w (Obj.cells #[.slice A0 Rs.length c0, .slice A1 Ls.length c1] 31)) (Obj.cells #[.slice none 0 0, .int .i64 0] 116))
 have HQ2 : Aside0 (((w.alloc (Obj.cells #[.slice A0 Rs.length c0, .slice A1 Ls.length c1] 31)).alloc (Obj.cells #[.slice none 0 0, .int .i64 0] 116)).heap[w.heap.size + 1]? = some (Obj.cells #[.slice none 0 0, .int .i64 0] 116 (0, 0))) := ⟨by
  have := blk_new (w.alloc (Obj.cells #[.slice A0 Rs.length c0, .slice A1 Ls.length c1] 31)) (Obj.cells #[.slice none 0 0, .int .i64 0] 116)
  rwa [World.size_alloc] at this⟩
 clear hr0 hr1 hok hnb
 go_enter Try.func80, Try.ntmps80
 go_wp2_with fail
 have hS0 : GoSt w ((w.alloc (Obj.cells #[.slice A0 Rs.length c0, .slice A1 Ls.length c1] 31)).alloc (Obj.cells #[.slice none 0 0, .int .i64 0] 116)) (((w.alloc (Obj.cells #[.slice A0 Rs.length c0, .slice A1 Ls.length c1] 31)).alloc (Obj.cells #[.slice none 0 0, .int .i64 0] 116)).alloc (Obj.cells #[.slice none 0 0, .int .i64 (Rs.length : Int)] 116)) (w.heap.size + 1 + 1) (Rs.length : Int) (trees Rs Ls) (.slice none 0 0) [] 0 :=
  ⟨by rw [← HS2.out]; exact blk_new _ _, own_nil _ _ _ _, fun j hj => absurd hj (Nat.not_lt_zero _), below_alloc (Below.refl _ _) _⟩
 generalize hW2 : (w.alloc (Obj.cells #[.slice A0 Rs.length c0, .slice A1 Ls.length c1] 31)).alloc (Obj.cells #[.slice none 0 0, .int .i64 0] 116) = W2 at *
 clear hW2
 go_loopg [19] (Rs.length + 1) (fun kq v19 W' => ∃ (i : Nat) (v : Value) (xs : List Value), v19 = .int .i64 (i : Int) ∧ Aside0 (i ≤ Rs.length ∧ Rs.length < i + kq) ∧ GoSt w W2 W' (w.heap.size + 1 + 1) (Rs.length : Int) (trees Rs Ls) v xs i)
 case atStart => exact ⟨0, _, _, rfl, ⟨by omega, by omega⟩, hS0⟩
 case round =>
  clear hS0
  obtain ⟨i, v, xs, rfl, HI, hS⟩ := hrel
  obtain ⟨i1, i2⟩ := HI.out
  clear HI
  cases gk with
  | zero => omega
  | succ k1 =>
   by_cases hi : i < Rs.length
   ·have d1 : decide ((i : Int) < (Rs.length : Int)) = true := decide_eq_true (by omega)
    obtain ⟨ad, AN, cN, AB, cB, rfl, x0, x1, y1, y2, y3, y4⟩ := at_T68 HR0.out (i : Int) (by omega) (by omega)
    rw [Int.toNat_natCast] at x0 x1
    have hbw := below_then HW2.out HW2.out.size hS.bel
    replace x0 := pw_cell_below hbw x0
    replace x1 := pw_cell_below hbw x1
    have e2 : (0 ≤ (i : Int)) = True := eq_true (by omega)
    have e3 : ((i : Int) < (Rs.length : Int)) = True := eq_true (by omega)
    obtain ⟨_, ok2⟩ := okG_ru HOK.out hi
    obtain ⟨t, ht⟩ := HNB.out.rt i hi
    have HT := Aside0.mk (tr_ru (Ls := Ls) hi ht)
    change okOps (rd_T68 Rs (i : Int)).f1 = true at ok2
    change treeF (rd_T68 Rs (i : Int)).f1 = some t at ht
    generalize hru : rd_T68 Rs (i : Int) = r at *
    obtain ⟨nm, bd⟩ := r
    simp only at x0 x1 y1 y2 y3 y4 ok2 ht
    clear hru y2
    have HBD := Aside0.mk y4
    have hbl := okOps_len ok2
    have HTF := Aside0.mk ht
    have HBW := Aside0.mk hbw
    have HS := Aside0.mk hS
    clear y4 ok2 ht hbw hS
    have q0 := blk_cell HS.out.box 0
    have q2 := blk_frozen HS.out.box 0
    have lb := blk_lt HS.out.box
    go_wp2_with (first
     | (go_at_call 90; refine (tree_at w _ ⟨below_alloc HBW.out _⟩ AB cB bd HBD.out y3 hbl).mono ?_; go_must (rintro e W3 hp; obtain ⟨u, b, rfl, hu, hb⟩ := ov_of_post hp; rw [HTF.out] at hu; obtain ⟨T, uu, rfl⟩ := TrV.iface hu; have HU := Aside0.mk (show OV w (tr (trees Rs Ls) i) _ from (by rw [HT.out]; exact hu)); have HS3 := Aside0.mk (HS.out.below (below_then (below_alloc (Below.refl _ _) _) (by simp) hb)); have p0 := blk_cell HS3.out.box 0; have p2 := blk_frozen HS3.out.box 0; have lb3 := blk_lt HS3.out.box; clear hp hu hb))
     | ((with_reducible refine gate_dst (N := 33) rfl ?_); go_must (refine gs_append HS3.out (by have := HS2.out; omega) HU.out rfl _ _ rfl rfl _ rfl _ _ rfl (by simp) (by omega) ?_; intro A' c' W4 hbx HN; have z0 := blk_cell hbx 0; have z2 := blk_frozen hbx 0; clear hbx)))
    go_roundg k1
    case measure => omega
    case rel => exact ⟨i + 1, _, _, by first | rfl | (rw [wid (by omega) (by omega)]; simp), ⟨by omega, by omega⟩, HN.out⟩
   have d1 : decide ((i : Int) < (Rs.length : Int)) = false := decide_eq_false (by omega)
   obtain rfl : i = Rs.length := by omega
   have g1 := blk_cell (blk_below HG2.out hS.bel) 1
   have HS := Aside0.mk hS
   clear hS hi
   go_wp2_with fail
   have hS1 := HS.out
   go_loopg [39] (Ls.length + 1) (fun kq v39 W' => ∃ (j : Nat) (v : Value) (xs : List Value), v39 = .int .i64 (j : Int) ∧ Aside0 (j ≤ Ls.length ∧ Ls.length < j + kq) ∧ GoSt w W2 W' (w.heap.size + 1 + 1) (Rs.length : Int) (trees Rs Ls) v xs (Rs.length + j))
   case atStart => exact ⟨0, _, _, rfl, ⟨by omega, by omega⟩, hS1⟩
   case round =>
    clear hS1 HS
    obtain ⟨j, v, xs, rfl, HI, hS⟩ := hrel
    obtain ⟨i1, i2⟩ := HI.out
    clear HI
    cases gk with
    | zero => omega
    | succ k1 =>
     by_cases hj : j < Ls.length
     rotate_left
     ·have d1 : decide ((j : Int) < (Ls.length : Int)) = false := decide_eq_false (by omega)
      obtain rfl : j = Ls.length := by omega
      obtain ⟨Av, cv, rfl⟩ : ∃ A c, v = .slice A (Rs.length + Ls.length) c := own_form1 hS.own
      have r0 := blk_below HQ2.out hS.bel
      have s0 := blk_cell r0 0
      have s1 := blk_cell r0 1
      have s2 := blk_frozen r0 0
      have s3 := blk_frozen r0 1
      have q0 := blk_cell hS.box 0
      have q1 := blk_cell hS.box 1
      have HR0' := Aside0.mk r0
      have HS := Aside0.mk hS
      clear hS hj r0
      go_wp2_with fail
      have b1 := blk_put (cs' := #[.slice Av (Rs.length + Ls.length) cv, .int .i64 0]) HR0'.out 0 (.slice Av (Rs.length + Ls.length) cv) rfl
      refine bodyPost_ret (results_cell_row rfl _ _ (w.heap.size + 1) 116 #[.slice Av (Rs.length + Ls.length) cv, .int .i64 (Rs.length : Int)] (0, 0) _ rfl (blk_put (cs := #[.slice Av (Rs.length + Ls.length) cv, .int .i64 0]) b1 1 _ rfl) Try.underlying116 rfl (by kernel_rfl)) rfl ?_
      have hbF : Below w.heap.size w ((wr.setCell ⟨w.heap.size + 1, 0, none⟩ (.slice Av (Rs.length + Ls.length) cv)).setCell ⟨w.heap.size + 1, 1, none⟩ (.int .i64 (Rs.length : Int))) := ((below_then HW2.out HW2.out.size HS.out.bel).setCell (by simp) _).setCell (by simp) _
      refine ⟨Av, cv, by rw [len_trees], ts_of_own (by rw [len_trees]; exact own_set (own_set HS.out.own HR0'.out (by decide) 0 _) b1 (by decide) 1 _) (by rw [len_trees]; exact HS.out.row) hbF, hbF⟩
     have d1 : decide ((j : Int) < (Ls.length : Int)) = true := decide_eq_true (by omega)
     obtain ⟨ad, AN, cN, AB, cB, rfl, x0, x1, x2, y1, y2, y3, y4⟩ := at_T72 HL0.out (j : Int) (by omega) (by omega)
     rw [Int.toNat_natCast] at x0 x1 x2
     have hbw := below_then HW2.out HW2.out.size hS.bel
     replace x0 := pw_cell_below hbw x0
     replace x1 := pw_cell_below hbw x1
     replace x2 := pw_cell_below hbw x2
     have e2 : (0 ≤ (j : Int)) = True := eq_true (by omega)
     have e3 : ((j : Int) < (Ls.length : Int)) = True := eq_true (by omega)
     obtain ⟨_, ok2⟩ := okG_la HOK.out hj
     have HT := Aside0.mk (tr_la (Rs := Rs) (Ls := Ls) hj)
     have ht1 := HNB.out.lt j hj
     have ht2 := HNB.out.ln j hj
     change okOps (rd_T72 Ls (j : Int)).f2 = true at ok2
     change (rd_T72 Ls (j : Int)).f1 = true → ∃ t, treeF (rd_T72 Ls (j : Int)).f2 = some t at ht1
     change (rd_T72 Ls (j : Int)).f1 = false → (rd_T72 Ls (j : Int)).f2 = [] at ht2
     change Aside0 (tr (trees Rs Ls) (Rs.length + j) = treeF (rd_T72 Ls (j : Int)).f2) at HT
     generalize hru : rd_T72 Ls (j : Int) = r at *
     obtain ⟨nm, has, bd⟩ := r
     simp only at x0 x1 x2 y1 y2 y3 y4 ok2 ht1 ht2
     clear hru y2
     have HBD := Aside0.mk y4
     have hbl := okOps_len ok2
     have HBW := Aside0.mk hbw
     have HS := Aside0.mk hS
     clear y4 ok2 hbw hS
     have q0 := blk_cell HS.out.box 0
     have q2 := blk_frozen HS.out.box 0
     have lb := blk_lt HS.out.box
     cases has with
     | true =>
      obtain ⟨t, ht⟩ := ht1 rfl
      have HTF := Aside0.mk ht
      clear ht1 ht2 ht
      go_wp2_with (first
       | (go_at_call 90; refine (tree_at w _ ⟨below_alloc HBW.out _⟩ AB cB bd HBD.out y3 hbl).mono ?_; go_must (rintro e W3 hp; obtain ⟨u, b, rfl, hu, hb⟩ := ov_of_post hp; rw [HTF.out] at hu; obtain ⟨T, uu, rfl⟩ := TrV.iface hu; have HU := Aside0.mk (show OV w (tr (trees Rs Ls) (Rs.length + j)) _ from (by rw [HT.out]; rw [HTF.out]; exact hu)); have HS3 := Aside0.mk (HS.out.below (below_then (below_alloc (Below.refl _ _) _) (by simp) hb)); have p0 := blk_cell HS3.out.box 0; have p2 := blk_frozen HS3.out.box 0; have lb3 := blk_lt HS3.out.box; have hL3 := blk_below (blk_new wr (Obj.cells #[.slice AN nm.length cN, .bool true, .slice AB bd.length cB] 72)) hb; have m1 := blk_cell hL3 1; clear hp hu hb hL3))
       | ((with_reducible refine gate_dst (N := 56) rfl ?_); go_must (refine gs_append HS3.out (by have := HS2.out; omega) HU.out rfl _ _ rfl rfl _ rfl _ _ rfl (by simp) (by omega) ?_; intro A' c' W4 hbx HN; have z0 := blk_cell hbx 0; have z2 := blk_frozen hbx 0; clear hbx)))
      go_roundg k1
      case measure => omega
      case rel => exact ⟨j + 1, _, _, by first | rfl | (rw [wid (by omega) (by omega)]; simp), ⟨by omega, by omega⟩, HN.out⟩
     | false =>
      obtain rfl := ht2 rfl
      have HU : Aside0 (OV w (tr (trees Rs Ls) (Rs.length + j)) .nilIface) := ⟨by rw [HT.out]; rfl⟩
      clear ht1 ht2
      go_wp2_with (first
       | (go_at_call 90; refine (tree_at w _ ⟨below_alloc HBW.out _⟩ AB cB [] HBD.out y3 hbl).mono ?_; go_must (rintro e W3 hp; obtain ⟨u, b, rfl, hu, hb⟩ := ov_of_post hp; obtain rfl : u = .nilIface := hu; have HS3 := Aside0.mk (HS.out.below (below_then (below_alloc (Below.refl _ _) _) (by simp) hb)); have p0 := blk_cell HS3.out.box 0; have p2 := blk_frozen HS3.out.box 0; have lb3 := blk_lt HS3.out.box; have hL3 := blk_below (blk_new wr (Obj.cells #[.slice AN nm.length cN, .bool false, .slice AB ([] : List Op).length cB] 72)) hb; have m1 := blk_cell hL3 1; clear hp hb hL3))
       | ((with_reducible refine gate_dst (N := 56) rfl ?_); go_must (refine gs_append HS3.out (by have := HS2.out; omega) HU.out rfl _ _ rfl rfl _ rfl _ _ rfl (by simp) (by omega) ?_; intro A' c' W4 hbx HN; have z0 := blk_cell hbx 0; have z2 := blk_frozen hbx 0; clear hbx)))
      go_roundg k1
      case measure => omega
      case rel => exact ⟨j + 1, _, _, by first | rfl | (rw [wid (by omega) (by omega)]; simp), ⟨by omega, by omega⟩, HN.out⟩
end Go.Proofs.Ytdiilocgjnlmiaa.Tre
end
