/- Lemmas of the proof, and the walks of functions that it stands on. -/
import Derived.Test.YtdiilocgjnlmiaaCchNullForm
import Derived.Test.YtdiilocgjnlmiaaCchPAllx16
import Derived.Test.YtdiilocgjnlmiaaCchPAllx23
import Derived.Test.YtdiilocgjnlmiaaCchPAllx24
import Derived.Test.YtdiilocgjnlmiaaCchValid
section
namespace Go.Proofs.Ytdiilocgjnlmiaa.Tre
open Go.RowKit Go.Proofs.YtdiilocgjnlmiaaW.PrintWords Go.Proofs.YtdiilocgjnlmiaaW.PrintLast Go.Proofs.YtdiilocgjnlmiaaW.PrintMore
open Go.Proofs.Ytdiilocgjnlmiaa.PAll
set_option linter.unusedVariables false
set_option linter.unusedSimpArgs false
def bodyN (Rs : List Ru) (Ls : List La) (i : Nat) : List Op := (bodies Rs Ls).getD i []
def trees (Rs : List Ru) (Ls : List La) : List (Option Tr) := (bodies Rs Ls).map treeF
theorem len_bodies (Rs : List Ru) (Ls : List La) : (bodies Rs Ls).length = Rs.length + Ls.length := by simp [bodies]
theorem len_trees (Rs : List Ru) (Ls : List La) : (trees Rs Ls).length = Rs.length + Ls.length := by simp [trees, len_bodies]
theorem tr_trees {Rs : List Ru} {Ls : List La} {i : Nat} (hi : i < Rs.length + Ls.length) : tr (trees Rs Ls) i = treeF (bodyN Rs Ls i) := by
 have h1 : i < (bodies Rs Ls).length := by rw [len_bodies]; exact hi
 simp [tr, trees, bodyN, List.getD_eq_getElem?_getD, h1]
theorem bodyN_ru {Rs : List Ru} {Ls : List La} {i : Nat} (hi : i < Rs.length) : bodyN Rs Ls i = (ru Rs i).f1 := by
 simp [bodyN, bodies, List.getD_eq_getElem?_getD, List.getElem?_append, hi, ru, rd_T68]
theorem bodyN_la {Rs : List Ru} {Ls : List La} {j : Nat} (hj : j < Ls.length) : bodyN Rs Ls (Rs.length + j) = (la Ls j).f2 := by
 simp [bodyN, bodies, List.getD_eq_getElem?_getD, List.getElem?_append, hj, la, rd_T72]
structure Nice (Rs : List Ru) (Ls : List La) : Prop where
 r : Rs.length ≤ 100
 l : Ls.length ≤ 100
 body : ∀ i, i < Rs.length + Ls.length → (bodyN Rs Ls i = [] ∧ tr (trees Rs Ls) i = none) ∨ ∃ x, tr (trees Rs Ls) i = some x ∧ bodyN Rs Ls i = flat x ∧ okT Rs.length Ls.length x ∧ (flat x).length ≤ 2000
theorem opB_can {R L : Int} {o : Op} (h : opB R L o = true) (h0 : 0 ≤ o.f0) (h7 : o.f0 ≤ 7) : Can o := by
 unfold opB at h
 rw [Bool.and_eq_true, decide_eq_true_eq] at h
 refine ⟨h0, h7, fun h1 => ?_, fun h2 h3 => ?_⟩
 ·have := h.1
  rw [if_neg h1, decide_eq_true_eq] at this
  exact List.length_eq_zero_iff.1 this
 have := h.2
 unfold mostF at this
 rw [if_neg h3, if_neg h2] at this
 omega
theorem okT_flat {R L : Nat} : ∀ (x : Tr), (∀ o ∈ flat x, opB (R : Int) (L : Int) o = true) → okT R L x
 | .emp, _ => trivial
 | .set _, _ => trivial
 | .ref n, h => by
  have := h ⟨2, [], n⟩ List.mem_cons_self
  unfold opB mostF at this
  rw [Bool.and_eq_true, decide_eq_true_eq] at this
  have h2 := this.2
  simp at h2
  exact h2
 | .thr n, h => by
  have := h ⟨3, [], n⟩ List.mem_cons_self
  unfold opB mostF at this
  rw [Bool.and_eq_true, decide_eq_true_eq] at this
  have h2 := this.2
  simp at h2
  exact h2
 | .seq l r, h => ⟨okT_flat l fun o ho => h o (by simp [flat, ho]), okT_flat r fun o ho => h o (by simp [flat, ho])⟩
 | .alt l r, h => ⟨okT_flat l fun o ho => h o (by simp [flat, ho]), okT_flat r fun o ho => h o (by simp [flat, ho])⟩
 | .star x, h => okT_flat x fun o ho => h o (by simp [flat, ho])
 | .neg x, h => okT_flat x fun o ho => h o (by simp [flat, ho])
theorem stepT_kind {st st1 : List Tr} {o : Op} (h : stepT st o = some st1) : 0 ≤ o.f0 ∧ o.f0 ≤ 7 := by
 refine Classical.byContradiction fun hn => ?_
 obtain ⟨k, s, n⟩ := o
 rw [stepT_bad (by simp only at hn; omega)] at h
 cases h
theorem runT_kinds : ∀ (ops : List Op) {st st1 : List Tr}, runT st ops = some st1 → ∀ o ∈ ops, 0 ≤ o.f0 ∧ o.f0 ≤ 7
 | [], _, _, _ => fun o ho => by cases ho
 | o :: ops, st, st1, h => by
  rw [runT] at h
  cases hs : stepT st o with
  | none => rw [hs] at h; cases h
  | some s =>
   rw [hs, Option.bind_some] at h
   intro q hq
   rcases List.mem_cons.1 hq with rfl | hq
   ·exact stepT_kind hs
   exact runT_kinds ops h q hq
theorem body_tree {R L : Nat} {ops : List Op} (h : bodyB (R : Int) (L : Int) ops = true) : ∃ x, treeF ops = some x ∧ ops = flat x ∧ okT R L x := by
 unfold bodyB at h
 rw [Bool.and_eq_true, List.all_eq_true] at h
 obtain ⟨x, hx⟩ := Option.isSome_iff_exists.1 h.2
 have hk : ∀ o ∈ ops, 0 ≤ o.f0 ∧ o.f0 ≤ 7 := by
  unfold treeF at hx
  split at hx
  ·rename_i t ht
   exact runT_kinds ops ht
  cases hx
 have hf := flat_of_treeF (fun o ho => opB_can (h.1 o ho) (hk o ho).1 (hk o ho).2) hx
 exact ⟨x, hx, hf.symm, okT_flat x (by rw [hf]; exact h.1)⟩
theorem len_le_sum {bs : List (List Op)} {i : Nat} : (bs.getD i []).length ≤ sumOps bs := by
 induction bs generalizing i with
 | nil => simp [sumOps]
 | cons b bs ih =>
  have : sumOps (b :: bs) = b.length + sumOps bs := by simp [sumOps]
  rw [this]
  cases i with
  | zero => simp
  | succ i => have := ih (i := i); simp only [List.getD_cons_succ]; omega
theorem Valid.nice {Rs : List Ru} {Ls : List La} (h : Valid Rs Ls) : Nice Rs Ls := by
 refine ⟨h.r2, h.l2, fun i hi => ?_⟩
 rw [tr_trees hi]
 have hlen : (bodyN Rs Ls i).length ≤ 2000 := Nat.le_trans len_le_sum h.ops
 rcases Nat.lt_or_ge i Rs.length with hr | hr
 ·obtain ⟨x, h1, h2, h3⟩ := body_tree (h.rules i hr).body
  rw [← bodyN_ru (Ls := Ls) hr] at h1 h2
  exact .inr ⟨x, h1, h2, h3, by rw [← h2]; exact hlen⟩
 obtain ⟨j, rfl⟩ : ∃ j, i = Rs.length + j := ⟨i - Rs.length, by omega⟩
 have hj : j < Ls.length := by omega
 have hb := h.labels j hj
 cases hh : (la Ls j).f1 with
 | true =>
  obtain ⟨x, h1, h2, h3⟩ := body_tree (hb.body hh)
  rw [← bodyN_la (Rs := Rs) hj] at h1 h2
  exact .inr ⟨x, h1, h2, h3, by rw [← h2]; exact hlen⟩
 | false =>
  have := List.length_eq_zero_iff.1 (hb.none hh)
  rw [← bodyN_la (Rs := Rs) hj] at this
  rw [this]
  exact .inl ⟨rfl, rfl⟩
theorem okT_occ {R L : Nat} : ∀ (x : Tr), okT R L x → ∀ k ∈ occ R x, k < R + L
 | .emp, _, k, hk => by cases hk
 | .set _, _, k, hk => by cases hk
 | .ref n, h, k, hk => by
  rw [List.mem_singleton.1 hk]
  have h1 : (0 : Int) ≤ n := h.1
  have h2 : n < (R : Int) := h.2
  omega
 | .thr n, h, k, hk => by
  rw [List.mem_singleton.1 hk]
  have h1 : (0 : Int) ≤ n := h.1
  have h2 : n < (L : Int) := h.2
  omega
 | .seq l r, h, k, hk => (List.mem_append.1 hk).elim (okT_occ l h.1 k) (okT_occ r h.2 k)
 | .alt l r, h, k, hk => (List.mem_append.1 hk).elim (okT_occ l h.1 k) (okT_occ r h.2 k)
 | .star x, h, k, hk => okT_occ x h k hk
 | .neg x, h, k, hk => okT_occ x h k hk
theorem Nice.okTs {Rs : List Ru} {Ls : List La} (h : Nice Rs Ls) : okTs Rs.length (trees Rs Ls) := by
 intro i hi k hk
 rw [len_trees] at hi ⊢
 rcases h.body i hi with ⟨_, h2⟩ | ⟨x, h1, _, h3, _⟩
 ·rw [h2] at hk; cases hk
 rw [h1] at hk
 exact okT_occ x h3 k hk
theorem occ_len {R : Nat} : ∀ (x : Tr), (occ R x).length ≤ (flat x).length
 | .emp => by simp [occ, flat]
 | .set _ => by simp [occ, flat]
 | .ref n => by simp [occ, flat]
 | .thr n => by simp [occ, flat]
 | .seq l r => by have := occ_len (R := R) l; have := occ_len (R := R) r; simp [occ, flat]; omega
 | .alt l r => by have := occ_len (R := R) l; have := occ_len (R := R) r; simp [occ, flat]; omega
 | .star x => by have := occ_len (R := R) x; simp [occ, flat]; omega
 | .neg x => by have := occ_len (R := R) x; simp [occ, flat]; omega
theorem Nice.occ_sum {Rs : List Ru} {Ls : List La} (h : Nice Rs Ls) : ∀ i, i ≤ Rs.length + Ls.length → occSum Rs.length (trees Rs Ls) i ≤ i * 2000
 | 0, _ => Nat.zero_le _
 | i + 1, hi => by
  have ih := h.occ_sum i (by omega)
  have : (occO Rs.length (tr (trees Rs Ls) i)).length ≤ 2000 := by
   rcases h.body i (by omega) with ⟨_, h2⟩ | ⟨x, h1, _, _, h4⟩
   ·rw [h2]; exact Nat.zero_le _
   rw [h1]; exact Nat.le_trans (occ_len x) h4
  rw [occSum]
  omega
section
variable {Rs : List Ru} {Ls : List La}
theorem nodes_f (h : Nice Rs Ls) : spec_l3nodes.f Rs Ls = some ((Rs.length + Ls.length : Nat) : Int) := by
 have := h.r
 have := h.l
 rw [spec_l3nodes.f, wid (by omega) (by omega)]
 congr 1
theorem body_f (h : Nice Rs Ls) {i : Nat} (hi : i < Rs.length + Ls.length) : spec_l3body.f Rs Ls (i : Int) = some (bodyN Rs Ls i) := by
 have := h.r
 have := h.l
 rw [spec_l3body.f]
 by_cases hr : i < Rs.length
 ·rw [if_pos (by omega), if_pos (by omega), bodyN_ru hr]
 obtain ⟨j, rfl⟩ : ∃ j, i = Rs.length + j := ⟨i - Rs.length, by omega⟩
 have e : ((Rs.length + j : Nat) : Int) - (Rs.length : Int) = (j : Int) := by omega
 rw [if_neg (by omega), e, wid (by omega) (by omega), if_pos (by omega), if_pos (by omega), bodyN_la (by omega)]
theorem null_body (h : Nice Rs Ls) {m : List Bool} (hm : m.length = Rs.length + Ls.length) {i : Nat} (hi : i < Rs.length + Ls.length) {k : Nat} (hk : 8010 ≤ k) : spec_l3null.f k Rs Ls (bodyN Rs Ls i) m = some (nullO Rs.length m (tr (trees Rs Ls) i)) := by
 have := h.r
 have := h.l
 rcases h.body i hi with ⟨h1, h2⟩ | ⟨x, h1, h2, h3, h4⟩
 ·rw [h1, h2]
  obtain ⟨j, rfl⟩ : ∃ j, k = j + 1 := ⟨k - 1, by omega⟩
  rw [spec_l3null.f]
  rfl
 rw [h1, h2]
 exact l3null_flat Rs Ls m (by omega) (by omega) hm x k h3 (by omega) (by omega)
theorem set_take {m q : List Bool} {i : Nat} (hm : m.length = q.length) (hi : i < q.length) (ht : m.take i = q.take i) : (m.set i (mkd q i)).take (i + 1) = q.take (i + 1) := by
 rw [List.take_succ_eq_append_getElem (by rw [List.length_set, hm]; exact hi), List.take_succ_eq_append_getElem hi, List.take_set_of_le (Nat.le_refl i), ht, List.getElem_set_self]
 simp [mkd, List.getD_eq_getElem?_getD, hi]
theorem null_l1 (h : Nice Rs Ls) {m : List Bool} (hm : m.length = Rs.length + Ls.length) : ∀ (d k i : Nat) (next : List Bool) (r : Int), i + d = Rs.length + Ls.length → 8010 ≤ k → next.length = Rs.length + Ls.length → next.take i = (roundM Rs.length (trees Rs Ls) m).take i →
 spec_l3nullable.l1 (k + d + 1) ((Rs.length + Ls.length : Nat) : Int) m r next (i : Int) Rs Ls = spec_l3nullable.l0 k ((Rs.length + Ls.length : Nat) : Int) (roundM Rs.length (trees Rs Ls) m) (wrap64 (r + 1)) Rs Ls
 | 0, k, i, next, r, h1, h2, h3, h4 => by
  have hq : (roundM Rs.length (trees Rs Ls) m).length = Rs.length + Ls.length := by rw [roundM, List.length_map, len_trees]
  have e : next = roundM Rs.length (trees Rs Ls) m := by
   rw [List.take_of_length_le (by omega), List.take_of_length_le (by omega)] at h4
   exact h4
  rw [spec_l3nullable.l1, if_neg (by omega), e]
 | d + 1, k, i, next, r, h1, h2, h3, h4 => by
  have hr := h.r
  have hl := h.l
  have hq : (roundM Rs.length (trees Rs Ls) m).length = Rs.length + Ls.length := by rw [roundM, List.length_map, len_trees]
  rw [← Nat.add_assoc, spec_l3nullable.l1, if_pos (by omega), body_f h (by omega), Option.bind_some, null_body h hm (by omega) (by omega), Option.bind_some, if_pos (by omega), if_pos (by omega), wid (x := (i : Int) + 1) (by omega) (by omega), Int.toNat_natCast]
  have hs := set_take (m := next) (q := roundM Rs.length (trees Rs Ls) m) (i := i) (by omega) (by omega) h4
  rw [mkd_round (by rw [len_trees]; omega)] at hs
  exact null_l1 h hm d k (i + 1) _ r (by omega) h2 (by rw [List.length_set]; exact h3) hs
theorem null_l0 (h : Nice Rs Ls) : ∀ (d k r : Nat), r + d = Rs.length + Ls.length → 8010 ≤ k →
 spec_l3nullable.l0 (k + d * (Rs.length + Ls.length + 2) + 1) ((Rs.length + Ls.length : Nat) : Int) (iterM Rs.length (trees Rs Ls) r) (r : Int) Rs Ls = some (nullF Rs.length (trees Rs Ls))
 | 0, k, r, h1, h2 => by
  rw [spec_l3nullable.l0, if_neg (by omega), nullF, len_trees]
  rw [show r = Rs.length + Ls.length by omega]
 | d + 1, k, r, h1, h2 => by
  have hr := h.r
  have hl := h.l
  have hm : (iterM Rs.length (trees Rs Ls) r).length = Rs.length + Ls.length := by rw [len_iter, len_trees]
  rw [spec_l3nullable.l0, if_pos (by omega), if_pos (by omega), if_pos (by omega), Int.toNat_natCast]
  have e : k + (d + 1) * (Rs.length + Ls.length + 2) = (k + d * (Rs.length + Ls.length + 2) + 1) + (Rs.length + Ls.length) + 1 := by rw [Nat.add_mul]; omega
  rw [e]
  have := null_l1 h hm (Rs.length + Ls.length) (k + d * (Rs.length + Ls.length + 2) + 1) 0 (List.replicate (Rs.length + Ls.length) false) (r : Int) (by omega) (by omega) List.length_replicate (by rw [List.take_zero, List.take_zero])
  refine Eq.trans this ?_
  rw [wid (by omega) (by omega)]
  exact null_l0 h d k (r + 1) (by omega) h2
theorem nullable_f (h : Nice Rs Ls) : spec_l3nullable.f 60000 Rs Ls = some (nullF Rs.length (trees Rs Ls)) := by
 have hr := h.r
 have hl := h.l
 have hn : (Rs.length + Ls.length) * (Rs.length + Ls.length + 2) ≤ 200 * 202 := Nat.mul_le_mul (by omega) (by omega)
 rw [spec_l3nullable.f, nodes_f h, Option.bind_some, if_pos (by omega), if_pos (by omega), Int.toNat_natCast]
 obtain ⟨k, hk⟩ : ∃ k, 60000 = k + (Rs.length + Ls.length) * (Rs.length + Ls.length + 2) + 1 := ⟨60000 - (Rs.length + Ls.length) * (Rs.length + Ls.length + 2) - 1, by omega⟩
 have := null_l0 h (Rs.length + Ls.length) k 0 (by omega) (by omega)
 rw [← hk] at this
 rw [← this]
 rw [iterM, len_trees]
 rfl
def loopsT (R : Nat) (m : List Bool) : Tr → Bool
 | .emp => false
 | .set _ => false
 | .ref _ => false
 | .thr _ => false
 | .seq l r => loopsT R m l || loopsT R m r
 | .alt l r => loopsT R m l || loopsT R m r
 | .star x => nullT R m x || loopsT R m x
 | .neg x => loopsT R m x
def loopsO (R : Nat) (m : List Bool) : Option Tr → Bool
 | none => false
 | some t => loopsT R m t
theorem loops_other {m : List Bool} {pre post : List Op} {o : Op} (k : Nat) (ho : o.f0 ≠ 6) (hl : (pre ++ o :: post).length ≤ 1099511627776) : spec_l3loops.l0 (k + 1) (pre ++ o :: post) m (pre.length : Int) Rs Ls = spec_l3loops.l0 k (pre ++ o :: post) m ((pre.length + 1 : Nat) : Int) Rs Ls := by
 have h1 : pre.length < (pre ++ o :: post).length := by simp
 rw [spec_l3loops.l0, if_pos (by omega), if_pos (by omega), rd_at rfl, if_neg ho, wid (by omega) (by omega)]
 rfl
theorem loops_star (h : Nice Rs Ls) {m : List Bool} (hm : m.length = Rs.length + Ls.length) {pre post : List Op} (x : Tr) (hx : okT Rs.length Ls.length x) (k : Nat) (hk : 4 * (flat x).length + 10 ≤ k) (hl : (pre ++ (flat x ++ ⟨6, [], 0⟩ :: post)).length ≤ 1099511627776) :
 spec_l3loops.l0 (k + 1) (pre ++ (flat x ++ ⟨6, [], 0⟩ :: post)) m ((pre.length + (flat x).length : Nat) : Int) Rs Ls = cond (nullT Rs.length m x) (some true) (spec_l3loops.l0 k (pre ++ (flat x ++ ⟨6, [], 0⟩ :: post)) m ((pre.length + (flat x).length + 1 : Nat) : Int) Rs Ls) := by
 have hr := h.r
 have hl2 := h.l
 have h1 : pre.length + (flat x).length < (pre ++ (flat x ++ (⟨6, [], 0⟩ : Op) :: post)).length := by simp
 have hrd : rd_T79 (pre ++ (flat x ++ (⟨6, [], 0⟩ : Op) :: post)) ((pre.length + (flat x).length : Nat) : Int) = ⟨6, [], 0⟩ := by
  rw [← List.append_assoc]
  exact rd_at (by rw [List.length_append])
 have hs := start_f x pre (⟨6, [], 0⟩ :: post) k (by omega) hl
 have ht : ((pre ++ (flat x ++ (⟨6, [], 0⟩ : Op) :: post)).take (pre.length + (flat x).length)).drop pre.length = flat x := by
  rw [← List.append_assoc, ← List.length_append, List.take_left, List.drop_left]
 rw [spec_l3loops.l0, if_pos (by omega), if_pos (by omega), hrd, if_pos rfl, hs, Option.bind_some, if_pos (by omega), if_pos (by omega), if_pos (by omega), Int.toNat_natCast, Int.toNat_natCast, ht, l3null_flat Rs Ls m (by omega) (by omega) hm x k hx (by omega) (by omega), Option.bind_some, wid (by omega) (by omega)]
 cases nullT Rs.length m x <;> rfl
theorem loops_tree (h : Nice Rs Ls) {m : List Bool} (hm : m.length = Rs.length + Ls.length) : ∀ (x : Tr) (pre post : List Op) (k : Nat), okT Rs.length Ls.length x → 4 * (flat x).length + 10 ≤ k → (pre ++ (flat x ++ post)).length ≤ 1099511627776 →
 spec_l3loops.l0 (k + (flat x).length) (pre ++ (flat x ++ post)) m (pre.length : Int) Rs Ls = cond (loopsT Rs.length m x) (some true) (spec_l3loops.l0 k (pre ++ (flat x ++ post)) m ((pre.length + (flat x).length : Nat) : Int) Rs Ls)
 | .emp, pre, post, k, hx, hk, hl => (loops_other (pre := pre) (post := post) (o := ⟨0, [], 0⟩) k (by decide) hl).trans (by simp [loopsT, flat])
 | .set s, pre, post, k, hx, hk, hl => (loops_other (pre := pre) (post := post) (o := ⟨1, s, 0⟩) k (by simp) hl).trans (by simp [loopsT, flat])
 | .ref a, pre, post, k, hx, hk, hl => (loops_other (pre := pre) (post := post) (o := ⟨2, [], a⟩) k (by simp) hl).trans (by simp [loopsT, flat])
 | .thr a, pre, post, k, hx, hk, hl => (loops_other (pre := pre) (post := post) (o := ⟨3, [], a⟩) k (by simp) hl).trans (by simp [loopsT, flat])
 | .star x, pre, post, k, hx, hk, hl => by
  have e : pre ++ (flat (.star x) ++ post) = pre ++ (flat x ++ (⟨6, [], 0⟩ :: post)) := by simp [flat]
  have e3 : (flat (.star x)).length = (flat x).length + 1 := by simp [flat]
  rw [e] at hl
  rw [e3] at hk
  have h1 := loops_tree h hm x pre (⟨6, [], 0⟩ :: post) (k + 1) hx (by omega) hl
  have h2 := loops_star h hm (pre := pre) (post := post) x hx k (by omega) hl
  rw [e, e3, show k + ((flat x).length + 1) = k + 1 + (flat x).length by omega, h1, h2]
  simp only [loopsT]
  cases nullT Rs.length m x <;> cases loopsT Rs.length m x <;> simp [Nat.add_assoc]
 | .neg x, pre, post, k, hx, hk, hl => by
  have e : pre ++ (flat (.neg x) ++ post) = pre ++ (flat x ++ (⟨7, [], 0⟩ :: post)) := by simp [flat]
  have e2 : pre ++ (flat (.neg x) ++ post) = (pre ++ flat x) ++ (⟨7, [], 0⟩ : Op) :: post := by simp [flat]
  have e3 : (flat (.neg x)).length = (flat x).length + 1 := by simp [flat]
  have h2 := loops_other (Rs := Rs) (Ls := Ls) (m := m) (pre := pre ++ flat x) (post := post) (o := ⟨7, [], 0⟩) k (by decide) (by rw [← e2]; exact hl)
  rw [← e2, e, List.length_append] at h2
  rw [e] at hl
  rw [e3] at hk
  have h1 := loops_tree h hm x pre (⟨7, [], 0⟩ :: post) (k + 1) hx (by omega) hl
  rw [e, e3, show k + ((flat x).length + 1) = k + 1 + (flat x).length by omega, h1, h2]
  simp only [loopsT, Nat.add_assoc]
 | .seq l r, pre, post, k, hx, hk, hl => by
  have e : pre ++ (flat (.seq l r) ++ post) = pre ++ (flat l ++ (flat r ++ (⟨4, [], 0⟩ :: post))) := by simp [flat]
  have e1 : pre ++ (flat (.seq l r) ++ post) = (pre ++ flat l) ++ (flat r ++ (⟨4, [], 0⟩ :: post)) := by simp [flat]
  have e2 : pre ++ (flat (.seq l r) ++ post) = ((pre ++ flat l) ++ flat r) ++ (⟨4, [], 0⟩ : Op) :: post := by simp [flat]
  have e3 : (flat (.seq l r)).length = (flat l).length + (flat r).length + 1 := by simp [flat]; omega
  rw [e3] at hk
  have h1 := loops_tree h hm l pre (flat r ++ (⟨4, [], 0⟩ :: post)) (k + 1 + (flat r).length) hx.1 (by omega) (by rw [← e]; exact hl)
  have h2 := loops_tree h hm r (pre ++ flat l) (⟨4, [], 0⟩ :: post) (k + 1) hx.2 (by omega) (by rw [← e1]; exact hl)
  have h3 := loops_other (Rs := Rs) (Ls := Ls) (m := m) (pre := (pre ++ flat l) ++ flat r) (post := post) (o := ⟨4, [], 0⟩) k (by decide) (by rw [← e2]; exact hl)
  rw [← e] at h1
  rw [← e1] at h2
  rw [← e2] at h3
  simp only [List.length_append] at h2 h3
  rw [e3, show k + ((flat l).length + (flat r).length + 1) = k + 1 + (flat r).length + (flat l).length by omega, h1, h2, h3]
  simp only [loopsT]
  cases loopsT Rs.length m l <;> cases loopsT Rs.length m r <;> simp [Nat.add_assoc]
 | .alt l r, pre, post, k, hx, hk, hl => by
  have e : pre ++ (flat (.alt l r) ++ post) = pre ++ (flat l ++ (flat r ++ (⟨5, [], 0⟩ :: post))) := by simp [flat]
  have e1 : pre ++ (flat (.alt l r) ++ post) = (pre ++ flat l) ++ (flat r ++ (⟨5, [], 0⟩ :: post)) := by simp [flat]
  have e2 : pre ++ (flat (.alt l r) ++ post) = ((pre ++ flat l) ++ flat r) ++ (⟨5, [], 0⟩ : Op) :: post := by simp [flat]
  have e3 : (flat (.alt l r)).length = (flat l).length + (flat r).length + 1 := by simp [flat]; omega
  rw [e3] at hk
  have h1 := loops_tree h hm l pre (flat r ++ (⟨5, [], 0⟩ :: post)) (k + 1 + (flat r).length) hx.1 (by omega) (by rw [← e]; exact hl)
  have h2 := loops_tree h hm r (pre ++ flat l) (⟨5, [], 0⟩ :: post) (k + 1) hx.2 (by omega) (by rw [← e1]; exact hl)
  have h3 := loops_other (Rs := Rs) (Ls := Ls) (m := m) (pre := (pre ++ flat l) ++ flat r) (post := post) (o := ⟨5, [], 0⟩) k (by decide) (by rw [← e2]; exact hl)
  rw [← e] at h1
  rw [← e1] at h2
  rw [← e2] at h3
  simp only [List.length_append] at h2 h3
  rw [e3, show k + ((flat l).length + (flat r).length + 1) = k + 1 + (flat r).length + (flat l).length by omega, h1, h2, h3]
  simp only [loopsT]
  cases loopsT Rs.length m l <;> cases loopsT Rs.length m r <;> simp [Nat.add_assoc]
theorem flat_first : ∀ (x : Tr), ∃ (o : Op) (post : List Op), flat x = o :: post ∧ o.f0 ≠ 6
 | .emp => ⟨_, _, rfl, by decide⟩
 | .set s => ⟨_, _, rfl, by simp⟩
 | .ref n => ⟨_, _, rfl, by simp⟩
 | .thr n => ⟨_, _, rfl, by simp⟩
 | .seq l r => by obtain ⟨o, p, h, h2⟩ := flat_first l; exact ⟨o, _, by rw [flat, h]; rfl, h2⟩
 | .alt l r => by obtain ⟨o, p, h, h2⟩ := flat_first l; exact ⟨o, _, by rw [flat, h]; rfl, h2⟩
 | .star x => by obtain ⟨o, p, h, h2⟩ := flat_first x; exact ⟨o, _, by rw [flat, h]; rfl, h2⟩
 | .neg x => by obtain ⟨o, p, h, h2⟩ := flat_first x; exact ⟨o, _, by rw [flat, h]; rfl, h2⟩
theorem loops_f (h : Nice Rs Ls) {m : List Bool} (hm : m.length = Rs.length + Ls.length) {i : Nat} (hi : i < Rs.length + Ls.length) : spec_l3loops.f 20000 Rs Ls (bodyN Rs Ls i) m = some (loopsO Rs.length m (tr (trees Rs Ls) i)) := by
 rcases h.body i hi with ⟨h1, h2⟩ | ⟨x, h1, h2, h3, h4⟩
 ·rw [h1, h2]
  rfl
 rw [h1, h2]
 have hp := flat_pos x
 have ht := loops_tree h hm x [] [] (20001 - (flat x).length) h3 (by omega) (by simp; omega)
 rw [show 20001 - (flat x).length + (flat x).length = 20000 + 1 by omega] at ht
 simp only [List.nil_append, List.append_nil, List.length_nil, Nat.zero_add] at ht
 obtain ⟨o, post, he, ho⟩ := flat_first x
 have h0 := loops_other (Rs := Rs) (Ls := Ls) (m := m) (pre := []) (post := post) (o := o) 20000 ho (by rw [List.nil_append, ← he]; omega)
 rw [List.nil_append, ← he] at h0
 rw [spec_l3loops.f]
 refine (h0.symm.trans ht).trans ?_
 obtain ⟨k, hk⟩ : ∃ k, 20001 - (flat x).length = k + 1 := ⟨20000 - (flat x).length, by omega⟩
 rw [hk, spec_l3loops.l0, if_neg (by omega)]
 simp only [loopsO]
 cases loopsT Rs.length m x <;> rfl
end
end Go.Proofs.Ytdiilocgjnlmiaa.Tre
end
section
namespace Go.Proofs.Ytdiilocgjnlmiaa.Tre
open Go.RowKit Go.Proofs.YtdiilocgjnlmiaaW.PrintWords Go.Proofs.YtdiilocgjnlmiaaW.PrintLast Go.Proofs.YtdiilocgjnlmiaaW.PrintMore
open Go.Proofs.Ytdiilocgjnlmiaa.PAll
set_option linter.unusedVariables false
set_option linter.unusedSimpArgs false
def begT (R : Nat) (m : List Bool) : Tr → List Nat
 | .emp => []
 | .set _ => []
 | .ref n => [n.toNat]
 | .thr n => [R + n.toNat]
 | .seq l r => begT R m l ++ (if nullT R m l = true then begT R m r else [])
 | .alt l r => begT R m l ++ begT R m r
 | .star x => begT R m x
 | .neg x => begT R m x
def begO (R : Nat) (m : List Bool) : Option Tr → List Nat
 | none => []
 | some t => begT R m t
theorem begT_lt {R L : Nat} {m : List Bool} : ∀ (t : Tr), okT R L t → ∀ k ∈ begT R m t, k < R + L
 | .emp, _, k, hk => by cases hk
 | .set _, _, k, hk => by cases hk
 | .ref n, h, k, hk => by
  simp only [okT] at h
  have := List.mem_singleton.1 hk
  omega
 | .thr n, h, k, hk => by
  simp only [okT] at h
  have := List.mem_singleton.1 hk
  omega
 | .seq l r, h, k, hk => by
  simp only [begT] at hk
  rcases List.mem_append.1 hk with hk | hk
  ·exact begT_lt l h.1 k hk
  split at hk
  ·exact begT_lt r h.2 k hk
  cases hk
 | .alt l r, h, k, hk => by
  rcases List.mem_append.1 hk with hk | hk
  ·exact begT_lt l h.1 k hk
  exact begT_lt r h.2 k hk
 | .star x, h, k, hk => begT_lt x h k hk
 | .neg x, h, k, hk => begT_lt x h k hk
theorem begO_lt {R L : Nat} {m : List Bool} {o : Option Tr} (h : okO R L o) : ∀ k ∈ begO R m o, k < R + L := fun k hk => by
 cases o with
 | none => cases hk
 | some t => exact begT_lt t (h t rfl) k hk
inductive Rch (E : Nat → List Nat) : Nat → Nat → Prop
 | one {a b : Nat} : b ∈ E a → Rch E a b
 | more {a b c : Nat} : Rch E a b → c ∈ E b → Rch E a c
def uns : List Bool → Nat
 | [] => 0
 | b :: l => (if b = true then 0 else 1) + uns l
theorem mkd_cons0 (b : Bool) (l : List Bool) : mkd (b :: l) 0 = b := rfl
theorem uns_set : ∀ (l : List Bool) (i : Nat), i < l.length → mkd l i = false → uns (l.set i true) + 1 = uns l
 | [], i, h, _ => by cases h
 | b :: l, 0, h, hm => by
  rw [mkd_cons0] at hm
  subst hm
  simp [uns]
  omega
 | b :: l, i + 1, h, hm => by
  have := uns_set l i (by simpa using h) hm
  simp only [List.set_cons_succ, uns]
  omega
theorem uns_zero : ∀ (l : List Bool), uns l = 0 → ∀ i, i < l.length → mkd l i = true
 | [], _, i, h => by cases h
 | b :: l, hu, 0, h => by
  simp only [uns] at hu
  rw [mkd_cons0]
  cases b
  ·simp at hu
  rfl
 | b :: l, hu, i + 1, h => by
  simp only [uns] at hu
  exact uns_zero l (by omega) i (by simpa using h)
theorem uns_le : ∀ (l : List Bool), uns l ≤ l.length
 | [] => Nat.le_refl _
 | b :: l => by
  have := uns_le l
  simp only [uns, List.length_cons]
  split <;> omega
theorem mkd_put {l : List Bool} {i : Nat} (h : i < l.length) (k : Nat) : mkd (l.set i true) k = (if k = i then true else mkd l k) := by
 simp only [mkd, List.getD_eq_getElem?_getD, List.getElem?_set]
 by_cases c : k = i
 ·subst c; simp [h]
 rw [if_neg (fun e => c e.symm), if_neg c]
theorem mkd_rep (n k : Nat) : mkd (List.replicate n false) k = false := by
 simp only [mkd, List.getD_eq_getElem?_getD, List.getElem?_replicate]
 split <;> rfl
def dfs (E : Nat → List Nat) (st : Nat) : Nat → Bool × List Bool → Nat → Bool × List Bool
 | 0, s, m => (s.1 || m == st, s.2)
 | k + 1, s, m => if mkd s.2 m = true then (s.1 || m == st, s.2) else (E m).foldl (dfs E st k) (s.1 || m == st, s.2.set m true)
def lrec (E : Nat → List Nat) (n st : Nat) : Bool := ((E st).foldl (dfs E st n) (false, List.replicate n false)).1
structure Df (E : Nat → List Nat) (n st : Nat) (s : Bool × List Bool) (xs : List Nat) (s' : Bool × List Bool) : Prop where
 len : s'.2.length = n
 le : LeM s.2 s'.2
 un : uns s'.2 ≤ uns s.2
 got : ∀ x ∈ xs, mkd s'.2 x = true
 clo : ∀ x, mkd s'.2 x = true → mkd s.2 x = true ∨ ∀ y ∈ E x, mkd s'.2 y = true
 fnd : (mkd s.2 st = true → s.1 = true) → mkd s'.2 st = true → s'.1 = true
 so : ∀ P : Nat → Prop, (∀ a b, P a → b ∈ E a → P b) → (∀ x ∈ xs, P x) → (s.1 = true → P st) → s'.1 = true → P st
theorem df_nil {E : Nat → List Nat} {n st : Nat} {s : Bool × List Bool} (h : s.2.length = n) : Df E n st s [] s :=
 ⟨h, fun _ h => h, Nat.le_refl _, fun _ h => (by cases h), fun _ h => .inl h, fun h => h, fun _ _ _ h => h⟩
theorem Df.trans {E : Nat → List Nat} {n st : Nat} {s s1 s2 : Bool × List Bool} {m : Nat} {xs : List Nat} (h1 : Df E n st s [m] s1) (h2 : Df E n st s1 xs s2) : Df E n st s (m :: xs) s2 :=
 ⟨h2.len, fun k hk => h2.le k (h1.le k hk), Nat.le_trans h2.un h1.un, fun x hx => by
  rcases List.mem_cons.1 hx with rfl | hx
  ·exact h2.le _ (h1.got _ (List.mem_singleton.2 rfl))
  ·exact h2.got x hx, fun x hx => by
  rcases h2.clo x hx with h | h
  ·rcases h1.clo x h with h | h
   ·exact .inl h
   exact .inr fun y hy => h2.le y (h y hy)
  exact .inr h, fun h hs => h2.fnd (h1.fnd h) hs, fun P hc hp h0 h3 => h2.so P hc (fun x hx => hp x (List.mem_cons_of_mem _ hx)) (h1.so P hc (fun x hx => hp x (by rw [List.mem_singleton.1 hx]; exact List.mem_cons_self)) h0) h3⟩
theorem dfs_fold {E : Nat → List Nat} {n st k : Nat} (H : ∀ s m, s.2.length = n → m < n → uns s.2 ≤ k → Df E n st s [m] (dfs E st k s m)) :
 ∀ (xs : List Nat) (s : Bool × List Bool), (∀ x ∈ xs, x < n) → s.2.length = n → uns s.2 ≤ k → Df E n st s xs (xs.foldl (dfs E st k) s)
 | [], s, _, h, _ => df_nil h
 | m :: xs, s, hx, h, hu => by
  have h1 := H s m h (hx m List.mem_cons_self) hu
  exact h1.trans (dfs_fold H xs _ (fun x hx' => hx x (List.mem_cons_of_mem _ hx')) h1.len (Nat.le_trans h1.un hu))
theorem df_seen {E : Nat → List Nat} {n st : Nat} {s : Bool × List Bool} {m : Nat} (h : s.2.length = n) (hm : mkd s.2 m = true) : Df E n st s [m] (s.1 || m == st, s.2) :=
 ⟨h, fun _ h => h, Nat.le_refl _, fun x hx => by rw [List.mem_singleton.1 hx]; exact hm, fun _ h => .inl h, fun h hs => by simp only [Bool.or_eq_true]; exact .inl (h hs), fun P _ hp h0 h3 => by
  simp only [Bool.or_eq_true, beq_iff_eq] at h3
  rcases h3 with h3 | h3
  ·exact h0 h3
  subst h3; exact hp m (List.mem_singleton.2 rfl)⟩
theorem dfs_ok {E : Nat → List Nat} {n st : Nat} (hE : ∀ a, a < n → ∀ b ∈ E a, b < n) : ∀ (k : Nat) (s : Bool × List Bool) (m : Nat), s.2.length = n → m < n → uns s.2 ≤ k → Df E n st s [m] (dfs E st k s m)
 | 0, s, m, hl, hm, hu => by
  rw [dfs]
  exact df_seen hl (uns_zero s.2 (by omega) m (by omega))
 | k + 1, s, m, hl, hm, hu => by
  rw [dfs]
  by_cases c : mkd s.2 m = true
  ·rw [if_pos c]
   exact df_seen hl c
  rw [if_neg c]
  have c' : mkd s.2 m = false := by cases h : mkd s.2 m <;> simp_all
  have hus := uns_set s.2 m (by omega) c'
  have h1 := dfs_fold (st := st) (dfs_ok hE k) (E m) (s.1 || m == st, s.2.set m true) (hE m hm) (by simpa using hl) (by simp only; omega)
  generalize (E m).foldl (dfs E st k) (s.1 || m == st, s.2.set m true) = s' at h1
  have hme : mkd s'.2 m = true := h1.le m (by rw [mkd_put (by omega), if_pos rfl])
  refine ⟨h1.len, fun x hx => h1.le x ?_, ?_, fun x hx => by rw [List.mem_singleton.1 hx]; exact hme, fun x hx => ?_, fun h hs => h1.fnd (fun hx => ?_) hs, fun P hc hp h0 h3 => h1.so P hc (fun x hx => hc m x (hp m (List.mem_singleton.2 rfl)) hx) (fun h => ?_) h3⟩
  ·rw [mkd_put (by omega)]
   split
   ·rfl
   exact hx
  ·have := h1.un
   simp only at this
   omega
  ·rcases h1.clo x hx with h | h
   ·simp only [mkd_put (show m < s.2.length by omega)] at h
    by_cases e : x = m
    ·subst e
     exact .inr fun y hy => h1.got y hy
    rw [if_neg e] at h
    exact .inl h
   exact .inr h
  ·simp only [mkd_put (show m < s.2.length by omega)] at hx
   simp only [Bool.or_eq_true, beq_iff_eq]
   by_cases e : st = m
   ·exact .inr e.symm
   rw [if_neg e] at hx
   exact .inl (h hx)
  simp only [Bool.or_eq_true, beq_iff_eq] at h
  rcases h with h | h
  ·exact h0 h
  subst h; exact hp m (List.mem_singleton.2 rfl)
theorem lrec_iff {E : Nat → List Nat} {n st : Nat} (hE : ∀ a, a < n → ∀ b ∈ E a, b < n) (hs : st < n) : lrec E n st = true ↔ Rch E st st := by
 have h := dfs_fold (st := st) (dfs_ok hE n) (E st) (false, List.replicate n false) (hE st hs) (by simp) (by simpa using uns_le (List.replicate n false))
 rw [lrec]
 generalize (E st).foldl (dfs E st n) (false, List.replicate n false) = s' at h
 constructor
 ·exact h.so (Rch E st) (fun a b ha hb => .more ha hb) (fun x hx => .one hx) (fun h => by cases h)
 intro hr
 have : ∀ x, Rch E st x → mkd s'.2 x = true := fun x hx => by
  induction hx with
  | one hb => exact h.got _ hb
  | more _ hc ih =>
   rcases h.clo _ ih with h' | h'
   ·rw [mkd_rep] at h'; cases h'
   exact h' _ hc
 exact h.fnd (fun h' => by rw [mkd_rep] at h'; cases h') (this st hr)
def setAll (l : List Bool) (xs : List Nat) : List Bool := xs.foldl (fun l x => l.set x true) l
theorem setAll_len : ∀ (xs : List Nat) (l : List Bool), (setAll l xs).length = l.length
 | [], l => rfl
 | x :: xs, l => by
  have := setAll_len xs (l.set x true)
  rw [List.length_set] at this
  exact this
theorem setAll_app (l : List Bool) (xs ys : List Nat) : setAll l (xs ++ ys) = setAll (setAll l xs) ys := by simp [setAll]
theorem mkd_putAll : ∀ (xs : List Nat) (l : List Bool), (∀ x ∈ xs, x < l.length) → ∀ k, mkd (setAll l xs) k = true ↔ mkd l k = true ∨ k ∈ xs
 | [], l, _, k => by simp [setAll]
 | x :: xs, l, h, k => by
  have h1 := mkd_putAll xs (l.set x true) (fun y hy => by rw [List.length_set]; exact h y (List.mem_cons_of_mem _ hy)) k
  rw [show setAll l (x :: xs) = setAll (l.set x true) xs from rfl, h1, mkd_put (h x List.mem_cons_self), List.mem_cons]
  by_cases c : k = x
  ·simp [c]
  simp [c]
def cel (M : List (List Bool)) (i j : Nat) : Bool := mkd (M.getD i []) j
def orL (row rk : List Bool) : List Bool := List.zipWith (· || ·) row rk
def fwRow (row rk : List Bool) (k : Nat) : List Bool := if mkd row k = true then orL row rk else row
def fwK (M : List (List Bool)) (k : Nat) : List (List Bool) := M.map fun row => fwRow row (M.getD k []) k
def fwN (M : List (List Bool)) : Nat → List (List Bool)
 | 0 => M
 | k + 1 => fwK (fwN M k) k
theorem mkd_orL {row rk : List Bool} (h : row.length = rk.length) (j : Nat) : mkd (orL row rk) j = (mkd row j || mkd rk j) := by
 simp only [mkd, orL, List.getD_eq_getElem?_getD, List.getElem?_zipWith]
 by_cases c : j < row.length
 ·simp [List.getElem?_eq_getElem c, List.getElem?_eq_getElem (show j < rk.length by omega)]
 rw [List.getElem?_eq_none (by omega), List.getElem?_eq_none (by omega)]; rfl
theorem orL_self : ∀ (l : List Bool), orL l l = l
 | [] => rfl
 | b :: l => by
  have := orL_self l
  simp only [orL, List.zipWith_cons_cons, Bool.or_self] at this ⊢
  rw [this]
theorem orL_len {row rk : List Bool} (h : row.length = rk.length) : (orL row rk).length = row.length := by simp [orL, h]
theorem fwRow_len {row rk : List Bool} (h : row.length = rk.length) (k : Nat) : (fwRow row rk k).length = row.length := by
 unfold fwRow
 split
 ·exact orL_len h
 rfl
theorem fwRow_self (l : List Bool) (k : Nat) : fwRow l l k = l := by
 unfold fwRow
 split
 ·exact orL_self l
 rfl
structure Mat (n : Nat) (M : List (List Bool)) : Prop where
 len : M.length = n
 row : ∀ i, i < n → (M.getD i []).length = n
theorem fwK_at {M : List (List Bool)} {n k i : Nat} (h : Mat n M) (hi : i < n) : (fwK M k).getD i [] = fwRow (M.getD i []) (M.getD k []) k := by
 have := h.len
 simp only [fwK, List.getD_eq_getElem?_getD, List.getElem?_map, List.getElem?_eq_getElem (show i < M.length by omega), Option.map_some, Option.getD_some]
theorem fwK_mat {M : List (List Bool)} {n k : Nat} (h : Mat n M) (hk : k < n) : Mat n (fwK M k) :=
 ⟨by rw [fwK, List.length_map]; exact h.len, fun i hi => by rw [fwK_at h hi, fwRow_len (by rw [h.row i hi, h.row k hk]), h.row i hi]⟩
theorem fwK_cel {M : List (List Bool)} {n k i : Nat} (h : Mat n M) (hk : k < n) (hi : i < n) (j : Nat) : cel (fwK M k) i j = (cel M i j || (cel M i k && cel M k j)) := by
 unfold cel
 rw [fwK_at h hi, fwRow]
 split
 ·rename_i c
  rw [mkd_orL (by rw [h.row i hi, h.row k hk]), c, Bool.true_and]
 rename_i c
 have c' : mkd (M.getD i []) k = false := by cases h : mkd (M.getD i []) k <;> simp_all
 rw [c', Bool.false_and, Bool.or_false]
theorem fwN_mat {M : List (List Bool)} {n : Nat} (h : Mat n M) : ∀ k, k ≤ n → Mat n (fwN M k)
 | 0, _ => h
 | k + 1, hk => fwK_mat (fwN_mat h k (by omega)) (by omega)
structure FwSt (E : Nat → List Nat) (n k : Nat) (M : List (List Bool)) : Prop where
 so : ∀ i j, i < n → j < n → cel M i j = true → Rch E i j
 co : ∀ i j, i < n → j < n → j ∈ E i → cel M i j = true
 tr : ∀ m, m < k → ∀ i j, i < n → j < n → cel M i m = true → cel M m j = true → cel M i j = true
theorem Rch.trans {E : Nat → List Nat} {a b c : Nat} (h1 : Rch E a b) (h2 : Rch E b c) : Rch E a c := by
 induction h2 with
 | one h => exact .more h1 h
 | more _ h ih => exact .more ih h
theorem fwK_st {E : Nat → List Nat} {n k : Nat} {M : List (List Bool)} (h : Mat n M) (hk : k < n) (H : FwSt E n k M) : FwSt E n (k + 1) (fwK M k) := by
 refine ⟨fun i j hi hj hc => ?_, fun i j hi hj he => ?_, fun m hm i j hi hj h1 h2 => ?_⟩
 ·rw [fwK_cel h hk hi, Bool.or_eq_true, Bool.and_eq_true] at hc
  rcases hc with hc | ⟨h1, h2⟩
  ·exact H.so i j hi hj hc
  exact (H.so i k hi hk h1).trans (H.so k j hk hj h2)
 ·rw [fwK_cel h hk hi, H.co i j hi hj he, Bool.true_or]
 have hm' : m < n := by omega
 rw [fwK_cel h hk hi, Bool.or_eq_true, Bool.and_eq_true] at h1 ⊢
 rw [fwK_cel h hk hm', Bool.or_eq_true, Bool.and_eq_true] at h2
 rcases Nat.lt_or_ge m k with c | c
 ·rcases h1 with h1 | ⟨h1, h3⟩
  ·rcases h2 with h2 | ⟨h2, h4⟩
   ·exact .inl (H.tr m c i j hi hj h1 h2)
   exact .inr ⟨H.tr m c i k hi hk h1 h2, h4⟩
  rcases h2 with h2 | ⟨h2, h4⟩
  ·exact .inr ⟨h1, H.tr m c k j hk hj h3 h2⟩
  exact .inr ⟨h1, h4⟩
 obtain rfl : m = k := by omega
 have h5 : cel M i m = true := by rcases h1 with h1 | ⟨h1, _⟩ <;> exact h1
 have h6 : cel M m j = true := by rcases h2 with h2 | ⟨_, h2⟩ <;> exact h2
 exact .inr ⟨h5, h6⟩
theorem fwN_st {E : Nat → List Nat} {n : Nat} {M : List (List Bool)} (h : Mat n M) (h0 : ∀ i j, i < n → j < n → (cel M i j = true ↔ j ∈ E i)) : ∀ k, k ≤ n → FwSt E n k (fwN M k)
 | 0, _ => ⟨fun i j hi hj hc => .one ((h0 i j hi hj).1 hc), fun i j hi hj he => (h0 i j hi hj).2 he, fun m hm => absurd hm (Nat.not_lt_zero _)⟩
 | k + 1, hk => fwK_st (fwN_mat h k (by omega)) (by omega) (fwN_st h h0 k (by omega))
theorem fwN_iff {E : Nat → List Nat} {n : Nat} {M : List (List Bool)} (h : Mat n M) (hE : ∀ a, a < n → ∀ b ∈ E a, b < n) (h0 : ∀ i j, i < n → j < n → (cel M i j = true ↔ j ∈ E i)) {i j : Nat} (hi : i < n) (hj : j < n) : cel (fwN M n) i j = true ↔ Rch E i j := by
 have H := fwN_st h h0 n (Nat.le_refl _)
 refine ⟨H.so i j hi hj, fun hr => ?_⟩
 have : ∀ x, Rch E i x → x < n ∧ cel (fwN M n) i x = true := fun x hx => by
  induction hx with
  | one hb => exact ⟨hE _ hi _ hb, H.co _ _ hi (hE _ hi _ hb) hb⟩
  | more _ hc ih => exact ⟨hE _ ih.1 _ hc, H.tr _ ih.1 _ _ hi (hE _ ih.1 _ hc) ih.2 (H.co _ _ ih.1 (hE _ ih.1 _ hc) hc)⟩
 exact (this j hr).2
def fstI (p : Nat → Bool) : Nat → Nat → Option Nat
 | 0, _ => none
 | d + 1, i => if p i = true then some i else fstI p d (i + 1)
def chkR (p q : Nat → Bool) (n : Nat) : Int × Int := match fstI p n 0 with
 | some i => (8, (i : Int))
 | none => match fstI q n 0 with
  | some i => (9, (i : Int))
  | none => (0, 0)
def edges (R : Nat) (Ts : List (Option Tr)) (m : List Bool) (i : Nat) : List Nat := begO R m (tr Ts i)
def mat0 (R : Nat) (Ts : List (Option Tr)) (m : List Bool) (n : Nat) : List (List Bool) := (List.range n).map fun i => setAll (List.replicate n false) (edges R Ts m i)
theorem mat0_at {R : Nat} {Ts : List (Option Tr)} {m : List Bool} {n i : Nat} (hi : i < n) : (mat0 R Ts m n).getD i [] = setAll (List.replicate n false) (edges R Ts m i) := by
 simp [mat0, List.getD_eq_getElem?_getD, hi]
theorem mat0_mat (R : Nat) (Ts : List (Option Tr)) (m : List Bool) (n : Nat) : Mat n (mat0 R Ts m n) :=
 ⟨by simp [mat0], fun i hi => by rw [mat0_at hi, setAll_len, List.length_replicate]⟩
theorem same_left {R L : Nat} {Ts : List (Option Tr)} {m : List Bool} {n : Nat} (hn : n = R + L) (hok : ∀ i, i < n → okO R L (tr Ts i)) : ∀ i, i < n → lrec (edges R Ts m) n i = cel (fwN (mat0 R Ts m n) n) i i := fun i hi => by
 have hE : ∀ a, a < n → ∀ b ∈ edges R Ts m a, b < n := fun a ha b hb => by rw [hn]; exact begO_lt (hok a ha) b hb
 have h0 : ∀ i j, i < n → j < n → (cel (mat0 R Ts m n) i j = true ↔ j ∈ edges R Ts m i) := fun i j hi hj => by
  rw [cel, mat0_at hi, mkd_putAll _ _ (fun x hx => by rw [List.length_replicate]; exact hE i hi x hx), mkd_rep]
  simp
 rw [Bool.eq_iff_iff, lrec_iff hE hi, fwN_iff (mat0_mat R Ts m n) hE h0 hi hi]
end Go.Proofs.Ytdiilocgjnlmiaa.Tre
end
section
namespace Go.Proofs.Ytdiilocgjnlmiaa.Tre
open Go.RowKit Go.Proofs.YtdiilocgjnlmiaaW.PrintWords Go.Proofs.YtdiilocgjnlmiaaW.PrintLast Go.Proofs.YtdiilocgjnlmiaaW.PrintMore
open Go.Proofs.Ytdiilocgjnlmiaa.PAll
set_option linter.unusedVariables false
set_option linter.unusedSimpArgs false
def BoolPost (w : World) (b : Bool) (e : Ending) (w' : World) : Prop := e = .returned (.bool b) ∧ Below w.heap.size w w'
theorem opB_cases (R L k : Int) (s : List Int) (n : Int) : opB R L ⟨k, s, n⟩ = ((if k = 1 then canonB s else decide (s.length = 0)) && decide (0 ≤ n ∧ n < mostF R L k)) := rfl
theorem all_false {R L : Int} {ops : List Op} {i : Nat} {o : Op} (h : ops.all (opB R L) = (o :: ops.drop (i + 1)).all (opB R L)) (ho : opB R L o = false) : bodyB R L ops = false := by
 unfold bodyB
 rw [h, List.all_cons, ho]; rfl
theorem all_step {R L : Int} {ops : List Op} {i : Nat} {o : Op} (h : ops.all (opB R L) = (o :: ops.drop (i + 1)).all (opB R L)) (ho : opB R L o = true) : ops.all (opB R L) = (ops.drop (i + 1)).all (opB R L) := by
 rw [h, List.all_cons, ho]; rfl
theorem good_no {w W : World} {b : Bool} (h : b = false) (hb : Below w.heap.size w W) : BoolPost w b (.returned (.bool false)) W := ⟨by rw [h], hb⟩
theorem good_yes {w W : World} {b c : Bool} (h : b = c) (hb : Below w.heap.size w W) : BoolPost w b (.returned (.bool c)) W := ⟨by rw [h], hb⟩
theorem cell_new (w : World) (cs : Array Value) (t : TypeId) (j : Nat) (v : Value) (h : cs[j]? = some v) : (w.alloc (.cells cs t)).cell? ⟨w.heap.size, j, none⟩ = some v := by
 rw [cell_of_row _ _ _ _ _ _ (World.alloc_heap_new w _)]
 exact h
set_option maxRecDepth 100000 in
set_option maxHeartbeats 8000000 in
theorem goodBody_in (w : World) (A A0 A1 : Option Addr) (c R L c0 cL : Nat) (ops : List Op) (hr : Kd.C k79 w A ops.length ops) (hc : ops.length ≤ c) (hm : ops.length ≤ 1099511627776) (hs : ∀ o ∈ ops, o.f1.length ≤ 1099511627776) (hR : R ≤ 1099511627776) (hL : L ≤ 1099511627776) :
 Calls Try.prog 54 #[.agg #[.slice A0 R c0, .slice A1 L cL], .slice A ops.length c] w (BoolPost w (bodyB R L ops)) := by
 obtain ⟨K, hK⟩ : ∃ K : Nat, 1099511627776 < K := ⟨_, Nat.lt_succ_self _⟩
 have HK := Aside0.mk hK
 clear hK
 go_enter Try.func54, Try.ntmps54
 go_wp2
 have hw0 : Below w.heap.size w (w.alloc (Obj.cells #[.slice A0 R c0, .slice A1 L cL] 31)) := below_alloc (Below.refl _ _) _
 have g0 : (w.alloc (Obj.cells #[.slice A0 R c0, .slice A1 L cL] 31)).cell? ⟨w.heap.size, 0, none⟩ = some (.slice A0 R c0) := cell_new w _ _ 0 _ rfl
 have g1 : (w.alloc (Obj.cells #[.slice A0 R c0, .slice A1 L cL] 31)).cell? ⟨w.heap.size, 1, none⟩ = some (.slice A1 L cL) := cell_new w _ _ 1 _ rfl
 generalize hww : w.alloc (Obj.cells #[.slice A0 R c0, .slice A1 L cL] 31) = w0 at *
 have hr0 := Kd.C_below hr hw0
 have HW0 := Aside0.mk hw0
 clear hww hw0
 go_loopg [12] (ops.length + 1) (fun kq v12 w' => ∃ (i : Nat), v12 = .int .i64 (i : Int) ∧ Aside0 (i ≤ ops.length ∧ ops.length < i + kq ∧ ops.all (opB R L) = (ops.drop i).all (opB R L)) ∧ Aside0 (Below w0.heap.size w0 w'))
 case atStart => exact ⟨0, rfl, ⟨by omega, by omega, rfl⟩, ⟨Below.refl _ _⟩⟩
 case round =>
  obtain ⟨i, rfl, HI, hB0⟩ := hrel
  have hB := hB0.out
  clear hB0
  obtain ⟨i1, i2, i3⟩ := HI.out
  clear HI
  cases gk with
  | zero => omega
  | succ k1 =>
   replace g0 := pw_cell_below hB g0
   replace g1 := pw_cell_below hB g1
   have lb : w.heap.size < wr.heap.size := World.block_lt_of_cell? wr ⟨w.heap.size, 0, none⟩ g0
   by_cases hi : i < ops.length
   rotate_left
   ·have d1 : decide ((i : Int) < (ops.length : Int)) = false := decide_eq_false (by omega)
    rw [List.drop_eq_nil_of_le (by omega)] at i3
    have I3 := Lib.hid i3
    have HB := Aside0.mk hB
    have hr1 := Kd.C_below hr0 hB
    have HR := Aside0.mk hr1
    clear i3 hB hr hr0 hr1
    go_wp2_with (first
     | ((with_reducible refine gate_dst (N := 57) rfl ?_); go_must (refine goesL_ (some 57) rfl rfl Try.func90 (by kernel_rfl) rfl #[.slice A ops.length c] rfl (by (try simp only [List.map_toArray, List.map_cons, List.map_nil]); first | rfl) ?_; refine (tree_in _ A c ops HR.out hc hm).mono ?_); rintro e w' ⟨v, b, rfl, hb1, hb2, -, -⟩; have HB1 := Aside0.mk hb1; have HB2 := Lib.hid hb2; clear hb1 hb2; refine ⟨_, rfl, ?_⟩))
    go_ret
    refine good_yes ?_ (below_then HW0.out HW0.out.size (below_then HB.out HB.out.size HB1.out))
    rw [HB2.out]
    unfold bodyB
    rw [I3.out]; rfl
   have d1 : decide ((i : Int) < (ops.length : Int)) = true := decide_eq_true (by omega)
   obtain ⟨ad, AS, cS, rfl, x0, x1, x2, y1, y2⟩ := at_T79 hr0 (i : Int) (by omega) (by omega)
   rw [Int.toNat_natCast] at x0 x1 x2
   replace x0 := pw_cell_below hB x0
   replace x1 := pw_cell_below hB x1
   replace x2 := pw_cell_below hB x2
   replace y2 := Kd.C_below y2 hB
   have d2 : (0 ≤ (i : Int)) = True := eq_true (by omega)
   have d3 : ((i : Int) < (ops.length : Int)) = True := eq_true (by omega)
   have hsz := hs (rd_T79 ops (i : Int)) (by
    have := drop_op (ops := ops) (i := i) (by omega)
    exact List.mem_of_mem_drop (by rw [this]; exact List.mem_cons_self))
   rw [drop_op hi] at i3
   generalize ho : rd_T79 ops (i : Int) = o at *
   obtain ⟨k, s, n⟩ := o
   simp only at x0 x1 x2 y1 y2 hsz
   have I3 := Lib.hid i3
   clear i3 ho
   have HY := Aside0.mk y2
   have HB := Aside0.mk hB
   clear y2 hr hB hr0 hs
   have fin : ∀ (W : World), Below w0.heap.size w0 W → Below w.heap.size w W := fun W h => below_then HW0.out HW0.out.size h
   have FIN := Aside0.mk fin
   clear fin
   rcases (by omega : k = 1 ∨ k = 2 ∨ k = 3 ∨ (k ≠ 1 ∧ k ≠ 2 ∧ k ≠ 3)) with rfl | rfl | rfl | ⟨ka, kb, kc⟩
   ·have hf := canonical_f s hsz K (by have := HK.out; omega)
    have hop := opB_cases R L 1 s n
    rw [if_pos rfl, show mostF R L 1 = 1 from rfl] at hop
    cases hcb : canonB s
    ·rw [hcb] at hf hop
     have HO : Hid (opB R L ⟨1, s, n⟩ = false) := hop
     clear hop hcb
     go_wp2_with (first
      | ((with_reducible refine gate_dst (N := 22) rfl ?_); go_must (refine goesL_ (some 22) rfl rfl Try.func107 (by kernel_rfl) rfl #[.slice AS s.length cS] rfl (by (try simp only [List.map_toArray, List.map_cons, List.map_nil]); first | rfl) ?_; refine (impl_canonical.calls K _ cS s _ _ (Kd.C_alloc HY.out _) y1 hf).mono ?_); rintro e w' ⟨rfl, ⟨nd, rfl⟩⟩; refine ⟨_, rfl, ?_⟩))
     go_ret
     exact good_no (all_false I3.out HO.out) (FIN.out _ (by repeat (with_reducible first | exact HB.out | apply below_alloc | apply pw_below_drewN)))
    rw [hcb] at hf hop
    clear hcb
    by_cases ca : n < 0
    ·have fa : decide (n < 0) = true := decide_eq_true ca
     have HO : Hid (opB R L ⟨1, s, n⟩ = false) := by rw [hop, decide_eq_false (by omega)]; rfl
     clear hop
     go_wp2_with (first
      | ((with_reducible refine gate_dst (N := 22) rfl ?_); go_must (refine goesL_ (some 22) rfl rfl Try.func107 (by kernel_rfl) rfl #[.slice AS s.length cS] rfl (by (try simp only [List.map_toArray, List.map_cons, List.map_nil]); first | rfl) ?_; refine (impl_canonical.calls K _ cS s _ _ (Kd.C_alloc HY.out _) y1 hf).mono ?_); rintro e w' ⟨rfl, ⟨nd, rfl⟩⟩; refine ⟨_, rfl, ?_⟩))
     go_ret
     exact good_no (all_false I3.out HO.out) (FIN.out _ (by repeat (with_reducible first | exact HB.out | apply below_alloc | apply pw_below_drewN)))
    have fa : decide (n < 0) = false := decide_eq_false ca
    by_cases cb : n ≥ 1
    ·have fb : decide (n ≥ 1) = true := decide_eq_true cb
     have HO : Hid (opB R L ⟨1, s, n⟩ = false) := by rw [hop, decide_eq_false (by omega)]; rfl
     clear hop
     go_wp2_with (first
      | ((with_reducible refine gate_dst (N := 22) rfl ?_); go_must (refine goesL_ (some 22) rfl rfl Try.func107 (by kernel_rfl) rfl #[.slice AS s.length cS] rfl (by (try simp only [List.map_toArray, List.map_cons, List.map_nil]); first | rfl) ?_; refine (impl_canonical.calls K _ cS s _ _ (Kd.C_alloc HY.out _) y1 hf).mono ?_); rintro e w' ⟨rfl, ⟨nd, rfl⟩⟩; refine ⟨_, rfl, ?_⟩))
     go_ret
     exact good_no (all_false I3.out HO.out) (FIN.out _ (by repeat (with_reducible first | exact HB.out | apply below_alloc | apply pw_below_drewN)))
    have fb : decide (n ≥ 1) = false := decide_eq_false cb
    have HO : Hid (opB R L ⟨1, s, n⟩ = true) := by rw [hop, decide_eq_true (by omega)]; rfl
    clear hop
    go_wp2_with (first
     | ((with_reducible refine gate_dst (N := 22) rfl ?_); go_must (refine goesL_ (some 22) rfl rfl Try.func107 (by kernel_rfl) rfl #[.slice AS s.length cS] rfl (by (try simp only [List.map_toArray, List.map_cons, List.map_nil]); first | rfl) ?_; refine (impl_canonical.calls K _ cS s _ _ (Kd.C_alloc HY.out _) y1 hf).mono ?_); rintro e w' ⟨rfl, ⟨nd, rfl⟩⟩; refine ⟨_, rfl, ?_⟩))
    go_roundg k1
    case measure => omega
    case rel => exact ⟨i + 1, by first | rfl, ⟨by omega, by omega, all_step I3.out HO.out⟩, ⟨by repeat (with_reducible first | exact HB.out | apply below_alloc | apply pw_below_drewN)⟩⟩
   ·have hop := opB_cases R L 2 s n
    rw [if_neg (by decide), show mostF (R : Int) L 2 = (R : Int) from rfl] at hop
    by_cases cs : s.length = 0
    rotate_left
    ·have fs : ((s.length : Int) != 0) = true := by rw [bne_iff_ne]; omega
     have HO : Hid (opB R L ⟨2, s, n⟩ = false) := by rw [hop, decide_eq_false cs]; rfl
     clear hop
     go_wp2
     go_ret
     exact good_no (all_false I3.out HO.out) (FIN.out _ (by repeat (with_reducible first | exact HB.out | apply below_alloc)))
    have fs : ((s.length : Int) != 0) = false := by rw [bne_eq_false_iff_eq]; omega
    rw [decide_eq_true cs] at hop
    clear cs
    by_cases ca : n < 0
    ·have fa : decide (n < 0) = true := decide_eq_true ca
     have HO : Hid (opB R L ⟨2, s, n⟩ = false) := by rw [hop, decide_eq_false (by omega)]; rfl
     clear hop
     go_wp2
     go_ret
     exact good_no (all_false I3.out HO.out) (FIN.out _ (by repeat (with_reducible first | exact HB.out | apply below_alloc)))
    have fa : decide (n < 0) = false := decide_eq_false ca
    by_cases cb : n ≥ (R : Int)
    ·have fb : decide (n ≥ (R : Int)) = true := decide_eq_true cb
     have HO : Hid (opB R L ⟨2, s, n⟩ = false) := by rw [hop, decide_eq_false (by omega)]; rfl
     clear hop
     go_wp2
     go_ret
     exact good_no (all_false I3.out HO.out) (FIN.out _ (by repeat (with_reducible first | exact HB.out | apply below_alloc)))
    have fb : decide (n ≥ (R : Int)) = false := decide_eq_false cb
    have HO : Hid (opB R L ⟨2, s, n⟩ = true) := by rw [hop, decide_eq_true (by omega)]; rfl
    clear hop
    go_wp2
    go_roundg k1
    case measure => omega
    case rel => exact ⟨i + 1, by first | rfl, ⟨by omega, by omega, all_step I3.out HO.out⟩, ⟨by repeat (with_reducible first | exact HB.out | apply below_alloc)⟩⟩
   ·have hop := opB_cases R L 3 s n
    rw [if_neg (by decide), show mostF (R : Int) L 3 = (L : Int) from rfl] at hop
    by_cases cs : s.length = 0
    rotate_left
    ·have fs : ((s.length : Int) != 0) = true := by rw [bne_iff_ne]; omega
     have HO : Hid (opB R L ⟨3, s, n⟩ = false) := by rw [hop, decide_eq_false cs]; rfl
     clear hop
     go_wp2
     go_ret
     exact good_no (all_false I3.out HO.out) (FIN.out _ (by repeat (with_reducible first | exact HB.out | apply below_alloc)))
    have fs : ((s.length : Int) != 0) = false := by rw [bne_eq_false_iff_eq]; omega
    rw [decide_eq_true cs] at hop
    clear cs
    by_cases ca : n < 0
    ·have fa : decide (n < 0) = true := decide_eq_true ca
     have HO : Hid (opB R L ⟨3, s, n⟩ = false) := by rw [hop, decide_eq_false (by omega)]; rfl
     clear hop
     go_wp2
     go_ret
     exact good_no (all_false I3.out HO.out) (FIN.out _ (by repeat (with_reducible first | exact HB.out | apply below_alloc)))
    have fa : decide (n < 0) = false := decide_eq_false ca
    by_cases cb : n ≥ (L : Int)
    ·have fb : decide (n ≥ (L : Int)) = true := decide_eq_true cb
     have HO : Hid (opB R L ⟨3, s, n⟩ = false) := by rw [hop, decide_eq_false (by omega)]; rfl
     clear hop
     go_wp2
     go_ret
     exact good_no (all_false I3.out HO.out) (FIN.out _ (by repeat (with_reducible first | exact HB.out | apply below_alloc)))
    have fb : decide (n ≥ (L : Int)) = false := decide_eq_false cb
    have HO : Hid (opB R L ⟨3, s, n⟩ = true) := by rw [hop, decide_eq_true (by omega)]; rfl
    clear hop
    go_wp2
    go_roundg k1
    case measure => omega
    case rel => exact ⟨i + 1, by first | rfl, ⟨by omega, by omega, all_step I3.out HO.out⟩, ⟨by repeat (with_reducible first | exact HB.out | apply below_alloc)⟩⟩
   have fk1 : (k == 1) = false := by simpa using ka
   have fk2 : (k == 2) = false := by simpa using kb
   have fk3 : (k == 3) = false := by simpa using kc
   have fk4 : (k != 1) = true := by simpa using ka
   have hop := opB_cases R L k s n
   rw [if_neg ka, show mostF R L k = 1 by unfold mostF; rw [if_neg kc, if_neg kb]] at hop
   by_cases cs : s.length = 0
   rotate_left
   ·have fs : ((s.length : Int) != 0) = true := by rw [bne_iff_ne]; omega
    have HO : Hid (opB R L ⟨k, s, n⟩ = false) := by rw [hop, decide_eq_false cs]; rfl
    clear hop
    go_wp2
    go_ret
    exact good_no (all_false I3.out HO.out) (FIN.out _ (by repeat (with_reducible first | exact HB.out | apply below_alloc)))
   have fs : ((s.length : Int) != 0) = false := by rw [bne_eq_false_iff_eq]; omega
   rw [decide_eq_true cs] at hop
   clear cs
   by_cases ca : n < 0
   ·have fa : decide (n < 0) = true := decide_eq_true ca
    have HO : Hid (opB R L ⟨k, s, n⟩ = false) := by rw [hop, decide_eq_false (by omega)]; rfl
    clear hop
    go_wp2
    go_ret
    exact good_no (all_false I3.out HO.out) (FIN.out _ (by repeat (with_reducible first | exact HB.out | apply below_alloc)))
   have fa : decide (n < 0) = false := decide_eq_false ca
   by_cases cb : n ≥ 1
   ·have fb : decide (n ≥ 1) = true := decide_eq_true cb
    have HO : Hid (opB R L ⟨k, s, n⟩ = false) := by rw [hop, decide_eq_false (by omega)]; rfl
    clear hop
    go_wp2
    go_ret
    exact good_no (all_false I3.out HO.out) (FIN.out _ (by repeat (with_reducible first | exact HB.out | apply below_alloc)))
   have fb : decide (n ≥ 1) = false := decide_eq_false cb
   have HO : Hid (opB R L ⟨k, s, n⟩ = true) := by rw [hop, decide_eq_true (by omega)]; rfl
   clear hop
   go_wp2
   go_roundg k1
   case measure => omega
   case rel => exact ⟨i + 1, by first | rfl, ⟨by omega, by omega, all_step I3.out HO.out⟩, ⟨by repeat (with_reducible first | exact HB.out | apply below_alloc)⟩⟩
end Go.Proofs.Ytdiilocgjnlmiaa.Tre
end
