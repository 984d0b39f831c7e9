import Derived.Test.YtdiilocgjnlmiaaCpgFlat
import Derived.Test.YtdiilocgjnlmiaaCpgPAllx2
namespace Go.Proofs.Ytdiilocgjnlmiaa.PAll
open Go.RowKit Go.Proofs.YtdiilocgjnlmiaaW.PrintWords Go.Proofs.YtdiilocgjnlmiaaW.PrintLast Go.Proofs.YtdiilocgjnlmiaaW.PrintMore
attribute [local go_sem] max2_int min2_int max_two min_two max_three min_three max_four min_four   -- for this text's walks alone
set_option linter.unusedVariables false
set_option linter.unusedSimpArgs false
def spec_l2shape.l0 : Nat → List (S79) → Int → Int → Option (Bool)
 | 0, _, _, _ => none
 | k + 1, x0, x3, x4 => if x4 ≥ 0 then (if x3 = 0 then (some false) else (if 0 ≤ x4 then (if x4 < (x0.length : Int) then ((spec_l2arity.f k ((rd_T79 x0 x4).f0)).bind fun t131 => (spec_l2shape.l0 k x0 (wrap64 (x3 + (wrap64 (t131 - 1)))) (wrap64 (x4 - 1)))) else (none)) else (none))) else (some (x3 == 0))
def spec_l2shape.f (k : Nat) (l0 : List (S79)) : Option (Bool) := spec_l2shape.l0 k l0 1 (wrap64 ((l0.length : Int) - 1))
theorem spec_l2shape.mono_l : ∀ k, (∀ y0 y1 y2, LeO (spec_l2shape.l0 k y0 y1 y2) (spec_l2shape.l0 (k + 1) y0 y1 y2))
 | 0 => fun _ _ _ r h => by simp [spec_l2shape.l0] at h
 | k + 1 => by
  have ih0 := spec_l2shape.mono_l k
  intro y0 y1 y2
  unfold spec_l2shape.l0
  repeat' first
  | (with_reducible exact ih0 _ _ _)
  | (with_reducible exact spec_l2arity.mono _ _)
  | (with_reducible exact LeO.refl _)
  | (with_reducible exact LeO.none _)
  | (with_reducible refine LeO.ite ?_ ?_)
  | (with_reducible refine LeO.bind ?_ (fun _ => ?_))
  | exact ih0 _ _ _
  | exact spec_l2arity.mono _ _
  | exact LeO.none _
  | refine LeO.ite ?_ ?_
  | refine LeO.bind ?_ (fun _ => ?_)
theorem spec_l2shape.mono : ∀ a0 k, LeO (spec_l2shape.f k a0) (spec_l2shape.f (k + 1) a0) := by
 intro a0 k
 have ih0 := spec_l2shape.mono_l k
 unfold spec_l2shape.f
 repeat' first
  | (with_reducible exact ih0 _ _ _)
  | (with_reducible exact spec_l2arity.mono _ _)
  | (with_reducible exact LeO.refl _)
  | (with_reducible exact LeO.none _)
  | (with_reducible refine LeO.ite ?_ ?_)
  | (with_reducible refine LeO.bind ?_ (fun _ => ?_))
  | exact ih0 _ _ _
  | exact spec_l2arity.mono _ _
  | exact LeO.none _
  | refine LeO.ite ?_ ?_
  | refine LeO.bind ?_ (fun _ => ?_)
set_option maxHeartbeats 8000000 in
set_option maxRecDepth 100000 in
theorem spec_l2shape.calls (k : Nat) (A0 : Option Addr) (c0 : Nat) (l0 : List (S79)) (r : Bool) (w : World) (hr0 : Kd.C k79 w A0 l0.length l0) (hc0 : l0.length ≤ c0) (h : spec_l2shape.f k l0 = some r) :
 Calls Try.prog 102 #[.slice A0 l0.length c0] w fun e w' => e = .returned (.bool r) ∧ Drawn0 w w' := by
 have HR0 := Aside0.mk hr0
 have HC0 := Aside0.mk hc0
 clear hr0 hc0
 have H : (spec_l2shape.l0 k l0 1 (wrap64 ((l0.length : Int) - 1))) = some r := h
 clear h
 have H' := Aside0.mk H
 clear H
 go_enter Try.func102, Try.ntmps102
 go_wp2
 go_loopg [3, 4] k (fun kq v3 v4 w' => ∃ (x3_1 : Int) (x4_1 : Int), v3 = .int .i64 x3_1 ∧ v4 = .int .i64 x4_1 ∧ Aside0 (spec_l2shape.l0 kq l0 x3_1 x4_1 = some r) ∧ Aside0 (kq ≤ k) ∧ Drawn0 w w')
 case atStart => exact ⟨(1), (wrap64 ((l0.length : Int) - 1)), (by first | rfl | (simp; done) | (simp [*]; done)), (by first | rfl | (simp; done) | (simp [*]; done)), H', ⟨Nat.le_refl _⟩, dr_⟩
 case round =>
  clear H'
  try clear c1
  obtain ⟨x3_1, x4_1, rfl, rfl, HA, HK1, ⟨m1, rfl⟩⟩ := hrel
  cases gk with
  | zero => exact absurd HA.out (by simp [spec_l2shape.l0])
  | succ k1 =>
   have H := HA.out
   clear HA
   simp only [spec_l2shape.l0] at H
   by_cases c2 : x4_1 ≥ 0
   rotate_left
   ·rw [if_neg c2] at H
    have c2b0 : decide (0 ≤ x4_1) = false := decide_eq_false c2
    clear c2
    obtain rfl := Option.some.inj H
    go_wp2
    go_ret
    exact ⟨by first | rfl | (simp; done) | (simp [*]; done), dr_⟩
   rw [if_pos c2] at H
   have c2b0 : decide (0 ≤ x4_1) = true := decide_eq_true c2
   clear c2
   by_cases c3 : x3_1 = 0
   ·rw [if_pos c3] at H
    have c3b0 : (x3_1 == 0) = true := beq_iff_eq.mpr c3
    have c3b1 : (x3_1 != 0) = false := bne_eq_false_iff_eq.mpr c3
    clear c3
    obtain rfl := Option.some.inj H
    go_wp2
    go_ret
    exact ⟨by first | rfl | (simp; done) | (simp [*]; done), dr_⟩
   rw [if_neg c3] at H
   have c3b0 : (x3_1 == 0) = false := beq_eq_false_iff_ne.mpr c3
   have c3b1 : (x3_1 != 0) = true := bne_iff_ne.mpr c3
   by_cases c4 : 0 ≤ x4_1
   rotate_left
   ·rw [if_neg c4] at H
    exact absurd H (by simp)
   rw [if_pos c4] at H
   have c4b0 : decide (0 ≤ x4_1) = true := decide_eq_true c4
   clear c4
   by_cases c5 : x4_1 < (l0.length : Int)
   rotate_left
   ·rw [if_neg c5] at H
    exact absurd H (by simp)
   rw [if_pos c5] at H
   have c5b0 : decide (x4_1 < (l0.length : Int)) = true := decide_eq_true c5
   clear c5
   replace H := Option.bind_eq_some_iff.mp H
   obtain ⟨t131, A60, H⟩ := H
   replace H : (spec_l2shape.l0 k1 l0 (wrap64 (x3_1 + (wrap64 (t131 - 1)))) (wrap64 (x4_1 - 1))) = some r := H
   have A6 := Aside0.mk A60
   clear A60
   have H' := Aside0.mk H
   clear H
   have p130 : 0 ≤ (x4_1 : Int) := of_decide_eq_true as_
   have q130 : x4_1 < (l0.length : Int) := of_decide_eq_true as_
   obtain ⟨ad130, A130_1, c130_1, e130, hx130_0, hx130_1, hx130_2, hl130_1, hi130_1⟩ := at_T79 HR0.out x4_1 p130 q130
   cases e130
   have HR130_1 := Aside0.mk hi130_1
   have HC130_1 := Aside0.mk hl130_1
   clear hi130_1 hl130_1
   replace p130 := eq_true p130
   replace q130 := eq_true q130
   go_wp2_with (first | ((with_reducible refine gate_callee (f := 144) rfl ?_); refine goesL_ (some 20) rfl rfl Try.func144 (by kernel_rfl) rfl #[.int .i64 ((rd_T79 l0 x4_1).f0)] rfl ml_ ?_; (with_reducible refine (spec_l2arity.calls k1 ((rd_T79 l0 x4_1).f0) t131 _ A6.out).mono ?_); rintro e w' ⟨rfl, ⟨nd, rfl⟩⟩; refine ⟨_, rfl, ?_⟩))
   go_roundg k1
   case measure => have := HK1.out; omega
   case rel => exact ⟨(wrap64 (x3_1 + (wrap64 (t131 - 1)))), (wrap64 (x4_1 - 1)), (by first | rfl | (simp; done) | (simp [*]; done)), (by first | rfl | (simp; done) | (simp [*]; done)), H', ⟨by have := HK1.out; omega⟩, dr_⟩
end Go.Proofs.Ytdiilocgjnlmiaa.PAll
