/- Lemmas of the proof, and the walks of functions that it stands on. -/
import Derived.Test.YtdiilocgjnlmiaaCpgCompare
import Derived.Test.YtdiilocgjnlmiaaCpgVImpl
import Derived.Deep.RegionHeld3
import Derived.Outline
import Derived.Test.YtdiilocgjnlmiaaCpgFlat
import Derived.Test.YtdiilocgjnlmiaaCpgPAllx2
import Derived.Test.YtdiilocgjnlmiaaCpgClone
section
namespace Go.Proofs.Ytdiilocgjnlmiaa.Tre
open Go.RowKit Go.Proofs.YtdiilocgjnlmiaaW.PrintWords Go.Proofs.YtdiilocgjnlmiaaW.PrintLast Go.Proofs.YtdiilocgjnlmiaaW.PrintMore
open Go.Proofs.Ytdiilocgjnlmiaa.PAll
set_option linter.unusedVariables false
set_option linter.unusedSimpArgs false
end Go.Proofs.Ytdiilocgjnlmiaa.Tre
end
section
namespace Go.Proofs.Ytdiilocgjnlmiaa.PAll
open Go.RowKit Go.Proofs.YtdiilocgjnlmiaaW.PrintWords Go.Proofs.YtdiilocgjnlmiaaW.PrintLast Go.Proofs.YtdiilocgjnlmiaaW.PrintMore
attribute [local go_sem] max2_int min2_int max_two min_two max_three min_three max_four min_four   -- for this text's walks alone
set_option linter.unusedVariables false
set_option linter.unusedSimpArgs false
def laws_heldIntS.l0 : Nat → List Int → Int → Int → Option (Int)
 | 0, _, _, _ => none
 | k + 1, x0, x1, x5 => if x5 < (x0.length : Int) then (if 0 ≤ x5 then (if (rd x0 x5) = x1 then (laws_heldIntS.l0 k x0 (wrap64 (x1 + 1)) (wrap64 (x5 + 1))) else (some (-1))) else (none)) else (some x1)
def laws_heldIntS.f (k : Nat) (l0 : List Int) (a1 : Int) : Option (Int) := laws_heldIntS.l0 k l0 a1 0
theorem laws_heldIntS.mono_l : ∀ k, (∀ y0 y1 y2, LeO (laws_heldIntS.l0 k y0 y1 y2) (laws_heldIntS.l0 (k + 1) y0 y1 y2))
 | 0 => fun _ _ _ r h => by simp [laws_heldIntS.l0] at h
 | k + 1 => by
  have ih0 := laws_heldIntS.mono_l k
  intro y0 y1 y2
  unfold laws_heldIntS.l0
  repeat' first
  | (with_reducible exact ih0 _ _ _)
  | (with_reducible exact LeO.refl _)
  | (with_reducible exact LeO.none _)
  | (with_reducible refine LeO.ite ?_ ?_)
  | (with_reducible refine LeO.bind ?_ (fun _ => ?_))
  | exact ih0 _ _ _
  | exact LeO.none _
  | refine LeO.ite ?_ ?_
  | refine LeO.bind ?_ (fun _ => ?_)
theorem laws_heldIntS.mono : ∀ a0 a1 k, LeO (laws_heldIntS.f k a0 a1) (laws_heldIntS.f (k + 1) a0 a1) := by
 intro a0 a1 k
 have ih0 := laws_heldIntS.mono_l k
 unfold laws_heldIntS.f
 repeat' first
  | (with_reducible exact ih0 _ _ _)
  | (with_reducible exact LeO.refl _)
  | (with_reducible exact LeO.none _)
  | (with_reducible refine LeO.ite ?_ ?_)
  | (with_reducible refine LeO.bind ?_ (fun _ => ?_))
  | exact ih0 _ _ _
  | exact LeO.none _
  | refine LeO.ite ?_ ?_
  | refine LeO.bind ?_ (fun _ => ?_)
set_option maxHeartbeats 8000000 in
set_option maxRecDepth 100000 in
theorem laws_heldIntS.calls (k : Nat) (A0 : Option Addr) (c0 : Nat) (l0 : List Int) (a1 : Int) (r : Int) (w : World) (hr0 : Kd.C (Kd.int .i64) w A0 l0.length l0) (hc0 : l0.length ≤ c0) (h : laws_heldIntS.f k l0 a1 = some r) :
 Calls Try.prog 70 #[.slice A0 l0.length c0, .int .i64 a1] w fun e w' => e = .returned (.int .i64 r) ∧ Drawn0 w w' := by
 have HR0 := Aside0.mk hr0
 have HC0 := Aside0.mk hc0
 clear hr0 hc0
 have H : (laws_heldIntS.l0 k l0 a1 0) = some r := h
 clear h
 have H' := Aside0.mk H
 clear H
 go_enter Try.func70, Try.ntmps70
 go_wp2
 go_loopg [1, 5] k (fun kq v1 v5 w' => ∃ (x1_1 : Int) (x5_1 : Int), v1 = .int .i64 x1_1 ∧ v5 = .int .i64 x5_1 ∧ Aside0 (laws_heldIntS.l0 kq l0 x1_1 x5_1 = some r) ∧ Aside0 (kq ≤ k) ∧ Drawn0 w w')
 case atStart => exact ⟨(a1), (0), (by first | rfl | (simp; done) | (simp [*]; done)), (by first | rfl | (simp; done) | (simp [*]; done)), H', ⟨Nat.le_refl _⟩, dr_⟩
 case round =>
  clear H'
  try clear p2
  obtain ⟨x1_1, x5_1, rfl, rfl, HA, HK1, ⟨m1, rfl⟩⟩ := hrel
  cases gk with
  | zero => exact absurd HA.out (by simp [laws_heldIntS.l0])
  | succ k1 =>
   have H := HA.out
   clear HA
   simp only [laws_heldIntS.l0] at H
   by_cases c3 : x5_1 < (l0.length : Int)
   rotate_left
   ·rw [if_neg c3] at H
    have c3b0 : decide (x5_1 < (l0.length : Int)) = false := decide_eq_false c3
    clear c3
    obtain rfl := Option.some.inj H
    go_wp2
    go_ret
    exact ⟨by first | rfl | (simp; done) | (simp [*]; done), dr_⟩
   rw [if_pos c3] at H
   have c3b0 : decide (x5_1 < (l0.length : Int)) = true := decide_eq_true c3
   clear c3
   by_cases c4 : 0 ≤ x5_1
   rotate_left
   ·rw [if_neg c4] at H
    exact absurd H (by simp)
   rw [if_pos c4] at H
   have c4b0 : decide (0 ≤ x5_1) = true := decide_eq_true c4
   clear c4
   by_cases c5 : (rd l0 x5_1) = x1_1
   ·rw [if_pos c5] at H
    have c5b0 : ((rd l0 x5_1) == x1_1) = true := beq_iff_eq.mpr c5
    have c5b1 : ((rd l0 x5_1) != x1_1) = false := bne_eq_false_iff_eq.mpr c5
    clear c5
    have H' := Aside0.mk H
    clear H
    have p730 : 0 ≤ (x5_1 : Int) := of_decide_eq_true as_
    have q730 : x5_1 < (l0.length : Int) := of_decide_eq_true as_
    obtain ⟨ad730, e730, hx730_0⟩ := Kd.at_int HR0.out x5_1 p730 q730
    cases e730
    replace p730 := eq_true p730
    replace q730 := eq_true q730
    go_wp2
    go_roundg k1
    case measure => have := HK1.out; omega
    case rel => exact ⟨(wrap64 (x1_1 + 1)), (wrap64 (x5_1 + 1)), (by first | rfl | (simp; done) | (simp [*]; done)), (by first | rfl | (simp; done) | (simp [*]; done)), H', ⟨by have := HK1.out; omega⟩, dr_⟩
   rw [if_neg c5] at H
   have c5b0 : ((rd l0 x5_1) == x1_1) = false := beq_eq_false_iff_ne.mpr c5
   have c5b1 : ((rd l0 x5_1) != x1_1) = true := bne_iff_ne.mpr c5
   obtain rfl := Option.some.inj H
   have p730 : 0 ≤ (x5_1 : Int) := of_decide_eq_true as_
   have q730 : x5_1 < (l0.length : Int) := of_decide_eq_true as_
   obtain ⟨ad730, e730, hx730_0⟩ := Kd.at_int HR0.out x5_1 p730 q730
   cases e730
   replace p730 := eq_true p730
   replace q730 := eq_true q730
   go_wp2
   go_ret
   exact ⟨by first | rfl | (simp; done) | (simp [*]; done), dr_⟩
def laws_heldEventS.l0 : Nat → List (S103) → Int → Int → Option (Int)
 | 0, _, _, _ => none
 | k + 1, x0, x1, x5 => if x5 < (x0.length : Int) then (if 0 ≤ x5 then (if ((rd_T103 x0 x5).f0) = x1 then (if ((rd_T103 x0 x5).f1) = (wrap64 (x1 + 1)) then (if ((rd_T103 x0 x5).f2) = (wrap64 ((wrap64 (x1 + 1)) + 1)) then (laws_heldEventS.l0 k x0 (wrap64 ((wrap64 ((wrap64 (x1 + 1)) + 1)) + 1)) (wrap64 (x5 + 1))) else (some (-1))) else (some (-1))) else (some (-1))) else (none)) else (some x1)
def laws_heldEventS.f (k : Nat) (l0 : List (S103)) (a1 : Int) : Option (Int) := laws_heldEventS.l0 k l0 a1 0
theorem laws_heldEventS.mono_l : ∀ k, (∀ y0 y1 y2, LeO (laws_heldEventS.l0 k y0 y1 y2) (laws_heldEventS.l0 (k + 1) y0 y1 y2))
 | 0 => fun _ _ _ r h => by simp [laws_heldEventS.l0] at h
 | k + 1 => by
  have ih0 := laws_heldEventS.mono_l k
  intro y0 y1 y2
  unfold laws_heldEventS.l0
  repeat' first
  | (with_reducible exact ih0 _ _ _)
  | (with_reducible exact LeO.refl _)
  | (with_reducible exact LeO.none _)
  | (with_reducible refine LeO.ite ?_ ?_)
  | (with_reducible refine LeO.bind ?_ (fun _ => ?_))
  | exact ih0 _ _ _
  | exact LeO.none _
  | refine LeO.ite ?_ ?_
  | refine LeO.bind ?_ (fun _ => ?_)
theorem laws_heldEventS.mono : ∀ a0 a1 k, LeO (laws_heldEventS.f k a0 a1) (laws_heldEventS.f (k + 1) a0 a1) := by
 intro a0 a1 k
 have ih0 := laws_heldEventS.mono_l k
 unfold laws_heldEventS.f
 repeat' first
  | (with_reducible exact ih0 _ _ _)
  | (with_reducible exact LeO.refl _)
  | (with_reducible exact LeO.none _)
  | (with_reducible refine LeO.ite ?_ ?_)
  | (with_reducible refine LeO.bind ?_ (fun _ => ?_))
  | exact ih0 _ _ _
  | exact LeO.none _
  | refine LeO.ite ?_ ?_
  | refine LeO.bind ?_ (fun _ => ?_)
def laws_heldOutcome.f (k : Nat) (a0_0 : Int) (a0_1 : Int) (a0_2 : Int) (a0_3 : Int) (l0_4 : List Int) (a0_5 : Int) (a0_6 : Int) (l0_7 : List (S103)) (a1 : Int) : Option (Int) := (laws_heldIntS.f k l0_4 a1).bind fun t735 => (if t735 < 0 then (some (-1)) else ((laws_heldEventS.f k l0_7 t735).bind fun t736 => (if t736 < 0 then (some (-1)) else (some t736))))
theorem laws_heldOutcome.mono : ∀ a0 a1 a2 a3 a4 a5 a6 a7 a8 k, LeO (laws_heldOutcome.f k a0 a1 a2 a3 a4 a5 a6 a7 a8) (laws_heldOutcome.f (k + 1) a0 a1 a2 a3 a4 a5 a6 a7 a8) := by
 intro a0 a1 a2 a3 a4 a5 a6 a7 a8 k
 unfold laws_heldOutcome.f
 repeat' first
  | (with_reducible exact laws_heldEventS.mono _ _ _)
  | (with_reducible exact laws_heldIntS.mono _ _ _)
  | (with_reducible exact LeO.refl _)
  | (with_reducible exact LeO.none _)
  | (with_reducible refine LeO.ite ?_ ?_)
  | (with_reducible refine LeO.bind ?_ (fun _ => ?_))
  | exact laws_heldEventS.mono _ _ _
  | exact laws_heldIntS.mono _ _ _
  | exact LeO.none _
  | refine LeO.ite ?_ ?_
  | refine LeO.bind ?_ (fun _ => ?_)
def spec_l2copy.l0 : Nat → List (S79) → List (S79) → Int → Option ((List (S79)))
 | 0, _, _, _ => none
 | k + 1, x0, x3, x4 => if x4 < (x0.length : Int) then (if 0 ≤ x4 then (if ([] : List Int).length + ((rd_T79 x0 x4).f1).length < 17592186044416 then (if x3.length < 3518437208883 then (spec_l2copy.l0 k x0 (x3 ++ [(⟨(rd_T79 x0 x4).f0, (([] : List Int) ++ ((rd_T79 x0 x4).f1)), (rd_T79 x0 x4).f2⟩ : S79)]) (wrap64 (x4 + 1))) else (none)) else (none)) else (none)) else (some x3)
def spec_l2copy.f (k : Nat) (l0 : List (S79)) : Option ((List (S79))) := spec_l2copy.l0 k l0 ([] : List (S79)) 0
theorem spec_l2copy.mono_l : ∀ k, (∀ y0 y1 y2, LeO (spec_l2copy.l0 k y0 y1 y2) (spec_l2copy.l0 (k + 1) y0 y1 y2))
 | 0 => fun _ _ _ r h => by simp [spec_l2copy.l0] at h
 | k + 1 => by
  have ih0 := spec_l2copy.mono_l k
  intro y0 y1 y2
  unfold spec_l2copy.l0
  repeat' first
  | (with_reducible exact ih0 _ _ _)
  | (with_reducible exact LeO.refl _)
  | (with_reducible exact LeO.none _)
  | (with_reducible refine LeO.ite ?_ ?_)
  | (with_reducible refine LeO.bind ?_ (fun _ => ?_))
  | exact ih0 _ _ _
  | exact LeO.none _
  | refine LeO.ite ?_ ?_
  | refine LeO.bind ?_ (fun _ => ?_)
theorem spec_l2copy.mono : ∀ a0 k, LeO (spec_l2copy.f k a0) (spec_l2copy.f (k + 1) a0) := by
 intro a0 k
 have ih0 := spec_l2copy.mono_l k
 unfold spec_l2copy.f
 repeat' first
  | (with_reducible exact ih0 _ _ _)
  | (with_reducible exact LeO.refl _)
  | (with_reducible exact LeO.none _)
  | (with_reducible refine LeO.ite ?_ ?_)
  | (with_reducible refine LeO.bind ?_ (fun _ => ?_))
  | exact ih0 _ _ _
  | exact LeO.none _
  | refine LeO.ite ?_ ?_
  | refine LeO.bind ?_ (fun _ => ?_)
def laws_heldByteS.l0 : Nat → List Int → Int → Int → Option (Int)
 | 0, _, _, _ => none
 | k + 1, x0, x1, x5 => if x5 < (x0.length : Int) then (if 0 ≤ x5 then (if (rd x0 x5) = ((x1) % 256) then (laws_heldByteS.l0 k x0 (wrap64 (x1 + 1)) (wrap64 (x5 + 1))) else (some (-1))) else (none)) else (some x1)
def laws_heldByteS.f (k : Nat) (l0 : List Int) (a1 : Int) : Option (Int) := laws_heldByteS.l0 k l0 a1 0
theorem laws_heldByteS.mono_l : ∀ k, (∀ y0 y1 y2, LeO (laws_heldByteS.l0 k y0 y1 y2) (laws_heldByteS.l0 (k + 1) y0 y1 y2))
 | 0 => fun _ _ _ r h => by simp [laws_heldByteS.l0] at h
 | k + 1 => by
  have ih0 := laws_heldByteS.mono_l k
  intro y0 y1 y2
  unfold laws_heldByteS.l0
  repeat' first
  | (with_reducible exact ih0 _ _ _)
  | (with_reducible exact LeO.refl _)
  | (with_reducible exact LeO.none _)
  | (with_reducible refine LeO.ite ?_ ?_)
  | (with_reducible refine LeO.bind ?_ (fun _ => ?_))
  | exact ih0 _ _ _
  | exact LeO.none _
  | refine LeO.ite ?_ ?_
  | refine LeO.bind ?_ (fun _ => ?_)
theorem laws_heldByteS.mono : ∀ a0 a1 k, LeO (laws_heldByteS.f k a0 a1) (laws_heldByteS.f (k + 1) a0 a1) := by
 intro a0 a1 k
 have ih0 := laws_heldByteS.mono_l k
 unfold laws_heldByteS.f
 repeat' first
  | (with_reducible exact ih0 _ _ _)
  | (with_reducible exact LeO.refl _)
  | (with_reducible exact LeO.none _)
  | (with_reducible refine LeO.ite ?_ ?_)
  | (with_reducible refine LeO.bind ?_ (fun _ => ?_))
  | exact ih0 _ _ _
  | exact LeO.none _
  | refine LeO.ite ?_ ?_
  | refine LeO.bind ?_ (fun _ => ?_)
set_option maxHeartbeats 8000000 in
set_option maxRecDepth 100000 in
theorem laws_heldByteS.calls (k : Nat) (A0 : Option Addr) (c0 : Nat) (l0 : List Int) (a1 : Int) (r : Int) (w : World) (hr0 : Kd.C (Kd.int .u8) w A0 l0.length l0) (hc0 : l0.length ≤ c0) (h : laws_heldByteS.f k l0 a1 = some r) :
 Calls Try.prog 40 #[.slice A0 l0.length c0, .int .i64 a1] w fun e w' => e = .returned (.int .i64 r) ∧ Drawn0 w w' := by
 have HR0 := Aside0.mk hr0
 have HC0 := Aside0.mk hc0
 clear hr0 hc0
 have H : (laws_heldByteS.l0 k l0 a1 0) = some r := h
 clear h
 have H' := Aside0.mk H
 clear H
 go_enter Try.func40, Try.ntmps40
 go_wp2
 go_loopg [1, 5] k (fun kq v1 v5 w' => ∃ (x1_1 : Int) (x5_1 : Int), v1 = .int .i64 x1_1 ∧ v5 = .int .i64 x5_1 ∧ Aside0 (laws_heldByteS.l0 kq l0 x1_1 x5_1 = some r) ∧ Aside0 (kq ≤ k) ∧ Drawn0 w w')
 case atStart => exact ⟨(a1), (0), (by first | rfl | (simp; done) | (simp [*]; done)), (by first | rfl | (simp; done) | (simp [*]; done)), H', ⟨Nat.le_refl _⟩, dr_⟩
 case round =>
  clear H'
  try clear p2
  obtain ⟨x1_1, x5_1, rfl, rfl, HA, HK1, ⟨m1, rfl⟩⟩ := hrel
  cases gk with
  | zero => exact absurd HA.out (by simp [laws_heldByteS.l0])
  | succ k1 =>
   have H := HA.out
   clear HA
   simp only [laws_heldByteS.l0] at H
   by_cases c3 : x5_1 < (l0.length : Int)
   rotate_left
   ·rw [if_neg c3] at H
    have c3b0 : decide (x5_1 < (l0.length : Int)) = false := decide_eq_false c3
    clear c3
    obtain rfl := Option.some.inj H
    go_wp2
    go_ret
    exact ⟨by first | rfl | (simp; done) | (simp [*]; done), dr_⟩
   rw [if_pos c3] at H
   have c3b0 : decide (x5_1 < (l0.length : Int)) = true := decide_eq_true c3
   clear c3
   by_cases c4 : 0 ≤ x5_1
   rotate_left
   ·rw [if_neg c4] at H
    exact absurd H (by simp)
   rw [if_pos c4] at H
   have c4b0 : decide (0 ≤ x5_1) = true := decide_eq_true c4
   clear c4
   by_cases c5 : (rd l0 x5_1) = ((x1_1) % 256)
   ·rw [if_pos c5] at H
    have c5b0 : ((rd l0 x5_1) == ((x1_1) % 256)) = true := beq_iff_eq.mpr c5
    have c5b1 : ((rd l0 x5_1) != ((x1_1) % 256)) = false := bne_eq_false_iff_eq.mpr c5
    clear c5
    have H' := Aside0.mk H
    clear H
    have p756 : 0 ≤ (x5_1 : Int) := of_decide_eq_true as_
    have q756 : x5_1 < (l0.length : Int) := of_decide_eq_true as_
    obtain ⟨ad756, e756, hx756_0⟩ := Kd.at_int HR0.out x5_1 p756 q756
    cases e756
    replace p756 := eq_true p756
    replace q756 := eq_true q756
    go_wp2
    go_roundg k1
    case measure => have := HK1.out; omega
    case rel => exact ⟨(wrap64 (x1_1 + 1)), (wrap64 (x5_1 + 1)), (by first | rfl | (simp; done) | (simp [*]; done)), (by first | rfl | (simp; done) | (simp [*]; done)), H', ⟨by have := HK1.out; omega⟩, dr_⟩
   rw [if_neg c5] at H
   have c5b0 : ((rd l0 x5_1) == ((x1_1) % 256)) = false := beq_eq_false_iff_ne.mpr c5
   have c5b1 : ((rd l0 x5_1) != ((x1_1) % 256)) = true := bne_iff_ne.mpr c5
   obtain rfl := Option.some.inj H
   have p756 : 0 ≤ (x5_1 : Int) := of_decide_eq_true as_
   have q756 : x5_1 < (l0.length : Int) := of_decide_eq_true as_
   obtain ⟨ad756, e756, hx756_0⟩ := Kd.at_int HR0.out x5_1 p756 q756
   cases e756
   replace p756 := eq_true p756
   replace q756 := eq_true q756
   go_wp2
   go_ret
   exact ⟨by first | rfl | (simp; done) | (simp [*]; done), dr_⟩
end Go.Proofs.Ytdiilocgjnlmiaa.PAll
end
section
namespace Go.Proofs.Ytdiilocgjnlmiaa.PAll
open Go.RowKit Go.Proofs.YtdiilocgjnlmiaaW.PrintWords Go.Proofs.YtdiilocgjnlmiaaW.PrintLast Go.Proofs.YtdiilocgjnlmiaaW.PrintMore
attribute [local go_sem] max2_int min2_int max_two min_two max_three min_three max_four min_four   -- for this text's walks alone
set_option linter.unusedVariables false
set_option linter.unusedSimpArgs false
def laws_heldOpS.l0 : Nat → List (S79) → Int → Int → Option (Int)
 | 0, _, _, _ => none
 | k + 1, x0, x1, x5 => if x5 < (x0.length : Int) then (if 0 ≤ x5 then (if ((rd_T79 x0 x5).f0) = x1 then ((laws_heldIntS.f k ((rd_T79 x0 x5).f1) (wrap64 (x1 + 1))).bind fun t759 => (if t759 < 0 then (some (-1)) else (if ((rd_T79 x0 x5).f2) = t759 then (laws_heldOpS.l0 k x0 (wrap64 (t759 + 1)) (wrap64 (x5 + 1))) else (some (-1))))) else (some (-1))) else (none)) else (some x1)
def laws_heldOpS.f (k : Nat) (l0 : List (S79)) (a1 : Int) : Option (Int) := laws_heldOpS.l0 k l0 a1 0
theorem laws_heldOpS.mono_l : ∀ k, (∀ y0 y1 y2, LeO (laws_heldOpS.l0 k y0 y1 y2) (laws_heldOpS.l0 (k + 1) y0 y1 y2))
 | 0 => fun _ _ _ r h => by simp [laws_heldOpS.l0] at h
 | k + 1 => by
  have ih0 := laws_heldOpS.mono_l k
  intro y0 y1 y2
  unfold laws_heldOpS.l0
  repeat' first
  | (with_reducible exact ih0 _ _ _)
  | (with_reducible exact laws_heldIntS.mono _ _ _)
  | (with_reducible exact LeO.refl _)
  | (with_reducible exact LeO.none _)
  | (with_reducible refine LeO.ite ?_ ?_)
  | (with_reducible refine LeO.bind ?_ (fun _ => ?_))
  | exact ih0 _ _ _
  | exact laws_heldIntS.mono _ _ _
  | exact LeO.none _
  | refine LeO.ite ?_ ?_
  | refine LeO.bind ?_ (fun _ => ?_)
theorem laws_heldOpS.mono : ∀ a0 a1 k, LeO (laws_heldOpS.f k a0 a1) (laws_heldOpS.f (k + 1) a0 a1) := by
 intro a0 a1 k
 have ih0 := laws_heldOpS.mono_l k
 unfold laws_heldOpS.f
 repeat' first
  | (with_reducible exact ih0 _ _ _)
  | (with_reducible exact laws_heldIntS.mono _ _ _)
  | (with_reducible exact LeO.refl _)
  | (with_reducible exact LeO.none _)
  | (with_reducible refine LeO.ite ?_ ?_)
  | (with_reducible refine LeO.bind ?_ (fun _ => ?_))
  | exact ih0 _ _ _
  | exact laws_heldIntS.mono _ _ _
  | exact LeO.none _
  | refine LeO.ite ?_ ?_
  | refine LeO.bind ?_ (fun _ => ?_)
def laws_heldRuleS.l0 : Nat → List (S68) → Int → Int → Option (Int)
 | 0, _, _, _ => none
 | k + 1, x0, x1, x5 => if x5 < (x0.length : Int) then (if 0 ≤ x5 then ((laws_heldByteS.f k ((rd_T68 x0 x5).f0) x1).bind fun t762 => (if t762 < 0 then (some (-1)) else ((laws_heldOpS.f k ((rd_T68 x0 x5).f1) t762).bind fun t764 => (if t764 < 0 then (some (-1)) else (laws_heldRuleS.l0 k x0 t764 (wrap64 (x5 + 1))))))) else (none)) else (some x1)
def laws_heldRuleS.f (k : Nat) (l0 : List (S68)) (a1 : Int) : Option (Int) := laws_heldRuleS.l0 k l0 a1 0
theorem laws_heldRuleS.mono_l : ∀ k, (∀ y0 y1 y2, LeO (laws_heldRuleS.l0 k y0 y1 y2) (laws_heldRuleS.l0 (k + 1) y0 y1 y2))
 | 0 => fun _ _ _ r h => by simp [laws_heldRuleS.l0] at h
 | k + 1 => by
  have ih0 := laws_heldRuleS.mono_l k
  intro y0 y1 y2
  unfold laws_heldRuleS.l0
  repeat' first
  | (with_reducible exact ih0 _ _ _)
  | (with_reducible exact laws_heldByteS.mono _ _ _)
  | (with_reducible exact laws_heldOpS.mono _ _ _)
  | (with_reducible exact LeO.refl _)
  | (with_reducible exact LeO.none _)
  | (with_reducible refine LeO.ite ?_ ?_)
  | (with_reducible refine LeO.bind ?_ (fun _ => ?_))
  | exact ih0 _ _ _
  | exact laws_heldByteS.mono _ _ _
  | exact laws_heldOpS.mono _ _ _
  | exact LeO.none _
  | refine LeO.ite ?_ ?_
  | refine LeO.bind ?_ (fun _ => ?_)
theorem laws_heldRuleS.mono : ∀ a0 a1 k, LeO (laws_heldRuleS.f k a0 a1) (laws_heldRuleS.f (k + 1) a0 a1) := by
 intro a0 a1 k
 have ih0 := laws_heldRuleS.mono_l k
 unfold laws_heldRuleS.f
 repeat' first
  | (with_reducible exact ih0 _ _ _)
  | (with_reducible exact laws_heldByteS.mono _ _ _)
  | (with_reducible exact laws_heldOpS.mono _ _ _)
  | (with_reducible exact LeO.refl _)
  | (with_reducible exact LeO.none _)
  | (with_reducible refine LeO.ite ?_ ?_)
  | (with_reducible refine LeO.bind ?_ (fun _ => ?_))
  | exact ih0 _ _ _
  | exact laws_heldByteS.mono _ _ _
  | exact laws_heldOpS.mono _ _ _
  | exact LeO.none _
  | refine LeO.ite ?_ ?_
  | refine LeO.bind ?_ (fun _ => ?_)
def laws_heldLabelS.l0 : Nat → List (S72) → Int → Int → Option (Int)
 | 0, _, _, _ => none
 | k + 1, x0, x1, x5 => if x5 < (x0.length : Int) then (if 0 ≤ x5 then ((laws_heldByteS.f k ((rd_T72 x0 x5).f0) x1).bind fun t766 => (if t766 < 0 then (some (-1)) else (if (((rd_T72 x0 x5).f1) != ((Int.tmod t766 3) == 0)) = true then (some (-1)) else ((laws_heldOpS.f k ((rd_T72 x0 x5).f2) (wrap64 (t766 + 1))).bind fun t769 => (if t769 < 0 then (some (-1)) else (laws_heldLabelS.l0 k x0 t769 (wrap64 (x5 + 1)))))))) else (none)) else (some x1)
def laws_heldLabelS.f (k : Nat) (l0 : List (S72)) (a1 : Int) : Option (Int) := laws_heldLabelS.l0 k l0 a1 0
theorem laws_heldLabelS.mono_l : ∀ k, (∀ y0 y1 y2, LeO (laws_heldLabelS.l0 k y0 y1 y2) (laws_heldLabelS.l0 (k + 1) y0 y1 y2))
 | 0 => fun _ _ _ r h => by simp [laws_heldLabelS.l0] at h
 | k + 1 => by
  have ih0 := laws_heldLabelS.mono_l k
  intro y0 y1 y2
  unfold laws_heldLabelS.l0
  repeat' first
  | (with_reducible exact ih0 _ _ _)
  | (with_reducible exact laws_heldByteS.mono _ _ _)
  | (with_reducible exact laws_heldOpS.mono _ _ _)
  | (with_reducible exact LeO.refl _)
  | (with_reducible exact LeO.none _)
  | (with_reducible refine LeO.ite ?_ ?_)
  | (with_reducible refine LeO.bind ?_ (fun _ => ?_))
  | exact ih0 _ _ _
  | exact laws_heldByteS.mono _ _ _
  | exact laws_heldOpS.mono _ _ _
  | exact LeO.none _
  | refine LeO.ite ?_ ?_
  | refine LeO.bind ?_ (fun _ => ?_)
theorem laws_heldLabelS.mono : ∀ a0 a1 k, LeO (laws_heldLabelS.f k a0 a1) (laws_heldLabelS.f (k + 1) a0 a1) := by
 intro a0 a1 k
 have ih0 := laws_heldLabelS.mono_l k
 unfold laws_heldLabelS.f
 repeat' first
  | (with_reducible exact ih0 _ _ _)
  | (with_reducible exact laws_heldByteS.mono _ _ _)
  | (with_reducible exact laws_heldOpS.mono _ _ _)
  | (with_reducible exact LeO.refl _)
  | (with_reducible exact LeO.none _)
  | (with_reducible refine LeO.ite ?_ ?_)
  | (with_reducible refine LeO.bind ?_ (fun _ => ?_))
  | exact ih0 _ _ _
  | exact laws_heldByteS.mono _ _ _
  | exact laws_heldOpS.mono _ _ _
  | exact LeO.none _
  | refine LeO.ite ?_ ?_
  | refine LeO.bind ?_ (fun _ => ?_)
def laws_heldGrammar.f (k : Nat) (l0_0 : List (S68)) (l0_1 : List (S72)) (a1 : Int) : Option (Int) := (laws_heldRuleS.f k l0_0 a1).bind fun t771 => (if t771 < 0 then (some (-1)) else ((laws_heldLabelS.f k l0_1 t771).bind fun t772 => (if t772 < 0 then (some (-1)) else (some t772))))
theorem laws_heldGrammar.mono : ∀ a0 a1 a2 k, LeO (laws_heldGrammar.f k a0 a1 a2) (laws_heldGrammar.f (k + 1) a0 a1 a2) := by
 intro a0 a1 a2 k
 unfold laws_heldGrammar.f
 repeat' first
  | (with_reducible exact laws_heldLabelS.mono _ _ _)
  | (with_reducible exact laws_heldRuleS.mono _ _ _)
  | (with_reducible exact LeO.refl _)
  | (with_reducible exact LeO.none _)
  | (with_reducible refine LeO.ite ?_ ?_)
  | (with_reducible refine LeO.bind ?_ (fun _ => ?_))
  | exact laws_heldLabelS.mono _ _ _
  | exact laws_heldRuleS.mono _ _ _
  | exact LeO.none _
  | refine LeO.ite ?_ ?_
  | refine LeO.bind ?_ (fun _ => ?_)
def spec_l3nodes.f (l0_0 : List (S68)) (l0_1 : List (S72)) : Option (Int) := some (wrap64 ((l0_0.length : Int) + (l0_1.length : Int)))
def spec_l3body.f (l0_0 : List (S68)) (l0_1 : List (S72)) (a1 : Int) : Option ((List (S79))) := if a1 < (l0_0.length : Int) then (if 0 ≤ a1 then (some ((rd_T68 l0_0 a1).f1)) else (none)) else (if 0 ≤ (wrap64 (a1 - (l0_0.length : Int))) then (if (wrap64 (a1 - (l0_0.length : Int))) < (l0_1.length : Int) then (some ((rd_T72 l0_1 (wrap64 (a1 - (l0_0.length : Int)))).f2)) else (none)) else (none))
def spec_l3target.f (l0_0 : List (S68)) (l0_1 : List (S72)) (a1_0 : Int) (l1_1 : List Int) (a1_2 : Int) : Option (Int) := if a1_0 = 2 then (some a1_2) else (some (wrap64 ((l0_0.length : Int) + a1_2)))
def spec_l2start.l0 : Nat → List (S79) → Int → Int → Option (Int)
 | 0, _, _, _ => none
 | k + 1, x0, x5, x6 => if x6 > 0 then (if x5 > 0 then (if 0 ≤ (wrap64 (x6 - 1)) then (if (wrap64 (x6 - 1)) < (x0.length : Int) then ((spec_l2arity.f k ((rd_T79 x0 (wrap64 (x6 - 1))).f0)).bind fun t780 => (spec_l2start.l0 k x0 (wrap64 (x5 + (wrap64 (t780 - 1)))) (wrap64 (x6 - 1)))) else (none)) else (none)) else (some x6)) else (some x6)
def spec_l2start.f (k : Nat) (l0 : List (S79)) (a1 : Int) : Option (Int) := spec_l2start.l0 k l0 1 a1
theorem spec_l2start.mono_l : ∀ k, (∀ y0 y1 y2, LeO (spec_l2start.l0 k y0 y1 y2) (spec_l2start.l0 (k + 1) y0 y1 y2))
 | 0 => fun _ _ _ r h => by simp [spec_l2start.l0] at h
 | k + 1 => by
  have ih0 := spec_l2start.mono_l k
  intro y0 y1 y2
  unfold spec_l2start.l0
  repeat' first
  | (with_reducible exact ih0 _ _ _)
  | (with_reducible exact spec_l2arity.mono _ _)
  | (with_reducible exact LeO.refl _)
  | (with_reducible exact LeO.none _)
  | (with_reducible refine LeO.ite ?_ ?_)
  | (with_reducible refine LeO.bind ?_ (fun _ => ?_))
  | exact ih0 _ _ _
  | exact spec_l2arity.mono _ _
  | exact LeO.none _
  | refine LeO.ite ?_ ?_
  | refine LeO.bind ?_ (fun _ => ?_)
theorem spec_l2start.mono : ∀ a0 a1 k, LeO (spec_l2start.f k a0 a1) (spec_l2start.f (k + 1) a0 a1) := by
 intro a0 a1 k
 have ih0 := spec_l2start.mono_l k
 unfold spec_l2start.f
 repeat' first
  | (with_reducible exact ih0 _ _ _)
  | (with_reducible exact spec_l2arity.mono _ _)
  | (with_reducible exact LeO.refl _)
  | (with_reducible exact LeO.none _)
  | (with_reducible refine LeO.ite ?_ ?_)
  | (with_reducible refine LeO.bind ?_ (fun _ => ?_))
  | exact ih0 _ _ _
  | exact spec_l2arity.mono _ _
  | exact LeO.none _
  | refine LeO.ite ?_ ?_
  | refine LeO.bind ?_ (fun _ => ?_)
set_option maxHeartbeats 8000000 in
set_option maxRecDepth 100000 in
theorem spec_l2start.calls (k : Nat) (A0 : Option Addr) (c0 : Nat) (l0 : List (S79)) (a1 : Int) (r : Int) (w : World) (hr0 : Kd.C k79 w A0 l0.length l0) (hc0 : l0.length ≤ c0) (h : spec_l2start.f k l0 a1 = some r) :
 Calls Try.prog 129 #[.slice A0 l0.length c0, .int .i64 a1] w fun e w' => e = .returned (.int .i64 r) ∧ Drawn0 w w' := by
 have HR0 := Aside0.mk hr0
 have HC0 := Aside0.mk hc0
 clear hr0 hc0
 have H : (spec_l2start.l0 k l0 1 a1) = some r := h
 clear h
 have H' := Aside0.mk H
 clear H
 go_enter Try.func129, Try.ntmps129
 go_wp2
 go_loopg [5, 6] k (fun kq v5 v6 w' => ∃ (x5_1 : Int) (x6_1 : Int), v5 = .int .i64 x5_1 ∧ v6 = .int .i64 x6_1 ∧ Aside0 (spec_l2start.l0 kq l0 x5_1 x6_1 = some r) ∧ Aside0 (kq ≤ k) ∧ Drawn0 w w')
 case atStart => exact ⟨(1), (a1), (by first | rfl | (simp; done) | (simp [*]; done)), (by first | rfl | (simp; done) | (simp [*]; done)), H', ⟨Nat.le_refl _⟩, dr_⟩
 case round =>
  clear H'
  try clear c1
  try clear p2
  obtain ⟨x5_1, x6_1, rfl, rfl, HA, HK1, ⟨m1, rfl⟩⟩ := hrel
  cases gk with
  | zero => exact absurd HA.out (by simp [spec_l2start.l0])
  | succ k1 =>
   have H := HA.out
   clear HA
   simp only [spec_l2start.l0] at H
   by_cases c3 : x6_1 > 0
   rotate_left
   ·rw [if_neg c3] at H
    have c3b0 : decide (0 < x6_1) = false := decide_eq_false c3
    clear c3
    obtain rfl := Option.some.inj H
    go_wp2
    go_ret
    exact ⟨by first | rfl | (simp; done) | (simp [*]; done), dr_⟩
   rw [if_pos c3] at H
   have c3b0 : decide (0 < x6_1) = true := decide_eq_true c3
   clear c3
   by_cases c4 : x5_1 > 0
   rotate_left
   ·rw [if_neg c4] at H
    have c4b0 : decide (0 < x5_1) = false := decide_eq_false c4
    clear c4
    obtain rfl := Option.some.inj H
    go_wp2
    go_ret
    exact ⟨by first | rfl | (simp; done) | (simp [*]; done), dr_⟩
   rw [if_pos c4] at H
   have c4b0 : decide (0 < x5_1) = true := decide_eq_true c4
   clear c4
   obtain ⟨ji5, hji5⟩ : ∃ j_ : Int, (wrap64 (x6_1 - 1)) = j_ := ⟨_, rfl⟩
   replace H : (if 0 ≤ (ji5) then (if (ji5) < (l0.length : Int) then ((spec_l2arity.f k1 ((rd_T79 l0 (ji5)).f0)).bind fun t780 => (spec_l2start.l0 k1 l0 (wrap64 (x5_1 + (wrap64 (t780 - 1)))) ji5)) else (none)) else (none)) = some r := by first | (rw [hji5] at H; exact H) | (simp only [hji5] at H ⊢; exact H)
   have hji5w : (IntKind.i64.wrap (x6_1 - 1)) = ji5 := (i64_w _).trans hji5
   by_cases c6 : 0 ≤ (ji5)
   rotate_left
   ·rw [if_neg c6] at H
    exact absurd H (by simp)
   rw [if_pos c6] at H
   have c6b0 : decide (0 ≤ (ji5)) = true := decide_eq_true c6
   clear c6
   by_cases c7 : (ji5) < (l0.length : Int)
   rotate_left
   ·rw [if_neg c7] at H
    exact absurd H (by simp)
   rw [if_pos c7] at H
   have c7b0 : decide ((ji5) < (l0.length : Int)) = true := decide_eq_true c7
   clear c7
   replace H := Option.bind_eq_some_iff.mp H
   obtain ⟨t780, A80, H⟩ := H
   replace H : (spec_l2start.l0 k1 l0 (wrap64 (x5_1 + (wrap64 (t780 - 1)))) ji5) = some r := H
   have A8 := Aside0.mk A80
   clear A80
   have H' := Aside0.mk H
   clear H
   have p779 : 0 ≤ ((ji5) : Int) := of_decide_eq_true as_
   have q779 : (ji5) < (l0.length : Int) := of_decide_eq_true as_
   obtain ⟨ad779, A779_1, c779_1, e779, hx779_0, hx779_1, hx779_2, hl779_1, hi779_1⟩ := at_T79 HR0.out (ji5) p779 q779
   cases e779
   have HR779_1 := Aside0.mk hi779_1
   have HC779_1 := Aside0.mk hl779_1
   clear hi779_1 hl779_1
   replace p779 := eq_true p779
   replace q779 := eq_true q779
   go_wp2_with (first | ((with_reducible refine gate_callee (f := 144) rfl ?_); refine goesL_ (some 22) rfl rfl Try.func144 (by kernel_rfl) rfl #[.int .i64 ((rd_T79 l0 (ji5)).f0)] rfl (by (try simp only [List.map_toArray, List.map_cons, List.map_nil]); first | done | (simp only [hji5]; rfl) | rfl | (simp only [List.length_drop, List.length_take]; rfl)) ?_; (with_reducible refine (spec_l2arity.calls k1 ((rd_T79 l0 (ji5)).f0) t780 _ A8.out).mono ?_); rintro e w' ⟨rfl, ⟨nd, rfl⟩⟩; refine ⟨_, rfl, ?_⟩))
   go_roundg k1
   case measure => have := HK1.out; omega
   case rel => exact ⟨(wrap64 (x5_1 + (wrap64 (t780 - 1)))), (ji5), (by first | rfl | (simp; done) | (simp [*]; done)), (by first | rfl | (simp; done) | (simp only [← hji5] <;> (first | rfl | simp)) | (simp [*]; done)), H', ⟨by have := HK1.out; omega⟩, dr_⟩
end Go.Proofs.Ytdiilocgjnlmiaa.PAll
end
section
namespace Go.Proofs.Ytdiilocgjnlmiaa.Tre
open Go.RowKit Go.Proofs.YtdiilocgjnlmiaaW.PrintWords Go.Proofs.YtdiilocgjnlmiaaW.PrintLast Go.Proofs.YtdiilocgjnlmiaaW.PrintMore
open Go.Proofs.Ytdiilocgjnlmiaa.PAll
set_option linter.unusedVariables false
set_option linter.unusedSimpArgs false
def mkI (k : Int) (n : Nat) : List Int := (List.range n).map fun (q : Nat) => k + (q : Int)
def mkB (k : Int) (n : Nat) : List Int := (List.range n).map fun (q : Nat) => (k + (q : Int)) % 256
theorem mkI_len (k : Int) (n : Nat) : (mkI k n).length = n := by simp [mkI]
theorem mkB_len (k : Int) (n : Nat) : (mkB k n).length = n := by simp [mkB]
theorem rd_mkI {k : Int} {n i : Nat} (h : i < n) : rd (mkI k n) (i : Int) = k + i := by simp [rd, mkI, List.getD_eq_getElem?_getD, h]
theorem rd_mkB {k : Int} {n i : Nat} (h : i < n) : rd (mkB k n) (i : Int) = (k + i) % 256 := by simp [rd, mkB, List.getD_eq_getElem?_getD, h]
theorem heldIntS_l0 (a : Int) (n : Nat) (ha : 0 ≤ a) (hb : a + n ≤ 4611686018427387904) : ∀ (k : Nat) (i : Nat), i ≤ n → n - i < k → laws_heldIntS.l0 k (mkI a n) (a + i) (i : Int) = some (a + n)
 | 0, _, _, h => by omega
 | k + 1, i, hi, hk => by
  rw [laws_heldIntS.l0, mkI_len]
  by_cases c : i < n
  ·rw [if_pos (by omega), if_pos (by omega), if_pos (rd_mkI c), wid (x := a + (i : Int) + 1) (by omega) (by omega), wid (x := (i : Int) + 1) (by omega) (by omega)]
   have h := heldIntS_l0 a n ha hb k (i + 1) (by omega) (by omega)
   rw [show a + (i : Int) + 1 = a + ((i + 1 : Nat) : Int) by omega, show (i : Int) + 1 = ((i + 1 : Nat) : Int) by omega]
   exact h
  rw [if_neg (by omega), show i = n by omega]
theorem heldIntS_f (a : Int) (n k : Nat) (ha : 0 ≤ a) (hb : a + n ≤ 4611686018427387904) (hk : n < k) : laws_heldIntS.f k (mkI a n) a = some (a + n) := by
 have h := heldIntS_l0 a n ha hb k 0 (by omega) (by omega)
 rw [laws_heldIntS.f]
 simpa using h
theorem heldByteS_l0 (a : Int) (n : Nat) (ha : 0 ≤ a) (hb : a + n ≤ 4611686018427387904) : ∀ (k : Nat) (i : Nat), i ≤ n → n - i < k → laws_heldByteS.l0 k (mkB a n) (a + i) (i : Int) = some (a + n)
 | 0, _, _, h => by omega
 | k + 1, i, hi, hk => by
  rw [laws_heldByteS.l0, mkB_len]
  by_cases c : i < n
  ·rw [if_pos (by omega), if_pos (by omega), if_pos (rd_mkB c), wid (x := a + (i : Int) + 1) (by omega) (by omega), wid (x := (i : Int) + 1) (by omega) (by omega)]
   have h := heldByteS_l0 a n ha hb k (i + 1) (by omega) (by omega)
   rw [show a + (i : Int) + 1 = a + ((i + 1 : Nat) : Int) by omega, show (i : Int) + 1 = ((i + 1 : Nat) : Int) by omega]
   exact h
  rw [if_neg (by omega), show i = n by omega]
theorem heldByteS_f (a : Int) (n k : Nat) (ha : 0 ≤ a) (hb : a + n ≤ 4611686018427387904) (hk : n < k) : laws_heldByteS.f k (mkB a n) a = some (a + n) := by
 have h := heldByteS_l0 a n ha hb k 0 (by omega) (by omega)
 rw [laws_heldByteS.f]
 simpa using h
end Go.Proofs.Ytdiilocgjnlmiaa.Tre
end
section
namespace Go.Proofs.Ytdiilocgjnlmiaa.Tre
open Go.RowKit Go.Proofs.YtdiilocgjnlmiaaW.PrintWords Go.Proofs.YtdiilocgjnlmiaaW.PrintLast Go.Proofs.YtdiilocgjnlmiaaW.PrintMore
open Go.Proofs.Ytdiilocgjnlmiaa.PAll
set_option linter.unusedVariables false
set_option linter.unusedSimpArgs false
theorem C_of_W {α : Type} (d : Kd α) {W : World} {X : Nat → Prop} {t : TypeId} {sz : Nat} {p : Nat → List Value → Prop} {v : Value} {n : Nat} {xs : List α} (h : WRow W X t sz p v n) (hsz : d.sz = sz) (hl : xs.length = n)
 (hp : ∀ (i : Nat) (x : α) (g c : Nat) (cs : List Value), i < n → xs[i]? = some x → v = .slice (some ⟨g, 0, none⟩) n c → cs.length = sz → (∀ (j : Nat) (u : Value), cs[j]? = some u → W.cell? ⟨g, i * sz + j, none⟩ = some u) → p i cs → d.K W x cs) : ∃ A c, v = .slice A n c ∧ n ≤ c ∧ d.C W A n xs := by
 subst hsz
 obtain ⟨A, c, rfl, hc, hm, h⟩ := h
 refine ⟨A, c, rfl, hc, hl, by omega, fun h0 => ?_⟩
 rcases h with ⟨_, hn⟩ | ⟨g, cur, rfl, _, hg, hi⟩
 ·omega
 refine ⟨_, rfl, fun i x hx => ?_⟩
 have hi' : i < n := by rw [← hl]; exact (List.getElem?_eq_some_iff.1 hx).1
 obtain ⟨cs, h1, h2, h3⟩ := hi i hi'
 have hcell : ∀ (j : Nat) (u : Value), cs[j]? = some u → W.cell? ⟨g, i * d.sz + j, none⟩ = some u := fun j u hu => (blk_cell hg _).trans (h2 j u hu)
 refine ⟨cs, h1, hp i x g c cs hi' hx rfl h1 hcell h3, fun j u hu => ?_⟩
 rw [add_plain]
 exact hcell j u hu
theorem take1 {α : Type} {l : List α} {i : Nat} (h : i < l.length) : (l.drop (i * 1)).take 1 = [l[i]] := by
 rw [Nat.mul_one, List.drop_eq_getElem_cons h]
 rfl
theorem nums1 {k : IntKind} {l : List Int} {i : Nat} (h : i < l.length) : ((nums k l).drop (i * 1)).take 1 = [.int k l[i]] := by
 rw [take1 (by rw [nums, List.length_map]; exact h)]
 simp [nums]
theorem own_C_int {W : World} {B : Nat} {t : TypeId} {k : IntKind} {v : Value} {l : List Int} (h : W.ownsRow B t 1 v l.length (nums k l)) (hn : l.length ≤ 1099511627776) : ∃ A c, v = .slice A l.length c ∧ l.length ≤ c ∧ (Kd.int k).C W A l.length l := by
 refine C_of_W (Kd.int k) (WRow.of_own (p := fun i cs => cs = ((nums k l).drop (i * 1)).take 1) h hn fun i _ => rfl) rfl rfl fun i x g c cs hi hx e hcs hcell hp => ?_
 rw [hp, nums1 hi]
 obtain ⟨_, e2⟩ := List.getElem?_eq_some_iff.1 hx
 rw [e2]
 rfl
end Go.Proofs.Ytdiilocgjnlmiaa.Tre
end
