import Derived.Test.YtdiilocgjnlmiaaCcoFlat
import Derived.Test.YtdiilocgjnlmiaaCcoPAllx15
import Derived.Test.YtdiilocgjnlmiaaCcoPAllx16
namespace Go.Proofs.Ytdiilocgjnlmiaa.PAll
open Go.RowKit Go.Proofs.YtdiilocgjnlmiaaW.PrintWords Go.Proofs.YtdiilocgjnlmiaaW.PrintLast Go.Proofs.YtdiilocgjnlmiaaW.PrintMore
attribute [local go_sem] max2_int min2_int max_two min_two max_three min_three max_four min_four   -- for this text's walks alone
set_option linter.unusedVariables false
set_option linter.unusedSimpArgs false
mutual
def spec_l4size.l0 : Nat → List (S79) → Int → Int → Option (Int)
 | 0, _, _, _ => none
 | k + 1, x0, x3, x4 => if x4 < (x0.length : Int) then (if 0 ≤ x4 then (if ((rd_T79 x0 x4).f0) = 1 then (spec_l4size.j1 k x0 x3 x4 ((rd_T79 x0 x4).f0) true) else (if ((rd_T79 x0 x4).f0) = 2 then (spec_l4size.j1 k x0 x3 x4 ((rd_T79 x0 x4).f0) true) else (spec_l4size.j1 k x0 x3 x4 ((rd_T79 x0 x4).f0) (((rd_T79 x0 x4).f0) == 3)))) else (none)) else (some x3)
def spec_l4size.j1 : Nat → List (S79) → Int → Int → Int → Bool → Option (Int)
 | 0, _, _, _, _, _ => none
 | k + 1, x0, x3, x4, x5, x26 => if x26 = true then (spec_l4size.l0 k x0 (wrap64 (x3 + 1)) (wrap64 (x4 + 1))) else (if x5 = 5 then (spec_l4size.l0 k x0 (wrap64 (x3 + 2)) (wrap64 (x4 + 1))) else (if x5 = 6 then (spec_l4size.l0 k x0 (wrap64 (x3 + 2)) (wrap64 (x4 + 1))) else (if x5 = 7 then (spec_l4size.l0 k x0 (wrap64 (x3 + 2)) (wrap64 (x4 + 1))) else (spec_l4size.l0 k x0 x3 (wrap64 (x4 + 1))))))
end
def spec_l4size.f (k : Nat) (l0 : List (S79)) : Option (Int) := spec_l4size.l0 k l0 0 0
theorem spec_l4size.mono_l : ∀ k, (∀ y0 y1 y2, LeO (spec_l4size.l0 k y0 y1 y2) (spec_l4size.l0 (k + 1) y0 y1 y2)) ∧ (∀ y0 y1 y2 y3 y4, LeO (spec_l4size.j1 k y0 y1 y2 y3 y4) (spec_l4size.j1 (k + 1) y0 y1 y2 y3 y4))
 | 0 => ⟨fun _ _ _ r h => by simp [spec_l4size.l0] at h, fun _ _ _ _ _ r h => by simp [spec_l4size.j1] at h⟩
 | k + 1 => by
  obtain ⟨ih0, ih1⟩ := spec_l4size.mono_l k
  refine ⟨?_, ?_⟩
  ·intro y0 y1 y2
   unfold spec_l4size.l0
   repeat' first
   | (with_reducible exact ih0 _ _ _)
   | (with_reducible exact ih1 _ _ _ _ _)
   | (with_reducible exact LeO.refl _)
   | (with_reducible exact LeO.none _)
   | (with_reducible refine LeO.ite ?_ ?_)
   | (with_reducible refine LeO.bind ?_ (fun _ => ?_))
   | exact ih0 _ _ _
   | exact ih1 _ _ _ _ _
   | exact LeO.none _
   | refine LeO.ite ?_ ?_
   | refine LeO.bind ?_ (fun _ => ?_)
  intro y0 y1 y2 y3 y4
  unfold spec_l4size.j1
  repeat' first
  | (with_reducible exact ih0 _ _ _)
  | (with_reducible exact ih1 _ _ _ _ _)
  | (with_reducible exact LeO.refl _)
  | (with_reducible exact LeO.none _)
  | (with_reducible refine LeO.ite ?_ ?_)
  | (with_reducible refine LeO.bind ?_ (fun _ => ?_))
  | exact ih0 _ _ _
  | exact ih1 _ _ _ _ _
  | exact LeO.none _
  | refine LeO.ite ?_ ?_
  | refine LeO.bind ?_ (fun _ => ?_)
theorem spec_l4size.mono : ∀ a0 k, LeO (spec_l4size.f k a0) (spec_l4size.f (k + 1) a0) := by
 intro a0 k
 obtain ⟨ih0, ih1⟩ := spec_l4size.mono_l k
 unfold spec_l4size.f
 repeat' first
  | (with_reducible exact ih0 _ _ _)
  | (with_reducible exact ih1 _ _ _ _ _)
  | (with_reducible exact LeO.refl _)
  | (with_reducible exact LeO.none _)
  | (with_reducible refine LeO.ite ?_ ?_)
  | (with_reducible refine LeO.bind ?_ (fun _ => ?_))
  | exact ih0 _ _ _
  | exact ih1 _ _ _ _ _
  | exact LeO.none _
  | refine LeO.ite ?_ ?_
  | refine LeO.bind ?_ (fun _ => ?_)
set_option maxHeartbeats 8000000 in
set_option maxRecDepth 100000 in
theorem spec_l4size.calls (k : Nat) (A0 : Option Addr) (c0 : Nat) (l0 : List (S79)) (r : Int) (w : World) (hr0 : Kd.C k79 w A0 l0.length l0) (hc0 : l0.length ≤ c0) (h : spec_l4size.f k l0 = some r) :
 Calls Try.prog 169 #[.slice A0 l0.length c0] w fun e w' => e = .returned (.int .i64 r) ∧ Drawn0 w w' := by
 have HR0 := Aside0.mk hr0
 have HC0 := Aside0.mk hc0
 clear hr0 hc0
 have H : (spec_l4size.l0 k l0 0 0) = some r := h
 clear h
 have H' := Aside0.mk H
 clear H
 go_enter Try.func169, Try.ntmps169
 go_wp2
 go_loopg [3, 4] k (fun kq v3 v4 w' => ∃ (x3_1 : Int) (x4_1 : Int), v3 = .int .i64 x3_1 ∧ v4 = .int .i64 x4_1 ∧ Aside0 (spec_l4size.l0 kq l0 x3_1 x4_1 = some r) ∧ Aside0 (kq ≤ k) ∧ Drawn0 w w')
 case atStart => exact ⟨(0), (0), (by first | rfl | (simp; done) | (simp [*]; done)), (by first | rfl | (simp; done) | (simp [*]; done)), H', ⟨Nat.le_refl _⟩, dr_⟩
 case round =>
  clear H'
  try clear c1
  obtain ⟨x3_1, x4_1, rfl, rfl, HA, HK1, ⟨m1, rfl⟩⟩ := hrel
  cases gk with
  | zero => exact absurd HA.out (by simp [spec_l4size.l0])
  | succ k1 =>
   have H := HA.out
   clear HA
   simp only [spec_l4size.l0] at H
   by_cases c2 : x4_1 < (l0.length : Int)
   rotate_left
   ·rw [if_neg c2] at H
    have c2b0 : decide (x4_1 < (l0.length : Int)) = false := decide_eq_false c2
    clear c2
    obtain rfl := Option.some.inj H
    go_wp2
    go_ret
    exact ⟨by first | rfl | (simp; done) | (simp [*]; done), dr_⟩
   rw [if_pos c2] at H
   have c2b0 : decide (x4_1 < (l0.length : Int)) = true := decide_eq_true c2
   clear c2
   by_cases c3 : 0 ≤ x4_1
   rotate_left
   ·rw [if_neg c3] at H
    exact absurd H (by simp)
   rw [if_pos c3] at H
   have c3b0 : decide (0 ≤ x4_1) = true := decide_eq_true c3
   clear c3
   have HC4 := Aside0.mk H
   clear H
   have p847 : 0 ≤ (x4_1 : Int) := of_decide_eq_true as_
   have q847 : x4_1 < (l0.length : Int) := of_decide_eq_true as_
   obtain ⟨ad847, A847_1, c847_1, e847, hx847_0, hx847_1, hx847_2, hl847_1, hi847_1⟩ := at_T79 HR0.out x4_1 p847 q847
   cases e847
   have HR847_1 := Aside0.mk hi847_1
   have HC847_1 := Aside0.mk hl847_1
   clear hi847_1 hl847_1
   replace p847 := eq_true p847
   replace q847 := eq_true q847
   go_upto_region 6 with (fail)
   go_cut [26] (fun v26 wc => ∃ (kq : Nat) (x26_3 : Bool), v26 = .bool x26_3 ∧ Aside0 (spec_l4size.j1 kq l0 x3_1 x4_1 ((rd_T79 l0 x4_1).f0) x26_3 = some r) ∧ Aside0 (kq ≤ k1) ∧ Drawn0 w wc)
   case first =>
    have H := HC4.out
    clear HC4
    by_cases c5 : ((rd_T79 l0 x4_1).f0) = 1
    ·rw [if_pos c5] at H
     have c5b0 : (((rd_T79 l0 x4_1).f0) == 1) = true := beq_iff_eq.mpr c5
     have c5b1 : (((rd_T79 l0 x4_1).f0) != 1) = false := bne_eq_false_iff_eq.mpr c5
     clear c5
     (first | rw [c5b0] | (simp only [i64_w, i32_w]; rw [c5b0]) | skip)
     have H' := Aside0.mk H
     clear H
     go_wp2
     go_meet
     case rel => exact ⟨_, (true), (by first | rfl | (simp; done) | (simp [*]; done)), H', ⟨by have := HK1.out; first | omega | exact Nat.le_refl _⟩, dr_⟩
    rw [if_neg c5] at H
    have c5b0 : (((rd_T79 l0 x4_1).f0) == 1) = false := beq_eq_false_iff_ne.mpr c5
    have c5b1 : (((rd_T79 l0 x4_1).f0) != 1) = true := bne_iff_ne.mpr c5
    (first | rw [c5b0] | (simp only [i64_w, i32_w]; rw [c5b0]) | skip)
    by_cases c6 : ((rd_T79 l0 x4_1).f0) = 2
    ·rw [if_pos c6] at H
     have c6b0 : (((rd_T79 l0 x4_1).f0) == 2) = true := beq_iff_eq.mpr c6
     have c6b1 : (((rd_T79 l0 x4_1).f0) != 2) = false := bne_eq_false_iff_eq.mpr c6
     clear c6
     have H' := Aside0.mk H
     clear H
     go_wp2
     go_meet
     case rel => exact ⟨_, (true), (by first | rfl | (simp; done) | (simp [*]; done)), H', ⟨by have := HK1.out; first | omega | exact Nat.le_refl _⟩, dr_⟩
    rw [if_neg c6] at H
    have c6b0 : (((rd_T79 l0 x4_1).f0) == 2) = false := beq_eq_false_iff_ne.mpr c6
    have c6b1 : (((rd_T79 l0 x4_1).f0) != 2) = true := bne_iff_ne.mpr c6
    have H' := Aside0.mk H
    clear H
    go_wp2
    go_meet
    case rel => exact ⟨_, ((((rd_T79 l0 x4_1).f0) == 3)), (by first | rfl | (simp; done) | (simp [*]; done)), H', ⟨by have := HK1.out; first | omega | exact Nat.le_refl _⟩, dr_⟩
   case rest =>
    clear HC4
    try clear c1
    try clear c2
    try clear c2b0
    try clear p2
    try clear c3
    try clear c3b0
    try clear c5
    try clear c5b0
    try clear c5b1
    try clear c6
    try clear c6b0
    try clear c6b1
    try clear hx847_0
    try clear hx847_1
    try clear hx847_2
    try clear p847
    try clear q847
    obtain ⟨kq, x26_3, rfl, HA, HJ3, ⟨mc3, rfl⟩⟩ := hcut
    cases kq with
    | zero => exact absurd HA.out (by simp [spec_l4size.j1])
    | succ kj3 =>
     have H := HA.out
     clear HA
     simp only [spec_l4size.j1] at H
     by_cases c7 : x26_3 = true
     ·subst c7
      have H1 : (spec_l4size.l0 kj3 l0 (wrap64 (x3_1 + 1)) (wrap64 (x4_1 + 1))) = some r := by rw [if_pos rfl] at H; exact H
      clear H
      have H := H1
      clear H1
      have H' := Aside0.mk H
      clear H
      go_wp2
      go_roundg kj3
      case measure => have := HK1.out; have := HJ3.out; omega
      case rel => exact ⟨(wrap64 (x3_1 + 1)), (wrap64 (x4_1 + 1)), (by first | rfl | (simp; done) | (simp [*]; done)), (by first | rfl | (simp; done) | (simp [*]; done)), H', ⟨by have := HK1.out; have := HJ3.out; omega⟩, dr_⟩
     replace c7 := Bool.eq_false_iff.mpr c7
     subst c7
     have H1 : (if ((rd_T79 l0 x4_1).f0) = 5 then (spec_l4size.l0 kj3 l0 (wrap64 (x3_1 + 2)) (wrap64 (x4_1 + 1))) else (if ((rd_T79 l0 x4_1).f0) = 6 then (spec_l4size.l0 kj3 l0 (wrap64 (x3_1 + 2)) (wrap64 (x4_1 + 1))) else (if ((rd_T79 l0 x4_1).f0) = 7 then (spec_l4size.l0 kj3 l0 (wrap64 (x3_1 + 2)) (wrap64 (x4_1 + 1))) else (spec_l4size.l0 kj3 l0 x3_1 (wrap64 (x4_1 + 1)))))) = some r := by rw [if_neg (show ¬ (false = true) by decide)] at H; exact H
     clear H
     have H := H1
     clear H1
     by_cases c8 : ((rd_T79 l0 x4_1).f0) = 5
     ·rw [if_pos c8] at H
      have c8b0 : (((rd_T79 l0 x4_1).f0) == 5) = true := beq_iff_eq.mpr c8
      have c8b1 : (((rd_T79 l0 x4_1).f0) != 5) = false := bne_eq_false_iff_eq.mpr c8
      clear c8
      have H' := Aside0.mk H
      clear H
      go_wp2
      go_roundg kj3
      case measure => have := HK1.out; have := HJ3.out; omega
      case rel => exact ⟨(wrap64 (x3_1 + 2)), (wrap64 (x4_1 + 1)), (by first | rfl | (simp; done) | (simp [*]; done)), (by first | rfl | (simp; done) | (simp [*]; done)), H', ⟨by have := HK1.out; have := HJ3.out; omega⟩, dr_⟩
     rw [if_neg c8] at H
     have c8b0 : (((rd_T79 l0 x4_1).f0) == 5) = false := beq_eq_false_iff_ne.mpr c8
     have c8b1 : (((rd_T79 l0 x4_1).f0) != 5) = true := bne_iff_ne.mpr c8
     by_cases c9 : ((rd_T79 l0 x4_1).f0) = 6
     ·rw [if_pos c9] at H
      have c9b0 : (((rd_T79 l0 x4_1).f0) == 6) = true := beq_iff_eq.mpr c9
      have c9b1 : (((rd_T79 l0 x4_1).f0) != 6) = false := bne_eq_false_iff_eq.mpr c9
      clear c9
      have H' := Aside0.mk H
      clear H
      go_wp2
      go_roundg kj3
      case measure => have := HK1.out; have := HJ3.out; omega
      case rel => exact ⟨(wrap64 (x3_1 + 2)), (wrap64 (x4_1 + 1)), (by first | rfl | (simp; done) | (simp [*]; done)), (by first | rfl | (simp; done) | (simp [*]; done)), H', ⟨by have := HK1.out; have := HJ3.out; omega⟩, dr_⟩
     rw [if_neg c9] at H
     have c9b0 : (((rd_T79 l0 x4_1).f0) == 6) = false := beq_eq_false_iff_ne.mpr c9
     have c9b1 : (((rd_T79 l0 x4_1).f0) != 6) = true := bne_iff_ne.mpr c9
     by_cases c10 : ((rd_T79 l0 x4_1).f0) = 7
     ·rw [if_pos c10] at H
      have c10b0 : (((rd_T79 l0 x4_1).f0) == 7) = true := beq_iff_eq.mpr c10
      have c10b1 : (((rd_T79 l0 x4_1).f0) != 7) = false := bne_eq_false_iff_eq.mpr c10
      clear c10
      have H' := Aside0.mk H
      clear H
      go_wp2
      go_roundg kj3
      case measure => have := HK1.out; have := HJ3.out; omega
      case rel => exact ⟨(wrap64 (x3_1 + 2)), (wrap64 (x4_1 + 1)), (by first | rfl | (simp; done) | (simp [*]; done)), (by first | rfl | (simp; done) | (simp [*]; done)), H', ⟨by have := HK1.out; have := HJ3.out; omega⟩, dr_⟩
     rw [if_neg c10] at H
     have c10b0 : (((rd_T79 l0 x4_1).f0) == 7) = false := beq_eq_false_iff_ne.mpr c10
     have c10b1 : (((rd_T79 l0 x4_1).f0) != 7) = true := bne_iff_ne.mpr c10
     have H' := Aside0.mk H
     clear H
     go_wp2
     go_roundg kj3
     case measure => have := HK1.out; have := HJ3.out; omega
     case rel => exact ⟨(x3_1), (wrap64 (x4_1 + 1)), (by first | rfl | (simp; done) | (simp [*]; done)), (by first | rfl | (simp; done) | (simp [*]; done)), H', ⟨by have := HK1.out; have := HJ3.out; omega⟩, dr_⟩
def spec_l4place.l0 : Nat → Int → Int → Int → List (S68) → List (S72) → Option (Int)
 | 0, _, _, _, _, _ => none
 | k + 1, x1, x5, x6, x849000, x849001 => if x6 < x1 then ((spec_l3body.f x849000 x849001 x6).bind fun t852 => (if (t852.length : Int) > 0 then ((spec_l3body.f x849000 x849001 x6).bind fun t855 => ((spec_l4size.f k t855).bind fun t858 => (spec_l4place.l0 k x1 (wrap64 (x5 + (wrap64 (3 + t858)))) (wrap64 (x6 + 1)) x849000 x849001))) else (spec_l4place.l0 k x1 x5 (wrap64 (x6 + 1)) x849000 x849001))) else (some x5)
def spec_l4place.f (k : Nat) (l0_0 : List (S68)) (l0_1 : List (S72)) (a1 : Int) : Option (Int) := (spec_l3body.f l0_0 l0_1 a1).bind fun t849 => (if (t849.length : Int) = 0 then (some (-1)) else (spec_l4place.l0 k a1 2 0 l0_0 l0_1))
theorem spec_l4place.mono_l : ∀ k, (∀ y0 y1 y2 y3 y4, LeO (spec_l4place.l0 k y0 y1 y2 y3 y4) (spec_l4place.l0 (k + 1) y0 y1 y2 y3 y4))
 | 0 => fun _ _ _ _ _ r h => by simp [spec_l4place.l0] at h
 | k + 1 => by
  have ih0 := spec_l4place.mono_l k
  intro y0 y1 y2 y3 y4
  unfold spec_l4place.l0
  repeat' first
  | (with_reducible exact ih0 _ _ _ _ _)
  | (with_reducible exact spec_l4size.mono _ _)
  | (with_reducible exact LeO.refl _)
  | (with_reducible exact LeO.none _)
  | (with_reducible refine LeO.ite ?_ ?_)
  | (with_reducible refine LeO.bind ?_ (fun _ => ?_))
  | exact ih0 _ _ _ _ _
  | exact spec_l4size.mono _ _
  | exact LeO.none _
  | refine LeO.ite ?_ ?_
  | refine LeO.bind ?_ (fun _ => ?_)
theorem spec_l4place.mono : ∀ a0 a1 a2 k, LeO (spec_l4place.f k a0 a1 a2) (spec_l4place.f (k + 1) a0 a1 a2) := by
 intro a0 a1 a2 k
 have ih0 := spec_l4place.mono_l k
 unfold spec_l4place.f
 repeat' first
  | (with_reducible exact ih0 _ _ _ _ _)
  | (with_reducible exact spec_l4size.mono _ _)
  | (with_reducible exact LeO.refl _)
  | (with_reducible exact LeO.none _)
  | (with_reducible refine LeO.ite ?_ ?_)
  | (with_reducible refine LeO.bind ?_ (fun _ => ?_))
  | exact ih0 _ _ _ _ _
  | exact spec_l4size.mono _ _
  | exact LeO.none _
  | refine LeO.ite ?_ ?_
  | refine LeO.bind ?_ (fun _ => ?_)
set_option maxHeartbeats 8000000 in
set_option maxRecDepth 100000 in
theorem spec_l4place.calls (k : Nat) (A0_0 : Option Addr) (c0_0 : Nat) (l0_0 : List (S68)) (A0_1 : Option Addr) (c0_1 : Nat) (l0_1 : List (S72)) (a1 : Int) (r : Int) (w : World) (hr0_0 : Kd.C k68 w A0_0 l0_0.length l0_0) (hc0_0 : l0_0.length ≤ c0_0) (hr0_1 : Kd.C k72 w A0_1 l0_1.length l0_1) (hc0_1 : l0_1.length ≤ c0_1) (h : spec_l4place.f k l0_0 l0_1 a1 = some r) :
 Calls Try.prog 168 #[.agg #[.slice A0_0 l0_0.length c0_0, .slice A0_1 l0_1.length c0_1], .int .i64 a1] w fun e w' => e = .returned (.int .i64 r) ∧ Below w.heap.size w w' := by
 have hu31 := Try.underlying31
 have HR0_0 := Aside0.mk hr0_0
 have HC0_0 := Aside0.mk hc0_0
 clear hr0_0 hc0_0
 have HR0_1 := Aside0.mk hr0_1
 have HC0_1 := Aside0.mk hc0_1
 clear hr0_1 hc0_1
 have HB := Aside0.mk (Below.refl w.heap.size w)
 have H : ((spec_l3body.f l0_0 l0_1 a1).bind fun t849 => (if (t849.length : Int) = 0 then (some (-1)) else (spec_l4place.l0 k a1 2 0 l0_0 l0_1))) = some r := h
 clear h
 replace H := Option.bind_eq_some_iff.mp H
 obtain ⟨t849, A30, H⟩ := H
 replace H : (if (t849.length : Int) = 0 then (some (-1)) else (spec_l4place.l0 k a1 2 0 l0_0 l0_1)) = some r := H
 have A3 := Aside0.mk A30
 clear A30
 by_cases c4 : (t849.length : Int) = 0
 ·rw [if_pos c4] at H
  have c4b0 : ((t849.length : Int) == 0) = true := beq_iff_eq.mpr c4
  have c4b1 : ((t849.length : Int) != 0) = false := bne_eq_false_iff_eq.mpr c4
  clear c4
  obtain rfl := Option.some.inj H
  go_enter Try.func168, Try.ntmps168
  go_wp2_with (first | ((with_reducible refine gate_dst (N := 2) rfl ?_); refine box_event ?hg (N := 2) ?hd (cs := #[.slice A0_0 l0_0.length c0_0, .slice A0_1 l0_1.length c0_1]) (t := 31) ?hr ?_; (case hd => rfl); (case hg => rfl); (case hr => first | (go_simp; done) | (go_simp; rfl)); intro gb848 hg w5 hbox hb; have n0_ := Aside0.mk (below_step bw_ hb); have n1_ := Aside0.mk (hbox); have n2_ := Aside0.mk ((by rw [hg]; exact (below_size bw_) : w.heap.size ≤ gb848)); have n3_ := Aside0.mk ((by rw [hg]; exact (below_size bw_) : w.heap.size ≤ gb848)); clear HB; have HB := n0_; have BK848 := n1_; have GW848 := n2_; have GE848 := n3_; clear n0_ n1_ n2_ n3_; clear hb hbox hg; have hcz6_0 : w5.cell? ⟨gb848, 0, none⟩ = some (.slice A0_0 l0_0.length c0_0) := (blk_cell BK848.out 0).trans rfl; have hcz6_1 : w5.cell? ⟨gb848, 1, none⟩ = some (.slice A0_1 l0_1.length c0_1) := (blk_cell BK848.out 1).trans rfl; have hfz6_0 := blk_frozen BK848.out 0; have hfz6_1 := blk_frozen BK848.out 1) | ((with_reducible refine gate_callee (f := 84) rfl ?_); refine goesL_ (some 9) rfl rfl Try.func84 (by kernel_rfl) rfl #[.agg #[.slice A0_0 l0_0.length c0_0, .slice A0_1 l0_1.length c0_1], .int .i64 a1] rfl ml_ ?_; (with_reducible refine (spec_l3body.calls (fun k_ => k_ < w.heap.size) _ _ l0_0 (fun k_ => k_ < w.heap.size) _ _ l0_1 a1 t849 _ ?side1 ?side2 A3.out).mono ?_); (case side1 => exact Kd.V_mk HC0_0.out (Kd.F_below (Kd.C_F k68_heap HR0_0.out) (by repeat (first | (with_reducible first | exact HB.out | apply below_alloc | apply pw_below_drewN | apply below_drew1 | refine below_set ?_ GE848.out) | exact HB.out)))); (case side2 => exact Kd.V_mk HC0_1.out (Kd.F_below (Kd.C_F k72_heap HR0_1.out) (by repeat (first | (with_reducible first | exact HB.out | apply below_alloc | apply pw_below_drewN | apply below_drew1 | refine below_set ?_ GE848.out) | exact HB.out)))); rintro e w7 ⟨v850, rfl, ho0, hb⟩; refine ⟨_, rfl, ?_⟩; have n0_ := Aside0.mk (Kd.V_lower (Kd.V_mono (ok' := fun k_ => k_ ≠ gb848) ho0 (fun k_ hk_ => Or.elim hk_ (fun hs_ => Or.elim hs_ (fun hs_ => fun e_ => Nat.not_le.2 hs_ (by rw [e_]; exact GW848.out)) (fun hs_ => fun e_ => Nat.not_le.2 hs_ (by rw [e_]; exact GW848.out))) (fun hn_ => (Kd.freshB (g := gb848) (o := .cells #[.slice A0_0 l0_0.length c0_0, .slice A0_1 l0_1.length c0_1] 31 (0, 0)) (by (with_reducible repeat (first | refine blk_drewN ?_ _ | refine blk_drew ?_ | refine blk_alloc ?_ _)); exact BK848.out) k_ hn_)))) (below_size (by repeat (first | (with_reducible first | exact HB.out | apply below_alloc | apply pw_below_drewN | apply below_drew1 | refine below_set ?_ GE848.out) | exact HB.out)))); have n1_ := Aside0.mk (blk_below (g := gb848) (o := .cells #[.slice A0_0 l0_0.length c0_0, .slice A0_1 l0_1.length c0_1] 31 (0, 0)) (by (with_reducible repeat (first | refine blk_drewN ?_ _ | refine blk_drew ?_ | refine blk_alloc ?_ _)); exact BK848.out) hb); have n2_ := Aside0.mk (below_step (by repeat (first | (with_reducible first | exact HB.out | apply below_alloc | apply pw_below_drewN | apply below_drew1 | refine below_set ?_ GE848.out) | exact HB.out)) hb); clear BK848; clear HB; have HO851 := n0_; have BK848 := n1_; have HB := n2_; clear n0_ n1_ n2_; (try clear hb); (try clear hb2); (try clear hk); (try clear hi); (try clear ho0); obtain ⟨Ao8, co8, eo8⟩ := Kd.V_slice HO851.out; subst eo8))
  go_ret
  exact ⟨er_, by repeat (first | (with_reducible first | exact HB.out | apply below_alloc | apply pw_below_drewN | apply below_drew1 | refine below_set ?_ GE848.out) | exact HB.out)⟩
 rw [if_neg c4] at H
 have c4b0 : ((t849.length : Int) == 0) = false := beq_eq_false_iff_ne.mpr c4
 have c4b1 : ((t849.length : Int) != 0) = true := bne_iff_ne.mpr c4
 have c4b2 : ¬ (t849 = []) := fun h_ => c4 (by rw [h_]; rfl)
 have H' := Aside0.mk H
 clear H
 go_enter Try.func168, Try.ntmps168
 go_wp2_with (first | ((with_reducible refine gate_dst (N := 2) rfl ?_); refine box_event ?hg (N := 2) ?hd (cs := #[.slice A0_0 l0_0.length c0_0, .slice A0_1 l0_1.length c0_1]) (t := 31) ?hr ?_; (case hd => rfl); (case hg => rfl); (case hr => first | (go_simp; done) | (go_simp; rfl)); intro gb848 hg w9 hbox hb; have n0_ := Aside0.mk (below_step bw_ hb); have n1_ := Aside0.mk (hbox); have n2_ := Aside0.mk ((by rw [hg]; exact (below_size bw_) : w.heap.size ≤ gb848)); have n3_ := Aside0.mk ((by rw [hg]; exact (below_size bw_) : w.heap.size ≤ gb848)); clear HB; have HB := n0_; have BK848 := n1_; have GW848 := n2_; have GE848 := n3_; clear n0_ n1_ n2_ n3_; clear hb hbox hg; have hcz10_0 : w9.cell? ⟨gb848, 0, none⟩ = some (.slice A0_0 l0_0.length c0_0) := (blk_cell BK848.out 0).trans rfl; have hcz10_1 : w9.cell? ⟨gb848, 1, none⟩ = some (.slice A0_1 l0_1.length c0_1) := (blk_cell BK848.out 1).trans rfl; have hfz10_0 := blk_frozen BK848.out 0; have hfz10_1 := blk_frozen BK848.out 1) | ((with_reducible refine gate_callee (f := 84) rfl ?_); refine goesL_ (some 9) rfl rfl Try.func84 (by kernel_rfl) rfl #[.agg #[.slice A0_0 l0_0.length c0_0, .slice A0_1 l0_1.length c0_1], .int .i64 a1] rfl ml_ ?_; (with_reducible refine (spec_l3body.calls (fun k_ => k_ < w.heap.size) _ _ l0_0 (fun k_ => k_ < w.heap.size) _ _ l0_1 a1 t849 _ ?side1 ?side2 A3.out).mono ?_); (case side1 => exact Kd.V_mk HC0_0.out (Kd.F_below (Kd.C_F k68_heap HR0_0.out) (by repeat (first | (with_reducible first | exact HB.out | apply below_alloc | apply pw_below_drewN | apply below_drew1 | refine below_set ?_ GE848.out) | exact HB.out)))); (case side2 => exact Kd.V_mk HC0_1.out (Kd.F_below (Kd.C_F k72_heap HR0_1.out) (by repeat (first | (with_reducible first | exact HB.out | apply below_alloc | apply pw_below_drewN | apply below_drew1 | refine below_set ?_ GE848.out) | exact HB.out)))); rintro e w11 ⟨v850, rfl, ho0, hb⟩; refine ⟨_, rfl, ?_⟩; have n0_ := Aside0.mk (Kd.V_lower (Kd.V_mono (ok' := fun k_ => k_ ≠ gb848) ho0 (fun k_ hk_ => Or.elim hk_ (fun hs_ => Or.elim hs_ (fun hs_ => fun e_ => Nat.not_le.2 hs_ (by rw [e_]; exact GW848.out)) (fun hs_ => fun e_ => Nat.not_le.2 hs_ (by rw [e_]; exact GW848.out))) (fun hn_ => (Kd.freshB (g := gb848) (o := .cells #[.slice A0_0 l0_0.length c0_0, .slice A0_1 l0_1.length c0_1] 31 (0, 0)) (by (with_reducible repeat (first | refine blk_drewN ?_ _ | refine blk_drew ?_ | refine blk_alloc ?_ _)); exact BK848.out) k_ hn_)))) (below_size (by repeat (first | (with_reducible first | exact HB.out | apply below_alloc | apply pw_below_drewN | apply below_drew1 | refine below_set ?_ GE848.out) | exact HB.out)))); have n1_ := Aside0.mk (blk_below (g := gb848) (o := .cells #[.slice A0_0 l0_0.length c0_0, .slice A0_1 l0_1.length c0_1] 31 (0, 0)) (by (with_reducible repeat (first | refine blk_drewN ?_ _ | refine blk_drew ?_ | refine blk_alloc ?_ _)); exact BK848.out) hb); have n2_ := Aside0.mk (below_step (by repeat (first | (with_reducible first | exact HB.out | apply below_alloc | apply pw_below_drewN | apply below_drew1 | refine below_set ?_ GE848.out) | exact HB.out)) hb); clear BK848; clear HB; have HO851 := n0_; have BK848 := n1_; have HB := n2_; clear n0_ n1_ n2_; (try clear hb); (try clear hb2); (try clear hk); (try clear hi); (try clear ho0); obtain ⟨Ao12, co12, eo12⟩ := Kd.V_slice HO851.out; subst eo12))
 go_loopg [5, 6] k (fun kq v5 v6 w' => ∃ (x5_1 : Int) (x6_1 : Int), v5 = .int .i64 x5_1 ∧ v6 = .int .i64 x6_1 ∧ Aside0 (spec_l4place.l0 kq a1 x5_1 x6_1 l0_0 l0_1 = some r) ∧ Aside0 (kq ≤ k) ∧ Aside0 (w'.heap[gb848]? = some (.cells #[(.slice A0_0 l0_0.length c0_0), (.slice A0_1 l0_1.length c0_1)] 31 (0, 0))) ∧ Aside0 (Below w.heap.size w w'))
 case atStart => exact ⟨(2), (0), (by first | rfl | (simp; done) | (simp [*]; done)), (by first | rfl | (simp; done) | (simp [*]; done)), H', ⟨Nat.le_refl _⟩, ⟨by (with_reducible repeat (first | refine blk_drewN ?_ _ | refine blk_drew ?_ | refine blk_alloc ?_ _)); exact BK848.out⟩, ⟨by repeat (first | (with_reducible first | exact HB.out | apply below_alloc | apply pw_below_drewN | apply below_drew1 | refine below_set ?_ GE848.out) | exact HB.out)⟩⟩
 case round =>
  clear H'
  try clear c1
  try clear p2
  try clear c4
  try clear c4b0
  try clear c4b1
  try clear c4b2
  try clear c8
  try clear hcz10_0
  try clear hcz10_1
  try clear hcz6_0
  try clear hcz6_1
  try clear hfz10_0
  try clear hfz10_1
  try clear hfz6_0
  try clear hfz6_1
  obtain ⟨x5_1, x6_1, rfl, rfl, HA, HK1, BK848, HB⟩ := hrel
  cases gk with
  | zero => exact absurd HA.out (by simp [spec_l4place.l0])
  | succ k1 =>
   have H := HA.out
   clear HA
   simp only [spec_l4place.l0] at H
   by_cases c13 : x6_1 < a1
   rotate_left
   ·rw [if_neg c13] at H
    have c13b0 : decide (x6_1 < a1) = false := decide_eq_false c13
    clear c13
    obtain rfl := Option.some.inj H
    go_wp2
    go_ret
    exact ⟨er_, by repeat (first | (with_reducible first | exact HB.out | apply below_alloc | apply pw_below_drewN | apply below_drew1 | refine below_set ?_ GE848.out) | exact HB.out)⟩
   rw [if_pos c13] at H
   have c13b0 : decide (x6_1 < a1) = true := decide_eq_true c13
   clear c13
   replace H := Option.bind_eq_some_iff.mp H
   obtain ⟨t852, A140, H⟩ := H
   replace H : (if (t852.length : Int) > 0 then ((spec_l3body.f l0_0 l0_1 x6_1).bind fun t855 => ((spec_l4size.f k1 t855).bind fun t858 => (spec_l4place.l0 k1 a1 (wrap64 (x5_1 + (wrap64 (3 + t858)))) (wrap64 (x6_1 + 1)) l0_0 l0_1))) else (spec_l4place.l0 k1 a1 x5_1 (wrap64 (x6_1 + 1)) l0_0 l0_1)) = some r := H
   have A14 := Aside0.mk A140
   clear A140
   by_cases c15 : (t852.length : Int) > 0
   rotate_left
   ·rw [if_neg c15] at H
    have c15b0 : decide (0 < (t852.length : Int)) = false := decide_eq_false c15
    have c15b1 : decide (0 < t852.length) = false := decide_eq_false (by omega)
    clear c15
    have H' := Aside0.mk H
    clear H
    have hcz24_0 : wr.cell? ⟨gb848, 0, none⟩ = some (.slice A0_0 l0_0.length c0_0) := (blk_cell BK848.out 0).trans rfl
    have hcz24_1 : wr.cell? ⟨gb848, 1, none⟩ = some (.slice A0_1 l0_1.length c0_1) := (blk_cell BK848.out 1).trans rfl
    have hfz24_0 := blk_frozen BK848.out 0
    have hfz24_1 := blk_frozen BK848.out 1
    go_wp2_with (first | ((with_reducible refine gate_callee (f := 84) rfl ?_); refine goesL_ (some 19) rfl rfl Try.func84 (by kernel_rfl) rfl #[.agg #[.slice A0_0 l0_0.length c0_0, .slice A0_1 l0_1.length c0_1], .int .i64 x6_1] rfl ml_ ?_; (with_reducible refine (spec_l3body.calls (fun k_ => k_ < w.heap.size) _ _ l0_0 (fun k_ => k_ < w.heap.size) _ _ l0_1 x6_1 t852 _ ?side1 ?side2 A14.out).mono ?_); (case side1 => exact Kd.V_mk HC0_0.out (Kd.F_below (Kd.C_F k68_heap HR0_0.out) (by repeat (first | (with_reducible first | exact HB.out | apply below_alloc | apply pw_below_drewN | apply below_drew1 | refine below_set ?_ GE848.out) | exact HB.out)))); (case side2 => exact Kd.V_mk HC0_1.out (Kd.F_below (Kd.C_F k72_heap HR0_1.out) (by repeat (first | (with_reducible first | exact HB.out | apply below_alloc | apply pw_below_drewN | apply below_drew1 | refine below_set ?_ GE848.out) | exact HB.out)))); rintro e w25 ⟨v853, rfl, ho0, hb⟩; refine ⟨_, rfl, ?_⟩; have n0_ := Aside0.mk (Kd.V_lower (Kd.V_mono (ok' := fun k_ => k_ ≠ gb848) ho0 (fun k_ hk_ => Or.elim hk_ (fun hs_ => Or.elim hs_ (fun hs_ => fun e_ => Nat.not_le.2 hs_ (by rw [e_]; exact GW848.out)) (fun hs_ => fun e_ => Nat.not_le.2 hs_ (by rw [e_]; exact GW848.out))) (fun hn_ => (Kd.freshB (g := gb848) (o := .cells #[.slice A0_0 l0_0.length c0_0, .slice A0_1 l0_1.length c0_1] 31 (0, 0)) (by (with_reducible repeat (first | refine blk_drewN ?_ _ | refine blk_drew ?_ | refine blk_alloc ?_ _)); exact BK848.out) k_ hn_)))) (below_size (by repeat (first | (with_reducible first | exact HB.out | apply below_alloc | apply pw_below_drewN | apply below_drew1 | refine below_set ?_ GE848.out) | exact HB.out)))); have n1_ := Aside0.mk (blk_below (g := gb848) (o := .cells #[.slice A0_0 l0_0.length c0_0, .slice A0_1 l0_1.length c0_1] 31 (0, 0)) (by (with_reducible repeat (first | refine blk_drewN ?_ _ | refine blk_drew ?_ | refine blk_alloc ?_ _)); exact BK848.out) hb); have n2_ := Aside0.mk (below_step (by repeat (first | (with_reducible first | exact HB.out | apply below_alloc | apply pw_below_drewN | apply below_drew1 | refine below_set ?_ GE848.out) | exact HB.out)) hb); clear BK848; clear HB; have HO854 := n0_; have BK848 := n1_; have HB := n2_; clear n0_ n1_ n2_; (try clear hb); (try clear hb2); (try clear hk); (try clear hi); (try clear ho0); obtain ⟨Ao26, co26, eo26⟩ := Kd.V_slice HO854.out; subst eo26))
    go_roundg k1
    case measure => have := HK1.out; omega
    case rel => exact ⟨(x5_1), (wrap64 (x6_1 + 1)), (by first | rfl | (simp; done) | (simp [*]; done)), (by first | rfl | (simp; done) | (simp [*]; done)), H', ⟨by have := HK1.out; omega⟩, ⟨by (with_reducible repeat (first | refine blk_drewN ?_ _ | refine blk_drew ?_ | refine blk_alloc ?_ _)); exact BK848.out⟩, ⟨by repeat (first | (with_reducible first | exact HB.out | apply below_alloc | apply pw_below_drewN | apply below_drew1 | refine below_set ?_ GE848.out) | exact HB.out)⟩⟩
   rw [if_pos c15] at H
   have c15b0 : decide (0 < (t852.length : Int)) = true := decide_eq_true c15
   have c15b1 : decide (0 < t852.length) = true := decide_eq_true (by omega)
   clear c15
   replace H := Option.bind_eq_some_iff.mp H
   obtain ⟨t855, A160, H⟩ := H
   replace H : ((spec_l4size.f k1 t855).bind fun t858 => (spec_l4place.l0 k1 a1 (wrap64 (x5_1 + (wrap64 (3 + t858)))) (wrap64 (x6_1 + 1)) l0_0 l0_1)) = some r := H
   have A16 := Aside0.mk A160
   clear A160
   replace H := Option.bind_eq_some_iff.mp H
   obtain ⟨t858, A170, H⟩ := H
   replace H : (spec_l4place.l0 k1 a1 (wrap64 (x5_1 + (wrap64 (3 + t858)))) (wrap64 (x6_1 + 1)) l0_0 l0_1) = some r := H
   have A17 := Aside0.mk A170
   clear A170
   have H' := Aside0.mk H
   clear H
   have hcz18_0 : wr.cell? ⟨gb848, 0, none⟩ = some (.slice A0_0 l0_0.length c0_0) := (blk_cell BK848.out 0).trans rfl
   have hcz18_1 : wr.cell? ⟨gb848, 1, none⟩ = some (.slice A0_1 l0_1.length c0_1) := (blk_cell BK848.out 1).trans rfl
   have hfz18_0 := blk_frozen BK848.out 0
   have hfz18_1 := blk_frozen BK848.out 1
   go_wp2_with (first | ((with_reducible refine gate_callee (f := 84) rfl ?_); refine goesL_ (some 19) rfl rfl Try.func84 (by kernel_rfl) rfl #[.agg #[.slice A0_0 l0_0.length c0_0, .slice A0_1 l0_1.length c0_1], .int .i64 x6_1] rfl ml_ ?_; (with_reducible refine (spec_l3body.calls (fun k_ => k_ < w.heap.size) _ _ l0_0 (fun k_ => k_ < w.heap.size) _ _ l0_1 x6_1 t852 _ ?side1 ?side2 A14.out).mono ?_); (case side1 => exact Kd.V_mk HC0_0.out (Kd.F_below (Kd.C_F k68_heap HR0_0.out) (by repeat (first | (with_reducible first | exact HB.out | apply below_alloc | apply pw_below_drewN | apply below_drew1 | refine below_set ?_ GE848.out) | exact HB.out)))); (case side2 => exact Kd.V_mk HC0_1.out (Kd.F_below (Kd.C_F k72_heap HR0_1.out) (by repeat (first | (with_reducible first | exact HB.out | apply below_alloc | apply pw_below_drewN | apply below_drew1 | refine below_set ?_ GE848.out) | exact HB.out)))); rintro e w19 ⟨v853, rfl, ho0, hb⟩; refine ⟨_, rfl, ?_⟩; have n0_ := Aside0.mk (Kd.V_lower (Kd.V_mono (ok' := fun k_ => k_ ≠ gb848) ho0 (fun k_ hk_ => Or.elim hk_ (fun hs_ => Or.elim hs_ (fun hs_ => fun e_ => Nat.not_le.2 hs_ (by rw [e_]; exact GW848.out)) (fun hs_ => fun e_ => Nat.not_le.2 hs_ (by rw [e_]; exact GW848.out))) (fun hn_ => (Kd.freshB (g := gb848) (o := .cells #[.slice A0_0 l0_0.length c0_0, .slice A0_1 l0_1.length c0_1] 31 (0, 0)) (by (with_reducible repeat (first | refine blk_drewN ?_ _ | refine blk_drew ?_ | refine blk_alloc ?_ _)); exact BK848.out) k_ hn_)))) (below_size (by repeat (first | (with_reducible first | exact HB.out | apply below_alloc | apply pw_below_drewN | apply below_drew1 | refine below_set ?_ GE848.out) | exact HB.out)))); have n1_ := Aside0.mk (blk_below (g := gb848) (o := .cells #[.slice A0_0 l0_0.length c0_0, .slice A0_1 l0_1.length c0_1] 31 (0, 0)) (by (with_reducible repeat (first | refine blk_drewN ?_ _ | refine blk_drew ?_ | refine blk_alloc ?_ _)); exact BK848.out) hb); have n2_ := Aside0.mk (below_step (by repeat (first | (with_reducible first | exact HB.out | apply below_alloc | apply pw_below_drewN | apply below_drew1 | refine below_set ?_ GE848.out) | exact HB.out)) hb); clear BK848; clear HB; have HO854 := n0_; have BK848 := n1_; have HB := n2_; clear n0_ n1_ n2_; (try clear hb); (try clear hb2); (try clear hk); (try clear hi); (try clear ho0); obtain ⟨Ao20, co20, eo20⟩ := Kd.V_slice HO854.out; subst eo20; have hcz21_0 : w19.cell? ⟨gb848, 0, none⟩ = some (.slice A0_0 l0_0.length c0_0) := (blk_cell BK848.out 0).trans rfl; have hcz21_1 : w19.cell? ⟨gb848, 1, none⟩ = some (.slice A0_1 l0_1.length c0_1) := (blk_cell BK848.out 1).trans rfl; have hfz21_0 := blk_frozen BK848.out 0; have hfz21_1 := blk_frozen BK848.out 1) | ((with_reducible refine gate_callee (f := 84) rfl ?_); refine goesL_ (some 25) rfl rfl Try.func84 (by kernel_rfl) rfl #[.agg #[.slice A0_0 l0_0.length c0_0, .slice A0_1 l0_1.length c0_1], .int .i64 x6_1] rfl ml_ ?_; (with_reducible refine (spec_l3body.calls (fun k_ => k_ < w.heap.size) _ _ l0_0 (fun k_ => k_ < w.heap.size) _ _ l0_1 x6_1 t855 _ ?side1 ?side2 A16.out).mono ?_); (case side1 => exact Kd.V_mk HC0_0.out (Kd.F_below (Kd.C_F k68_heap HR0_0.out) (by repeat (first | (with_reducible first | exact HB.out | apply below_alloc | apply pw_below_drewN | apply below_drew1 | refine below_set ?_ GE848.out) | exact HB.out)))); (case side2 => exact Kd.V_mk HC0_1.out (Kd.F_below (Kd.C_F k72_heap HR0_1.out) (by repeat (first | (with_reducible first | exact HB.out | apply below_alloc | apply pw_below_drewN | apply below_drew1 | refine below_set ?_ GE848.out) | exact HB.out)))); rintro e w22 ⟨v856, rfl, ho0, hb⟩; refine ⟨_, rfl, ?_⟩; have n0_ := Aside0.mk (Kd.V_below (by (with_reducible repeat (first | apply Kd.V_alloc | apply Kd.V_drewN | apply Kd.V_drew)); exact HO854.out) hb); have n1_ := Aside0.mk (Kd.V_lower (Kd.V_mono (ok' := fun k_ => k_ ≠ gb848) ho0 (fun k_ hk_ => Or.elim hk_ (fun hs_ => Or.elim hs_ (fun hs_ => fun e_ => Nat.not_le.2 hs_ (by rw [e_]; exact GW848.out)) (fun hs_ => fun e_ => Nat.not_le.2 hs_ (by rw [e_]; exact GW848.out))) (fun hn_ => (Kd.freshB (g := gb848) (o := .cells #[.slice A0_0 l0_0.length c0_0, .slice A0_1 l0_1.length c0_1] 31 (0, 0)) (by (with_reducible repeat (first | refine blk_drewN ?_ _ | refine blk_drew ?_ | refine blk_alloc ?_ _)); exact BK848.out) k_ hn_)))) (below_size (by repeat (first | (with_reducible first | exact HB.out | apply below_alloc | apply pw_below_drewN | apply below_drew1 | refine below_set ?_ GE848.out) | exact HB.out)))); have n2_ := Aside0.mk (blk_below (g := gb848) (o := .cells #[.slice A0_0 l0_0.length c0_0, .slice A0_1 l0_1.length c0_1] 31 (0, 0)) (by (with_reducible repeat (first | refine blk_drewN ?_ _ | refine blk_drew ?_ | refine blk_alloc ?_ _)); exact BK848.out) hb); have n3_ := Aside0.mk (below_step (by repeat (first | (with_reducible first | exact HB.out | apply below_alloc | apply pw_below_drewN | apply below_drew1 | refine below_set ?_ GE848.out) | exact HB.out)) hb); clear HO854; clear BK848; clear HB; have HO854 := n0_; have HO857 := n1_; have BK848 := n2_; have HB := n3_; clear n0_ n1_ n2_ n3_; (try clear hb); (try clear hb2); (try clear hk); (try clear hi); (try clear ho0); obtain ⟨Ao23, co23, eo23⟩ := Kd.V_slice HO857.out; subst eo23) | ((with_reducible refine gate_callee (f := 169) rfl ?_); refine goesL_ (some 26) rfl rfl Try.func169 (by kernel_rfl) rfl #[.slice Ao23 t855.length co23] rfl ml_ ?_; (with_reducible refine (spec_l4size.calls k1 _ _ t855 t858 _ ?side1 ?side2 A17.out).mono ?_); (case side1 => repeat (first | exact (Kd.V_reads' HO857.out).2.2 | (with_reducible refine Kd.C_alloc ?_ _) | (with_reducible refine Kd.C_drewN ?_ _) | (with_reducible refine Kd.C_drew ?_))); (case side2 => exact (Kd.V_reads' HO857.out).2.1); rintro e w' ⟨rfl, ⟨nd, rfl⟩⟩; refine ⟨_, rfl, ?_⟩))
   go_roundg k1
   case measure => have := HK1.out; omega
   case rel => exact ⟨(wrap64 (x5_1 + (wrap64 (3 + t858)))), (wrap64 (x6_1 + 1)), (by first | rfl | (simp; done) | (simp [*]; done)), (by first | rfl | (simp; done) | (simp [*]; done)), H', ⟨by have := HK1.out; omega⟩, ⟨by (with_reducible repeat (first | refine blk_drewN ?_ _ | refine blk_drew ?_ | refine blk_alloc ?_ _)); exact BK848.out⟩, ⟨by repeat (first | (with_reducible first | exact HB.out | apply below_alloc | apply pw_below_drewN | apply below_drew1 | refine below_set ?_ GE848.out) | exact HB.out)⟩⟩
def laws_heldInsS.l0 : Nat → List (S88) → Int → Int → Option (Int)
 | 0, _, _, _ => none
 | k + 1, x0, x1, x5 => if x5 < (x0.length : Int) then (if 0 ≤ x5 then (if ((rd_T88 x0 x5).f0) = x1 then (if ((rd_T88 x0 x5).f1) = (wrap64 (x1 + 1)) then (if ((rd_T88 x0 x5).f2) = (wrap64 ((wrap64 (x1 + 1)) + 1)) then ((laws_heldIntS.f k ((rd_T88 x0 x5).f3) (wrap64 ((wrap64 ((wrap64 (x1 + 1)) + 1)) + 1))).bind fun t863 => (if t863 < 0 then (some (-1)) else (laws_heldInsS.l0 k x0 t863 (wrap64 (x5 + 1))))) else (some (-1))) else (some (-1))) else (some (-1))) else (none)) else (some x1)
def laws_heldInsS.f (k : Nat) (l0 : List (S88)) (a1 : Int) : Option (Int) := laws_heldInsS.l0 k l0 a1 0
theorem laws_heldInsS.mono_l : ∀ k, (∀ y0 y1 y2, LeO (laws_heldInsS.l0 k y0 y1 y2) (laws_heldInsS.l0 (k + 1) y0 y1 y2))
 | 0 => fun _ _ _ r h => by simp [laws_heldInsS.l0] at h
 | k + 1 => by
  have ih0 := laws_heldInsS.mono_l k
  intro y0 y1 y2
  unfold laws_heldInsS.l0
  repeat' first
  | (with_reducible exact ih0 _ _ _)
  | (with_reducible exact laws_heldIntS.mono _ _ _)
  | (with_reducible exact LeO.refl _)
  | (with_reducible exact LeO.none _)
  | (with_reducible refine LeO.ite ?_ ?_)
  | (with_reducible refine LeO.bind ?_ (fun _ => ?_))
  | exact ih0 _ _ _
  | exact laws_heldIntS.mono _ _ _
  | exact LeO.none _
  | refine LeO.ite ?_ ?_
  | refine LeO.bind ?_ (fun _ => ?_)
theorem laws_heldInsS.mono : ∀ a0 a1 k, LeO (laws_heldInsS.f k a0 a1) (laws_heldInsS.f (k + 1) a0 a1) := by
 intro a0 a1 k
 have ih0 := laws_heldInsS.mono_l k
 unfold laws_heldInsS.f
 repeat' first
  | (with_reducible exact ih0 _ _ _)
  | (with_reducible exact laws_heldIntS.mono _ _ _)
  | (with_reducible exact LeO.refl _)
  | (with_reducible exact LeO.none _)
  | (with_reducible refine LeO.ite ?_ ?_)
  | (with_reducible refine LeO.bind ?_ (fun _ => ?_))
  | exact ih0 _ _ _
  | exact laws_heldIntS.mono _ _ _
  | exact LeO.none _
  | refine LeO.ite ?_ ?_
  | refine LeO.bind ?_ (fun _ => ?_)
set_option maxHeartbeats 8000000 in
set_option maxRecDepth 100000 in
theorem laws_heldInsS.calls (k : Nat) (A0 : Option Addr) (c0 : Nat) (l0 : List (S88)) (a1 : Int) (r : Int) (w : World) (hr0 : Kd.C k88 w A0 l0.length l0) (hc0 : l0.length ≤ c0) (h : laws_heldInsS.f k l0 a1 = some r) :
 Calls Try.prog 43 #[.slice A0 l0.length c0, .int .i64 a1] w fun e w' => e = .returned (.int .i64 r) ∧ Drawn0 w w' := by
 have HR0 := Aside0.mk hr0
 have HC0 := Aside0.mk hc0
 clear hr0 hc0
 have H : (laws_heldInsS.l0 k l0 a1 0) = some r := h
 clear h
 have H' := Aside0.mk H
 clear H
 go_enter Try.func43, Try.ntmps43
 go_wp2
 go_loopg [1, 5] k (fun kq v1 v5 w' => ∃ (x1_1 : Int) (x5_1 : Int), v1 = .int .i64 x1_1 ∧ v5 = .int .i64 x5_1 ∧ Aside0 (laws_heldInsS.l0 kq l0 x1_1 x5_1 = some r) ∧ Aside0 (kq ≤ k) ∧ Drawn0 w w')
 case atStart => exact ⟨(a1), (0), (by first | rfl | (simp; done) | (simp [*]; done)), (by first | rfl | (simp; done) | (simp [*]; done)), H', ⟨Nat.le_refl _⟩, dr_⟩
 case round =>
  clear H'
  try clear p2
  obtain ⟨x1_1, x5_1, rfl, rfl, HA, HK1, ⟨m1, rfl⟩⟩ := hrel
  cases gk with
  | zero => exact absurd HA.out (by simp [laws_heldInsS.l0])
  | succ k1 =>
   have H := HA.out
   clear HA
   simp only [laws_heldInsS.l0] at H
   by_cases c3 : x5_1 < (l0.length : Int)
   rotate_left
   ·rw [if_neg c3] at H
    have c3b0 : decide (x5_1 < (l0.length : Int)) = false := decide_eq_false c3
    clear c3
    obtain rfl := Option.some.inj H
    go_wp2
    go_ret
    exact ⟨by first | rfl | (simp; done) | (simp [*]; done), dr_⟩
   rw [if_pos c3] at H
   have c3b0 : decide (x5_1 < (l0.length : Int)) = true := decide_eq_true c3
   clear c3
   by_cases c4 : 0 ≤ x5_1
   rotate_left
   ·rw [if_neg c4] at H
    exact absurd H (by simp)
   rw [if_pos c4] at H
   have c4b0 : decide (0 ≤ x5_1) = true := decide_eq_true c4
   clear c4
   by_cases c5 : ((rd_T88 l0 x5_1).f0) = x1_1
   rotate_left
   ·rw [if_neg c5] at H
    have c5b0 : (((rd_T88 l0 x5_1).f0) == x1_1) = false := beq_eq_false_iff_ne.mpr c5
    have c5b1 : (((rd_T88 l0 x5_1).f0) != x1_1) = true := bne_iff_ne.mpr c5
    obtain rfl := Option.some.inj H
    have p859 : 0 ≤ (x5_1 : Int) := of_decide_eq_true as_
    have q859 : x5_1 < (l0.length : Int) := of_decide_eq_true as_
    obtain ⟨ad859, A859_3, c859_3, e859, hx859_0, hx859_1, hx859_2, hx859_3, hl859_3, hi859_3⟩ := at_T88 HR0.out x5_1 p859 q859
    cases e859
    have HR859_3 := Aside0.mk hi859_3
    have HC859_3 := Aside0.mk hl859_3
    clear hi859_3 hl859_3
    replace p859 := eq_true p859
    replace q859 := eq_true q859
    go_wp2
    go_ret
    exact ⟨by first | rfl | (simp; done) | (simp [*]; done), dr_⟩
   rw [if_pos c5] at H
   have c5b0 : (((rd_T88 l0 x5_1).f0) == x1_1) = true := beq_iff_eq.mpr c5
   have c5b1 : (((rd_T88 l0 x5_1).f0) != x1_1) = false := bne_eq_false_iff_eq.mpr c5
   clear c5
   by_cases c6 : ((rd_T88 l0 x5_1).f1) = (wrap64 (x1_1 + 1))
   rotate_left
   ·rw [if_neg c6] at H
    have c6b0 : (((rd_T88 l0 x5_1).f1) == (wrap64 (x1_1 + 1))) = false := beq_eq_false_iff_ne.mpr c6
    have c6b1 : (((rd_T88 l0 x5_1).f1) != (wrap64 (x1_1 + 1))) = true := bne_iff_ne.mpr c6
    obtain rfl := Option.some.inj H
    have p859 : 0 ≤ (x5_1 : Int) := of_decide_eq_true as_
    have q859 : x5_1 < (l0.length : Int) := of_decide_eq_true as_
    obtain ⟨ad859, A859_3, c859_3, e859, hx859_0, hx859_1, hx859_2, hx859_3, hl859_3, hi859_3⟩ := at_T88 HR0.out x5_1 p859 q859
    cases e859
    have HR859_3 := Aside0.mk hi859_3
    have HC859_3 := Aside0.mk hl859_3
    clear hi859_3 hl859_3
    replace p859 := eq_true p859
    replace q859 := eq_true q859
    have p860 : 0 ≤ (x5_1 : Int) := of_decide_eq_true as_
    have q860 : x5_1 < (l0.length : Int) := of_decide_eq_true as_
    obtain ⟨ad860, A860_3, c860_3, e860, hx860_0, hx860_1, hx860_2, hx860_3, hl860_3, hi860_3⟩ := at_T88 HR0.out x5_1 p860 q860
    obtain rfl : ad859 = ad860 := (by injection e860)
    have HR860_3 := Aside0.mk hi860_3
    have HC860_3 := Aside0.mk hl860_3
    clear hi860_3 hl860_3
    replace p860 := eq_true p860
    replace q860 := eq_true q860
    have ea_ := Option.some.inj (hx859_3.symm.trans hx860_3)
    injection ea_ with ea_ en_ ec_
    subst ea_
    subst ec_
    clear en_
    go_wp2
    go_ret
    exact ⟨by first | rfl | (simp; done) | (simp [*]; done), dr_⟩
   rw [if_pos c6] at H
   have c6b0 : (((rd_T88 l0 x5_1).f1) == (wrap64 (x1_1 + 1))) = true := beq_iff_eq.mpr c6
   have c6b1 : (((rd_T88 l0 x5_1).f1) != (wrap64 (x1_1 + 1))) = false := bne_eq_false_iff_eq.mpr c6
   clear c6
   by_cases c7 : ((rd_T88 l0 x5_1).f2) = (wrap64 ((wrap64 (x1_1 + 1)) + 1))
   rotate_left
   ·rw [if_neg c7] at H
    have c7b0 : (((rd_T88 l0 x5_1).f2) == (wrap64 ((wrap64 (x1_1 + 1)) + 1))) = false := beq_eq_false_iff_ne.mpr c7
    have c7b1 : (((rd_T88 l0 x5_1).f2) != (wrap64 ((wrap64 (x1_1 + 1)) + 1))) = true := bne_iff_ne.mpr c7
    obtain rfl := Option.some.inj H
    have p859 : 0 ≤ (x5_1 : Int) := of_decide_eq_true as_
    have q859 : x5_1 < (l0.length : Int) := of_decide_eq_true as_
    obtain ⟨ad859, A859_3, c859_3, e859, hx859_0, hx859_1, hx859_2, hx859_3, hl859_3, hi859_3⟩ := at_T88 HR0.out x5_1 p859 q859
    cases e859
    have HR859_3 := Aside0.mk hi859_3
    have HC859_3 := Aside0.mk hl859_3
    clear hi859_3 hl859_3
    replace p859 := eq_true p859
    replace q859 := eq_true q859
    have p860 : 0 ≤ (x5_1 : Int) := of_decide_eq_true as_
    have q860 : x5_1 < (l0.length : Int) := of_decide_eq_true as_
    obtain ⟨ad860, A860_3, c860_3, e860, hx860_0, hx860_1, hx860_2, hx860_3, hl860_3, hi860_3⟩ := at_T88 HR0.out x5_1 p860 q860
    obtain rfl : ad859 = ad860 := (by injection e860)
    have HR860_3 := Aside0.mk hi860_3
    have HC860_3 := Aside0.mk hl860_3
    clear hi860_3 hl860_3
    replace p860 := eq_true p860
    replace q860 := eq_true q860
    have ea_ := Option.some.inj (hx859_3.symm.trans hx860_3)
    injection ea_ with ea_ en_ ec_
    subst ea_
    subst ec_
    clear en_
    have p861 : 0 ≤ (x5_1 : Int) := of_decide_eq_true as_
    have q861 : x5_1 < (l0.length : Int) := of_decide_eq_true as_
    obtain ⟨ad861, A861_3, c861_3, e861, hx861_0, hx861_1, hx861_2, hx861_3, hl861_3, hi861_3⟩ := at_T88 HR0.out x5_1 p861 q861
    obtain rfl : ad859 = ad861 := (by injection e861)
    have HR861_3 := Aside0.mk hi861_3
    have HC861_3 := Aside0.mk hl861_3
    clear hi861_3 hl861_3
    replace p861 := eq_true p861
    replace q861 := eq_true q861
    have ea_ := Option.some.inj (hx859_3.symm.trans hx861_3)
    injection ea_ with ea_ en_ ec_
    subst ea_
    subst ec_
    clear en_
    go_wp2
    go_ret
    exact ⟨by first | rfl | (simp; done) | (simp [*]; done), dr_⟩
   rw [if_pos c7] at H
   have c7b0 : (((rd_T88 l0 x5_1).f2) == (wrap64 ((wrap64 (x1_1 + 1)) + 1))) = true := beq_iff_eq.mpr c7
   have c7b1 : (((rd_T88 l0 x5_1).f2) != (wrap64 ((wrap64 (x1_1 + 1)) + 1))) = false := bne_eq_false_iff_eq.mpr c7
   clear c7
   replace H := Option.bind_eq_some_iff.mp H
   obtain ⟨t863, A80, H⟩ := H
   replace H : (if t863 < 0 then (some (-1)) else (laws_heldInsS.l0 k1 l0 t863 (wrap64 (x5_1 + 1)))) = some r := H
   have A8 := Aside0.mk A80
   clear A80
   by_cases c9 : t863 < 0
   ·rw [if_pos c9] at H
    have c9b0 : decide (t863 < 0) = true := decide_eq_true c9
    clear c9
    obtain rfl := Option.some.inj H
    have p859 : 0 ≤ (x5_1 : Int) := of_decide_eq_true as_
    have q859 : x5_1 < (l0.length : Int) := of_decide_eq_true as_
    obtain ⟨ad859, A859_3, c859_3, e859, hx859_0, hx859_1, hx859_2, hx859_3, hl859_3, hi859_3⟩ := at_T88 HR0.out x5_1 p859 q859
    cases e859
    have HR859_3 := Aside0.mk hi859_3
    have HC859_3 := Aside0.mk hl859_3
    clear hi859_3 hl859_3
    replace p859 := eq_true p859
    replace q859 := eq_true q859
    have p860 : 0 ≤ (x5_1 : Int) := of_decide_eq_true as_
    have q860 : x5_1 < (l0.length : Int) := of_decide_eq_true as_
    obtain ⟨ad860, A860_3, c860_3, e860, hx860_0, hx860_1, hx860_2, hx860_3, hl860_3, hi860_3⟩ := at_T88 HR0.out x5_1 p860 q860
    obtain rfl : ad859 = ad860 := (by injection e860)
    have HR860_3 := Aside0.mk hi860_3
    have HC860_3 := Aside0.mk hl860_3
    clear hi860_3 hl860_3
    replace p860 := eq_true p860
    replace q860 := eq_true q860
    have ea_ := Option.some.inj (hx859_3.symm.trans hx860_3)
    injection ea_ with ea_ en_ ec_
    subst ea_
    subst ec_
    clear en_
    have p861 : 0 ≤ (x5_1 : Int) := of_decide_eq_true as_
    have q861 : x5_1 < (l0.length : Int) := of_decide_eq_true as_
    obtain ⟨ad861, A861_3, c861_3, e861, hx861_0, hx861_1, hx861_2, hx861_3, hl861_3, hi861_3⟩ := at_T88 HR0.out x5_1 p861 q861
    obtain rfl : ad859 = ad861 := (by injection e861)
    have HR861_3 := Aside0.mk hi861_3
    have HC861_3 := Aside0.mk hl861_3
    clear hi861_3 hl861_3
    replace p861 := eq_true p861
    replace q861 := eq_true q861
    have ea_ := Option.some.inj (hx859_3.symm.trans hx861_3)
    injection ea_ with ea_ en_ ec_
    subst ea_
    subst ec_
    clear en_
    have p862 : 0 ≤ (x5_1 : Int) := of_decide_eq_true as_
    have q862 : x5_1 < (l0.length : Int) := of_decide_eq_true as_
    obtain ⟨ad862, A862_3, c862_3, e862, hx862_0, hx862_1, hx862_2, hx862_3, hl862_3, hi862_3⟩ := at_T88 HR0.out x5_1 p862 q862
    obtain rfl : ad859 = ad862 := (by injection e862)
    have HR862_3 := Aside0.mk hi862_3
    have HC862_3 := Aside0.mk hl862_3
    clear hi862_3 hl862_3
    replace p862 := eq_true p862
    replace q862 := eq_true q862
    have ea_ := Option.some.inj (hx859_3.symm.trans hx862_3)
    injection ea_ with ea_ en_ ec_
    subst ea_
    subst ec_
    clear en_
    go_wp2_with (first | ((with_reducible refine gate_callee (f := 70) rfl ?_); refine goesL_ (some 45) rfl rfl Try.func70 (by kernel_rfl) rfl #[.slice A859_3 ((rd_T88 l0 x5_1).f3).length c859_3, .int .i64 (wrap64 ((wrap64 ((wrap64 (x1_1 + 1)) + 1)) + 1))] rfl ml_ ?_; (with_reducible refine (laws_heldIntS.calls k1 _ _ ((rd_T88 l0 x5_1).f3) (wrap64 ((wrap64 ((wrap64 (x1_1 + 1)) + 1)) + 1)) t863 _ ?side1 ?side2 A8.out).mono ?_); (case side1 => repeat (first | exact HR862_3.out | (with_reducible refine Kd.C_alloc ?_ _) | (with_reducible refine Kd.C_drewN ?_ _) | (with_reducible refine Kd.C_drew ?_))); (case side2 => exact HC862_3.out); rintro e w' ⟨rfl, ⟨nd, rfl⟩⟩; refine ⟨_, rfl, ?_⟩))
    go_ret
    exact ⟨by first | rfl | (simp; done) | (simp [*]; done), dr_⟩
   rw [if_neg c9] at H
   have c9b0 : decide (t863 < 0) = false := decide_eq_false c9
   clear c9
   have H' := Aside0.mk H
   clear H
   have p859 : 0 ≤ (x5_1 : Int) := of_decide_eq_true as_
   have q859 : x5_1 < (l0.length : Int) := of_decide_eq_true as_
   obtain ⟨ad859, A859_3, c859_3, e859, hx859_0, hx859_1, hx859_2, hx859_3, hl859_3, hi859_3⟩ := at_T88 HR0.out x5_1 p859 q859
   cases e859
   have HR859_3 := Aside0.mk hi859_3
   have HC859_3 := Aside0.mk hl859_3
   clear hi859_3 hl859_3
   replace p859 := eq_true p859
   replace q859 := eq_true q859
   have p860 : 0 ≤ (x5_1 : Int) := of_decide_eq_true as_
   have q860 : x5_1 < (l0.length : Int) := of_decide_eq_true as_
   obtain ⟨ad860, A860_3, c860_3, e860, hx860_0, hx860_1, hx860_2, hx860_3, hl860_3, hi860_3⟩ := at_T88 HR0.out x5_1 p860 q860
   obtain rfl : ad859 = ad860 := (by injection e860)
   have HR860_3 := Aside0.mk hi860_3
   have HC860_3 := Aside0.mk hl860_3
   clear hi860_3 hl860_3
   replace p860 := eq_true p860
   replace q860 := eq_true q860
   have ea_ := Option.some.inj (hx859_3.symm.trans hx860_3)
   injection ea_ with ea_ en_ ec_
   subst ea_
   subst ec_
   clear en_
   have p861 : 0 ≤ (x5_1 : Int) := of_decide_eq_true as_
   have q861 : x5_1 < (l0.length : Int) := of_decide_eq_true as_
   obtain ⟨ad861, A861_3, c861_3, e861, hx861_0, hx861_1, hx861_2, hx861_3, hl861_3, hi861_3⟩ := at_T88 HR0.out x5_1 p861 q861
   obtain rfl : ad859 = ad861 := (by injection e861)
   have HR861_3 := Aside0.mk hi861_3
   have HC861_3 := Aside0.mk hl861_3
   clear hi861_3 hl861_3
   replace p861 := eq_true p861
   replace q861 := eq_true q861
   have ea_ := Option.some.inj (hx859_3.symm.trans hx861_3)
   injection ea_ with ea_ en_ ec_
   subst ea_
   subst ec_
   clear en_
   have p862 : 0 ≤ (x5_1 : Int) := of_decide_eq_true as_
   have q862 : x5_1 < (l0.length : Int) := of_decide_eq_true as_
   obtain ⟨ad862, A862_3, c862_3, e862, hx862_0, hx862_1, hx862_2, hx862_3, hl862_3, hi862_3⟩ := at_T88 HR0.out x5_1 p862 q862
   obtain rfl : ad859 = ad862 := (by injection e862)
   have HR862_3 := Aside0.mk hi862_3
   have HC862_3 := Aside0.mk hl862_3
   clear hi862_3 hl862_3
   replace p862 := eq_true p862
   replace q862 := eq_true q862
   have ea_ := Option.some.inj (hx859_3.symm.trans hx862_3)
   injection ea_ with ea_ en_ ec_
   subst ea_
   subst ec_
   clear en_
   go_wp2_with (first | ((with_reducible refine gate_callee (f := 70) rfl ?_); refine goesL_ (some 45) rfl rfl Try.func70 (by kernel_rfl) rfl #[.slice A859_3 ((rd_T88 l0 x5_1).f3).length c859_3, .int .i64 (wrap64 ((wrap64 ((wrap64 (x1_1 + 1)) + 1)) + 1))] rfl ml_ ?_; (with_reducible refine (laws_heldIntS.calls k1 _ _ ((rd_T88 l0 x5_1).f3) (wrap64 ((wrap64 ((wrap64 (x1_1 + 1)) + 1)) + 1)) t863 _ ?side1 ?side2 A8.out).mono ?_); (case side1 => repeat (first | exact HR862_3.out | (with_reducible refine Kd.C_alloc ?_ _) | (with_reducible refine Kd.C_drewN ?_ _) | (with_reducible refine Kd.C_drew ?_))); (case side2 => exact HC862_3.out); rintro e w' ⟨rfl, ⟨nd, rfl⟩⟩; refine ⟨_, rfl, ?_⟩))
   go_roundg k1
   case measure => have := HK1.out; omega
   case rel => exact ⟨(t863), (wrap64 (x5_1 + 1)), (by first | rfl | (simp; done) | (simp [*]; done)), (by first | rfl | (simp; done) | (simp [*]; done)), H', ⟨by have := HK1.out; omega⟩, dr_⟩
end Go.Proofs.Ytdiilocgjnlmiaa.PAll
