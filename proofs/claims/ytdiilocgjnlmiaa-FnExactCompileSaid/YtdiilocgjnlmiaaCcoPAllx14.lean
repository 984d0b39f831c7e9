import Derived.Test.YtdiilocgjnlmiaaCcoFlat
import Derived.Test.YtdiilocgjnlmiaaCcoPAllx13
import Derived.Test.YtdiilocgjnlmiaaCcoRegKit
namespace Go.Proofs.Ytdiilocgjnlmiaa.PAll
open Go.RowKit Go.Proofs.YtdiilocgjnlmiaaW.PrintWords Go.Proofs.YtdiilocgjnlmiaaW.PrintLast Go.Proofs.YtdiilocgjnlmiaaW.PrintMore
attribute [local go_sem] max2_int min2_int max_two min_two max_three min_three max_four min_four   -- for this text's walks alone
set_option linter.unusedVariables false
set_option linter.unusedSimpArgs false
def laws_eqInsS.l0 : Nat → List (S88) → List (S88) → Int → Option (Bool)
 | 0, _, _, _ => none
 | k + 1, x0, x1, x5 => if x5 < (x0.length : Int) then (if 0 ≤ x5 then (if x5 < (x1.length : Int) then ((laws_eqIns.f k ((rd_T88 x0 x5).f0) ((rd_T88 x0 x5).f1) ((rd_T88 x0 x5).f2) ((rd_T88 x0 x5).f3) ((rd_T88 x1 x5).f0) ((rd_T88 x1 x5).f1) ((rd_T88 x1 x5).f2) ((rd_T88 x1 x5).f3)).bind fun t719 => (if t719 = true then (laws_eqInsS.l0 k x0 x1 (wrap64 (x5 + 1))) else (some false))) else (none)) else (none)) else (some true)
def laws_eqInsS.f (k : Nat) (l0 : List (S88)) (l1 : List (S88)) : Option (Bool) := if (l0.length : Int) = (l1.length : Int) then (laws_eqInsS.l0 k l0 l1 0) else (some false)
theorem laws_eqInsS.mono_l : ∀ k, (∀ y0 y1 y2, LeO (laws_eqInsS.l0 k y0 y1 y2) (laws_eqInsS.l0 (k + 1) y0 y1 y2))
 | 0 => fun _ _ _ r h => by simp [laws_eqInsS.l0] at h
 | k + 1 => by
  have ih0 := laws_eqInsS.mono_l k
  intro y0 y1 y2
  unfold laws_eqInsS.l0
  repeat' first
  | (with_reducible exact ih0 _ _ _)
  | (with_reducible exact laws_eqIns.mono _ _ _ _ _ _ _ _ _)
  | (with_reducible exact LeO.refl _)
  | (with_reducible exact LeO.none _)
  | (with_reducible refine LeO.ite ?_ ?_)
  | (with_reducible refine LeO.bind ?_ (fun _ => ?_))
  | exact ih0 _ _ _
  | exact laws_eqIns.mono _ _ _ _ _ _ _ _ _
  | exact LeO.none _
  | refine LeO.ite ?_ ?_
  | refine LeO.bind ?_ (fun _ => ?_)
theorem laws_eqInsS.mono : ∀ a0 a1 k, LeO (laws_eqInsS.f k a0 a1) (laws_eqInsS.f (k + 1) a0 a1) := by
 intro a0 a1 k
 have ih0 := laws_eqInsS.mono_l k
 unfold laws_eqInsS.f
 repeat' first
  | (with_reducible exact ih0 _ _ _)
  | (with_reducible exact laws_eqIns.mono _ _ _ _ _ _ _ _ _)
  | (with_reducible exact LeO.refl _)
  | (with_reducible exact LeO.none _)
  | (with_reducible refine LeO.ite ?_ ?_)
  | (with_reducible refine LeO.bind ?_ (fun _ => ?_))
  | exact ih0 _ _ _
  | exact laws_eqIns.mono _ _ _ _ _ _ _ _ _
  | exact LeO.none _
  | refine LeO.ite ?_ ?_
  | refine LeO.bind ?_ (fun _ => ?_)
def laws_eqInsS.T6 : Bool × List (List Nat × List Nat) := (true, [([], []), ([], []), ([0, 1], [0, 1]), ([2], [2]), ([], []), ([], []), ([4, 5], [4, 5]), ([6], [6]), ([3, 7], [3, 7]), ([8], [8])])
def laws_eqInsS.B6 : List Nat := [0, 0, 3, 7, 0, 0, 48, 112, 255, 511]
theorem laws_eqInsS.tab6 : rtab .any (opsOf Try.f21 6) = laws_eqInsS.T6 := by kernel_rfl
theorem laws_eqInsS.bits6 : waitsOk laws_eqInsS.T6.2 laws_eqInsS.B6 = true := by kernel_rfl
set_option maxHeartbeats 8000000 in
set_option maxRecDepth 100000 in
theorem laws_eqInsS.calls (k : Nat) (A0 : Option Addr) (c0 : Nat) (l0 : List (S88)) (A1 : Option Addr) (c1 : Nat) (l1 : List (S88)) (r : Bool) (w : World) (hr0 : Kd.C k88 w A0 l0.length l0) (hc0 : l0.length ≤ c0) (hr1 : Kd.C k88 w A1 l1.length l1) (hc1 : l1.length ≤ c1) (h : laws_eqInsS.f k l0 l1 = some r) :
 Calls Try.prog 21 #[.slice A0 l0.length c0, .slice A1 l1.length c1] w fun e w' => e = .returned (.bool r) ∧ Below w.heap.size w w' := by
 have hu88 := Try.underlying88
 have HR0 := Aside0.mk hr0
 have HC0 := Aside0.mk hc0
 clear hr0 hc0
 have HR1 := Aside0.mk hr1
 have HC1 := Aside0.mk hc1
 clear hr1 hc1
 have HB := Aside0.mk (Below.refl w.heap.size w)
 have H : (if (l0.length : Int) = (l1.length : Int) then (laws_eqInsS.l0 k l0 l1 0) else (some false)) = some r := h
 clear h
 by_cases c3 : (l0.length : Int) = (l1.length : Int)
 rotate_left
 ·rw [if_neg c3] at H
  have c3b0 : ((l0.length : Int) == (l1.length : Int)) = false := beq_eq_false_iff_ne.mpr c3
  have c3b1 : ((l0.length : Int) != (l1.length : Int)) = true := bne_iff_ne.mpr c3
  have c3b2 : (l0.length == l1.length) = false := by first | simpa using c3 | (simp at c3 ⊢; omega)
  obtain rfl := Option.some.inj H
  go_enter Try.func21, Try.ntmps21
  go_wp2
  go_ret
  exact ⟨er_, bw_⟩
 rw [if_pos c3] at H
 have c3b0 : ((l0.length : Int) == (l1.length : Int)) = true := beq_iff_eq.mpr c3
 have c3b1 : ((l0.length : Int) != (l1.length : Int)) = false := bne_eq_false_iff_eq.mpr c3
 have c3b2 : (l0.length == l1.length) = true := by first | simpa using c3 | (simp at c3 ⊢; omega)
 clear c3
 have H' := Aside0.mk H
 clear H
 go_enter Try.func21, Try.ntmps21
 go_wp2
 go_loopg [5] k (fun kq v5 w' => ∃ (x5_1 : Int), v5 = .int .i64 x5_1 ∧ Aside0 (laws_eqInsS.l0 kq l0 l1 x5_1 = some r) ∧ Aside0 (kq ≤ k) ∧ Aside0 (Below w.heap.size w w'))
 case atStart => exact ⟨(0), (by first | rfl | (simp; done) | (simp [*]; done)), H', ⟨Nat.le_refl _⟩, ⟨bw_⟩⟩
 case round =>
  clear H'
  try clear c1
  try clear c2
  try clear p2
  try clear c3
  try clear c3b0
  try clear c3b1
  try clear c3b2
  obtain ⟨x5_1, rfl, HA, HK1, HB⟩ := hrel
  cases gk with
  | zero => exact absurd HA.out (by simp [laws_eqInsS.l0])
  | succ k1 =>
   have H := HA.out
   clear HA
   simp only [laws_eqInsS.l0] at H
   by_cases c4 : x5_1 < (l0.length : Int)
   rotate_left
   ·rw [if_neg c4] at H
    have c4b0 : decide (x5_1 < (l0.length : Int)) = false := decide_eq_false c4
    clear c4
    obtain rfl := Option.some.inj H
    go_wp2
    go_ret
    exact ⟨er_, bw_⟩
   rw [if_pos c4] at H
   have c4b0 : decide (x5_1 < (l0.length : Int)) = true := decide_eq_true c4
   clear c4
   by_cases c5 : 0 ≤ x5_1
   rotate_left
   ·rw [if_neg c5] at H
    exact absurd H (by simp)
   rw [if_pos c5] at H
   have c5b0 : decide (0 ≤ x5_1) = true := decide_eq_true c5
   clear c5
   by_cases c6 : x5_1 < (l1.length : Int)
   rotate_left
   ·rw [if_neg c6] at H
    exact absurd H (by simp)
   rw [if_pos c6] at H
   have c6b0 : decide (x5_1 < (l1.length : Int)) = true := decide_eq_true c6
   clear c6
   replace H := Option.bind_eq_some_iff.mp H
   obtain ⟨t719, A70, H⟩ := H
   replace H : (if t719 = true then (laws_eqInsS.l0 k1 l0 l1 (wrap64 (x5_1 + 1))) else (some false)) = some r := H
   have A7 := Aside0.mk A70
   clear A70
   by_cases c8 : t719 = true
   ·subst c8
    have H1 : (laws_eqInsS.l0 k1 l0 l1 (wrap64 (x5_1 + 1))) = some r := by rw [if_pos rfl] at H; exact H
    clear H
    have H := H1
    clear H1
    have H' := Aside0.mk H
    clear H
    try go_wp2
    have n0_ := Aside0.mk (below_drew1 HB.out)
    clear HB
    have HB := n0_
    clear n0_
    have p717 : 0 ≤ (x5_1 : Int) := of_decide_eq_true as_
    have q717 : x5_1 < (l0.length : Int) := of_decide_eq_true as_
    obtain ⟨ad717, A717_3, c717_3, e717, hx717_0, hx717_1, hx717_2, hx717_3, hl717_3, hi717_3⟩ := at_T88 HR0.out x5_1 p717 q717
    have hw717_3 := hx717_3
    have hw717_2 := hx717_2
    have hw717_1 := hx717_1
    have hw717_0 := hx717_0
    cases e717
    replace hx717_0 := (HB.out.cell (World.block_lt_of_cell? w _ hx717_0)).trans hx717_0
    replace hx717_1 := (HB.out.cell (World.block_lt_of_cell? w _ hx717_1)).trans hx717_1
    replace hx717_2 := (HB.out.cell (World.block_lt_of_cell? w _ hx717_2)).trans hx717_2
    replace hx717_3 := (HB.out.cell (World.block_lt_of_cell? w _ hx717_3)).trans hx717_3
    have HR717_3 := Aside0.mk hi717_3
    have HC717_3 := Aside0.mk hl717_3
    clear hi717_3 hl717_3
    replace p717 := eq_true p717
    replace q717 := eq_true q717
    have p718 : 0 ≤ (x5_1 : Int) := of_decide_eq_true as_
    have q718 : x5_1 < (l1.length : Int) := of_decide_eq_true as_
    obtain ⟨ad718, A718_3, c718_3, e718, hx718_0, hx718_1, hx718_2, hx718_3, hl718_3, hi718_3⟩ := at_T88 HR1.out x5_1 p718 q718
    have hw718_3 := hx718_3
    have hw718_2 := hx718_2
    have hw718_1 := hx718_1
    have hw718_0 := hx718_0
    cases e718
    replace hx718_0 := (HB.out.cell (World.block_lt_of_cell? w _ hx718_0)).trans hx718_0
    replace hx718_1 := (HB.out.cell (World.block_lt_of_cell? w _ hx718_1)).trans hx718_1
    replace hx718_2 := (HB.out.cell (World.block_lt_of_cell? w _ hx718_2)).trans hx718_2
    replace hx718_3 := (HB.out.cell (World.block_lt_of_cell? w _ hx718_3)).trans hx718_3
    have HR718_3 := Aside0.mk hi718_3
    have HC718_3 := Aside0.mk hl718_3
    clear hi718_3 hl718_3
    replace p718 := eq_true p718
    replace q718 := eq_true q718
    refine start_ (n := 10) (S := fun w' => w'.cell? (ad717.add ((x5_1).toNat * 4)) = some (.int .i64 ((rd_T88 l0 x5_1).f0)) ∧ w'.cell? ⟨(ad717.add ((x5_1).toNat * 4)).block, (ad717.add ((x5_1).toNat * 4)).off + 1, none⟩ = some (.int .i64 ((rd_T88 l0 x5_1).f1)) ∧ w'.cell? ⟨(ad717.add ((x5_1).toNat * 4)).block, (ad717.add ((x5_1).toNat * 4)).off + 2, none⟩ = some (.int .i64 ((rd_T88 l0 x5_1).f2)) ∧ w'.cell? ⟨(ad717.add ((x5_1).toNat * 4)).block, (ad717.add ((x5_1).toNat * 4)).off + 3, none⟩ = some (.slice A717_3 ((rd_T88 l0 x5_1).f3).length c717_3) ∧ w'.cell? (ad718.add ((x5_1).toNat * 4)) = some (.int .i64 ((rd_T88 l1 x5_1).f0)) ∧ w'.cell? ⟨(ad718.add ((x5_1).toNat * 4)).block, (ad718.add ((x5_1).toNat * 4)).off + 1, none⟩ = some (.int .i64 ((rd_T88 l1 x5_1).f1)) ∧ w'.cell? ⟨(ad718.add ((x5_1).toNat * 4)).block, (ad718.add ((x5_1).toNat * 4)).off + 2, none⟩ = some (.int .i64 ((rd_T88 l1 x5_1).f2)) ∧ w'.cell? ⟨(ad718.add ((x5_1).toNat * 4)).block, (ad718.add ((x5_1).toNat * 4)).off + 3, none⟩ = some (.slice A718_3 ((rd_T88 l1 x5_1).f3).length c718_3)) (ds := []) #[false, false, false, false, false, false, false, false, false, false] (by kernel_rfl) rfl rfl ⟨((HB.out.cell (World.block_lt_of_cell? w _ hw717_0)).trans hw717_0), ((HB.out.cell (World.block_lt_of_cell? w _ hw717_1)).trans hw717_1), ((HB.out.cell (World.block_lt_of_cell? w _ hw717_2)).trans hw717_2), ((HB.out.cell (World.block_lt_of_cell? w _ hw717_3)).trans hw717_3), ((HB.out.cell (World.block_lt_of_cell? w _ hw718_0)).trans hw718_0), ((HB.out.cell (World.block_lt_of_cell? w _ hw718_1)).trans hw718_1), ((HB.out.cell (World.block_lt_of_cell? w _ hw718_2)).trans hw718_2), ((HB.out.cell (World.block_lt_of_cell? w _ hw718_3)).trans hw718_3)⟩ (fun hHeld => ?_); refine with_tabW laws_eqInsS.tab6 laws_eqInsS.bits6 (fun HT_ HW_ => ?_)
    generalize wr.drew = w9 at HB HR717_3 HR718_3 hx717_0 hx717_1 hx717_2 hx717_3 hx718_0 hx718_1 hx718_2 hx718_3 hHeld ⊢
    refine pu_ 0 17 HT_ ?_
    refine pu_ 1 18 HT_ ?_
    refine pu_ 2 19 HT_ ?_
    refine pu_ 4 21 HT_ ?_
    refine pu_ 5 22 HT_ ?_
    refine pu_ 6 23 HT_ ?_
    refine ta_ 3 20 HT_ HW_ hHeld ?_
    refine ta_ 7 24 HT_ HW_ hHeld ?_
    refine one_ (i := 8) (N := some 25) #[true, true, true, true, true, true, true, true, true, false] rfl rfl (one_of HT_.out (by kernel_rfl)) (by decide) (fun K hK => ?_)
    refine goes_ Try.func67 (by kernel_rfl) rfl #[.agg #[.int .i64 ((rd_T88 l0 x5_1).f0), .int .i64 ((rd_T88 l0 x5_1).f1), .int .i64 ((rd_T88 l0 x5_1).f2), .slice A717_3 ((rd_T88 l0 x5_1).f3).length c717_3], .agg #[.int .i64 ((rd_T88 l1 x5_1).f0), .int .i64 ((rd_T88 l1 x5_1).f1), .int .i64 ((rd_T88 l1 x5_1).f2), .slice A718_3 ((rd_T88 l1 x5_1).f3).length c718_3]] (by rfl) rfl rfl ml_ ?_
    with_reducible refine (laws_eqIns.calls k1 ((rd_T88 l0 x5_1).f0) ((rd_T88 l0 x5_1).f1) ((rd_T88 l0 x5_1).f2) _ _ ((rd_T88 l0 x5_1).f3) ((rd_T88 l1 x5_1).f0) ((rd_T88 l1 x5_1).f1) ((rd_T88 l1 x5_1).f2) _ _ ((rd_T88 l1 x5_1).f3) true _ ?side1 ?side2 ?side3 ?side4 A7.out).mono ?_
    (case side1 => repeat (first | exact (Kd.C_below HR717_3.out HB.out) | (with_reducible refine Kd.C_alloc ?_ _) | (with_reducible refine Kd.C_drewN ?_ _) | (with_reducible refine Kd.C_drew ?_)))
    (case side2 => exact HC717_3.out)
    (case side3 => repeat (first | exact (Kd.C_below HR718_3.out HB.out) | (with_reducible refine Kd.C_alloc ?_ _) | (with_reducible refine Kd.C_drewN ?_ _) | (with_reducible refine Kd.C_drew ?_)))
    (case side4 => exact HC718_3.out)
    rintro e w10 ⟨rfl, hb⟩
    refine ⟨_, rfl, ?_⟩
    have n0_ := Aside0.mk (below_step bw_ hb)
    clear HB
    have HB := n0_
    clear n0_
    (try clear hb)
    (try clear hb2)
    (try clear hk)
    (try clear hi)
    refine hK.out _ _ ⟨((HB.out.cell (World.block_lt_of_cell? w _ hw717_0)).trans hw717_0), ((HB.out.cell (World.block_lt_of_cell? w _ hw717_1)).trans hw717_1), ((HB.out.cell (World.block_lt_of_cell? w _ hw717_2)).trans hw717_2), ((HB.out.cell (World.block_lt_of_cell? w _ hw717_3)).trans hw717_3), ((HB.out.cell (World.block_lt_of_cell? w _ hw718_0)).trans hw718_0), ((HB.out.cell (World.block_lt_of_cell? w _ hw718_1)).trans hw718_1), ((HB.out.cell (World.block_lt_of_cell? w _ hw718_2)).trans hw718_2), ((HB.out.cell (World.block_lt_of_cell? w _ hw718_3)).trans hw718_3)⟩ (fun hHeld => ?_)
    clear hK K
    refine norm_ (a' := ?_) ?_ ?_
    rotate_left
    ·show Act.put _ (some 25) _ = _
     simp only [Act.put, List.setIfInBounds_toArray, List.set_cons_zero, List.set_cons_succ, i64_w, i32_w]
     rfl
    refine pu_ 9 26 HT_ ?_
    refine done_ (done_of HT_.out (by kernel_rfl)) ?_
    try go_wp2
    go_roundg k1
    case measure => have := HK1.out; omega
    case rel => exact ⟨(wrap64 (x5_1 + 1)), (by first | rfl | (simp; done) | (simp [*]; done)), H', ⟨by have := HK1.out; omega⟩, ⟨bw_⟩⟩
   replace c8 := Bool.eq_false_iff.mpr c8
   subst c8
   have H1 : (some false) = some r := by rw [if_neg (show ¬ (false = true) by decide)] at H; exact H
   clear H
   have H := H1
   clear H1
   obtain rfl := Option.some.inj H
   try go_wp2
   have n0_ := Aside0.mk (below_drew1 HB.out)
   clear HB
   have HB := n0_
   clear n0_
   have p717 : 0 ≤ (x5_1 : Int) := of_decide_eq_true as_
   have q717 : x5_1 < (l0.length : Int) := of_decide_eq_true as_
   obtain ⟨ad717, A717_3, c717_3, e717, hx717_0, hx717_1, hx717_2, hx717_3, hl717_3, hi717_3⟩ := at_T88 HR0.out x5_1 p717 q717
   have hw717_3 := hx717_3
   have hw717_2 := hx717_2
   have hw717_1 := hx717_1
   have hw717_0 := hx717_0
   cases e717
   replace hx717_0 := (HB.out.cell (World.block_lt_of_cell? w _ hx717_0)).trans hx717_0
   replace hx717_1 := (HB.out.cell (World.block_lt_of_cell? w _ hx717_1)).trans hx717_1
   replace hx717_2 := (HB.out.cell (World.block_lt_of_cell? w _ hx717_2)).trans hx717_2
   replace hx717_3 := (HB.out.cell (World.block_lt_of_cell? w _ hx717_3)).trans hx717_3
   have HR717_3 := Aside0.mk hi717_3
   have HC717_3 := Aside0.mk hl717_3
   clear hi717_3 hl717_3
   replace p717 := eq_true p717
   replace q717 := eq_true q717
   have p718 : 0 ≤ (x5_1 : Int) := of_decide_eq_true as_
   have q718 : x5_1 < (l1.length : Int) := of_decide_eq_true as_
   obtain ⟨ad718, A718_3, c718_3, e718, hx718_0, hx718_1, hx718_2, hx718_3, hl718_3, hi718_3⟩ := at_T88 HR1.out x5_1 p718 q718
   have hw718_3 := hx718_3
   have hw718_2 := hx718_2
   have hw718_1 := hx718_1
   have hw718_0 := hx718_0
   cases e718
   replace hx718_0 := (HB.out.cell (World.block_lt_of_cell? w _ hx718_0)).trans hx718_0
   replace hx718_1 := (HB.out.cell (World.block_lt_of_cell? w _ hx718_1)).trans hx718_1
   replace hx718_2 := (HB.out.cell (World.block_lt_of_cell? w _ hx718_2)).trans hx718_2
   replace hx718_3 := (HB.out.cell (World.block_lt_of_cell? w _ hx718_3)).trans hx718_3
   have HR718_3 := Aside0.mk hi718_3
   have HC718_3 := Aside0.mk hl718_3
   clear hi718_3 hl718_3
   replace p718 := eq_true p718
   replace q718 := eq_true q718
   refine start_ (n := 10) (S := fun w' => w'.cell? (ad717.add ((x5_1).toNat * 4)) = some (.int .i64 ((rd_T88 l0 x5_1).f0)) ∧ w'.cell? ⟨(ad717.add ((x5_1).toNat * 4)).block, (ad717.add ((x5_1).toNat * 4)).off + 1, none⟩ = some (.int .i64 ((rd_T88 l0 x5_1).f1)) ∧ w'.cell? ⟨(ad717.add ((x5_1).toNat * 4)).block, (ad717.add ((x5_1).toNat * 4)).off + 2, none⟩ = some (.int .i64 ((rd_T88 l0 x5_1).f2)) ∧ w'.cell? ⟨(ad717.add ((x5_1).toNat * 4)).block, (ad717.add ((x5_1).toNat * 4)).off + 3, none⟩ = some (.slice A717_3 ((rd_T88 l0 x5_1).f3).length c717_3) ∧ w'.cell? (ad718.add ((x5_1).toNat * 4)) = some (.int .i64 ((rd_T88 l1 x5_1).f0)) ∧ w'.cell? ⟨(ad718.add ((x5_1).toNat * 4)).block, (ad718.add ((x5_1).toNat * 4)).off + 1, none⟩ = some (.int .i64 ((rd_T88 l1 x5_1).f1)) ∧ w'.cell? ⟨(ad718.add ((x5_1).toNat * 4)).block, (ad718.add ((x5_1).toNat * 4)).off + 2, none⟩ = some (.int .i64 ((rd_T88 l1 x5_1).f2)) ∧ w'.cell? ⟨(ad718.add ((x5_1).toNat * 4)).block, (ad718.add ((x5_1).toNat * 4)).off + 3, none⟩ = some (.slice A718_3 ((rd_T88 l1 x5_1).f3).length c718_3)) (ds := []) #[false, false, false, false, false, false, false, false, false, false] (by kernel_rfl) rfl rfl ⟨((HB.out.cell (World.block_lt_of_cell? w _ hw717_0)).trans hw717_0), ((HB.out.cell (World.block_lt_of_cell? w _ hw717_1)).trans hw717_1), ((HB.out.cell (World.block_lt_of_cell? w _ hw717_2)).trans hw717_2), ((HB.out.cell (World.block_lt_of_cell? w _ hw717_3)).trans hw717_3), ((HB.out.cell (World.block_lt_of_cell? w _ hw718_0)).trans hw718_0), ((HB.out.cell (World.block_lt_of_cell? w _ hw718_1)).trans hw718_1), ((HB.out.cell (World.block_lt_of_cell? w _ hw718_2)).trans hw718_2), ((HB.out.cell (World.block_lt_of_cell? w _ hw718_3)).trans hw718_3)⟩ (fun hHeld => ?_); refine with_tabW laws_eqInsS.tab6 laws_eqInsS.bits6 (fun HT_ HW_ => ?_)
   generalize wr.drew = w11 at HB HR717_3 HR718_3 hx717_0 hx717_1 hx717_2 hx717_3 hx718_0 hx718_1 hx718_2 hx718_3 hHeld ⊢
   refine pu_ 0 17 HT_ ?_
   refine pu_ 1 18 HT_ ?_
   refine pu_ 2 19 HT_ ?_
   refine pu_ 4 21 HT_ ?_
   refine pu_ 5 22 HT_ ?_
   refine pu_ 6 23 HT_ ?_
   refine ta_ 3 20 HT_ HW_ hHeld ?_
   refine ta_ 7 24 HT_ HW_ hHeld ?_
   refine one_ (i := 8) (N := some 25) #[true, true, true, true, true, true, true, true, true, false] rfl rfl (one_of HT_.out (by kernel_rfl)) (by decide) (fun K hK => ?_)
   refine goes_ Try.func67 (by kernel_rfl) rfl #[.agg #[.int .i64 ((rd_T88 l0 x5_1).f0), .int .i64 ((rd_T88 l0 x5_1).f1), .int .i64 ((rd_T88 l0 x5_1).f2), .slice A717_3 ((rd_T88 l0 x5_1).f3).length c717_3], .agg #[.int .i64 ((rd_T88 l1 x5_1).f0), .int .i64 ((rd_T88 l1 x5_1).f1), .int .i64 ((rd_T88 l1 x5_1).f2), .slice A718_3 ((rd_T88 l1 x5_1).f3).length c718_3]] (by rfl) rfl rfl ml_ ?_
   with_reducible refine (laws_eqIns.calls k1 ((rd_T88 l0 x5_1).f0) ((rd_T88 l0 x5_1).f1) ((rd_T88 l0 x5_1).f2) _ _ ((rd_T88 l0 x5_1).f3) ((rd_T88 l1 x5_1).f0) ((rd_T88 l1 x5_1).f1) ((rd_T88 l1 x5_1).f2) _ _ ((rd_T88 l1 x5_1).f3) false _ ?side1 ?side2 ?side3 ?side4 A7.out).mono ?_
   (case side1 => repeat (first | exact (Kd.C_below HR717_3.out HB.out) | (with_reducible refine Kd.C_alloc ?_ _) | (with_reducible refine Kd.C_drewN ?_ _) | (with_reducible refine Kd.C_drew ?_)))
   (case side2 => exact HC717_3.out)
   (case side3 => repeat (first | exact (Kd.C_below HR718_3.out HB.out) | (with_reducible refine Kd.C_alloc ?_ _) | (with_reducible refine Kd.C_drewN ?_ _) | (with_reducible refine Kd.C_drew ?_)))
   (case side4 => exact HC718_3.out)
   rintro e w12 ⟨rfl, hb⟩
   refine ⟨_, rfl, ?_⟩
   have n0_ := Aside0.mk (below_step bw_ hb)
   clear HB
   have HB := n0_
   clear n0_
   (try clear hb)
   (try clear hb2)
   (try clear hk)
   (try clear hi)
   refine hK.out _ _ ⟨((HB.out.cell (World.block_lt_of_cell? w _ hw717_0)).trans hw717_0), ((HB.out.cell (World.block_lt_of_cell? w _ hw717_1)).trans hw717_1), ((HB.out.cell (World.block_lt_of_cell? w _ hw717_2)).trans hw717_2), ((HB.out.cell (World.block_lt_of_cell? w _ hw717_3)).trans hw717_3), ((HB.out.cell (World.block_lt_of_cell? w _ hw718_0)).trans hw718_0), ((HB.out.cell (World.block_lt_of_cell? w _ hw718_1)).trans hw718_1), ((HB.out.cell (World.block_lt_of_cell? w _ hw718_2)).trans hw718_2), ((HB.out.cell (World.block_lt_of_cell? w _ hw718_3)).trans hw718_3)⟩ (fun hHeld => ?_)
   clear hK K
   refine norm_ (a' := ?_) ?_ ?_
   rotate_left
   ·show Act.put _ (some 25) _ = _
    simp only [Act.put, List.setIfInBounds_toArray, List.set_cons_zero, List.set_cons_succ, i64_w, i32_w]
    rfl
   refine pu_ 9 26 HT_ ?_
   refine done_ (done_of HT_.out (by kernel_rfl)) ?_
   try go_wp2
   go_ret
   exact ⟨er_, bw_⟩
def laws_markIntS.l0 : Nat → List Int → Int → Int → Option (Int × List Int)
 | 0, _, _, _ => none
 | k + 1, x0, x1, x5 => if x5 < (x0.length : Int) then (if 0 ≤ x5 then (laws_markIntS.l0 k (x0.set (x5 : Int).toNat x1) (wrap64 (x1 + 1)) (wrap64 (x5 + 1))) else (none)) else (some (x1, x0))
def laws_markIntS.f (k : Nat) (l0 : List Int) (a1 : Int) : Option (Int × List Int) := laws_markIntS.l0 k l0 a1 0
theorem laws_markIntS.mono_l : ∀ k, (∀ y0 y1 y2, LeO (laws_markIntS.l0 k y0 y1 y2) (laws_markIntS.l0 (k + 1) y0 y1 y2))
 | 0 => fun _ _ _ r h => by simp [laws_markIntS.l0] at h
 | k + 1 => by
  have ih0 := laws_markIntS.mono_l k
  intro y0 y1 y2
  unfold laws_markIntS.l0
  repeat' first
  | (with_reducible exact ih0 _ _ _)
  | (with_reducible exact LeO.refl _)
  | (with_reducible exact LeO.none _)
  | (with_reducible refine LeO.ite ?_ ?_)
  | (with_reducible refine LeO.bind ?_ (fun _ => ?_))
  | exact ih0 _ _ _
  | exact LeO.none _
  | refine LeO.ite ?_ ?_
  | refine LeO.bind ?_ (fun _ => ?_)
theorem laws_markIntS.mono : ∀ a0 a1 k, LeO (laws_markIntS.f k a0 a1) (laws_markIntS.f (k + 1) a0 a1) := by
 intro a0 a1 k
 have ih0 := laws_markIntS.mono_l k
 unfold laws_markIntS.f
 repeat' first
  | (with_reducible exact ih0 _ _ _)
  | (with_reducible exact LeO.refl _)
  | (with_reducible exact LeO.none _)
  | (with_reducible refine LeO.ite ?_ ?_)
  | (with_reducible refine LeO.bind ?_ (fun _ => ?_))
  | exact ih0 _ _ _
  | exact LeO.none _
  | refine LeO.ite ?_ ?_
  | refine LeO.bind ?_ (fun _ => ?_)
def laws_markByteS.l0 : Nat → List Int → Int → Int → Option (Int × List Int)
 | 0, _, _, _ => none
 | k + 1, x0, x1, x5 => if x5 < (x0.length : Int) then (if 0 ≤ x5 then (laws_markByteS.l0 k (x0.set (x5 : Int).toNat ((x1) % 256)) (wrap64 (x1 + 1)) (wrap64 (x5 + 1))) else (none)) else (some (x1, x0))
def laws_markByteS.f (k : Nat) (l0 : List Int) (a1 : Int) : Option (Int × List Int) := laws_markByteS.l0 k l0 a1 0
theorem laws_markByteS.mono_l : ∀ k, (∀ y0 y1 y2, LeO (laws_markByteS.l0 k y0 y1 y2) (laws_markByteS.l0 (k + 1) y0 y1 y2))
 | 0 => fun _ _ _ r h => by simp [laws_markByteS.l0] at h
 | k + 1 => by
  have ih0 := laws_markByteS.mono_l k
  intro y0 y1 y2
  unfold laws_markByteS.l0
  repeat' first
  | (with_reducible exact ih0 _ _ _)
  | (with_reducible exact LeO.refl _)
  | (with_reducible exact LeO.none _)
  | (with_reducible refine LeO.ite ?_ ?_)
  | (with_reducible refine LeO.bind ?_ (fun _ => ?_))
  | exact ih0 _ _ _
  | exact LeO.none _
  | refine LeO.ite ?_ ?_
  | refine LeO.bind ?_ (fun _ => ?_)
theorem laws_markByteS.mono : ∀ a0 a1 k, LeO (laws_markByteS.f k a0 a1) (laws_markByteS.f (k + 1) a0 a1) := by
 intro a0 a1 k
 have ih0 := laws_markByteS.mono_l k
 unfold laws_markByteS.f
 repeat' first
  | (with_reducible exact ih0 _ _ _)
  | (with_reducible exact LeO.refl _)
  | (with_reducible exact LeO.none _)
  | (with_reducible refine LeO.ite ?_ ?_)
  | (with_reducible refine LeO.bind ?_ (fun _ => ?_))
  | exact ih0 _ _ _
  | exact LeO.none _
  | refine LeO.ite ?_ ?_
  | refine LeO.bind ?_ (fun _ => ?_)
def laws_markEventS.l0 : Nat → List (S103) → Int → Int → Option (Int × (List (S103)))
 | 0, _, _, _ => none
 | k + 1, x0, x1, x5 => if x5 < (x0.length : Int) then (if 0 ≤ x5 then ((some (x0.set (x5 : Int).toNat (⟨x1, (rd_T103 x0 x5).f1, (rd_T103 x0 x5).f2⟩ : S103) : List (S103))).bind fun y722 => ((some (y722.set (x5 : Int).toNat (⟨(rd_T103 y722 x5).f0, wrap64 (x1 + 1), (rd_T103 y722 x5).f2⟩ : S103) : List (S103))).bind fun y723 => (laws_markEventS.l0 k (y723.set (x5 : Int).toNat (⟨(rd_T103 y723 x5).f0, (rd_T103 y723 x5).f1, wrap64 ((wrap64 (x1 + 1)) + 1)⟩ : S103)) (wrap64 ((wrap64 ((wrap64 (x1 + 1)) + 1)) + 1)) (wrap64 (x5 + 1))))) else (none)) else (some (x1, x0))
def laws_markEventS.f (k : Nat) (l0 : List (S103)) (a1 : Int) : Option (Int × (List (S103))) := laws_markEventS.l0 k l0 a1 0
theorem laws_markEventS.mono_l : ∀ k, (∀ y0 y1 y2, LeO (laws_markEventS.l0 k y0 y1 y2) (laws_markEventS.l0 (k + 1) y0 y1 y2))
 | 0 => fun _ _ _ r h => by simp [laws_markEventS.l0] at h
 | k + 1 => by
  have ih0 := laws_markEventS.mono_l k
  intro y0 y1 y2
  unfold laws_markEventS.l0
  repeat' first
  | (with_reducible exact ih0 _ _ _)
  | (with_reducible exact LeO.refl _)
  | (with_reducible exact LeO.none _)
  | (with_reducible refine LeO.ite ?_ ?_)
  | (with_reducible refine LeO.bind ?_ (fun _ => ?_))
  | exact ih0 _ _ _
  | exact LeO.none _
  | refine LeO.ite ?_ ?_
  | refine LeO.bind ?_ (fun _ => ?_)
theorem laws_markEventS.mono : ∀ a0 a1 k, LeO (laws_markEventS.f k a0 a1) (laws_markEventS.f (k + 1) a0 a1) := by
 intro a0 a1 k
 have ih0 := laws_markEventS.mono_l k
 unfold laws_markEventS.f
 repeat' first
  | (with_reducible exact ih0 _ _ _)
  | (with_reducible exact LeO.refl _)
  | (with_reducible exact LeO.none _)
  | (with_reducible refine LeO.ite ?_ ?_)
  | (with_reducible refine LeO.bind ?_ (fun _ => ?_))
  | exact ih0 _ _ _
  | exact LeO.none _
  | refine LeO.ite ?_ ?_
  | refine LeO.bind ?_ (fun _ => ?_)
def laws_markOutcome.f (k : Nat) (a0_0 : Int) (a0_1 : Int) (a0_2 : Int) (a0_3 : Int) (l0_4 : List Int) (a0_5 : Int) (a0_6 : Int) (l0_7 : List (S103)) (a1 : Int) : Option (Int × List Int × (List (S103))) := (laws_markIntS.f k l0_4 a1).bind fun bt726 => ((laws_markEventS.f k l0_7 bt726.1).bind fun bt728 => (some (bt728.1, bt726.2, bt728.2)))
theorem laws_markOutcome.mono : ∀ a0 a1 a2 a3 a4 a5 a6 a7 a8 k, LeO (laws_markOutcome.f k a0 a1 a2 a3 a4 a5 a6 a7 a8) (laws_markOutcome.f (k + 1) a0 a1 a2 a3 a4 a5 a6 a7 a8) := by
 intro a0 a1 a2 a3 a4 a5 a6 a7 a8 k
 unfold laws_markOutcome.f
 repeat' first
  | (with_reducible exact laws_markEventS.mono _ _ _)
  | (with_reducible exact laws_markIntS.mono _ _ _)
  | (with_reducible exact LeO.refl _)
  | (with_reducible exact LeO.none _)
  | (with_reducible refine LeO.ite ?_ ?_)
  | (with_reducible refine LeO.bind ?_ (fun _ => ?_))
  | exact laws_markEventS.mono _ _ _
  | exact laws_markIntS.mono _ _ _
  | exact LeO.none _
  | refine LeO.ite ?_ ?_
  | refine LeO.bind ?_ (fun _ => ?_)
end Go.Proofs.Ytdiilocgjnlmiaa.PAll
