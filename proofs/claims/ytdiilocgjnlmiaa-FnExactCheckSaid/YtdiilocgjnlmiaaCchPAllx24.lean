import Derived.Test.YtdiilocgjnlmiaaCchFlat
import Derived.Test.YtdiilocgjnlmiaaCchPAllx16
import Derived.Test.YtdiilocgjnlmiaaCchPAllx21
import Derived.Test.YtdiilocgjnlmiaaCchRegKit
namespace Go.Proofs.Ytdiilocgjnlmiaa.PAll
open Go.RowKit Go.Proofs.YtdiilocgjnlmiaaW.PrintWords Go.Proofs.YtdiilocgjnlmiaaW.PrintLast Go.Proofs.YtdiilocgjnlmiaaW.PrintMore
attribute [local go_sem] max2_int min2_int max_two min_two max_three min_three max_four min_four   -- for this text's walks alone
set_option linter.unusedVariables false
set_option linter.unusedSimpArgs false
def spec_l3loops.l0 : Nat → List (S79) → List Bool → Int → List (S68) → List (S72) → Option (Bool)
 | 0, _, _, _, _, _ => none
 | k + 1, x1, x2, x7, x990000, x990001 => if x7 < (x1.length : Int) then (if 0 ≤ x7 then (if ((rd_T79 x1 x7).f0) = 6 then ((spec_l2start.f k x1 x7).bind fun t991 => (if 0 ≤ t991 then (if t991 ≤ x7 then (if x7 ≤ (x1.length : Int) then ((spec_l3null.f k x990000 x990001 ((x1.take (x7 : Int).toNat).drop (t991 : Int).toNat) x2).bind fun t996 => (if t996 = true then (some true) else (spec_l3loops.l0 k x1 x2 (wrap64 (x7 + 1)) x990000 x990001))) else (none)) else (none)) else (none))) else (spec_l3loops.l0 k x1 x2 (wrap64 (x7 + 1)) x990000 x990001)) else (none)) else (some false)
def spec_l3loops.f (k : Nat) (l0_0 : List (S68)) (l0_1 : List (S72)) (l1 : List (S79)) (l2 : List Bool) : Option (Bool) := spec_l3loops.l0 k l1 l2 1 l0_0 l0_1
theorem spec_l3loops.mono_l : ∀ k, (∀ y0 y1 y2 y3 y4, LeO (spec_l3loops.l0 k y0 y1 y2 y3 y4) (spec_l3loops.l0 (k + 1) y0 y1 y2 y3 y4))
 | 0 => fun _ _ _ _ _ r h => by simp [spec_l3loops.l0] at h
 | k + 1 => by
  have ih0 := spec_l3loops.mono_l k
  intro y0 y1 y2 y3 y4
  unfold spec_l3loops.l0
  repeat' first | (with_reducible exact ih0 _ _ _ _ _) | (with_reducible exact spec_l2start.mono _ _ _) | (with_reducible exact spec_l3null.mono _ _ _ _ _) | (with_reducible exact LeO.refl _) | (with_reducible refine LeO.ite ?_ ?_) | (with_reducible refine LeO.bind ?_ (fun _ => ?_))
theorem spec_l3loops.mono : ∀ a0 a1 a2 a3 k, LeO (spec_l3loops.f k a0 a1 a2 a3) (spec_l3loops.f (k + 1) a0 a1 a2 a3) := by
 intro a0 a1 a2 a3 k
 have ih0 := spec_l3loops.mono_l k
 unfold spec_l3loops.f
 repeat' first | (with_reducible exact ih0 _ _ _ _ _)
def spec_l3loops.T4 : Bool × List (List Nat × List Nat) := (true, [([], []), ([], []), ([0, 1], [0, 1]), ([2], [2]), ([3], [3]), ([4], [4]), ([5], [5]), ([6], [6]), ([6], [6]), ([6], [6]), ([6], [6]), ([9, 10, 6, 6], [6, 9, 10]), ([6], [6]), ([8, 11, 12, 6], [6, 8, 11, 12]), ([6], [6]), ([7, 13, 14, 11, 6], [6, 7, 13, 14]), ([6, 15], [6, 15])])
def spec_l3loops.B4 : List Nat := [0, 0, 3, 7, 15, 31, 63, 127, 127, 127, 127, 1663, 127, 8063, 127, 32767, 65535]
theorem spec_l3loops.tab4 : rtab .any (opsOf Try.f85 4) = spec_l3loops.T4 := by kernel_rfl
theorem spec_l3loops.bits4 : waitsOk spec_l3loops.T4.2 spec_l3loops.B4 = true := by kernel_rfl
set_option maxHeartbeats 8000000 in
set_option maxRecDepth 100000 in
theorem spec_l3loops.calls (k : Nat) (A0_0 : Option Addr) (c0_0 : Nat) (l0_0 : List (S68)) (A0_1 : Option Addr) (c0_1 : Nat) (l0_1 : List (S72)) (A1 : Option Addr) (c1 : Nat) (l1 : List (S79)) (A2 : Option Addr) (c2 : Nat) (l2 : List Bool) (r : Bool) (w : World) (hr0_0 : Kd.C k68 w A0_0 l0_0.length l0_0) (hc0_0 : l0_0.length ≤ c0_0) (hr0_1 : Kd.C k72 w A0_1 l0_1.length l0_1) (hc0_1 : l0_1.length ≤ c0_1) (hr1 : Kd.C k79 w A1 l1.length l1) (hc1 : l1.length ≤ c1) (hr2 : Kd.C Kd.bool w A2 l2.length l2) (hc2 : l2.length ≤ c2) (h : spec_l3loops.f k l0_0 l0_1 l1 l2 = some r) :
 Calls Try.prog 85 #[.agg #[.slice A0_0 l0_0.length c0_0, .slice A0_1 l0_1.length c0_1], .slice A1 l1.length c1, .slice A2 l2.length c2] w fun e w' => e = .returned (.bool r) ∧ Below w.heap.size w w' := by
 have hu31 := Try.underlying31
 have HR0_0 := Aside0.mk hr0_0
 have HC0_0 := Aside0.mk hc0_0
 clear hr0_0 hc0_0
 have HR0_1 := Aside0.mk hr0_1
 have HC0_1 := Aside0.mk hc0_1
 clear hr0_1 hc0_1
 have HR1 := Aside0.mk hr1
 have HC1 := Aside0.mk hc1
 clear hr1 hc1
 have HR2 := Aside0.mk hr2
 have HC2 := Aside0.mk hc2
 clear hr2 hc2
 have HB := Aside0.mk (Below.refl w.heap.size w)
 have H : (spec_l3loops.l0 k l1 l2 1 l0_0 l0_1) = some r := h
 clear h
 have H' := Aside0.mk H
 clear H
 go_enter Try.func85, Try.ntmps85
 go_wp2_with (first | ((with_reducible refine gate_dst (N := 3) rfl ?_); refine box_event ?hg (N := 3) ?hd (cs := #[.slice A0_0 l0_0.length c0_0, .slice A0_1 l0_1.length c0_1]) (t := 31) ?hr ?_; (case hd => rfl); (case hg => rfl); (case hr => first | (go_simp; done)); intro gb989 hg w4 hbox hb; have n0_ := Aside0.mk (below_step bw_ hb); have n1_ := Aside0.mk (hbox); have n2_ := Aside0.mk ((by rw [hg]; exact (below_size bw_) : w.heap.size ≤ gb989)); have n3_ := Aside0.mk ((by rw [hg]; exact (below_size bw_) : w.heap.size ≤ gb989)); clear HB; have HB := n0_; have BK989 := n1_; have GW989 := n2_; have GE989 := n3_; clear n0_ n1_ n2_ n3_; clear hb hbox hg))
 go_loopg [7] k (fun kq v7 w' => ∃ (x7_1 : Int), v7 = .int .i64 x7_1 ∧ Aside0 (spec_l3loops.l0 kq l1 l2 x7_1 l0_0 l0_1 = some r) ∧ Aside0 (kq ≤ k) ∧ Aside0 (w'.heap[gb989]? = some (.cells #[(.slice A0_0 l0_0.length c0_0), (.slice A0_1 l0_1.length c0_1)] 31 (0, 0))) ∧ Aside0 (Below w.heap.size w w'))
 case atStart => exact ⟨(1), (by first | rfl), H', ⟨Nat.le_refl _⟩, ⟨by (with_reducible repeat (first | refine blk_drewN ?_ _ | refine blk_drew ?_ | refine blk_alloc ?_ _)); exact BK989.out⟩, ⟨by repeat ((with_reducible first | exact HB.out))⟩⟩
 case round =>
  clear H'
  try clear c1
  try clear c2
  try clear p2
  obtain ⟨x7_1, rfl, HA, HK1, BK989, HB⟩ := hrel
  cases gk with
  | zero => exact absurd HA.out (by simp [spec_l3loops.l0])
  | succ k1 =>
   have H := HA.out
   clear HA
   simp only [spec_l3loops.l0] at H
   by_cases c5 : x7_1 < (l1.length : Int)
   rotate_left
   ·rw [if_neg c5] at H
    have c5b0 : decide (x7_1 < (l1.length : Int)) = false := decide_eq_false c5
    clear c5
    obtain rfl := Option.some.inj H
    go_wp2
    go_ret
    exact ⟨er_, by repeat ((with_reducible first | exact HB.out))⟩
   rw [if_pos c5] at H
   have c5b0 : decide (x7_1 < (l1.length : Int)) = true := decide_eq_true c5
   clear c5
   by_cases c6 : 0 ≤ x7_1
   rotate_left
   ·rw [if_neg c6] at H
    exact absurd H (by simp)
   rw [if_pos c6] at H
   have c6b0 : decide (0 ≤ x7_1) = true := decide_eq_true c6
   clear c6
   by_cases c7 : ((rd_T79 l1 x7_1).f0) = 6
   rotate_left
   ·rw [if_neg c7] at H
    have c7b0 : (((rd_T79 l1 x7_1).f0) == 6) = false := beq_eq_false_iff_ne.mpr c7
    have c7b1 : (((rd_T79 l1 x7_1).f0) != 6) = true := bne_iff_ne.mpr c7
    have H' := Aside0.mk H
    clear H
    try go_wp2
    have n0_ := Aside0.mk (blk_drew BK989.out)
    have n1_ := Aside0.mk (below_drew1 HB.out)
    clear BK989
    clear HB
    have BK989 := n0_
    have HB := n1_
    clear n0_ n1_
    have p990 : 0 ≤ (x7_1 : Int) := of_decide_eq_true as_
    have q990 : x7_1 < (l1.length : Int) := of_decide_eq_true as_
    obtain ⟨ad990, A990_1, c990_1, e990, hx990_0, hx990_1, hx990_2, hl990_1, hi990_1⟩ := at_T79 HR1.out x7_1 p990 q990
    have hw990_2 := hx990_2
    have hw990_1 := hx990_1
    have hw990_0 := hx990_0
    cases e990
    replace hx990_0 := (HB.out.cell (World.block_lt_of_cell? w _ hx990_0)).trans hx990_0
    replace hx990_1 := (HB.out.cell (World.block_lt_of_cell? w _ hx990_1)).trans hx990_1
    replace hx990_2 := (HB.out.cell (World.block_lt_of_cell? w _ hx990_2)).trans hx990_2
    have HR990_1 := Aside0.mk hi990_1
    have HC990_1 := Aside0.mk hl990_1
    clear hi990_1 hl990_1
    replace p990 := eq_true p990
    replace q990 := eq_true q990
    refine start_ (n := 17) (S := fun w' => w'.cell? (ad990.add ((x7_1).toNat * 3)) = some (.int .i64 ((rd_T79 l1 x7_1).f0)) ∧ w'.cell? ⟨(ad990.add ((x7_1).toNat * 3)).block, (ad990.add ((x7_1).toNat * 3)).off + 1, none⟩ = some (.slice A990_1 ((rd_T79 l1 x7_1).f1).length c990_1) ∧ w'.cell? ⟨(ad990.add ((x7_1).toNat * 3)).block, (ad990.add ((x7_1).toNat * 3)).off + 2, none⟩ = some (.int .i64 ((rd_T79 l1 x7_1).f2))) (ds := []) #[false, false, false, false, false, false, false, false, false, false, false, false, false, false, false, false, false] (by kernel_rfl) rfl rfl ⟨((HB.out.cell (World.block_lt_of_cell? w _ hw990_0)).trans hw990_0), ((HB.out.cell (World.block_lt_of_cell? w _ hw990_1)).trans hw990_1), ((HB.out.cell (World.block_lt_of_cell? w _ hw990_2)).trans hw990_2)⟩ (fun hHeld => ?_); refine with_tabW spec_l3loops.tab4 spec_l3loops.bits4 (fun HT_ HW_ => ?_)
    generalize wr.drew = w20 at BK989 HB HR990_1 hx990_0 hx990_1 hx990_2 hHeld ⊢
    refine pu_ 0 14 HT_ ?_
    refine pu_ 1 15 HT_ ?_
    refine pu_ 2 16 HT_ ?_
    refine pu_ 3 17 HT_ ?_
    refine ta_ 4 18 HT_ HW_ hHeld ?_
    refine pu_ 5 19 HT_ ?_
    refine pu_ 6 20 HT_ ?_
    refine pn_ 7 21 HT_ ?_
    refine pn_ 8 22 HT_ ?_
    refine pn_ 9 23 HT_ ?_
    refine pn_ 10 24 HT_ ?_
    refine pn_ 11 25 HT_ ?_
    refine pn_ 12 26 HT_ ?_
    refine pn_ 13 27 HT_ ?_
    refine pn_ 14 28 HT_ ?_
    refine pn_ 15 29 HT_ ?_
    refine pu_ 16 30 HT_ ?_
    refine done_ (done_of HT_.out (by kernel_rfl)) ?_
    try go_wp2
    go_roundg k1
    case measure => have := HK1.out; omega
    case rel => exact ⟨(wrap64 (x7_1 + 1)), (by first | rfl), H', ⟨by have := HK1.out; omega⟩, ⟨by (with_reducible repeat (first | refine blk_drewN ?_ _ | refine blk_drew ?_ | refine blk_alloc ?_ _)); exact BK989.out⟩, ⟨by repeat ((with_reducible first | exact HB.out))⟩⟩
   rw [if_pos c7] at H
   have c7b0 : (((rd_T79 l1 x7_1).f0) == 6) = true := beq_iff_eq.mpr c7
   have c7b1 : (((rd_T79 l1 x7_1).f0) != 6) = false := bne_eq_false_iff_eq.mpr c7
   clear c7
   replace H := Option.bind_eq_some_iff.mp H
   obtain ⟨t991, A80, H⟩ := H
   replace H : (if 0 ≤ t991 then (if t991 ≤ x7_1 then (if x7_1 ≤ (l1.length : Int) then ((spec_l3null.f k1 l0_0 l0_1 ((l1.take (x7_1 : Int).toNat).drop (t991 : Int).toNat) l2).bind fun t996 => (if t996 = true then (some true) else (spec_l3loops.l0 k1 l1 l2 (wrap64 (x7_1 + 1)) l0_0 l0_1))) else (none)) else (none)) else (none)) = some r := H
   have A8 := Aside0.mk A80
   clear A80
   by_cases c9 : 0 ≤ t991
   rotate_left
   ·rw [if_neg c9] at H
    exact absurd H (by simp)
   rw [if_pos c9] at H
   have c9b0 := eq_true c9
   have c9b1 : decide (0 ≤ t991) = true := decide_eq_true c9
   clear c9
   by_cases c10 : t991 ≤ x7_1
   rotate_left
   ·rw [if_neg c10] at H
    exact absurd H (by simp)
   rw [if_pos c10] at H
   have c10b0 := eq_true c10
   have c10b1 : decide (t991 ≤ x7_1) = true := decide_eq_true c10
   clear c10
   by_cases c11 : x7_1 ≤ (l1.length : Int)
   rotate_left
   ·rw [if_neg c11] at H
    exact absurd H (by simp)
   rw [if_pos c11] at H
   have c11b0 := eq_true c11
   have c11b1 : decide (x7_1 ≤ (l1.length : Int)) = true := decide_eq_true c11
   clear c11
   obtain ⟨y992, hy992⟩ : ∃ y_ : List (S79), y_ = ((l1.take (x7_1 : Int).toNat).drop (t991 : Int).toNat) := ⟨_, rfl⟩
   replace H : ((spec_l3null.f k1 l0_0 l0_1 y992 l2).bind fun t996 => (if t996 = true then (some true) else (spec_l3loops.l0 k1 l1 l2 (wrap64 (x7_1 + 1)) l0_0 l0_1))) = some r := by first | (rw [hy992]; with_reducible exact H)
   have Ny992 := Aside0.mk hy992
   clear hy992
   replace H := Option.bind_eq_some_iff.mp H
   obtain ⟨t996, A120, H⟩ := H
   replace H : (if t996 = true then (some true) else (spec_l3loops.l0 k1 l1 l2 (wrap64 (x7_1 + 1)) l0_0 l0_1)) = some r := H
   have A12 := Aside0.mk A120
   clear A120
   by_cases c13 : t996 = true
   ·subst c13
    have H1 : (some true) = some r := by rw [if_pos rfl] at H; exact H
    clear H
    have H := H1
    clear H1
    obtain rfl := Option.some.inj H
    try go_wp2
    have n0_ := Aside0.mk (blk_drew BK989.out)
    have n1_ := Aside0.mk (below_drew1 HB.out)
    clear BK989
    clear HB
    have BK989 := n0_
    have HB := n1_
    clear n0_ n1_
    have p990 : 0 ≤ (x7_1 : Int) := of_decide_eq_true as_
    have q990 : x7_1 < (l1.length : Int) := of_decide_eq_true as_
    obtain ⟨ad990, A990_1, c990_1, e990, hx990_0, hx990_1, hx990_2, hl990_1, hi990_1⟩ := at_T79 HR1.out x7_1 p990 q990
    have hw990_2 := hx990_2
    have hw990_1 := hx990_1
    have hw990_0 := hx990_0
    cases e990
    replace hx990_0 := (HB.out.cell (World.block_lt_of_cell? w _ hx990_0)).trans hx990_0
    replace hx990_1 := (HB.out.cell (World.block_lt_of_cell? w _ hx990_1)).trans hx990_1
    replace hx990_2 := (HB.out.cell (World.block_lt_of_cell? w _ hx990_2)).trans hx990_2
    have HR990_1 := Aside0.mk hi990_1
    have HC990_1 := Aside0.mk hl990_1
    clear hi990_1 hl990_1
    replace p990 := eq_true p990
    replace q990 := eq_true q990
    refine start_ (n := 17) (S := fun w' => w'.cell? ⟨gb989, 0, none⟩ = some (.slice A0_0 l0_0.length c0_0) ∧ w'.cell? ⟨gb989, 1, none⟩ = some (.slice A0_1 l0_1.length c0_1) ∧ w'.cell? (ad990.add ((x7_1).toNat * 3)) = some (.int .i64 ((rd_T79 l1 x7_1).f0)) ∧ w'.cell? ⟨(ad990.add ((x7_1).toNat * 3)).block, (ad990.add ((x7_1).toNat * 3)).off + 1, none⟩ = some (.slice A990_1 ((rd_T79 l1 x7_1).f1).length c990_1) ∧ w'.cell? ⟨(ad990.add ((x7_1).toNat * 3)).block, (ad990.add ((x7_1).toNat * 3)).off + 2, none⟩ = some (.int .i64 ((rd_T79 l1 x7_1).f2))) (ds := []) #[false, false, false, false, false, false, false, false, false, false, false, false, false, false, false, false, false] (by kernel_rfl) rfl rfl ⟨(blk_cell BK989.out 0).trans rfl, (blk_cell BK989.out 1).trans rfl, ((HB.out.cell (World.block_lt_of_cell? w _ hw990_0)).trans hw990_0), ((HB.out.cell (World.block_lt_of_cell? w _ hw990_1)).trans hw990_1), ((HB.out.cell (World.block_lt_of_cell? w _ hw990_2)).trans hw990_2)⟩ (fun hHeld => ?_); refine with_tabW spec_l3loops.tab4 spec_l3loops.bits4 (fun HT_ HW_ => ?_)
    generalize wr.drew = w14 at BK989 HB HR990_1 hx990_0 hx990_1 hx990_2 hHeld ⊢
    refine pu_ 0 14 HT_ ?_
    refine pu_ 1 15 HT_ ?_
    refine pu_ 2 16 HT_ ?_
    refine pu_ 3 17 HT_ ?_
    refine ta_ 4 18 HT_ HW_ hHeld ?_
    refine pu_ 5 19 HT_ ?_
    refine pu_ 6 20 HT_ ?_
    refine pu_ 8 22 HT_ ?_
    refine pu_ 9 23 HT_ ?_
    refine pu_ 10 24 HT_ ?_
    refine pu_ 12 26 HT_ ?_
    refine pu_ 14 28 HT_ ?_
    refine ta_ 7 21 HT_ HW_ hHeld ?_
    refine one_ (i := 11) (N := some 25) #[true, true, true, true, true, true, true, true, true, true, true, true, true, false, true, false, false] rfl rfl (one_of HT_.out (by kernel_rfl)) (by decide) (fun K hK => ?_)
    refine goes_ Try.func129 (by kernel_rfl) rfl #[.slice (some ad990) l1.length c1, .int .i64 x7_1] (by rfl) rfl rfl ml_ ?_
    with_reducible refine (spec_l2start.calls k1 _ _ l1 x7_1 t991 _ ?side1 ?side2 A8.out).mono ?_
    (case side1 => repeat (exact (Kd.C_below HR1.out HB.out)))
    (case side2 => exact HC1.out)
    rintro e w' ⟨rfl, ⟨nd, rfl⟩⟩
    refine ⟨_, rfl, ?_⟩
    have q15 : (x7_1 : Int) ≤ ((l1.length : Int) : Int) := of_decide_eq_true as_
    obtain ⟨i015, hi015, _, hsz15, _⟩ := info_parts info79
    have hroom15 : l1.length ≤ c1 := HC1.out
    have hC15 : Kd.C k79 _ (some ad990) l1.length l1 := HR1.out
    have ql15 : (t991 : Int) ≤ (x7_1 : Int) := of_decide_eq_true as_
    have q015 : (0 : Int) ≤ (t991 : Int) := of_decide_eq_true as_
    have hcut15 := cut_mid (P := Try.prog) 66 79 .i64 .i64 Try.underlying66 hi015 3 hsz15 (some ad990) l1.length c1 t991 x7_1 q015 ql15 q15 hroom15
    have hr15 := Kd.C_mid (lo := (t991 : Int).toNat) (hi := (x7_1 : Int).toNat) (c := c1) hC15 (by omega) (by omega) hroom15
    obtain ⟨A15, hA15⟩ : ∃ A1, A1 = (if c1 = (t991 : Int).toNat then (some ad990) else ((some ad990) : Option Addr).map (·.add ((t991 : Int).toNat * 3))) := ⟨_, rfl⟩
    obtain ⟨c15, hc15⟩ : ∃ cz_, cz_ = c1 - (t991 : Int).toNat := ⟨_, rfl⟩
    have hy15 : y992.length = (x7_1 : Int).toNat - (t991 : Int).toNat := (by rw [Ny992.out, List.length_drop, List.length_take] <;> omega)
    rw [show ((l1).take (x7_1 : Int).toNat).drop (t991 : Int).toNat = y992 from Ny992.out.symm] at hr15
    replace hr15 : Kd.C k79 _ A15 y992.length y992 := (by rw [hA15]; exact hr15)
    rw [← hy15, ← hA15, ← hc15] at hcut15
    have HR995 := Aside0.mk hr15
    have HC995 := Aside0.mk (show y992.length ≤ c15 from by rw [hy15, hc15]; exact Nat.sub_le_sub_right (Nat.le_trans (by omega) hroom15) _)
    clear hr15 hC15 hroom15 hi015 hsz15 hc15
    have KY15 := Aside0.mk hy15
    have KA15 := Aside0.mk hA15
    clear hy15 hA15
    replace q15 := eq_true q15
    refine hK.out _ _ ⟨(blk_cell BK989.out 0).trans rfl, (blk_cell BK989.out 1).trans rfl, ((HB.out.cell (World.block_lt_of_cell? w _ hw990_0)).trans hw990_0), ((HB.out.cell (World.block_lt_of_cell? w _ hw990_1)).trans hw990_1), ((HB.out.cell (World.block_lt_of_cell? w _ hw990_2)).trans hw990_2)⟩ (fun hHeld => ?_)
    clear hK K
    refine norm_ (a' := ?_) ?_ ?_
    rotate_left
    ·show Act.put _ (some 25) _ = _
     simp only [Act.put, List.setIfInBounds_toArray, List.set_cons_zero, List.set_cons_succ, i64_w, i32_w]
     rfl
    refine pu_ 13 27 HT_ ?_
    refine one_ (i := 15) (N := some 29) #[true, true, true, true, true, true, true, true, true, true, true, true, true, true, true, true, false] rfl rfl (one_of HT_.out (by kernel_rfl)) (by decide) (fun K hK => ?_)
    refine goes_ Try.func123 (by kernel_rfl) rfl #[.agg #[.slice A0_0 l0_0.length c0_0, .slice A0_1 l0_1.length c0_1], .slice A15 y992.length c15, .slice A2 l2.length c2] (by rfl) rfl rfl ml_ ?_
    with_reducible refine (spec_l3null.calls k1 _ _ l0_0 _ _ l0_1 _ _ y992 _ _ l2 true _ ?side1 ?side2 ?side3 ?side4 ?side5 ?side6 ?side7 ?side8 A12.out).mono ?_
    (case side1 => repeat (exact (Kd.C_below HR0_0.out (by repeat ((with_reducible first | exact HB.out | apply pw_below_drewN))))))
    (case side2 => exact HC0_0.out)
    (case side3 => repeat (exact (Kd.C_below HR0_1.out (by repeat ((with_reducible first | exact HB.out | apply pw_below_drewN))))))
    (case side4 => exact HC0_1.out)
    (case side5 => repeat (exact (Kd.C_below HR995.out (by repeat ((with_reducible first | exact HB.out | apply pw_below_drewN))))))
    (case side6 => exact HC995.out)
    (case side7 => repeat (exact (Kd.C_below HR2.out (by repeat ((with_reducible first | exact HB.out | apply pw_below_drewN))))))
    (case side8 => exact HC2.out)
    rintro e w16 ⟨rfl, hb⟩
    refine ⟨_, rfl, ?_⟩
    have n0_ := Aside0.mk (blk_below (g := gb989) (o := .cells #[.slice A0_0 l0_0.length c0_0, .slice A0_1 l0_1.length c0_1] 31 (0, 0)) (by (with_reducible repeat (refine blk_drewN ?_ _)); exact BK989.out) hb)
    have n1_ := Aside0.mk (below_step (by repeat ((with_reducible first | exact HB.out | apply pw_below_drewN))) hb)
    clear BK989
    clear HB
    have BK989 := n0_
    have HB := n1_
    clear n0_ n1_
    (try clear hb)
    (try clear hb2)
    (try clear hk)
    (try clear hi)
    refine hK.out _ _ ⟨(blk_cell BK989.out 0).trans rfl, (blk_cell BK989.out 1).trans rfl, ((HB.out.cell (World.block_lt_of_cell? w _ hw990_0)).trans hw990_0), ((HB.out.cell (World.block_lt_of_cell? w _ hw990_1)).trans hw990_1), ((HB.out.cell (World.block_lt_of_cell? w _ hw990_2)).trans hw990_2)⟩ (fun hHeld => ?_)
    clear hK K
    refine norm_ (a' := ?_) ?_ ?_
    rotate_left
    ·show Act.put _ (some 29) _ = _
     simp only [Act.put, List.setIfInBounds_toArray, List.set_cons_zero, List.set_cons_succ, i64_w, i32_w]
     rfl
    refine pu_ 16 30 HT_ ?_
    refine done_ (done_of HT_.out (by kernel_rfl)) ?_
    try go_wp2
    go_ret
    exact ⟨er_, by repeat ((with_reducible first | exact HB.out))⟩
   replace c13 := Bool.eq_false_iff.mpr c13
   subst c13
   have H1 : (spec_l3loops.l0 k1 l1 l2 (wrap64 (x7_1 + 1)) l0_0 l0_1) = some r := by rw [if_neg (show ¬ (false = true) by decide)] at H; exact H
   clear H
   have H := H1
   clear H1
   have H' := Aside0.mk H
   clear H
   try go_wp2
   have n0_ := Aside0.mk (blk_drew BK989.out)
   have n1_ := Aside0.mk (below_drew1 HB.out)
   clear BK989
   clear HB
   have BK989 := n0_
   have HB := n1_
   clear n0_ n1_
   have p990 : 0 ≤ (x7_1 : Int) := of_decide_eq_true as_
   have q990 : x7_1 < (l1.length : Int) := of_decide_eq_true as_
   obtain ⟨ad990, A990_1, c990_1, e990, hx990_0, hx990_1, hx990_2, hl990_1, hi990_1⟩ := at_T79 HR1.out x7_1 p990 q990
   have hw990_2 := hx990_2
   have hw990_1 := hx990_1
   have hw990_0 := hx990_0
   cases e990
   replace hx990_0 := (HB.out.cell (World.block_lt_of_cell? w _ hx990_0)).trans hx990_0
   replace hx990_1 := (HB.out.cell (World.block_lt_of_cell? w _ hx990_1)).trans hx990_1
   replace hx990_2 := (HB.out.cell (World.block_lt_of_cell? w _ hx990_2)).trans hx990_2
   have HR990_1 := Aside0.mk hi990_1
   have HC990_1 := Aside0.mk hl990_1
   clear hi990_1 hl990_1
   replace p990 := eq_true p990
   replace q990 := eq_true q990
   refine start_ (n := 17) (S := fun w' => w'.cell? ⟨gb989, 0, none⟩ = some (.slice A0_0 l0_0.length c0_0) ∧ w'.cell? ⟨gb989, 1, none⟩ = some (.slice A0_1 l0_1.length c0_1) ∧ w'.cell? (ad990.add ((x7_1).toNat * 3)) = some (.int .i64 ((rd_T79 l1 x7_1).f0)) ∧ w'.cell? ⟨(ad990.add ((x7_1).toNat * 3)).block, (ad990.add ((x7_1).toNat * 3)).off + 1, none⟩ = some (.slice A990_1 ((rd_T79 l1 x7_1).f1).length c990_1) ∧ w'.cell? ⟨(ad990.add ((x7_1).toNat * 3)).block, (ad990.add ((x7_1).toNat * 3)).off + 2, none⟩ = some (.int .i64 ((rd_T79 l1 x7_1).f2))) (ds := []) #[false, false, false, false, false, false, false, false, false, false, false, false, false, false, false, false, false] (by kernel_rfl) rfl rfl ⟨(blk_cell BK989.out 0).trans rfl, (blk_cell BK989.out 1).trans rfl, ((HB.out.cell (World.block_lt_of_cell? w _ hw990_0)).trans hw990_0), ((HB.out.cell (World.block_lt_of_cell? w _ hw990_1)).trans hw990_1), ((HB.out.cell (World.block_lt_of_cell? w _ hw990_2)).trans hw990_2)⟩ (fun hHeld => ?_); refine with_tabW spec_l3loops.tab4 spec_l3loops.bits4 (fun HT_ HW_ => ?_)
   generalize wr.drew = w17 at BK989 HB HR990_1 hx990_0 hx990_1 hx990_2 hHeld ⊢
   refine pu_ 0 14 HT_ ?_
   refine pu_ 1 15 HT_ ?_
   refine pu_ 2 16 HT_ ?_
   refine pu_ 3 17 HT_ ?_
   refine ta_ 4 18 HT_ HW_ hHeld ?_
   refine pu_ 5 19 HT_ ?_
   refine pu_ 6 20 HT_ ?_
   refine pu_ 8 22 HT_ ?_
   refine pu_ 9 23 HT_ ?_
   refine pu_ 10 24 HT_ ?_
   refine pu_ 12 26 HT_ ?_
   refine pu_ 14 28 HT_ ?_
   refine ta_ 7 21 HT_ HW_ hHeld ?_
   refine one_ (i := 11) (N := some 25) #[true, true, true, true, true, true, true, true, true, true, true, true, true, false, true, false, false] rfl rfl (one_of HT_.out (by kernel_rfl)) (by decide) (fun K hK => ?_)
   refine goes_ Try.func129 (by kernel_rfl) rfl #[.slice (some ad990) l1.length c1, .int .i64 x7_1] (by rfl) rfl rfl ml_ ?_
   with_reducible refine (spec_l2start.calls k1 _ _ l1 x7_1 t991 _ ?side1 ?side2 A8.out).mono ?_
   (case side1 => repeat (exact (Kd.C_below HR1.out HB.out)))
   (case side2 => exact HC1.out)
   rintro e w' ⟨rfl, ⟨nd, rfl⟩⟩
   refine ⟨_, rfl, ?_⟩
   have q18 : (x7_1 : Int) ≤ ((l1.length : Int) : Int) := of_decide_eq_true as_
   obtain ⟨i018, hi018, _, hsz18, _⟩ := info_parts info79
   have hroom18 : l1.length ≤ c1 := HC1.out
   have hC18 : Kd.C k79 _ (some ad990) l1.length l1 := HR1.out
   have ql18 : (t991 : Int) ≤ (x7_1 : Int) := of_decide_eq_true as_
   have q018 : (0 : Int) ≤ (t991 : Int) := of_decide_eq_true as_
   have hcut18 := cut_mid (P := Try.prog) 66 79 .i64 .i64 Try.underlying66 hi018 3 hsz18 (some ad990) l1.length c1 t991 x7_1 q018 ql18 q18 hroom18
   have hr18 := Kd.C_mid (lo := (t991 : Int).toNat) (hi := (x7_1 : Int).toNat) (c := c1) hC18 (by omega) (by omega) hroom18
   obtain ⟨A18, hA18⟩ : ∃ A1, A1 = (if c1 = (t991 : Int).toNat then (some ad990) else ((some ad990) : Option Addr).map (·.add ((t991 : Int).toNat * 3))) := ⟨_, rfl⟩
   obtain ⟨c18, hc18⟩ : ∃ cz_, cz_ = c1 - (t991 : Int).toNat := ⟨_, rfl⟩
   have hy18 : y992.length = (x7_1 : Int).toNat - (t991 : Int).toNat := (by rw [Ny992.out, List.length_drop, List.length_take] <;> omega)
   rw [show ((l1).take (x7_1 : Int).toNat).drop (t991 : Int).toNat = y992 from Ny992.out.symm] at hr18
   replace hr18 : Kd.C k79 _ A18 y992.length y992 := (by rw [hA18]; exact hr18)
   rw [← hy18, ← hA18, ← hc18] at hcut18
   have HR995 := Aside0.mk hr18
   have HC995 := Aside0.mk (show y992.length ≤ c18 from by rw [hy18, hc18]; exact Nat.sub_le_sub_right (Nat.le_trans (by omega) hroom18) _)
   clear hr18 hC18 hroom18 hi018 hsz18 hc18
   have KY18 := Aside0.mk hy18
   have KA18 := Aside0.mk hA18
   clear hy18 hA18
   replace q18 := eq_true q18
   refine hK.out _ _ ⟨(blk_cell BK989.out 0).trans rfl, (blk_cell BK989.out 1).trans rfl, ((HB.out.cell (World.block_lt_of_cell? w _ hw990_0)).trans hw990_0), ((HB.out.cell (World.block_lt_of_cell? w _ hw990_1)).trans hw990_1), ((HB.out.cell (World.block_lt_of_cell? w _ hw990_2)).trans hw990_2)⟩ (fun hHeld => ?_)
   clear hK K
   refine norm_ (a' := ?_) ?_ ?_
   rotate_left
   ·show Act.put _ (some 25) _ = _
    simp only [Act.put, List.setIfInBounds_toArray, List.set_cons_zero, List.set_cons_succ, i64_w, i32_w]
    rfl
   refine pu_ 13 27 HT_ ?_
   refine one_ (i := 15) (N := some 29) #[true, true, true, true, true, true, true, true, true, true, true, true, true, true, true, true, false] rfl rfl (one_of HT_.out (by kernel_rfl)) (by decide) (fun K hK => ?_)
   refine goes_ Try.func123 (by kernel_rfl) rfl #[.agg #[.slice A0_0 l0_0.length c0_0, .slice A0_1 l0_1.length c0_1], .slice A18 y992.length c18, .slice A2 l2.length c2] (by rfl) rfl rfl ml_ ?_
   with_reducible refine (spec_l3null.calls k1 _ _ l0_0 _ _ l0_1 _ _ y992 _ _ l2 false _ ?side1 ?side2 ?side3 ?side4 ?side5 ?side6 ?side7 ?side8 A12.out).mono ?_
   (case side1 => repeat (exact (Kd.C_below HR0_0.out (by repeat ((with_reducible first | exact HB.out | apply pw_below_drewN))))))
   (case side2 => exact HC0_0.out)
   (case side3 => repeat (exact (Kd.C_below HR0_1.out (by repeat ((with_reducible first | exact HB.out | apply pw_below_drewN))))))
   (case side4 => exact HC0_1.out)
   (case side5 => repeat (exact (Kd.C_below HR995.out (by repeat ((with_reducible first | exact HB.out | apply pw_below_drewN))))))
   (case side6 => exact HC995.out)
   (case side7 => repeat (exact (Kd.C_below HR2.out (by repeat ((with_reducible first | exact HB.out | apply pw_below_drewN))))))
   (case side8 => exact HC2.out)
   rintro e w19 ⟨rfl, hb⟩
   refine ⟨_, rfl, ?_⟩
   have n0_ := Aside0.mk (blk_below (g := gb989) (o := .cells #[.slice A0_0 l0_0.length c0_0, .slice A0_1 l0_1.length c0_1] 31 (0, 0)) (by (with_reducible repeat (refine blk_drewN ?_ _)); exact BK989.out) hb)
   have n1_ := Aside0.mk (below_step (by repeat ((with_reducible first | exact HB.out | apply pw_below_drewN))) hb)
   clear BK989
   clear HB
   have BK989 := n0_
   have HB := n1_
   clear n0_ n1_
   (try clear hb)
   (try clear hb2)
   (try clear hk)
   (try clear hi)
   refine hK.out _ _ ⟨(blk_cell BK989.out 0).trans rfl, (blk_cell BK989.out 1).trans rfl, ((HB.out.cell (World.block_lt_of_cell? w _ hw990_0)).trans hw990_0), ((HB.out.cell (World.block_lt_of_cell? w _ hw990_1)).trans hw990_1), ((HB.out.cell (World.block_lt_of_cell? w _ hw990_2)).trans hw990_2)⟩ (fun hHeld => ?_)
   clear hK K
   refine norm_ (a' := ?_) ?_ ?_
   rotate_left
   ·show Act.put _ (some 29) _ = _
    simp only [Act.put, List.setIfInBounds_toArray, List.set_cons_zero, List.set_cons_succ, i64_w, i32_w]
    rfl
   refine pu_ 16 30 HT_ ?_
   refine done_ (done_of HT_.out (by kernel_rfl)) ?_
   try go_wp2
   go_roundg k1
   case measure => have := HK1.out; omega
   case rel => exact ⟨(wrap64 (x7_1 + 1)), (by first | rfl), H', ⟨by have := HK1.out; omega⟩, ⟨by (with_reducible repeat (first | refine blk_drewN ?_ _ | refine blk_drew ?_ | refine blk_alloc ?_ _)); exact BK989.out⟩, ⟨by repeat ((with_reducible first | exact HB.out))⟩⟩
end Go.Proofs.Ytdiilocgjnlmiaa.PAll
