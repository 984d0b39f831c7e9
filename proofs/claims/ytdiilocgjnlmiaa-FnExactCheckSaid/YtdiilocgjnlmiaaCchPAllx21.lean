import Derived.Test.YtdiilocgjnlmiaaCchFlat
import Derived.Test.YtdiilocgjnlmiaaCchPAllx16
import Derived.Test.YtdiilocgjnlmiaaCchRegKit
namespace Go.Proofs.Ytdiilocgjnlmiaa.PAll
open Go.RowKit Go.Proofs.YtdiilocgjnlmiaaW.PrintWords Go.Proofs.YtdiilocgjnlmiaaW.PrintLast Go.Proofs.YtdiilocgjnlmiaaW.PrintMore
attribute [local go_sem] max2_int min2_int max_two min_two max_three min_three max_four min_four   -- for this text's walks alone
set_option linter.unusedVariables false
set_option linter.unusedSimpArgs false
mutual
def spec_l3null.j0 : Nat → List (S79) → List Bool → Int → Bool → List (S68) → List (S72) → Int → List Int → Int → Option (Bool)
 | 0, _, _, _, _, _, _, _, _, _ => none
 | k + 1, x1, x2, x7, x31, x865000, x865001, x867000, x867001, x867002 => if x31 = true then ((spec_l3target.f x865000 x865001 x867000 x867001 x867002).bind fun t867 => (if 0 ≤ t867 then (if t867 < (x2.length : Int) then (some (rdOf false x2 t867)) else (none)) else (none))) else (if x867000 = 4 then (spec_l3null.j1 k x1 x2 x7 true x865000 x865001 x867000 x867001 x867002) else (spec_l3null.j1 k x1 x2 x7 (x867000 == 5) x865000 x865001 x867000 x867001 x867002))
def spec_l3null.j1 : Nat → List (S79) → List Bool → Int → Bool → List (S68) → List (S72) → Int → List Int → Int → Option (Bool)
 | 0, _, _, _, _, _, _, _, _, _ => none
 | k + 1, x1, x2, x7, x45, x865000, x865001, x867000, x867001, x867002 => if x45 = true then ((spec_l2start.f k x1 (wrap64 (x7 - 1))).bind fun t869 => (if 0 ≤ t869 then (if t869 ≤ (wrap64 (x7 - 1)) then (if (wrap64 (x7 - 1)) ≤ (x1.length : Int) then ((spec_l3null.f k x865000 x865001 ((x1.take ((wrap64 (x7 - 1)) : Int).toNat).drop (t869 : Int).toNat) x2).bind fun t874 => (if x867000 = 4 then (if t874 = true then (if t869 ≤ (x1.length : Int) then ((spec_l3null.f k x865000 x865001 (x1.take (t869 : Int).toNat) x2).bind fun t879 => (some t879)) else (none)) else (some false)) else (if t874 = true then (some true) else (if t869 ≤ (x1.length : Int) then ((spec_l3null.f k x865000 x865001 (x1.take (t869 : Int).toNat) x2).bind fun t884 => (some t884)) else (none))))) else (none)) else (none)) else (none))) else (some true)
def spec_l3null.f : Nat → List (S68) → List (S72) → List (S79) → List Bool → Option (Bool)
 | 0, _, _, _, _ => none
 | k + 1, l0_0, l0_1, l1, l2 => if (l1.length : Int) = 0 then (some false) else (if 0 ≤ (wrap64 ((l1.length : Int) - 1)) then (if (wrap64 ((l1.length : Int) - 1)) < (l1.length : Int) then (if ((rd_T79 l1 (wrap64 ((l1.length : Int) - 1))).f0) = 1 then (some false) else (if ((rd_T79 l1 (wrap64 ((l1.length : Int) - 1))).f0) = 2 then (spec_l3null.j0 k l1 l2 (l1.length : Int) true l0_0 l0_1 ((rd_T79 l1 (wrap64 ((l1.length : Int) - 1))).f0) ((rd_T79 l1 (wrap64 ((l1.length : Int) - 1))).f1) ((rd_T79 l1 (wrap64 ((l1.length : Int) - 1))).f2)) else (spec_l3null.j0 k l1 l2 (l1.length : Int) (((rd_T79 l1 (wrap64 ((l1.length : Int) - 1))).f0) == 3) l0_0 l0_1 ((rd_T79 l1 (wrap64 ((l1.length : Int) - 1))).f0) ((rd_T79 l1 (wrap64 ((l1.length : Int) - 1))).f1) ((rd_T79 l1 (wrap64 ((l1.length : Int) - 1))).f2)))) else (none)) else (none))
end
theorem spec_l3null.mono_l : ∀ k, (∀ y0 y1 y2 y3, LeO (spec_l3null.f k y0 y1 y2 y3) (spec_l3null.f (k + 1) y0 y1 y2 y3)) ∧ (∀ y0 y1 y2 y3 y4 y5 y6 y7 y8, LeO (spec_l3null.j0 k y0 y1 y2 y3 y4 y5 y6 y7 y8) (spec_l3null.j0 (k + 1) y0 y1 y2 y3 y4 y5 y6 y7 y8)) ∧ (∀ y0 y1 y2 y3 y4 y5 y6 y7 y8, LeO (spec_l3null.j1 k y0 y1 y2 y3 y4 y5 y6 y7 y8) (spec_l3null.j1 (k + 1) y0 y1 y2 y3 y4 y5 y6 y7 y8))
 | 0 => ⟨fun _ _ _ _ r h => by simp [spec_l3null.f] at h, fun _ _ _ _ _ _ _ _ _ r h => by simp [spec_l3null.j0] at h, fun _ _ _ _ _ _ _ _ _ r h => by simp [spec_l3null.j1] at h⟩
 | k + 1 => by
  obtain ⟨ih0, ih1, ih2⟩ := spec_l3null.mono_l k
  refine ⟨?_, ?_, ?_⟩
  ·intro y0 y1 y2 y3
   unfold spec_l3null.f
   repeat' first | (with_reducible exact ih1 _ _ _ _ _ _ _ _ _) | (with_reducible exact LeO.refl _) | (with_reducible refine LeO.ite ?_ ?_)
  ·intro y0 y1 y2 y3 y4 y5 y6 y7 y8
   unfold spec_l3null.j0
   repeat' first | (with_reducible exact ih2 _ _ _ _ _ _ _ _ _) | (with_reducible exact LeO.refl _) | (with_reducible refine LeO.ite ?_ ?_)
  intro y0 y1 y2 y3 y4 y5 y6 y7 y8
  unfold spec_l3null.j1
  repeat' first | (with_reducible exact ih0 _ _ _ _) | (with_reducible exact spec_l2start.mono _ _ _) | (with_reducible exact LeO.refl _) | (with_reducible refine LeO.ite ?_ ?_) | (with_reducible refine LeO.bind ?_ (fun _ => ?_))
theorem spec_l3null.mono : ∀ a0 a1 a2 a3 k, LeO (spec_l3null.f k a0 a1 a2 a3) (spec_l3null.f (k + 1) a0 a1 a2 a3) := by
 intro a0 a1 a2 a3 k
 obtain ⟨ih0, ih1, ih2⟩ := spec_l3null.mono_l k
 exact ih0 a0 a1 a2 a3
def spec_l3null.T11 : Bool × List (List Nat × List Nat) := (true, [([], []), ([], []), ([], []), ([], []), ([3], [3]), ([1, 2, 4], [1, 2, 4]), ([], []), ([0, 5, 6], [0, 5, 6]), ([7, 7, 0, 1, 2, 3, 4, 5, 6, 7], [7])])
def spec_l3null.B11 : List Nat := [0, 0, 0, 0, 8, 30, 0, 127, 255]
theorem spec_l3null.tab11 : rtab .any (opsOf Try.f123 11) = spec_l3null.T11 := by kernel_rfl
theorem spec_l3null.bits11 : waitsOk spec_l3null.T11.2 spec_l3null.B11 = true := by kernel_rfl
def spec_l3null.T13 : Bool × List (List Nat × List Nat) := (true, [([], []), ([0], [0]), ([1], [1]), ([1], [1]), ([1], [1]), ([3, 4, 1], [1, 3, 4]), ([1], [1]), ([2, 5, 6, 1, 1], [1, 2, 5, 6]), ([1, 7], [1, 7]), ([8, 7, 0, 1, 2, 3, 4, 5, 6, 7, 8], [8])])
def spec_l3null.B13 : List Nat := [0, 1, 3, 3, 3, 27, 3, 127, 255, 511]
theorem spec_l3null.tab13 : rtab .any (opsOf Try.f123 13) = spec_l3null.T13 := by kernel_rfl
theorem spec_l3null.bits13 : waitsOk spec_l3null.T13.2 spec_l3null.B13 = true := by kernel_rfl
def spec_l3null.T14 : Bool × List (List Nat × List Nat) := (true, [([], []), ([0], [0]), ([1], [1]), ([1], [1]), ([1], [1]), ([3, 4, 1], [1, 3, 4]), ([1], [1]), ([2, 5, 6, 1, 1], [1, 2, 5, 6]), ([1, 7], [1, 7]), ([8, 7, 0, 1, 2, 3, 4, 5, 6, 7, 8], [8])])
def spec_l3null.B14 : List Nat := [0, 1, 3, 3, 3, 27, 3, 127, 255, 511]
theorem spec_l3null.tab14 : rtab .any (opsOf Try.f123 14) = spec_l3null.T14 := by kernel_rfl
theorem spec_l3null.bits14 : waitsOk spec_l3null.T14.2 spec_l3null.B14 = true := by kernel_rfl
set_option maxHeartbeats 8000000 in
set_option maxRecDepth 100000 in
theorem spec_l3null.calls (k : Nat) : ∀ (A0_0 : Option Addr) (c0_0 : Nat) (l0_0 : List (S68)) (A0_1 : Option Addr) (c0_1 : Nat) (l0_1 : List (S72)) (A1 : Option Addr) (c1 : Nat) (l1 : List (S79)) (A2 : Option Addr) (c2 : Nat) (l2 : List Bool) (r : Bool) (w : World) (hr0_0 : Kd.C k68 w A0_0 l0_0.length l0_0) (hc0_0 : l0_0.length ≤ c0_0) (hr0_1 : Kd.C k72 w A0_1 l0_1.length l0_1) (hc0_1 : l0_1.length ≤ c0_1) (hr1 : Kd.C k79 w A1 l1.length l1) (hc1 : l1.length ≤ c1) (hr2 : Kd.C Kd.bool w A2 l2.length l2) (hc2 : l2.length ≤ c2) (h : spec_l3null.f k l0_0 l0_1 l1 l2 = some r),
 Calls Try.prog 123 #[.agg #[.slice A0_0 l0_0.length c0_0, .slice A0_1 l0_1.length c0_1], .slice A1 l1.length c1, .slice A2 l2.length c2] w fun e w' => e = .returned (.bool r) ∧ Below w.heap.size w w' := by
 induction k using Nat.strongRecOn with
 | _ k ih =>
 intro A0_0 c0_0 l0_0 A0_1 c0_1 l0_1 A1 c1 l1 A2 c2 l2 r w hr0_0 hc0_0 hr0_1 hc0_1 hr1 hc1 hr2 hc2 h
 cases k with
 | zero => exact absurd h (by simp [spec_l3null.f])
 | succ k =>
 simp only [spec_l3null.f] at h
 have hu31 := Try.underlying31
 have hu79 := Try.underlying79
 have HR0_0 := Aside0.mk hr0_0
 have HC0_0 := Aside0.mk hc0_0
 clear hr0_0 hc0_0
 have HR0_1 := Aside0.mk hr0_1
 have HC0_1 := Aside0.mk hc0_1
 clear hr0_1 hc0_1
 have HR1 := Aside0.mk hr1
 have HC1 := Aside0.mk hc1
 clear hr1 hc1
 have HR2 := Aside0.mk hr2
 have HC2 := Aside0.mk hc2
 clear hr2 hc2
 have HB := Aside0.mk (Below.refl w.heap.size w)
 have H : (if (l1.length : Int) = 0 then (some false) else (if 0 ≤ (wrap64 ((l1.length : Int) - 1)) then (if (wrap64 ((l1.length : Int) - 1)) < (l1.length : Int) then (if ((rd_T79 l1 (wrap64 ((l1.length : Int) - 1))).f0) = 1 then (some false) else (if ((rd_T79 l1 (wrap64 ((l1.length : Int) - 1))).f0) = 2 then (spec_l3null.j0 k l1 l2 (l1.length : Int) true l0_0 l0_1 ((rd_T79 l1 (wrap64 ((l1.length : Int) - 1))).f0) ((rd_T79 l1 (wrap64 ((l1.length : Int) - 1))).f1) ((rd_T79 l1 (wrap64 ((l1.length : Int) - 1))).f2)) else (spec_l3null.j0 k l1 l2 (l1.length : Int) (((rd_T79 l1 (wrap64 ((l1.length : Int) - 1))).f0) == 3) l0_0 l0_1 ((rd_T79 l1 (wrap64 ((l1.length : Int) - 1))).f0) ((rd_T79 l1 (wrap64 ((l1.length : Int) - 1))).f1) ((rd_T79 l1 (wrap64 ((l1.length : Int) - 1))).f2)))) else (none)) else (none))) = some r := h
 clear h
 by_cases c4 : (l1.length : Int) = 0
 ·rw [if_pos c4] at H
  have c4b0 : ((l1.length : Int) == 0) = true := beq_iff_eq.mpr c4
  have c4b1 : ((l1.length : Int) != 0) = false := bne_eq_false_iff_eq.mpr c4
  clear c4
  obtain rfl := Option.some.inj H
  go_enter Try.func123, Try.ntmps123
  go_wp2_with (first | ((with_reducible refine gate_dst (N := 3) rfl ?_); refine box_event ?hg (N := 3) ?hd (cs := #[.slice A0_0 l0_0.length c0_0, .slice A0_1 l0_1.length c0_1]) (t := 31) ?hr ?_; (case hd => rfl); (case hg => rfl); (case hr => first | (go_simp; done)); intro gb864 hg w5 hbox hb; have n0_ := Aside0.mk (below_step bw_ hb); have n1_ := Aside0.mk (hbox); have n2_ := Aside0.mk ((by rw [hg]; exact (below_size bw_) : w.heap.size ≤ gb864)); have n3_ := Aside0.mk ((by rw [hg]; exact (below_size bw_) : w.heap.size ≤ gb864)); clear HB; have HB := n0_; have BK864 := n1_; have GW864 := n2_; have GE864 := n3_; clear n0_ n1_ n2_ n3_; clear hb hbox hg))
  go_ret
  exact ⟨er_, by repeat ((with_reducible first | exact HB.out))⟩
 rw [if_neg c4] at H
 have c4b0 : ((l1.length : Int) == 0) = false := beq_eq_false_iff_ne.mpr c4
 have c4b1 : ((l1.length : Int) != 0) = true := bne_iff_ne.mpr c4
 have c4b2 : ¬ (l1 = []) := fun h_ => c4 (by rw [h_]; rfl)
 obtain ⟨ji6, hji6⟩ : ∃ j_ : Int, (wrap64 ((l1.length : Int) - 1)) = j_ := ⟨_, rfl⟩
 replace H : (if 0 ≤ (ji6) then (if (ji6) < (l1.length : Int) then (if ((rd_T79 l1 (ji6)).f0) = 1 then (some false) else (if ((rd_T79 l1 (ji6)).f0) = 2 then (spec_l3null.j0 k l1 l2 (l1.length : Int) true l0_0 l0_1 ((rd_T79 l1 (ji6)).f0) ((rd_T79 l1 (ji6)).f1) ((rd_T79 l1 (ji6)).f2)) else (spec_l3null.j0 k l1 l2 (l1.length : Int) (((rd_T79 l1 (ji6)).f0) == 3) l0_0 l0_1 ((rd_T79 l1 (ji6)).f0) ((rd_T79 l1 (ji6)).f1) ((rd_T79 l1 (ji6)).f2)))) else (none)) else (none)) = some r := by first | (rw [hji6] at H; exact H)
 have hji6w : (IntKind.i64.wrap ((l1.length : Int) - 1)) = ji6 := (i64_w _).trans hji6
 by_cases c7 : 0 ≤ (ji6)
 rotate_left
 ·rw [if_neg c7] at H
  exact absurd H (by simp)
 rw [if_pos c7] at H
 have c7b0 : decide (0 ≤ (ji6)) = true := decide_eq_true c7
 clear c7
 by_cases c8 : (ji6) < (l1.length : Int)
 rotate_left
 ·rw [if_neg c8] at H
  exact absurd H (by simp)
 rw [if_pos c8] at H
 have c8b0 : decide ((ji6) < (l1.length : Int)) = true := decide_eq_true c8
 clear c8
 by_cases c9 : ((rd_T79 l1 (ji6)).f0) = 1
 ·rw [if_pos c9] at H
  have c9b0 : (((rd_T79 l1 (ji6)).f0) == 1) = true := beq_iff_eq.mpr c9
  have c9b1 : (((rd_T79 l1 (ji6)).f0) != 1) = false := bne_eq_false_iff_eq.mpr c9
  clear c9
  obtain rfl := Option.some.inj H
  go_enter Try.func123, Try.ntmps123
  go_wp2_with (first | ((with_reducible refine gate_dst (N := 3) rfl ?_); refine box_event ?hg (N := 3) ?hd (cs := #[.slice A0_0 l0_0.length c0_0, .slice A0_1 l0_1.length c0_1]) (t := 31) ?hr ?_; (case hd => rfl); (case hg => rfl); (case hr => first | (go_simp; done)); intro gb864 hg w10 hbox hb; have n0_ := Aside0.mk (below_step bw_ hb); have n1_ := Aside0.mk (hbox); have n2_ := Aside0.mk ((by rw [hg]; exact (below_size bw_) : w.heap.size ≤ gb864)); have n3_ := Aside0.mk ((by rw [hg]; exact (below_size bw_) : w.heap.size ≤ gb864)); clear HB; have HB := n0_; have BK864 := n1_; have GW864 := n2_; have GE864 := n3_; clear n0_ n1_ n2_ n3_; clear hb hbox hg; have p865 : 0 ≤ ((ji6) : Int) := of_decide_eq_true as_; have q865 : (ji6) < (l1.length : Int) := of_decide_eq_true as_; obtain ⟨ad865, A865_1, c865_1, e865, hx865_0, hx865_1, hx865_2, hl865_1, hi865_1⟩ := at_T79 HR1.out (ji6) p865 q865; cases e865; replace hx865_0 := (HB.out.cell (World.block_lt_of_cell? w _ hx865_0)).trans hx865_0; replace hx865_1 := (HB.out.cell (World.block_lt_of_cell? w _ hx865_1)).trans hx865_1; replace hx865_2 := (HB.out.cell (World.block_lt_of_cell? w _ hx865_2)).trans hx865_2; have HR865_1 := Aside0.mk hi865_1; have HC865_1 := Aside0.mk hl865_1; clear hi865_1 hl865_1; replace p865 := eq_true p865; replace q865 := eq_true q865) | ((with_reducible refine gate_dst (N := 8) rfl ?_); refine box_event ?hg (N := 8) ?hd (cs := #[.int .i64 0, .slice none 0 0, .int .i64 0]) (t := 79) ?hr ?_; (case hd => rfl); (case hg => rfl); (case hr => first | (go_simp; done)); intro gb866 hg w11 hbox hb; have n0_ := Aside0.mk (blk_below (g := gb864) (o := .cells #[.slice A0_0 l0_0.length c0_0, .slice A0_1 l0_1.length c0_1] 31 (0, 0)) (by (with_reducible repeat (first | refine blk_drewN ?_ _ | refine blk_drew ?_ | refine blk_alloc ?_ _)); exact BK864.out) hb); have n1_ := Aside0.mk (below_step (by repeat ((with_reducible first | exact HB.out))) hb); have n2_ := Aside0.mk (hbox); have n3_ := Aside0.mk ((by rw [hg]; exact (below_size (by repeat ((with_reducible first | exact HB.out)))) : w.heap.size ≤ gb866)); have n4_ := Aside0.mk ((by rw [hg]; exact (below_size (by repeat ((with_reducible first | exact HB.out)))) : w.heap.size ≤ gb866)); have n5_ := Aside0.mk ((by rw [hg]; exact Nat.ne_of_lt (blk_lt (g := gb864) (o := .cells #[.slice A0_0 l0_0.length c0_0, .slice A0_1 l0_1.length c0_1] 31 (0, 0)) (by (with_reducible repeat (first | refine blk_drewN ?_ _ | refine blk_drew ?_ | refine blk_alloc ?_ _)); exact BK864.out)) : gb864 ≠ gb866)); have n6_ := Aside0.mk ((by rw [hg]; exact Nat.ne_of_gt (blk_lt (g := gb864) (o := .cells #[.slice A0_0 l0_0.length c0_0, .slice A0_1 l0_1.length c0_1] 31 (0, 0)) (by (with_reducible repeat (first | refine blk_drewN ?_ _ | refine blk_drew ?_ | refine blk_alloc ?_ _)); exact BK864.out)) : gb866 ≠ gb864)); clear BK864; clear HB; have BK864 := n0_; have HB := n1_; have BK866 := n2_; have GW866 := n3_; have GE866 := n4_; have NB864_866 := n5_; have NB866_864 := n6_; clear n0_ n1_ n2_ n3_ n4_ n5_ n6_; clear hb hbox hg; have hnb12 := NB866_864.out; have hnc12 := NB864_866.out; have hcz13_0 : w11.cell? ⟨gb866, 0, none⟩ = some (.int .i64 0) := (blk_cell BK866.out 0).trans rfl; have hcz13_1 : w11.cell? ⟨gb866, 1, none⟩ = some (.slice none 0 0) := (blk_cell BK866.out 1).trans rfl; have hcz13_2 : w11.cell? ⟨gb866, 2, none⟩ = some (.int .i64 0) := (blk_cell BK866.out 2).trans rfl; have hfz13_0 := blk_frozen BK866.out 0; have hfz13_1 := blk_frozen BK866.out 1; have hfz13_2 := blk_frozen BK866.out 2))
  go_ret
  exact ⟨by first | rfl, by repeat ((with_reducible first | exact HB.out | refine below_set ?_ GE866.out))⟩
 rw [if_neg c9] at H
 have c9b0 : (((rd_T79 l1 (ji6)).f0) == 1) = false := beq_eq_false_iff_ne.mpr c9
 have c9b1 : (((rd_T79 l1 (ji6)).f0) != 1) = true := bne_iff_ne.mpr c9
 have HC14 := Aside0.mk H
 clear H
 go_enter Try.func123, Try.ntmps123
 go_upto_region 7 with (first | ((with_reducible refine gate_dst (N := 3) rfl ?_); refine box_event ?hg (N := 3) ?hd (cs := #[.slice A0_0 l0_0.length c0_0, .slice A0_1 l0_1.length c0_1]) (t := 31) ?hr ?_; (case hd => rfl); (case hg => rfl); (case hr => first | (go_simp; done)); intro gb864 hg w15 hbox hb; have n0_ := Aside0.mk (below_step bw_ hb); have n1_ := Aside0.mk (hbox); have n2_ := Aside0.mk ((by rw [hg]; exact (below_size bw_) : w.heap.size ≤ gb864)); have n3_ := Aside0.mk ((by rw [hg]; exact (below_size bw_) : w.heap.size ≤ gb864)); clear HB; have HB := n0_; have BK864 := n1_; have GW864 := n2_; have GE864 := n3_; clear n0_ n1_ n2_ n3_; clear hb hbox hg; have p865 : 0 ≤ ((ji6) : Int) := of_decide_eq_true as_; have q865 : (ji6) < (l1.length : Int) := of_decide_eq_true as_; obtain ⟨ad865, A865_1, c865_1, e865, hx865_0, hx865_1, hx865_2, hl865_1, hi865_1⟩ := at_T79 HR1.out (ji6) p865 q865; cases e865; replace hx865_0 := (HB.out.cell (World.block_lt_of_cell? w _ hx865_0)).trans hx865_0; replace hx865_1 := (HB.out.cell (World.block_lt_of_cell? w _ hx865_1)).trans hx865_1; replace hx865_2 := (HB.out.cell (World.block_lt_of_cell? w _ hx865_2)).trans hx865_2; have HR865_1 := Aside0.mk hi865_1; have HC865_1 := Aside0.mk hl865_1; clear hi865_1 hl865_1; replace p865 := eq_true p865; replace q865 := eq_true q865) | ((with_reducible refine gate_dst (N := 8) rfl ?_); refine box_event ?hg (N := 8) ?hd (cs := #[.int .i64 0, .slice none 0 0, .int .i64 0]) (t := 79) ?hr ?_; (case hd => rfl); (case hg => rfl); (case hr => first | (go_simp; done)); intro gb866 hg w16 hbox hb; have n0_ := Aside0.mk (blk_below (g := gb864) (o := .cells #[.slice A0_0 l0_0.length c0_0, .slice A0_1 l0_1.length c0_1] 31 (0, 0)) (by (with_reducible repeat (first | refine blk_drewN ?_ _ | refine blk_drew ?_ | refine blk_alloc ?_ _)); exact BK864.out) hb); have n1_ := Aside0.mk (below_step (by repeat ((with_reducible first | exact HB.out))) hb); have n2_ := Aside0.mk (hbox); have n3_ := Aside0.mk ((by rw [hg]; exact (below_size (by repeat ((with_reducible first | exact HB.out)))) : w.heap.size ≤ gb866)); have n4_ := Aside0.mk ((by rw [hg]; exact (below_size (by repeat ((with_reducible first | exact HB.out)))) : w.heap.size ≤ gb866)); have n5_ := Aside0.mk ((by rw [hg]; exact Nat.ne_of_lt (blk_lt (g := gb864) (o := .cells #[.slice A0_0 l0_0.length c0_0, .slice A0_1 l0_1.length c0_1] 31 (0, 0)) (by (with_reducible repeat (first | refine blk_drewN ?_ _ | refine blk_drew ?_ | refine blk_alloc ?_ _)); exact BK864.out)) : gb864 ≠ gb866)); have n6_ := Aside0.mk ((by rw [hg]; exact Nat.ne_of_gt (blk_lt (g := gb864) (o := .cells #[.slice A0_0 l0_0.length c0_0, .slice A0_1 l0_1.length c0_1] 31 (0, 0)) (by (with_reducible repeat (first | refine blk_drewN ?_ _ | refine blk_drew ?_ | refine blk_alloc ?_ _)); exact BK864.out)) : gb866 ≠ gb864)); clear BK864; clear HB; have BK864 := n0_; have HB := n1_; have BK866 := n2_; have GW866 := n3_; have GE866 := n4_; have NB864_866 := n5_; have NB866_864 := n6_; clear n0_ n1_ n2_ n3_ n4_ n5_ n6_; clear hb hbox hg; have hnb17 := NB866_864.out; have hnc17 := NB864_866.out; have hcz18_0 : w16.cell? ⟨gb866, 0, none⟩ = some (.int .i64 0) := (blk_cell BK866.out 0).trans rfl; have hcz18_1 : w16.cell? ⟨gb866, 1, none⟩ = some (.slice none 0 0) := (blk_cell BK866.out 1).trans rfl; have hcz18_2 : w16.cell? ⟨gb866, 2, none⟩ = some (.int .i64 0) := (blk_cell BK866.out 2).trans rfl; have hfz18_0 := blk_frozen BK866.out 0; have hfz18_1 := blk_frozen BK866.out 1; have hfz18_2 := blk_frozen BK866.out 2))
 (try simp only [Act.put, List.setIfInBounds_toArray, List.set_cons_zero, List.set_cons_succ])
 go_cut [31] (fun v31 wc => ∃ (kq : Nat) (x31_13 : Bool), v31 = .bool x31_13 ∧ Aside0 (spec_l3null.j0 kq l1 l2 (l1.length : Int) x31_13 l0_0 l0_1 ((rd_T79 l1 (ji6)).f0) ((rd_T79 l1 (ji6)).f1) ((rd_T79 l1 (ji6)).f2) = some r) ∧ Aside0 (kq ≤ k) ∧ Aside0 (wc.heap[gb864]? = some (.cells #[(.slice A0_0 l0_0.length c0_0), (.slice A0_1 l0_1.length c0_1)] 31 (0, 0))) ∧ Aside0 (wc.heap[gb866]? = some (.cells #[.int .i64 ((rd_T79 l1 (ji6)).f0), (.slice A865_1 ((rd_T79 l1 (ji6)).f1).length c865_1), .int .i64 ((rd_T79 l1 (ji6)).f2)] 79 (0, 0))) ∧ Aside0 (Below w.heap.size w wc))
 case first =>
  have H := HC14.out
  clear HC14
  by_cases c19 : ((rd_T79 l1 (ji6)).f0) = 2
  ·rw [if_pos c19] at H
   have c19b0 : (((rd_T79 l1 (ji6)).f0) == 2) = true := beq_iff_eq.mpr c19
   have c19b1 : (((rd_T79 l1 (ji6)).f0) != 2) = false := bne_eq_false_iff_eq.mpr c19
   clear c19
   (skip)
   have H' := Aside0.mk H
   clear H
   have hnb20 := NB866_864.out
   have hnc20 := NB864_866.out
   have hcz21_0 : w16.cell? ⟨gb866, 0, none⟩ = some (.int .i64 0) := (blk_cell BK866.out 0).trans rfl
   have hcz21_1 : w16.cell? ⟨gb866, 1, none⟩ = some (.slice none 0 0) := (blk_cell BK866.out 1).trans rfl
   have hcz21_2 : w16.cell? ⟨gb866, 2, none⟩ = some (.int .i64 0) := (blk_cell BK866.out 2).trans rfl
   have hfz21_0 := blk_frozen BK866.out 0
   have hfz21_1 := blk_frozen BK866.out 1
   have hfz21_2 := blk_frozen BK866.out 2
   go_wp2
   go_meet
   case rel => exact ⟨_, (true), (by first | rfl), H', ⟨by first | omega⟩, ⟨by (with_reducible repeat (first | refine blk_drewN ?_ _ | refine blk_drew ?_ | refine blk_alloc ?_ _)); refine blk_far ?_ NB864_866.out _; (with_reducible repeat (first | refine blk_drewN ?_ _ | refine blk_drew ?_ | refine blk_alloc ?_ _)); refine blk_far ?_ NB864_866.out _; (with_reducible repeat (first | refine blk_drewN ?_ _ | refine blk_drew ?_ | refine blk_alloc ?_ _)); refine blk_far ?_ NB864_866.out _; (with_reducible repeat (first | refine blk_drewN ?_ _ | refine blk_drew ?_ | refine blk_alloc ?_ _)); exact BK864.out⟩, ⟨by (with_reducible repeat (first | refine blk_drewN ?_ _ | refine blk_drew ?_ | refine blk_alloc ?_ _)); refine blk_put (cs := #[.int .i64 ((rd_T79 l1 (ji6)).f0), .slice A865_1 ((rd_T79 l1 (ji6)).f1).length c865_1, .int .i64 0]) ?_ 2 _ rfl; (with_reducible repeat (first | refine blk_drewN ?_ _ | refine blk_drew ?_ | refine blk_alloc ?_ _)); refine blk_put (cs := #[.int .i64 ((rd_T79 l1 (ji6)).f0), .slice none 0 0, .int .i64 0]) ?_ 1 _ rfl; (with_reducible repeat (first | refine blk_drewN ?_ _ | refine blk_drew ?_ | refine blk_alloc ?_ _)); refine blk_put (cs := #[.int .i64 0, .slice none 0 0, .int .i64 0]) ?_ 0 _ rfl; (with_reducible repeat (first | refine blk_drewN ?_ _ | refine blk_drew ?_ | refine blk_alloc ?_ _)); exact BK866.out⟩, ⟨by repeat ((with_reducible first | exact HB.out | refine below_set ?_ GE866.out))⟩⟩
  rw [if_neg c19] at H
  have c19b0 : (((rd_T79 l1 (ji6)).f0) == 2) = false := beq_eq_false_iff_ne.mpr c19
  have c19b1 : (((rd_T79 l1 (ji6)).f0) != 2) = true := bne_iff_ne.mpr c19
  (skip)
  have H' := Aside0.mk H
  clear H
  have hnb22 := NB866_864.out
  have hnc22 := NB864_866.out
  have hcz23_0 : w16.cell? ⟨gb866, 0, none⟩ = some (.int .i64 0) := (blk_cell BK866.out 0).trans rfl
  have hcz23_1 : w16.cell? ⟨gb866, 1, none⟩ = some (.slice none 0 0) := (blk_cell BK866.out 1).trans rfl
  have hcz23_2 : w16.cell? ⟨gb866, 2, none⟩ = some (.int .i64 0) := (blk_cell BK866.out 2).trans rfl
  have hfz23_0 := blk_frozen BK866.out 0
  have hfz23_1 := blk_frozen BK866.out 1
  have hfz23_2 := blk_frozen BK866.out 2
  go_wp2
  go_meet
  case rel => exact ⟨_, ((((rd_T79 l1 (ji6)).f0) == 3)), (by first | rfl), H', ⟨by first | omega⟩, ⟨by (with_reducible repeat (first | refine blk_drewN ?_ _ | refine blk_drew ?_ | refine blk_alloc ?_ _)); refine blk_far ?_ NB864_866.out _; (with_reducible repeat (first | refine blk_drewN ?_ _ | refine blk_drew ?_ | refine blk_alloc ?_ _)); refine blk_far ?_ NB864_866.out _; (with_reducible repeat (first | refine blk_drewN ?_ _ | refine blk_drew ?_ | refine blk_alloc ?_ _)); refine blk_far ?_ NB864_866.out _; (with_reducible repeat (first | refine blk_drewN ?_ _ | refine blk_drew ?_ | refine blk_alloc ?_ _)); exact BK864.out⟩, ⟨by (with_reducible repeat (first | refine blk_drewN ?_ _ | refine blk_drew ?_ | refine blk_alloc ?_ _)); refine blk_put (cs := #[.int .i64 ((rd_T79 l1 (ji6)).f0), .slice A865_1 ((rd_T79 l1 (ji6)).f1).length c865_1, .int .i64 0]) ?_ 2 _ rfl; (with_reducible repeat (first | refine blk_drewN ?_ _ | refine blk_drew ?_ | refine blk_alloc ?_ _)); refine blk_put (cs := #[.int .i64 ((rd_T79 l1 (ji6)).f0), .slice none 0 0, .int .i64 0]) ?_ 1 _ rfl; (with_reducible repeat (first | refine blk_drewN ?_ _ | refine blk_drew ?_ | refine blk_alloc ?_ _)); refine blk_put (cs := #[.int .i64 0, .slice none 0 0, .int .i64 0]) ?_ 0 _ rfl; (with_reducible repeat (first | refine blk_drewN ?_ _ | refine blk_drew ?_ | refine blk_alloc ?_ _)); exact BK866.out⟩, ⟨by repeat ((with_reducible first | exact HB.out | refine below_set ?_ GE866.out))⟩⟩
 case rest =>
  clear HC14
  try clear c1
  try clear c2
  try clear p2
  try clear c4
  try clear c4b0
  try clear c4b1
  try clear c4b2
  try clear p6
  try clear c7
  try clear c7b0
  try clear c8
  try clear c8b0
  try clear p8
  try clear q8
  try clear hx8
  try clear c9
  try clear c9b0
  try clear c9b1
  try clear c12
  try clear c17
  try clear c19
  try clear c19b0
  try clear c19b1
  try clear c20
  try clear c22
  try clear hcz13_0
  try clear hcz13_1
  try clear hcz13_2
  try clear hcz18_0
  try clear hcz18_1
  try clear hcz18_2
  try clear hcz21_0
  try clear hcz21_1
  try clear hcz21_2
  try clear hcz23_0
  try clear hcz23_1
  try clear hcz23_2
  try clear hfz13_0
  try clear hfz13_1
  try clear hfz13_2
  try clear hfz18_0
  try clear hfz18_1
  try clear hfz18_2
  try clear hfz21_0
  try clear hfz21_1
  try clear hfz21_2
  try clear hfz23_0
  try clear hfz23_1
  try clear hfz23_2
  try clear hx865_0
  try clear hx865_1
  try clear hx865_2
  try clear p865
  try clear q865
  obtain ⟨kq, x31_13, rfl, HA, HJ13, BK864, BK866, HB⟩ := hcut
  cases kq with
  | zero => exact absurd HA.out (by simp [spec_l3null.j0])
  | succ kj13 =>
   have H := HA.out
   clear HA
   simp only [spec_l3null.j0] at H
   by_cases c24 : x31_13 = true
   ·subst c24
    have H1 : ((spec_l3target.f l0_0 l0_1 ((rd_T79 l1 (ji6)).f0) ((rd_T79 l1 (ji6)).f1) ((rd_T79 l1 (ji6)).f2)).bind fun t867 => (if 0 ≤ t867 then (if t867 < (l2.length : Int) then (some (rdOf false l2 t867)) else (none)) else (none))) = some r := by rw [if_pos rfl] at H; (try simp only [hji6] at H); exact H
    clear H
    have H := H1
    clear H1
    replace H := Option.bind_eq_some_iff.mp H
    obtain ⟨t867, A250, H⟩ := H
    replace H : (if 0 ≤ t867 then (if t867 < (l2.length : Int) then (some (rdOf false l2 t867)) else (none)) else (none)) = some r := H
    have A25 := Aside0.mk A250
    clear A250
    by_cases c26 : 0 ≤ t867
    rotate_left
    ·rw [if_neg c26] at H
     exact absurd H (by simp)
    rw [if_pos c26] at H
    have c26b0 : decide (0 ≤ t867) = true := decide_eq_true c26
    clear c26
    by_cases c27 : t867 < (l2.length : Int)
    rotate_left
    ·rw [if_neg c27] at H
     exact absurd H (by simp)
    rw [if_pos c27] at H
    have c27b0 : decide (t867 < (l2.length : Int)) = true := decide_eq_true c27
    clear c27
    obtain rfl := Option.some.inj H
    have hnb28 := NB864_866.out
    have hnc28 := NB866_864.out
    have hcz29_0 : wc.cell? ⟨gb864, 0, none⟩ = some (.slice A0_0 l0_0.length c0_0) := (blk_cell BK864.out 0).trans rfl
    have hcz29_1 : wc.cell? ⟨gb864, 1, none⟩ = some (.slice A0_1 l0_1.length c0_1) := (blk_cell BK864.out 1).trans rfl
    have hfz29_0 := blk_frozen BK864.out 0
    have hfz29_1 := blk_frozen BK864.out 1
    have hcz30_0 : wc.cell? ⟨gb866, 0, none⟩ = some (.int .i64 ((rd_T79 l1 (ji6)).f0)) := (blk_cell BK866.out 0).trans rfl
    have hcz30_1 : wc.cell? ⟨gb866, 1, none⟩ = some (.slice A865_1 ((rd_T79 l1 (ji6)).f1).length c865_1) := (blk_cell BK866.out 1).trans rfl
    have hcz30_2 : wc.cell? ⟨gb866, 2, none⟩ = some (.int .i64 ((rd_T79 l1 (ji6)).f2)) := (blk_cell BK866.out 2).trans rfl
    have hfz30_0 := blk_frozen BK866.out 0
    have hfz30_1 := blk_frozen BK866.out 1
    have hfz30_2 := blk_frozen BK866.out 2
    go_wp2_with (first | ((with_reducible refine gate_callee (f := 128) rfl ?_); refine goesL_ (some 35) rfl rfl Try.func128 (by kernel_rfl) rfl #[.agg #[.slice A0_0 l0_0.length c0_0, .slice A0_1 l0_1.length c0_1], .agg #[.int .i64 ((rd_T79 l1 (ji6)).f0), .slice A865_1 ((rd_T79 l1 (ji6)).f1).length c865_1, .int .i64 ((rd_T79 l1 (ji6)).f2)]] rfl (by (try simp only [List.map_toArray, List.map_cons, List.map_nil]); first | rfl) ?_; (with_reducible refine (spec_l3target.calls _ _ l0_0 _ _ l0_1 ((rd_T79 l1 (ji6)).f0) _ _ ((rd_T79 l1 (ji6)).f1) ((rd_T79 l1 (ji6)).f2) t867 _ ?side1 ?side2 ?side3 ?side4 ?side5 ?side6 A25.out).mono ?_); (case side1 => repeat (exact (Kd.C_below HR0_0.out HB.out))); (case side2 => exact HC0_0.out); (case side3 => repeat (exact (Kd.C_below HR0_1.out HB.out))); (case side4 => exact HC0_1.out); (case side5 => repeat (exact (Kd.C_below HR865_1.out HB.out))); (case side6 => exact HC865_1.out); rintro e w31 ⟨rfl, hb⟩; refine ⟨_, rfl, ?_⟩; have n0_ := Aside0.mk (blk_below (g := gb864) (o := .cells #[.slice A0_0 l0_0.length c0_0, .slice A0_1 l0_1.length c0_1] 31 (0, 0)) (by (with_reducible repeat (first | refine blk_drewN ?_ _ | refine blk_drew ?_ | refine blk_alloc ?_ _)); exact BK864.out) hb); have n1_ := Aside0.mk (blk_below (g := gb866) (o := .cells #[.int .i64 ((rd_T79 l1 (ji6)).f0), .slice A865_1 ((rd_T79 l1 (ji6)).f1).length c865_1, .int .i64 ((rd_T79 l1 (ji6)).f2)] 79 (0, 0)) (by (with_reducible repeat (first | refine blk_drewN ?_ _ | refine blk_drew ?_ | refine blk_alloc ?_ _)); exact BK866.out) hb); have n2_ := Aside0.mk (below_step (by repeat ((with_reducible first | exact HB.out))) hb); clear BK864; clear BK866; clear HB; have BK864 := n0_; have BK866 := n1_; have HB := n2_; clear n0_ n1_ n2_; (try clear hb); (try clear hb2); (try clear hk); (try clear hi); have p868 : 0 ≤ (t867 : Int) := of_decide_eq_true as_; have q868 : t867 < (l2.length : Int) := of_decide_eq_true as_; obtain ⟨ad868, e868, hx868_0⟩ := Kd.at_bool HR2.out t867 p868 q868; cases e868; replace hx868_0 := (HB.out.cell (World.block_lt_of_cell? w _ hx868_0)).trans hx868_0; replace p868 := eq_true p868; replace q868 := eq_true q868))
    go_ret
    exact ⟨by first | rfl, by repeat ((with_reducible first | exact HB.out))⟩
   replace c24 := Bool.eq_false_iff.mpr c24
   subst c24
   have H1 : (if ((rd_T79 l1 (ji6)).f0) = 4 then (spec_l3null.j1 kj13 l1 l2 (l1.length : Int) true l0_0 l0_1 ((rd_T79 l1 (ji6)).f0) ((rd_T79 l1 (ji6)).f1) ((rd_T79 l1 (ji6)).f2)) else (spec_l3null.j1 kj13 l1 l2 (l1.length : Int) (((rd_T79 l1 (ji6)).f0) == 5) l0_0 l0_1 ((rd_T79 l1 (ji6)).f0) ((rd_T79 l1 (ji6)).f1) ((rd_T79 l1 (ji6)).f2))) = some r := by rw [if_neg (show ¬ (false = true) by decide)] at H; (try simp only [hji6] at H); exact H
   clear H
   have H := H1
   clear H1
   have HC32 := Aside0.mk H
   clear H
   go_upto_region 9 with (fail)
   go_cut [45] (fun v45 wc => ∃ (kq : Nat) (x45_31 : Bool), v45 = .bool x45_31 ∧ Aside0 (spec_l3null.j1 kq l1 l2 (l1.length : Int) x45_31 l0_0 l0_1 ((rd_T79 l1 (ji6)).f0) ((rd_T79 l1 (ji6)).f1) ((rd_T79 l1 (ji6)).f2) = some r) ∧ Aside0 (kq ≤ kj13) ∧ Aside0 (wc.heap[gb864]? = some (.cells #[(.slice A0_0 l0_0.length c0_0), (.slice A0_1 l0_1.length c0_1)] 31 (0, 0))) ∧ Aside0 (wc.heap[gb866]? = some (.cells #[.int .i64 ((rd_T79 l1 (ji6)).f0), (.slice A865_1 ((rd_T79 l1 (ji6)).f1).length c865_1), .int .i64 ((rd_T79 l1 (ji6)).f2)] 79 (0, 0))) ∧ Aside0 (Below w.heap.size w wc))
   case first =>
    have H := HC32.out
    clear HC32
    by_cases c33 : ((rd_T79 l1 (ji6)).f0) = 4
    ·rw [if_pos c33] at H
     have c33b0 : (((rd_T79 l1 (ji6)).f0) == 4) = true := beq_iff_eq.mpr c33
     have c33b1 : (((rd_T79 l1 (ji6)).f0) != 4) = false := bne_eq_false_iff_eq.mpr c33
     clear c33
     (skip)
     have H' := Aside0.mk H
     clear H
     have hnb34 := NB866_864.out
     have hnc34 := NB864_866.out
     have hcz35_0 : wc.cell? ⟨gb866, 0, none⟩ = some (.int .i64 ((rd_T79 l1 (ji6)).f0)) := (blk_cell BK866.out 0).trans rfl
     have hcz35_1 : wc.cell? ⟨gb866, 1, none⟩ = some (.slice A865_1 ((rd_T79 l1 (ji6)).f1).length c865_1) := (blk_cell BK866.out 1).trans rfl
     have hcz35_2 : wc.cell? ⟨gb866, 2, none⟩ = some (.int .i64 ((rd_T79 l1 (ji6)).f2)) := (blk_cell BK866.out 2).trans rfl
     have hfz35_0 := blk_frozen BK866.out 0
     have hfz35_1 := blk_frozen BK866.out 1
     have hfz35_2 := blk_frozen BK866.out 2
     go_wp2
     go_meet
     case rel => exact ⟨_, (true), (by first | rfl), H', ⟨by have := HJ13.out; first | omega⟩, ⟨by (with_reducible repeat (first | refine blk_drewN ?_ _ | refine blk_drew ?_ | refine blk_alloc ?_ _)); exact BK864.out⟩, ⟨by (with_reducible repeat (first | refine blk_drewN ?_ _ | refine blk_drew ?_ | refine blk_alloc ?_ _)); exact BK866.out⟩, ⟨by repeat ((with_reducible first | exact HB.out))⟩⟩
    rw [if_neg c33] at H
    have c33b0 : (((rd_T79 l1 (ji6)).f0) == 4) = false := beq_eq_false_iff_ne.mpr c33
    have c33b1 : (((rd_T79 l1 (ji6)).f0) != 4) = true := bne_iff_ne.mpr c33
    (skip)
    have H' := Aside0.mk H
    clear H
    have hnb36 := NB866_864.out
    have hnc36 := NB864_866.out
    have hcz37_0 : wc.cell? ⟨gb866, 0, none⟩ = some (.int .i64 ((rd_T79 l1 (ji6)).f0)) := (blk_cell BK866.out 0).trans rfl
    have hcz37_1 : wc.cell? ⟨gb866, 1, none⟩ = some (.slice A865_1 ((rd_T79 l1 (ji6)).f1).length c865_1) := (blk_cell BK866.out 1).trans rfl
    have hcz37_2 : wc.cell? ⟨gb866, 2, none⟩ = some (.int .i64 ((rd_T79 l1 (ji6)).f2)) := (blk_cell BK866.out 2).trans rfl
    have hfz37_0 := blk_frozen BK866.out 0
    have hfz37_1 := blk_frozen BK866.out 1
    have hfz37_2 := blk_frozen BK866.out 2
    go_wp2
    go_meet
    case rel => exact ⟨_, ((((rd_T79 l1 (ji6)).f0) == 5)), (by first | rfl), H', ⟨by have := HJ13.out; first | omega⟩, ⟨by (with_reducible repeat (first | refine blk_drewN ?_ _ | refine blk_drew ?_ | refine blk_alloc ?_ _)); exact BK864.out⟩, ⟨by (with_reducible repeat (first | refine blk_drewN ?_ _ | refine blk_drew ?_ | refine blk_alloc ?_ _)); exact BK866.out⟩, ⟨by repeat ((with_reducible first | exact HB.out))⟩⟩
   case rest =>
    clear HC32
    try clear c1
    try clear c2
    try clear p2
    try clear c3
    try clear c4
    try clear c4b0
    try clear c4b1
    try clear c4b2
    try clear p6
    try clear c7
    try clear c7b0
    try clear c8
    try clear c8b0
    try clear p8
    try clear q8
    try clear hx8
    try clear c9
    try clear c9b0
    try clear c9b1
    try clear c12
    try clear c17
    try clear c19
    try clear c19b0
    try clear c19b1
    try clear c20
    try clear c22
    try clear c24
    try clear c26
    try clear c26b0
    try clear c27
    try clear c27b0
    try clear c28
    try clear c33
    try clear c33b0
    try clear c33b1
    try clear c34
    try clear c36
    try clear hcz13_0
    try clear hcz13_1
    try clear hcz13_2
    try clear hcz18_0
    try clear hcz18_1
    try clear hcz18_2
    try clear hcz21_0
    try clear hcz21_1
    try clear hcz21_2
    try clear hcz23_0
    try clear hcz23_1
    try clear hcz23_2
    try clear hcz29_0
    try clear hcz29_1
    try clear hcz30_0
    try clear hcz30_1
    try clear hcz30_2
    try clear hcz35_0
    try clear hcz35_1
    try clear hcz35_2
    try clear hcz37_0
    try clear hcz37_1
    try clear hcz37_2
    try clear hfz13_0
    try clear hfz13_1
    try clear hfz13_2
    try clear hfz18_0
    try clear hfz18_1
    try clear hfz18_2
    try clear hfz21_0
    try clear hfz21_1
    try clear hfz21_2
    try clear hfz23_0
    try clear hfz23_1
    try clear hfz23_2
    try clear hfz29_0
    try clear hfz29_1
    try clear hfz30_0
    try clear hfz30_1
    try clear hfz30_2
    try clear hfz35_0
    try clear hfz35_1
    try clear hfz35_2
    try clear hfz37_0
    try clear hfz37_1
    try clear hfz37_2
    try clear hx865_0
    try clear hx865_1
    try clear hx865_2
    try clear hx868_0
    try clear p2
    try clear p6
    try clear p8
    try clear p865
    try clear p868
    try clear q8
    try clear q865
    try clear q868
    obtain ⟨kq, x45_31, rfl, HA, HJ31, BK864, BK866, HB⟩ := hcut
    cases kq with
    | zero => exact absurd HA.out (by simp [spec_l3null.j1])
    | succ kj31 =>
     have H := HA.out
     clear HA
     simp only [spec_l3null.j1] at H
     by_cases c38 : x45_31 = true
     rotate_left
     ·replace c38 := Bool.eq_false_iff.mpr c38
      subst c38
      have H1 : (some true) = some r := by rw [if_neg (show ¬ (false = true) by decide)] at H; (try simp only [hji6] at H); exact H
      clear H
      have H := H1
      clear H1
      obtain rfl := Option.some.inj H
      go_wp2
      go_ret
      exact ⟨by first | rfl, by repeat ((with_reducible first | exact HB.out))⟩
     subst c38
     have H1 : ((spec_l2start.f kj31 l1 (ji6)).bind fun t869 => (if 0 ≤ t869 then (if t869 ≤ (ji6) then (if (ji6) ≤ (l1.length : Int) then ((spec_l3null.f kj31 l0_0 l0_1 ((l1.take ((ji6) : Int).toNat).drop (t869 : Int).toNat) l2).bind fun t874 => (if ((rd_T79 l1 (ji6)).f0) = 4 then (if t874 = true then (if t869 ≤ (l1.length : Int) then ((spec_l3null.f kj31 l0_0 l0_1 (l1.take (t869 : Int).toNat) l2).bind fun t879 => (some t879)) else (none)) else (some false)) else (if t874 = true then (some true) else (if t869 ≤ (l1.length : Int) then ((spec_l3null.f kj31 l0_0 l0_1 (l1.take (t869 : Int).toNat) l2).bind fun t884 => (some t884)) else (none))))) else (none)) else (none)) else (none))) = some r := by rw [if_pos rfl] at H; (try simp only [hji6] at H); exact H
     clear H
     have H := H1
     clear H1
     replace H := Option.bind_eq_some_iff.mp H
     obtain ⟨t869, A390, H⟩ := H
     replace H : (if 0 ≤ t869 then (if t869 ≤ (ji6) then (if (ji6) ≤ (l1.length : Int) then ((spec_l3null.f kj31 l0_0 l0_1 ((l1.take ((ji6) : Int).toNat).drop (t869 : Int).toNat) l2).bind fun t874 => (if ((rd_T79 l1 (ji6)).f0) = 4 then (if t874 = true then (if t869 ≤ (l1.length : Int) then ((spec_l3null.f kj31 l0_0 l0_1 (l1.take (t869 : Int).toNat) l2).bind fun t879 => (some t879)) else (none)) else (some false)) else (if t874 = true then (some true) else (if t869 ≤ (l1.length : Int) then ((spec_l3null.f kj31 l0_0 l0_1 (l1.take (t869 : Int).toNat) l2).bind fun t884 => (some t884)) else (none))))) else (none)) else (none)) else (none)) = some r := H
     have A39 := Aside0.mk A390
     clear A390
     by_cases c40 : 0 ≤ t869
     rotate_left
     ·rw [if_neg c40] at H
      exact absurd H (by simp)
     rw [if_pos c40] at H
     have c40b0 := eq_true c40
     have c40b1 : decide (0 ≤ t869) = true := decide_eq_true c40
     clear c40
     by_cases c41 : t869 ≤ (ji6)
     rotate_left
     ·rw [if_neg c41] at H
      exact absurd H (by simp)
     rw [if_pos c41] at H
     have c41b0 := eq_true c41
     have c41b1 : decide (t869 ≤ (ji6)) = true := decide_eq_true c41
     clear c41
     by_cases c42 : (ji6) ≤ (l1.length : Int)
     rotate_left
     ·rw [if_neg c42] at H
      exact absurd H (by simp)
     rw [if_pos c42] at H
     have c42b0 := eq_true c42
     have c42b1 : decide ((ji6) ≤ (l1.length : Int)) = true := decide_eq_true c42
     clear c42
     obtain ⟨y870, hy870⟩ : ∃ y_ : List (S79), y_ = ((l1.take ((ji6) : Int).toNat).drop (t869 : Int).toNat) := ⟨_, rfl⟩
     replace H : ((spec_l3null.f kj31 l0_0 l0_1 y870 l2).bind fun t874 => (if ((rd_T79 l1 (ji6)).f0) = 4 then (if t874 = true then (if t869 ≤ (l1.length : Int) then ((spec_l3null.f kj31 l0_0 l0_1 (l1.take (t869 : Int).toNat) l2).bind fun t879 => (some t879)) else (none)) else (some false)) else (if t874 = true then (some true) else (if t869 ≤ (l1.length : Int) then ((spec_l3null.f kj31 l0_0 l0_1 (l1.take (t869 : Int).toNat) l2).bind fun t884 => (some t884)) else (none))))) = some r := by first | (rw [hy870]; with_reducible exact H)
     have Ny870 := Aside0.mk hy870
     clear hy870
     replace H := Option.bind_eq_some_iff.mp H
     obtain ⟨t874, A430, H⟩ := H
     replace H : (if ((rd_T79 l1 (ji6)).f0) = 4 then (if t874 = true then (if t869 ≤ (l1.length : Int) then ((spec_l3null.f kj31 l0_0 l0_1 (l1.take (t869 : Int).toNat) l2).bind fun t879 => (some t879)) else (none)) else (some false)) else (if t874 = true then (some true) else (if t869 ≤ (l1.length : Int) then ((spec_l3null.f kj31 l0_0 l0_1 (l1.take (t869 : Int).toNat) l2).bind fun t884 => (some t884)) else (none)))) = some r := H
     have A43 := Aside0.mk A430
     clear A430
     by_cases c44 : ((rd_T79 l1 (ji6)).f0) = 4
     ·rw [if_pos c44] at H
      have c44b0 : (((rd_T79 l1 (ji6)).f0) == 4) = true := beq_iff_eq.mpr c44
      have c44b1 : (((rd_T79 l1 (ji6)).f0) != 4) = false := bne_eq_false_iff_eq.mpr c44
      clear c44
      by_cases c45 : t874 = true
      rotate_left
      ·replace c45 := Bool.eq_false_iff.mpr c45
       subst c45
       have H1 : (some false) = some r := by rw [if_neg (show ¬ (false = true) by decide)] at H; (try simp only [hji6] at H); exact H
       clear H
       have H := H1
       clear H1
       obtain rfl := Option.some.inj H
       try go_wp2_with (first | ((with_reducible refine gate_callee (f := 129) rfl ?_); refine goesL_ (some 49) rfl rfl Try.func129 (by kernel_rfl) rfl #[.slice (some ad865) l1.length c1, .int .i64 (ji6)] rfl ml_ ?_; (with_reducible refine (spec_l2start.calls kj31 _ _ l1 (ji6) t869 _ ?side1 ?side2 A39.out).mono ?_); (case side1 => repeat (exact (Kd.C_below HR1.out HB.out))); (case side2 => exact HC1.out); rintro e w' ⟨rfl, ⟨nd, rfl⟩⟩; refine ⟨_, rfl, ?_⟩))
       (try (rw [drewN_self wc]; generalize hq_ : World.drewN wc _ = wc; have n0_ : Aside0 (wc.heap[gb864]? = some (.cells #[.slice A0_0 l0_0.length c0_0, .slice A0_1 l0_1.length c0_1] 31 (0, 0))) := ⟨by rw [← hq_]; exact (by (with_reducible repeat (refine blk_drewN ?_ _)); exact BK864.out)⟩; have n1_ : Aside0 (wc.heap[gb866]? = some (.cells #[.int .i64 ((rd_T79 l1 (ji6)).f0), .slice A865_1 ((rd_T79 l1 (ji6)).f1).length c865_1, .int .i64 ((rd_T79 l1 (ji6)).f2)] 79 (0, 0))) := ⟨by rw [← hq_]; exact (by (with_reducible repeat (refine blk_drewN ?_ _)); exact BK866.out)⟩; have n2_ : Aside0 (Below w.heap.size w wc) := ⟨by rw [← hq_]; exact (by repeat ((with_reducible first | exact HB.out | apply pw_below_drewN)))⟩; clear BK864 BK866 HB hq_; have BK864 := n0_; have BK866 := n1_; have HB := n2_; clear n0_ n1_ n2_))
       have n0_ := Aside0.mk (blk_drew BK864.out)
       have n1_ := Aside0.mk (blk_drew BK866.out)
       have n2_ := Aside0.mk (below_drew1 HB.out)
       clear BK864
       clear BK866
       clear HB
       have BK864 := n0_
       have BK866 := n1_
       have HB := n2_
       clear n0_ n1_ n2_
       have q58 : ((ji6) : Int) ≤ ((l1.length : Int) : Int) := of_decide_eq_true as_
       obtain ⟨i058, hi058, _, hsz58, _⟩ := info_parts info79
       have hroom58 : l1.length ≤ c1 := HC1.out
       have hC58 : Kd.C k79 _ (some ad865) l1.length l1 := HR1.out
       have ql58 : (t869 : Int) ≤ ((ji6) : Int) := of_decide_eq_true as_
       have q058 : (0 : Int) ≤ (t869 : Int) := of_decide_eq_true as_
       have hcut58 := cut_mid (P := Try.prog) 66 79 .i64 .i64 Try.underlying66 hi058 3 hsz58 (some ad865) l1.length c1 t869 (ji6) q058 ql58 q58 hroom58
       have hr58 := Kd.C_mid (lo := (t869 : Int).toNat) (hi := ((ji6) : Int).toNat) (c := c1) hC58 (by omega) (by omega) hroom58
       obtain ⟨A58, hA58⟩ : ∃ A1, A1 = (if c1 = (t869 : Int).toNat then (some ad865) else ((some ad865) : Option Addr).map (·.add ((t869 : Int).toNat * 3))) := ⟨_, rfl⟩
       obtain ⟨c58, hc58⟩ : ∃ cz_, cz_ = c1 - (t869 : Int).toNat := ⟨_, rfl⟩
       have hy58 : y870.length = ((ji6) : Int).toNat - (t869 : Int).toNat := (by rw [Ny870.out, List.length_drop, List.length_take] <;> omega)
       rw [show ((l1).take ((ji6) : Int).toNat).drop (t869 : Int).toNat = y870 from Ny870.out.symm] at hr58
       replace hr58 : Kd.C k79 _ A58 y870.length y870 := (by rw [hA58]; exact hr58)
       rw [← hy58, ← hA58, ← hc58] at hcut58
       have HR873 := Aside0.mk hr58
       have HC873 := Aside0.mk (show y870.length ≤ c58 from by rw [hy58, hc58]; exact Nat.sub_le_sub_right (Nat.le_trans (by omega) hroom58) _)
       clear hr58 hC58 hroom58 hi058 hsz58 hc58
       have KY58 := Aside0.mk hy58
       have KA58 := Aside0.mk hA58
       clear hy58 hA58
       replace q58 := eq_true q58
       refine start_ (n := 9) (S := fun w' => w'.cell? ⟨gb864, 0, none⟩ = some (.slice A0_0 l0_0.length c0_0) ∧ w'.cell? ⟨gb864, 1, none⟩ = some (.slice A0_1 l0_1.length c0_1)) (ds := []) #[false, false, false, false, false, false, false, false, false] (by kernel_rfl) rfl rfl ⟨(blk_cell BK864.out 0).trans rfl, (blk_cell BK864.out 1).trans rfl⟩ (fun hHeld => ?_); refine with_tabW spec_l3null.tab11 spec_l3null.bits11 (fun HT_ HW_ => ?_)
       generalize wc.drew = w57 at BK864 BK866 HB HR873 hHeld ⊢
       refine pu_ 1 51 HT_ ?_
       refine pu_ 2 52 HT_ ?_
       refine pu_ 3 53 HT_ ?_
       refine pu_ 4 54 HT_ ?_
       refine pu_ 5 55 HT_ ?_
       refine pu_ 6 56 HT_ ?_
       refine ta_ 0 50 HT_ HW_ hHeld ?_
       refine one_ (i := 7) (N := some 57) #[true, true, true, true, true, true, true, true, false] rfl rfl (one_of HT_.out (by kernel_rfl)) (by decide) (fun K hK => ?_)
       refine goes_ Try.func123 (by kernel_rfl) rfl #[.agg #[.slice A0_0 l0_0.length c0_0, .slice A0_1 l0_1.length c0_1], .slice A58 y870.length c58, .slice A2 l2.length c2] (by rfl) rfl rfl ml_ ?_
       with_reducible refine (ih kj31 (by have := HJ13.out; have := HJ31.out; omega) _ _ l0_0 _ _ l0_1 _ _ y870 _ _ l2 false _ ?side1 ?side2 ?side3 ?side4 ?side5 ?side6 ?side7 ?side8 A43.out).mono ?_
       (case side1 => repeat (exact (Kd.C_below HR0_0.out HB.out)))
       (case side2 => exact HC0_0.out)
       (case side3 => repeat (exact (Kd.C_below HR0_1.out HB.out)))
       (case side4 => exact HC0_1.out)
       (case side5 => repeat (exact (Kd.C_below HR873.out HB.out)))
       (case side6 => exact HC873.out)
       (case side7 => repeat (exact (Kd.C_below HR2.out HB.out)))
       (case side8 => exact HC2.out)
       rintro e w59 ⟨rfl, hb⟩
       refine ⟨_, rfl, ?_⟩
       have n0_ := Aside0.mk (blk_below (g := gb864) (o := .cells #[.slice A0_0 l0_0.length c0_0, .slice A0_1 l0_1.length c0_1] 31 (0, 0)) (by (with_reducible repeat (first | refine blk_drewN ?_ _ | refine blk_drew ?_ | refine blk_alloc ?_ _)); exact BK864.out) hb)
       have n1_ := Aside0.mk (blk_below (g := gb866) (o := .cells #[.int .i64 ((rd_T79 l1 (ji6)).f0), .slice A865_1 ((rd_T79 l1 (ji6)).f1).length c865_1, .int .i64 ((rd_T79 l1 (ji6)).f2)] 79 (0, 0)) (by (with_reducible repeat (first | refine blk_drewN ?_ _ | refine blk_drew ?_ | refine blk_alloc ?_ _)); exact BK866.out) hb)
       have n2_ := Aside0.mk (below_step (by repeat ((with_reducible first | exact HB.out))) hb)
       clear BK864
       clear BK866
       clear HB
       have BK864 := n0_
       have BK866 := n1_
       have HB := n2_
       clear n0_ n1_ n2_
       (try clear hb)
       (try clear hb2)
       (try clear hk)
       (try clear hi)
       refine hK.out _ _ ⟨(blk_cell BK864.out 0).trans rfl, (blk_cell BK864.out 1).trans rfl⟩ (fun hHeld => ?_)
       clear hK K
       refine norm_ (a' := ?_) ?_ ?_
       rotate_left
       ·show Act.put _ (some 57) _ = _
        simp only [Act.put, List.setIfInBounds_toArray, List.set_cons_zero, List.set_cons_succ, i64_w, i32_w]
        rfl
       refine pu_ 8 10 HT_ ?_
       refine done_ (done_of HT_.out (by kernel_rfl)) ?_
       have hnb60 := NB866_864.out
       have hnc60 := NB864_866.out
       have hcz61_0 : w59.cell? ⟨gb866, 0, none⟩ = some (.int .i64 ((rd_T79 l1 (ji6)).f0)) := (blk_cell BK866.out 0).trans rfl
       have hcz61_1 : w59.cell? ⟨gb866, 1, none⟩ = some (.slice A865_1 ((rd_T79 l1 (ji6)).f1).length c865_1) := (blk_cell BK866.out 1).trans rfl
       have hcz61_2 : w59.cell? ⟨gb866, 2, none⟩ = some (.int .i64 ((rd_T79 l1 (ji6)).f2)) := (blk_cell BK866.out 2).trans rfl
       have hfz61_0 := blk_frozen BK866.out 0
       have hfz61_1 := blk_frozen BK866.out 1
       have hfz61_2 := blk_frozen BK866.out 2
       try go_wp2
       have n0_ := Aside0.mk (blk_drew BK864.out)
       have n1_ := Aside0.mk (blk_drew BK866.out)
       have n2_ := Aside0.mk (below_drew1 HB.out)
       clear BK864
       clear BK866
       clear HB
       have BK864 := n0_
       have BK866 := n1_
       have HB := n2_
       clear n0_ n1_ n2_
       refine start_ (n := 10) (S := fun w' => True) (ds := []) #[false, false, false, false, false, false, false, false, false, false] (by kernel_rfl) rfl rfl trivial (fun hHeld => ?_); refine with_tabW spec_l3null.tab13 spec_l3null.bits13 (fun HT_ HW_ => ?_)
       generalize w59.drew = w62 at BK864 BK866 HB hHeld ⊢
       refine pu_ 0 61 HT_ ?_
       refine pu_ 1 62 HT_ ?_
       refine pn_ 2 63 HT_ ?_
       refine pn_ 3 64 HT_ ?_
       refine pn_ 4 65 HT_ ?_
       refine pn_ 5 66 HT_ ?_
       refine pn_ 6 67 HT_ ?_
       refine pn_ 7 68 HT_ ?_
       refine pu_ 8 69 HT_ ?_
       refine pu_ 9 6 HT_ ?_
       refine done_ (done_of HT_.out (by kernel_rfl)) ?_
       try go_wp2
       go_ret
       exact ⟨by first | rfl, by repeat ((with_reducible first | exact HB.out))⟩
      subst c45
      have H1 : (if t869 ≤ (l1.length : Int) then ((spec_l3null.f kj31 l0_0 l0_1 (l1.take (t869 : Int).toNat) l2).bind fun t879 => (some t879)) else (none)) = some r := by rw [if_pos rfl] at H; (try simp only [hji6] at H); exact H
      clear H
      have H := H1
      clear H1
      have c46b0 := eq_true (of_decide_eq_true as_ : 0 ≤ t869)
      by_cases c47 : t869 ≤ (l1.length : Int)
      rotate_left
      ·rw [if_neg c47] at H
       exact absurd H (by simp)
      rw [if_pos c47] at H
      have c47b0 := eq_true c47
      have c47b1 : decide (t869 ≤ (l1.length : Int)) = true := decide_eq_true c47
      clear c47
      obtain ⟨y875, hy875⟩ : ∃ y_ : List (S79), y_ = (l1.take (t869 : Int).toNat) := ⟨_, rfl⟩
      replace H : ((spec_l3null.f kj31 l0_0 l0_1 y875 l2).bind fun t879 => (some t879)) = some r := by first | (rw [hy875]; with_reducible exact H)
      have Ny875 := Aside0.mk hy875
      clear hy875
      replace H := Option.bind_eq_some_iff.mp H
      obtain ⟨t879, A480, H⟩ := H
      replace H : (some t879) = some r := H
      have A48 := Aside0.mk A480
      clear A480
      obtain rfl := Option.some.inj H
      try go_wp2_with (first | ((with_reducible refine gate_callee (f := 129) rfl ?_); refine goesL_ (some 49) rfl rfl Try.func129 (by kernel_rfl) rfl #[.slice (some ad865) l1.length c1, .int .i64 (ji6)] rfl ml_ ?_; (with_reducible refine (spec_l2start.calls kj31 _ _ l1 (ji6) t869 _ ?side1 ?side2 A39.out).mono ?_); (case side1 => repeat (exact (Kd.C_below HR1.out HB.out))); (case side2 => exact HC1.out); rintro e w' ⟨rfl, ⟨nd, rfl⟩⟩; refine ⟨_, rfl, ?_⟩))
      (try (rw [drewN_self wc]; generalize hq_ : World.drewN wc _ = wc; have n0_ : Aside0 (wc.heap[gb864]? = some (.cells #[.slice A0_0 l0_0.length c0_0, .slice A0_1 l0_1.length c0_1] 31 (0, 0))) := ⟨by rw [← hq_]; exact (by (with_reducible repeat (refine blk_drewN ?_ _)); exact BK864.out)⟩; have n1_ : Aside0 (wc.heap[gb866]? = some (.cells #[.int .i64 ((rd_T79 l1 (ji6)).f0), .slice A865_1 ((rd_T79 l1 (ji6)).f1).length c865_1, .int .i64 ((rd_T79 l1 (ji6)).f2)] 79 (0, 0))) := ⟨by rw [← hq_]; exact (by (with_reducible repeat (refine blk_drewN ?_ _)); exact BK866.out)⟩; have n2_ : Aside0 (Below w.heap.size w wc) := ⟨by rw [← hq_]; exact (by repeat ((with_reducible first | exact HB.out | apply pw_below_drewN)))⟩; clear BK864 BK866 HB hq_; have BK864 := n0_; have BK866 := n1_; have HB := n2_; clear n0_ n1_ n2_))
      have n0_ := Aside0.mk (blk_drew BK864.out)
      have n1_ := Aside0.mk (blk_drew BK866.out)
      have n2_ := Aside0.mk (below_drew1 HB.out)
      clear BK864
      clear BK866
      clear HB
      have BK864 := n0_
      have BK866 := n1_
      have HB := n2_
      clear n0_ n1_ n2_
      have q50 : ((ji6) : Int) ≤ ((l1.length : Int) : Int) := of_decide_eq_true as_
      obtain ⟨i050, hi050, _, hsz50, _⟩ := info_parts info79
      have hroom50 : l1.length ≤ c1 := HC1.out
      have hC50 : Kd.C k79 _ (some ad865) l1.length l1 := HR1.out
      have ql50 : (t869 : Int) ≤ ((ji6) : Int) := of_decide_eq_true as_
      have q050 : (0 : Int) ≤ (t869 : Int) := of_decide_eq_true as_
      have hcut50 := cut_mid (P := Try.prog) 66 79 .i64 .i64 Try.underlying66 hi050 3 hsz50 (some ad865) l1.length c1 t869 (ji6) q050 ql50 q50 hroom50
      have hr50 := Kd.C_mid (lo := (t869 : Int).toNat) (hi := ((ji6) : Int).toNat) (c := c1) hC50 (by omega) (by omega) hroom50
      obtain ⟨A50, hA50⟩ : ∃ A1, A1 = (if c1 = (t869 : Int).toNat then (some ad865) else ((some ad865) : Option Addr).map (·.add ((t869 : Int).toNat * 3))) := ⟨_, rfl⟩
      obtain ⟨c50, hc50⟩ : ∃ cz_, cz_ = c1 - (t869 : Int).toNat := ⟨_, rfl⟩
      have hy50 : y870.length = ((ji6) : Int).toNat - (t869 : Int).toNat := (by rw [Ny870.out, List.length_drop, List.length_take] <;> omega)
      rw [show ((l1).take ((ji6) : Int).toNat).drop (t869 : Int).toNat = y870 from Ny870.out.symm] at hr50
      replace hr50 : Kd.C k79 _ A50 y870.length y870 := (by rw [hA50]; exact hr50)
      rw [← hy50, ← hA50, ← hc50] at hcut50
      have HR873 := Aside0.mk hr50
      have HC873 := Aside0.mk (show y870.length ≤ c50 from by rw [hy50, hc50]; exact Nat.sub_le_sub_right (Nat.le_trans (by omega) hroom50) _)
      clear hr50 hC50 hroom50 hi050 hsz50 hc50
      have KY50 := Aside0.mk hy50
      have KA50 := Aside0.mk hA50
      clear hy50 hA50
      replace q50 := eq_true q50
      refine start_ (n := 9) (S := fun w' => w'.cell? ⟨gb864, 0, none⟩ = some (.slice A0_0 l0_0.length c0_0) ∧ w'.cell? ⟨gb864, 1, none⟩ = some (.slice A0_1 l0_1.length c0_1)) (ds := []) #[false, false, false, false, false, false, false, false, false] (by kernel_rfl) rfl rfl ⟨(blk_cell BK864.out 0).trans rfl, (blk_cell BK864.out 1).trans rfl⟩ (fun hHeld => ?_); refine with_tabW spec_l3null.tab11 spec_l3null.bits11 (fun HT_ HW_ => ?_)
      generalize wc.drew = w49 at BK864 BK866 HB HR873 hHeld ⊢
      refine pu_ 1 51 HT_ ?_
      refine pu_ 2 52 HT_ ?_
      refine pu_ 3 53 HT_ ?_
      refine pu_ 4 54 HT_ ?_
      refine pu_ 5 55 HT_ ?_
      refine pu_ 6 56 HT_ ?_
      refine ta_ 0 50 HT_ HW_ hHeld ?_
      refine one_ (i := 7) (N := some 57) #[true, true, true, true, true, true, true, true, false] rfl rfl (one_of HT_.out (by kernel_rfl)) (by decide) (fun K hK => ?_)
      refine goes_ Try.func123 (by kernel_rfl) rfl #[.agg #[.slice A0_0 l0_0.length c0_0, .slice A0_1 l0_1.length c0_1], .slice A50 y870.length c50, .slice A2 l2.length c2] (by rfl) rfl rfl ml_ ?_
      with_reducible refine (ih kj31 (by have := HJ13.out; have := HJ31.out; omega) _ _ l0_0 _ _ l0_1 _ _ y870 _ _ l2 true _ ?side1 ?side2 ?side3 ?side4 ?side5 ?side6 ?side7 ?side8 A43.out).mono ?_
      (case side1 => repeat (exact (Kd.C_below HR0_0.out HB.out)))
      (case side2 => exact HC0_0.out)
      (case side3 => repeat (exact (Kd.C_below HR0_1.out HB.out)))
      (case side4 => exact HC0_1.out)
      (case side5 => repeat (exact (Kd.C_below HR873.out HB.out)))
      (case side6 => exact HC873.out)
      (case side7 => repeat (exact (Kd.C_below HR2.out HB.out)))
      (case side8 => exact HC2.out)
      rintro e w51 ⟨rfl, hb⟩
      refine ⟨_, rfl, ?_⟩
      have n0_ := Aside0.mk (blk_below (g := gb864) (o := .cells #[.slice A0_0 l0_0.length c0_0, .slice A0_1 l0_1.length c0_1] 31 (0, 0)) (by (with_reducible repeat (first | refine blk_drewN ?_ _ | refine blk_drew ?_ | refine blk_alloc ?_ _)); exact BK864.out) hb)
      have n1_ := Aside0.mk (blk_below (g := gb866) (o := .cells #[.int .i64 ((rd_T79 l1 (ji6)).f0), .slice A865_1 ((rd_T79 l1 (ji6)).f1).length c865_1, .int .i64 ((rd_T79 l1 (ji6)).f2)] 79 (0, 0)) (by (with_reducible repeat (first | refine blk_drewN ?_ _ | refine blk_drew ?_ | refine blk_alloc ?_ _)); exact BK866.out) hb)
      have n2_ := Aside0.mk (below_step (by repeat ((with_reducible first | exact HB.out))) hb)
      clear BK864
      clear BK866
      clear HB
      have BK864 := n0_
      have BK866 := n1_
      have HB := n2_
      clear n0_ n1_ n2_
      (try clear hb)
      (try clear hb2)
      (try clear hk)
      (try clear hi)
      refine hK.out _ _ ⟨(blk_cell BK864.out 0).trans rfl, (blk_cell BK864.out 1).trans rfl⟩ (fun hHeld => ?_)
      clear hK K
      refine norm_ (a' := ?_) ?_ ?_
      rotate_left
      ·show Act.put _ (some 57) _ = _
       simp only [Act.put, List.setIfInBounds_toArray, List.set_cons_zero, List.set_cons_succ, i64_w, i32_w]
       rfl
      refine pu_ 8 10 HT_ ?_
      refine done_ (done_of HT_.out (by kernel_rfl)) ?_
      have hnb52 := NB866_864.out
      have hnc52 := NB864_866.out
      have hcz53_0 : w51.cell? ⟨gb866, 0, none⟩ = some (.int .i64 ((rd_T79 l1 (ji6)).f0)) := (blk_cell BK866.out 0).trans rfl
      have hcz53_1 : w51.cell? ⟨gb866, 1, none⟩ = some (.slice A865_1 ((rd_T79 l1 (ji6)).f1).length c865_1) := (blk_cell BK866.out 1).trans rfl
      have hcz53_2 : w51.cell? ⟨gb866, 2, none⟩ = some (.int .i64 ((rd_T79 l1 (ji6)).f2)) := (blk_cell BK866.out 2).trans rfl
      have hfz53_0 := blk_frozen BK866.out 0
      have hfz53_1 := blk_frozen BK866.out 1
      have hfz53_2 := blk_frozen BK866.out 2
      try go_wp2
      have n0_ := Aside0.mk (blk_drew BK864.out)
      have n1_ := Aside0.mk (blk_drew BK866.out)
      have n2_ := Aside0.mk (below_drew1 HB.out)
      clear BK864
      clear BK866
      clear HB
      have BK864 := n0_
      have BK866 := n1_
      have HB := n2_
      clear n0_ n1_ n2_
      have q55 : (t869 : Int) ≤ ((l1.length : Int) : Int) := of_decide_eq_true as_
      obtain ⟨i055, hi055, _, hsz55, _⟩ := info_parts info79
      have hroom55 : l1.length ≤ c1 := HC1.out
      have hC55 : Kd.C k79 _ (some ad865) l1.length l1 := HR1.out
      have hcut55 := cut_to (P := Try.prog) 66 79 .i64 Try.underlying66 hi055 (some ad865) l1.length c1 t869 (of_decide_eq_true as_) q55 hroom55
      have hr55 := Kd.C_take (m := (t869 : Int).toNat) hC55 (by omega)
      have hy55 : y875.length = (t869 : Int).toNat := (by rw [Ny875.out, List.length_take]; omega)
      rw [← Ny875.out] at hr55
      rw [← hy55] at hcut55
      have HR878 := Aside0.mk hr55
      have HC878 := Aside0.mk (show y875.length ≤ c1 from by omega)
      clear hr55 hC55 hroom55 hi055 hsz55
      have KY55 := Aside0.mk hy55
      clear hy55
      replace q55 := eq_true q55
      refine start_ (n := 10) (S := fun w' => w'.cell? ⟨gb864, 0, none⟩ = some (.slice A0_0 l0_0.length c0_0) ∧ w'.cell? ⟨gb864, 1, none⟩ = some (.slice A0_1 l0_1.length c0_1)) (ds := []) #[false, false, false, false, false, false, false, false, false, false] (by kernel_rfl) rfl rfl ⟨(blk_cell BK864.out 0).trans rfl, (blk_cell BK864.out 1).trans rfl⟩ (fun hHeld => ?_); refine with_tabW spec_l3null.tab13 spec_l3null.bits13 (fun HT_ HW_ => ?_)
      generalize w51.drew = w54 at BK864 BK866 HB HR878 hHeld ⊢
      refine pu_ 0 61 HT_ ?_
      refine pu_ 1 62 HT_ ?_
      refine pu_ 3 64 HT_ ?_
      refine pu_ 4 65 HT_ ?_
      refine pu_ 5 66 HT_ ?_
      refine pu_ 6 67 HT_ ?_
      refine ta_ 2 63 HT_ HW_ hHeld ?_
      refine one_ (i := 7) (N := some 68) #[true, true, true, true, true, true, true, true, false, false] rfl rfl (one_of HT_.out (by kernel_rfl)) (by decide) (fun K hK => ?_)
      refine goes_ Try.func123 (by kernel_rfl) rfl #[.agg #[.slice A0_0 l0_0.length c0_0, .slice A0_1 l0_1.length c0_1], .slice (some ad865) y875.length c1, .slice A2 l2.length c2] (by rfl) rfl rfl ml_ ?_
      with_reducible refine (ih kj31 (by have := HJ13.out; have := HJ31.out; omega) _ _ l0_0 _ _ l0_1 _ _ y875 _ _ l2 t879 _ ?side1 ?side2 ?side3 ?side4 ?side5 ?side6 ?side7 ?side8 A48.out).mono ?_
      (case side1 => repeat (exact (Kd.C_below HR0_0.out HB.out)))
      (case side2 => exact HC0_0.out)
      (case side3 => repeat (exact (Kd.C_below HR0_1.out HB.out)))
      (case side4 => exact HC0_1.out)
      (case side5 => repeat (exact (Kd.C_below HR878.out HB.out)))
      (case side6 => exact HC878.out)
      (case side7 => repeat (exact (Kd.C_below HR2.out HB.out)))
      (case side8 => exact HC2.out)
      rintro e w56 ⟨rfl, hb⟩
      refine ⟨_, rfl, ?_⟩
      have n0_ := Aside0.mk (blk_below (g := gb864) (o := .cells #[.slice A0_0 l0_0.length c0_0, .slice A0_1 l0_1.length c0_1] 31 (0, 0)) (by (with_reducible repeat (first | refine blk_drewN ?_ _ | refine blk_drew ?_ | refine blk_alloc ?_ _)); exact BK864.out) hb)
      have n1_ := Aside0.mk (blk_below (g := gb866) (o := .cells #[.int .i64 ((rd_T79 l1 (ji6)).f0), .slice A865_1 ((rd_T79 l1 (ji6)).f1).length c865_1, .int .i64 ((rd_T79 l1 (ji6)).f2)] 79 (0, 0)) (by (with_reducible repeat (first | refine blk_drewN ?_ _ | refine blk_drew ?_ | refine blk_alloc ?_ _)); exact BK866.out) hb)
      have n2_ := Aside0.mk (below_step (by repeat ((with_reducible first | exact HB.out))) hb)
      clear BK864
      clear BK866
      clear HB
      have BK864 := n0_
      have BK866 := n1_
      have HB := n2_
      clear n0_ n1_ n2_
      (try clear hb)
      (try clear hb2)
      (try clear hk)
      (try clear hi)
      refine hK.out _ _ ⟨(blk_cell BK864.out 0).trans rfl, (blk_cell BK864.out 1).trans rfl⟩ (fun hHeld => ?_)
      clear hK K
      refine norm_ (a' := ?_) ?_ ?_
      rotate_left
      ·show Act.put _ (some 68) _ = _
       simp only [Act.put, List.setIfInBounds_toArray, List.set_cons_zero, List.set_cons_succ, i64_w, i32_w]
       rfl
      refine pu_ 8 69 HT_ ?_
      refine pu_ 9 6 HT_ ?_
      refine done_ (done_of HT_.out (by kernel_rfl)) ?_
      try go_wp2
      go_ret
      exact ⟨by first | rfl, by repeat ((with_reducible first | exact HB.out))⟩
     rw [if_neg c44] at H
     have c44b0 : (((rd_T79 l1 (ji6)).f0) == 4) = false := beq_eq_false_iff_ne.mpr c44
     have c44b1 : (((rd_T79 l1 (ji6)).f0) != 4) = true := bne_iff_ne.mpr c44
     by_cases c63 : t874 = true
     ·subst c63
      have H1 : (some true) = some r := by rw [if_pos rfl] at H; (try simp only [hji6] at H); exact H
      clear H
      have H := H1
      clear H1
      obtain rfl := Option.some.inj H
      try go_wp2_with (first | ((with_reducible refine gate_callee (f := 129) rfl ?_); refine goesL_ (some 49) rfl rfl Try.func129 (by kernel_rfl) rfl #[.slice (some ad865) l1.length c1, .int .i64 (ji6)] rfl ml_ ?_; (with_reducible refine (spec_l2start.calls kj31 _ _ l1 (ji6) t869 _ ?side1 ?side2 A39.out).mono ?_); (case side1 => repeat (exact (Kd.C_below HR1.out HB.out))); (case side2 => exact HC1.out); rintro e w' ⟨rfl, ⟨nd, rfl⟩⟩; refine ⟨_, rfl, ?_⟩))
      (try (rw [drewN_self wc]; generalize hq_ : World.drewN wc _ = wc; have n0_ : Aside0 (wc.heap[gb864]? = some (.cells #[.slice A0_0 l0_0.length c0_0, .slice A0_1 l0_1.length c0_1] 31 (0, 0))) := ⟨by rw [← hq_]; exact (by (with_reducible repeat (refine blk_drewN ?_ _)); exact BK864.out)⟩; have n1_ : Aside0 (wc.heap[gb866]? = some (.cells #[.int .i64 ((rd_T79 l1 (ji6)).f0), .slice A865_1 ((rd_T79 l1 (ji6)).f1).length c865_1, .int .i64 ((rd_T79 l1 (ji6)).f2)] 79 (0, 0))) := ⟨by rw [← hq_]; exact (by (with_reducible repeat (refine blk_drewN ?_ _)); exact BK866.out)⟩; have n2_ : Aside0 (Below w.heap.size w wc) := ⟨by rw [← hq_]; exact (by repeat ((with_reducible first | exact HB.out | apply pw_below_drewN)))⟩; clear BK864 BK866 HB hq_; have BK864 := n0_; have BK866 := n1_; have HB := n2_; clear n0_ n1_ n2_))
      have n0_ := Aside0.mk (blk_drew BK864.out)
      have n1_ := Aside0.mk (blk_drew BK866.out)
      have n2_ := Aside0.mk (below_drew1 HB.out)
      clear BK864
      clear BK866
      clear HB
      have BK864 := n0_
      have BK866 := n1_
      have HB := n2_
      clear n0_ n1_ n2_
      have q65 : ((ji6) : Int) ≤ ((l1.length : Int) : Int) := of_decide_eq_true as_
      obtain ⟨i065, hi065, _, hsz65, _⟩ := info_parts info79
      have hroom65 : l1.length ≤ c1 := HC1.out
      have hC65 : Kd.C k79 _ (some ad865) l1.length l1 := HR1.out
      have ql65 : (t869 : Int) ≤ ((ji6) : Int) := of_decide_eq_true as_
      have q065 : (0 : Int) ≤ (t869 : Int) := of_decide_eq_true as_
      have hcut65 := cut_mid (P := Try.prog) 66 79 .i64 .i64 Try.underlying66 hi065 3 hsz65 (some ad865) l1.length c1 t869 (ji6) q065 ql65 q65 hroom65
      have hr65 := Kd.C_mid (lo := (t869 : Int).toNat) (hi := ((ji6) : Int).toNat) (c := c1) hC65 (by omega) (by omega) hroom65
      obtain ⟨A65, hA65⟩ : ∃ A1, A1 = (if c1 = (t869 : Int).toNat then (some ad865) else ((some ad865) : Option Addr).map (·.add ((t869 : Int).toNat * 3))) := ⟨_, rfl⟩
      obtain ⟨c65, hc65⟩ : ∃ cz_, cz_ = c1 - (t869 : Int).toNat := ⟨_, rfl⟩
      have hy65 : y870.length = ((ji6) : Int).toNat - (t869 : Int).toNat := (by rw [Ny870.out, List.length_drop, List.length_take] <;> omega)
      rw [show ((l1).take ((ji6) : Int).toNat).drop (t869 : Int).toNat = y870 from Ny870.out.symm] at hr65
      replace hr65 : Kd.C k79 _ A65 y870.length y870 := (by rw [hA65]; exact hr65)
      rw [← hy65, ← hA65, ← hc65] at hcut65
      have HR873 := Aside0.mk hr65
      have HC873 := Aside0.mk (show y870.length ≤ c65 from by rw [hy65, hc65]; exact Nat.sub_le_sub_right (Nat.le_trans (by omega) hroom65) _)
      clear hr65 hC65 hroom65 hi065 hsz65 hc65
      have KY65 := Aside0.mk hy65
      have KA65 := Aside0.mk hA65
      clear hy65 hA65
      replace q65 := eq_true q65
      refine start_ (n := 9) (S := fun w' => w'.cell? ⟨gb864, 0, none⟩ = some (.slice A0_0 l0_0.length c0_0) ∧ w'.cell? ⟨gb864, 1, none⟩ = some (.slice A0_1 l0_1.length c0_1)) (ds := []) #[false, false, false, false, false, false, false, false, false] (by kernel_rfl) rfl rfl ⟨(blk_cell BK864.out 0).trans rfl, (blk_cell BK864.out 1).trans rfl⟩ (fun hHeld => ?_); refine with_tabW spec_l3null.tab11 spec_l3null.bits11 (fun HT_ HW_ => ?_)
      generalize wc.drew = w64 at BK864 BK866 HB HR873 hHeld ⊢
      refine pu_ 1 51 HT_ ?_
      refine pu_ 2 52 HT_ ?_
      refine pu_ 3 53 HT_ ?_
      refine pu_ 4 54 HT_ ?_
      refine pu_ 5 55 HT_ ?_
      refine pu_ 6 56 HT_ ?_
      refine ta_ 0 50 HT_ HW_ hHeld ?_
      refine one_ (i := 7) (N := some 57) #[true, true, true, true, true, true, true, true, false] rfl rfl (one_of HT_.out (by kernel_rfl)) (by decide) (fun K hK => ?_)
      refine goes_ Try.func123 (by kernel_rfl) rfl #[.agg #[.slice A0_0 l0_0.length c0_0, .slice A0_1 l0_1.length c0_1], .slice A65 y870.length c65, .slice A2 l2.length c2] (by rfl) rfl rfl ml_ ?_
      with_reducible refine (ih kj31 (by have := HJ13.out; have := HJ31.out; omega) _ _ l0_0 _ _ l0_1 _ _ y870 _ _ l2 true _ ?side1 ?side2 ?side3 ?side4 ?side5 ?side6 ?side7 ?side8 A43.out).mono ?_
      (case side1 => repeat (exact (Kd.C_below HR0_0.out HB.out)))
      (case side2 => exact HC0_0.out)
      (case side3 => repeat (exact (Kd.C_below HR0_1.out HB.out)))
      (case side4 => exact HC0_1.out)
      (case side5 => repeat (exact (Kd.C_below HR873.out HB.out)))
      (case side6 => exact HC873.out)
      (case side7 => repeat (exact (Kd.C_below HR2.out HB.out)))
      (case side8 => exact HC2.out)
      rintro e w66 ⟨rfl, hb⟩
      refine ⟨_, rfl, ?_⟩
      have n0_ := Aside0.mk (blk_below (g := gb864) (o := .cells #[.slice A0_0 l0_0.length c0_0, .slice A0_1 l0_1.length c0_1] 31 (0, 0)) (by (with_reducible repeat (first | refine blk_drewN ?_ _ | refine blk_drew ?_ | refine blk_alloc ?_ _)); exact BK864.out) hb)
      have n1_ := Aside0.mk (blk_below (g := gb866) (o := .cells #[.int .i64 ((rd_T79 l1 (ji6)).f0), .slice A865_1 ((rd_T79 l1 (ji6)).f1).length c865_1, .int .i64 ((rd_T79 l1 (ji6)).f2)] 79 (0, 0)) (by (with_reducible repeat (first | refine blk_drewN ?_ _ | refine blk_drew ?_ | refine blk_alloc ?_ _)); exact BK866.out) hb)
      have n2_ := Aside0.mk (below_step (by repeat ((with_reducible first | exact HB.out))) hb)
      clear BK864
      clear BK866
      clear HB
      have BK864 := n0_
      have BK866 := n1_
      have HB := n2_
      clear n0_ n1_ n2_
      (try clear hb)
      (try clear hb2)
      (try clear hk)
      (try clear hi)
      refine hK.out _ _ ⟨(blk_cell BK864.out 0).trans rfl, (blk_cell BK864.out 1).trans rfl⟩ (fun hHeld => ?_)
      clear hK K
      refine norm_ (a' := ?_) ?_ ?_
      rotate_left
      ·show Act.put _ (some 57) _ = _
       simp only [Act.put, List.setIfInBounds_toArray, List.set_cons_zero, List.set_cons_succ, i64_w, i32_w]
       rfl
      refine pu_ 8 10 HT_ ?_
      refine done_ (done_of HT_.out (by kernel_rfl)) ?_
      have hnb67 := NB866_864.out
      have hnc67 := NB864_866.out
      have hcz68_0 : w66.cell? ⟨gb866, 0, none⟩ = some (.int .i64 ((rd_T79 l1 (ji6)).f0)) := (blk_cell BK866.out 0).trans rfl
      have hcz68_1 : w66.cell? ⟨gb866, 1, none⟩ = some (.slice A865_1 ((rd_T79 l1 (ji6)).f1).length c865_1) := (blk_cell BK866.out 1).trans rfl
      have hcz68_2 : w66.cell? ⟨gb866, 2, none⟩ = some (.int .i64 ((rd_T79 l1 (ji6)).f2)) := (blk_cell BK866.out 2).trans rfl
      have hfz68_0 := blk_frozen BK866.out 0
      have hfz68_1 := blk_frozen BK866.out 1
      have hfz68_2 := blk_frozen BK866.out 2
      try go_wp2
      have n0_ := Aside0.mk (blk_drew BK864.out)
      have n1_ := Aside0.mk (blk_drew BK866.out)
      have n2_ := Aside0.mk (below_drew1 HB.out)
      clear BK864
      clear BK866
      clear HB
      have BK864 := n0_
      have BK866 := n1_
      have HB := n2_
      clear n0_ n1_ n2_
      refine start_ (n := 10) (S := fun w' => True) (ds := []) #[false, false, false, false, false, false, false, false, false, false] (by kernel_rfl) rfl rfl trivial (fun hHeld => ?_); refine with_tabW spec_l3null.tab14 spec_l3null.bits14 (fun HT_ HW_ => ?_)
      generalize w66.drew = w69 at BK864 BK866 HB hHeld ⊢
      refine pu_ 0 70 HT_ ?_
      refine pu_ 1 71 HT_ ?_
      refine pn_ 2 72 HT_ ?_
      refine pn_ 3 73 HT_ ?_
      refine pn_ 4 74 HT_ ?_
      refine pn_ 5 75 HT_ ?_
      refine pn_ 6 76 HT_ ?_
      refine pn_ 7 77 HT_ ?_
      refine pu_ 8 78 HT_ ?_
      refine pu_ 9 6 HT_ ?_
      refine done_ (done_of HT_.out (by kernel_rfl)) ?_
      try go_wp2
      go_ret
      exact ⟨by first | rfl, by repeat ((with_reducible first | exact HB.out))⟩
     replace c63 := Bool.eq_false_iff.mpr c63
     subst c63
     have H1 : (if t869 ≤ (l1.length : Int) then ((spec_l3null.f kj31 l0_0 l0_1 (l1.take (t869 : Int).toNat) l2).bind fun t884 => (some t884)) else (none)) = some r := by rw [if_neg (show ¬ (false = true) by decide)] at H; (try simp only [hji6] at H); exact H
     clear H
     have H := H1
     clear H1
     have c70b0 := eq_true (of_decide_eq_true as_ : 0 ≤ t869)
     by_cases c71 : t869 ≤ (l1.length : Int)
     rotate_left
     ·rw [if_neg c71] at H
      exact absurd H (by simp)
     rw [if_pos c71] at H
     have c71b0 := eq_true c71
     have c71b1 : decide (t869 ≤ (l1.length : Int)) = true := decide_eq_true c71
     clear c71
     obtain ⟨y880, hy880⟩ : ∃ y_ : List (S79), y_ = (l1.take (t869 : Int).toNat) := ⟨_, rfl⟩
     replace H : ((spec_l3null.f kj31 l0_0 l0_1 y880 l2).bind fun t884 => (some t884)) = some r := by first | (rw [hy880]; with_reducible exact H)
     have Ny880 := Aside0.mk hy880
     clear hy880
     replace H := Option.bind_eq_some_iff.mp H
     obtain ⟨t884, A720, H⟩ := H
     replace H : (some t884) = some r := H
     have A72 := Aside0.mk A720
     clear A720
     obtain rfl := Option.some.inj H
     try go_wp2_with (first | ((with_reducible refine gate_callee (f := 129) rfl ?_); refine goesL_ (some 49) rfl rfl Try.func129 (by kernel_rfl) rfl #[.slice (some ad865) l1.length c1, .int .i64 (ji6)] rfl ml_ ?_; (with_reducible refine (spec_l2start.calls kj31 _ _ l1 (ji6) t869 _ ?side1 ?side2 A39.out).mono ?_); (case side1 => repeat (exact (Kd.C_below HR1.out HB.out))); (case side2 => exact HC1.out); rintro e w' ⟨rfl, ⟨nd, rfl⟩⟩; refine ⟨_, rfl, ?_⟩))
     (try (rw [drewN_self wc]; generalize hq_ : World.drewN wc _ = wc; have n0_ : Aside0 (wc.heap[gb864]? = some (.cells #[.slice A0_0 l0_0.length c0_0, .slice A0_1 l0_1.length c0_1] 31 (0, 0))) := ⟨by rw [← hq_]; exact (by (with_reducible repeat (refine blk_drewN ?_ _)); exact BK864.out)⟩; have n1_ : Aside0 (wc.heap[gb866]? = some (.cells #[.int .i64 ((rd_T79 l1 (ji6)).f0), .slice A865_1 ((rd_T79 l1 (ji6)).f1).length c865_1, .int .i64 ((rd_T79 l1 (ji6)).f2)] 79 (0, 0))) := ⟨by rw [← hq_]; exact (by (with_reducible repeat (refine blk_drewN ?_ _)); exact BK866.out)⟩; have n2_ : Aside0 (Below w.heap.size w wc) := ⟨by rw [← hq_]; exact (by repeat ((with_reducible first | exact HB.out | apply pw_below_drewN)))⟩; clear BK864 BK866 HB hq_; have BK864 := n0_; have BK866 := n1_; have HB := n2_; clear n0_ n1_ n2_))
     have n0_ := Aside0.mk (blk_drew BK864.out)
     have n1_ := Aside0.mk (blk_drew BK866.out)
     have n2_ := Aside0.mk (below_drew1 HB.out)
     clear BK864
     clear BK866
     clear HB
     have BK864 := n0_
     have BK866 := n1_
     have HB := n2_
     clear n0_ n1_ n2_
     have q74 : ((ji6) : Int) ≤ ((l1.length : Int) : Int) := of_decide_eq_true as_
     obtain ⟨i074, hi074, _, hsz74, _⟩ := info_parts info79
     have hroom74 : l1.length ≤ c1 := HC1.out
     have hC74 : Kd.C k79 _ (some ad865) l1.length l1 := HR1.out
     have ql74 : (t869 : Int) ≤ ((ji6) : Int) := of_decide_eq_true as_
     have q074 : (0 : Int) ≤ (t869 : Int) := of_decide_eq_true as_
     have hcut74 := cut_mid (P := Try.prog) 66 79 .i64 .i64 Try.underlying66 hi074 3 hsz74 (some ad865) l1.length c1 t869 (ji6) q074 ql74 q74 hroom74
     have hr74 := Kd.C_mid (lo := (t869 : Int).toNat) (hi := ((ji6) : Int).toNat) (c := c1) hC74 (by omega) (by omega) hroom74
     obtain ⟨A74, hA74⟩ : ∃ A1, A1 = (if c1 = (t869 : Int).toNat then (some ad865) else ((some ad865) : Option Addr).map (·.add ((t869 : Int).toNat * 3))) := ⟨_, rfl⟩
     obtain ⟨c74, hc74⟩ : ∃ cz_, cz_ = c1 - (t869 : Int).toNat := ⟨_, rfl⟩
     have hy74 : y870.length = ((ji6) : Int).toNat - (t869 : Int).toNat := (by rw [Ny870.out, List.length_drop, List.length_take] <;> omega)
     rw [show ((l1).take ((ji6) : Int).toNat).drop (t869 : Int).toNat = y870 from Ny870.out.symm] at hr74
     replace hr74 : Kd.C k79 _ A74 y870.length y870 := (by rw [hA74]; exact hr74)
     rw [← hy74, ← hA74, ← hc74] at hcut74
     have HR873 := Aside0.mk hr74
     have HC873 := Aside0.mk (show y870.length ≤ c74 from by rw [hy74, hc74]; exact Nat.sub_le_sub_right (Nat.le_trans (by omega) hroom74) _)
     clear hr74 hC74 hroom74 hi074 hsz74 hc74
     have KY74 := Aside0.mk hy74
     have KA74 := Aside0.mk hA74
     clear hy74 hA74
     replace q74 := eq_true q74
     refine start_ (n := 9) (S := fun w' => w'.cell? ⟨gb864, 0, none⟩ = some (.slice A0_0 l0_0.length c0_0) ∧ w'.cell? ⟨gb864, 1, none⟩ = some (.slice A0_1 l0_1.length c0_1)) (ds := []) #[false, false, false, false, false, false, false, false, false] (by kernel_rfl) rfl rfl ⟨(blk_cell BK864.out 0).trans rfl, (blk_cell BK864.out 1).trans rfl⟩ (fun hHeld => ?_); refine with_tabW spec_l3null.tab11 spec_l3null.bits11 (fun HT_ HW_ => ?_)
     generalize wc.drew = w73 at BK864 BK866 HB HR873 hHeld ⊢
     refine pu_ 1 51 HT_ ?_
     refine pu_ 2 52 HT_ ?_
     refine pu_ 3 53 HT_ ?_
     refine pu_ 4 54 HT_ ?_
     refine pu_ 5 55 HT_ ?_
     refine pu_ 6 56 HT_ ?_
     refine ta_ 0 50 HT_ HW_ hHeld ?_
     refine one_ (i := 7) (N := some 57) #[true, true, true, true, true, true, true, true, false] rfl rfl (one_of HT_.out (by kernel_rfl)) (by decide) (fun K hK => ?_)
     refine goes_ Try.func123 (by kernel_rfl) rfl #[.agg #[.slice A0_0 l0_0.length c0_0, .slice A0_1 l0_1.length c0_1], .slice A74 y870.length c74, .slice A2 l2.length c2] (by rfl) rfl rfl ml_ ?_
     with_reducible refine (ih kj31 (by have := HJ13.out; have := HJ31.out; omega) _ _ l0_0 _ _ l0_1 _ _ y870 _ _ l2 false _ ?side1 ?side2 ?side3 ?side4 ?side5 ?side6 ?side7 ?side8 A43.out).mono ?_
     (case side1 => repeat (exact (Kd.C_below HR0_0.out HB.out)))
     (case side2 => exact HC0_0.out)
     (case side3 => repeat (exact (Kd.C_below HR0_1.out HB.out)))
     (case side4 => exact HC0_1.out)
     (case side5 => repeat (exact (Kd.C_below HR873.out HB.out)))
     (case side6 => exact HC873.out)
     (case side7 => repeat (exact (Kd.C_below HR2.out HB.out)))
     (case side8 => exact HC2.out)
     rintro e w75 ⟨rfl, hb⟩
     refine ⟨_, rfl, ?_⟩
     have n0_ := Aside0.mk (blk_below (g := gb864) (o := .cells #[.slice A0_0 l0_0.length c0_0, .slice A0_1 l0_1.length c0_1] 31 (0, 0)) (by (with_reducible repeat (first | refine blk_drewN ?_ _ | refine blk_drew ?_ | refine blk_alloc ?_ _)); exact BK864.out) hb)
     have n1_ := Aside0.mk (blk_below (g := gb866) (o := .cells #[.int .i64 ((rd_T79 l1 (ji6)).f0), .slice A865_1 ((rd_T79 l1 (ji6)).f1).length c865_1, .int .i64 ((rd_T79 l1 (ji6)).f2)] 79 (0, 0)) (by (with_reducible repeat (first | refine blk_drewN ?_ _ | refine blk_drew ?_ | refine blk_alloc ?_ _)); exact BK866.out) hb)
     have n2_ := Aside0.mk (below_step (by repeat ((with_reducible first | exact HB.out))) hb)
     clear BK864
     clear BK866
     clear HB
     have BK864 := n0_
     have BK866 := n1_
     have HB := n2_
     clear n0_ n1_ n2_
     (try clear hb)
     (try clear hb2)
     (try clear hk)
     (try clear hi)
     refine hK.out _ _ ⟨(blk_cell BK864.out 0).trans rfl, (blk_cell BK864.out 1).trans rfl⟩ (fun hHeld => ?_)
     clear hK K
     refine norm_ (a' := ?_) ?_ ?_
     rotate_left
     ·show Act.put _ (some 57) _ = _
      simp only [Act.put, List.setIfInBounds_toArray, List.set_cons_zero, List.set_cons_succ, i64_w, i32_w]
      rfl
     refine pu_ 8 10 HT_ ?_
     refine done_ (done_of HT_.out (by kernel_rfl)) ?_
     have hnb76 := NB866_864.out
     have hnc76 := NB864_866.out
     have hcz77_0 : w75.cell? ⟨gb866, 0, none⟩ = some (.int .i64 ((rd_T79 l1 (ji6)).f0)) := (blk_cell BK866.out 0).trans rfl
     have hcz77_1 : w75.cell? ⟨gb866, 1, none⟩ = some (.slice A865_1 ((rd_T79 l1 (ji6)).f1).length c865_1) := (blk_cell BK866.out 1).trans rfl
     have hcz77_2 : w75.cell? ⟨gb866, 2, none⟩ = some (.int .i64 ((rd_T79 l1 (ji6)).f2)) := (blk_cell BK866.out 2).trans rfl
     have hfz77_0 := blk_frozen BK866.out 0
     have hfz77_1 := blk_frozen BK866.out 1
     have hfz77_2 := blk_frozen BK866.out 2
     try go_wp2
     have n0_ := Aside0.mk (blk_drew BK864.out)
     have n1_ := Aside0.mk (blk_drew BK866.out)
     have n2_ := Aside0.mk (below_drew1 HB.out)
     clear BK864
     clear BK866
     clear HB
     have BK864 := n0_
     have BK866 := n1_
     have HB := n2_
     clear n0_ n1_ n2_
     have q79 : (t869 : Int) ≤ ((l1.length : Int) : Int) := of_decide_eq_true as_
     obtain ⟨i079, hi079, _, hsz79, _⟩ := info_parts info79
     have hroom79 : l1.length ≤ c1 := HC1.out
     have hC79 : Kd.C k79 _ (some ad865) l1.length l1 := HR1.out
     have hcut79 := cut_to (P := Try.prog) 66 79 .i64 Try.underlying66 hi079 (some ad865) l1.length c1 t869 (of_decide_eq_true as_) q79 hroom79
     have hr79 := Kd.C_take (m := (t869 : Int).toNat) hC79 (by omega)
     have hy79 : y880.length = (t869 : Int).toNat := (by rw [Ny880.out, List.length_take]; omega)
     rw [← Ny880.out] at hr79
     rw [← hy79] at hcut79
     have HR883 := Aside0.mk hr79
     have HC883 := Aside0.mk (show y880.length ≤ c1 from by omega)
     clear hr79 hC79 hroom79 hi079 hsz79
     have KY79 := Aside0.mk hy79
     clear hy79
     replace q79 := eq_true q79
     refine start_ (n := 10) (S := fun w' => w'.cell? ⟨gb864, 0, none⟩ = some (.slice A0_0 l0_0.length c0_0) ∧ w'.cell? ⟨gb864, 1, none⟩ = some (.slice A0_1 l0_1.length c0_1)) (ds := []) #[false, false, false, false, false, false, false, false, false, false] (by kernel_rfl) rfl rfl ⟨(blk_cell BK864.out 0).trans rfl, (blk_cell BK864.out 1).trans rfl⟩ (fun hHeld => ?_); refine with_tabW spec_l3null.tab14 spec_l3null.bits14 (fun HT_ HW_ => ?_)
     generalize w75.drew = w78 at BK864 BK866 HB HR883 hHeld ⊢
     refine pu_ 0 70 HT_ ?_
     refine pu_ 1 71 HT_ ?_
     refine pu_ 3 73 HT_ ?_
     refine pu_ 4 74 HT_ ?_
     refine pu_ 5 75 HT_ ?_
     refine pu_ 6 76 HT_ ?_
     refine ta_ 2 72 HT_ HW_ hHeld ?_
     refine one_ (i := 7) (N := some 77) #[true, true, true, true, true, true, true, true, false, false] rfl rfl (one_of HT_.out (by kernel_rfl)) (by decide) (fun K hK => ?_)
     refine goes_ Try.func123 (by kernel_rfl) rfl #[.agg #[.slice A0_0 l0_0.length c0_0, .slice A0_1 l0_1.length c0_1], .slice (some ad865) y880.length c1, .slice A2 l2.length c2] (by rfl) rfl rfl ml_ ?_
     with_reducible refine (ih kj31 (by have := HJ13.out; have := HJ31.out; omega) _ _ l0_0 _ _ l0_1 _ _ y880 _ _ l2 t884 _ ?side1 ?side2 ?side3 ?side4 ?side5 ?side6 ?side7 ?side8 A72.out).mono ?_
     (case side1 => repeat (exact (Kd.C_below HR0_0.out HB.out)))
     (case side2 => exact HC0_0.out)
     (case side3 => repeat (exact (Kd.C_below HR0_1.out HB.out)))
     (case side4 => exact HC0_1.out)
     (case side5 => repeat (exact (Kd.C_below HR883.out HB.out)))
     (case side6 => exact HC883.out)
     (case side7 => repeat (exact (Kd.C_below HR2.out HB.out)))
     (case side8 => exact HC2.out)
     rintro e w80 ⟨rfl, hb⟩
     refine ⟨_, rfl, ?_⟩
     have n0_ := Aside0.mk (blk_below (g := gb864) (o := .cells #[.slice A0_0 l0_0.length c0_0, .slice A0_1 l0_1.length c0_1] 31 (0, 0)) (by (with_reducible repeat (first | refine blk_drewN ?_ _ | refine blk_drew ?_ | refine blk_alloc ?_ _)); exact BK864.out) hb)
     have n1_ := Aside0.mk (blk_below (g := gb866) (o := .cells #[.int .i64 ((rd_T79 l1 (ji6)).f0), .slice A865_1 ((rd_T79 l1 (ji6)).f1).length c865_1, .int .i64 ((rd_T79 l1 (ji6)).f2)] 79 (0, 0)) (by (with_reducible repeat (first | refine blk_drewN ?_ _ | refine blk_drew ?_ | refine blk_alloc ?_ _)); exact BK866.out) hb)
     have n2_ := Aside0.mk (below_step (by repeat ((with_reducible first | exact HB.out))) hb)
     clear BK864
     clear BK866
     clear HB
     have BK864 := n0_
     have BK866 := n1_
     have HB := n2_
     clear n0_ n1_ n2_
     (try clear hb)
     (try clear hb2)
     (try clear hk)
     (try clear hi)
     refine hK.out _ _ ⟨(blk_cell BK864.out 0).trans rfl, (blk_cell BK864.out 1).trans rfl⟩ (fun hHeld => ?_)
     clear hK K
     refine norm_ (a' := ?_) ?_ ?_
     rotate_left
     ·show Act.put _ (some 77) _ = _
      simp only [Act.put, List.setIfInBounds_toArray, List.set_cons_zero, List.set_cons_succ, i64_w, i32_w]
      rfl
     refine pu_ 8 78 HT_ ?_
     refine pu_ 9 6 HT_ ?_
     refine done_ (done_of HT_.out (by kernel_rfl)) ?_
     try go_wp2
     go_ret
     exact ⟨by first | rfl, by repeat ((with_reducible first | exact HB.out))⟩
end Go.Proofs.Ytdiilocgjnlmiaa.PAll
