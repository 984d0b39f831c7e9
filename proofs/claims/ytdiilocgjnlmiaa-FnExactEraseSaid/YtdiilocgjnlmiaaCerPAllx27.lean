import Derived.Test.YtdiilocgjnlmiaaCerFlat
import Derived.Test.YtdiilocgjnlmiaaCerPAllx15
import Derived.Test.YtdiilocgjnlmiaaCerVSpec
namespace Go.Proofs.Ytdiilocgjnlmiaa.PAll
open Go.RowKit Go.Proofs.YtdiilocgjnlmiaaW.PrintWords Go.Proofs.YtdiilocgjnlmiaaW.PrintLast Go.Proofs.YtdiilocgjnlmiaaW.PrintMore
attribute [local go_sem] max2_int min2_int max_two min_two max_three min_three max_four min_four   -- for this text's walks alone
set_option linter.unusedVariables false
set_option linter.unusedSimpArgs false
mutual
noncomputable def spec_Erase.l0 : Nat → Int → List (S68) → List (S72) → List (S68) → Option ((List (S68)) × (List (S72)))
  | 0, _, _, _, _ => none
  | k + 1, x4, x1061000, x1061001, x1064000 => if x4 < (x1061000.length : Int) then (if 0 ≤ x4 then ((spec_l2copy.f k ((rd_T68 x1061000 x4).f1)).bind fun t1065 => (spec_Erase.l1 k x4 t1065 0 x1061000 x1061001 x1064000)) else (none)) else (some (x1064000, ([] : List (S72))))
noncomputable def spec_Erase.l1 : Nat → Int → List (S79) → Int → List (S68) → List (S72) → List (S68) → Option ((List (S68)) × (List (S72)))
  | 0, _, _, _, _, _, _ => none
  | k + 1, x4, x5, x6, x1061000, x1061001, x1064000 => if x6 < (x5.length : Int) then (if 0 ≤ x6 then (if ((rd_T79 x5 x6).f0) = 3 then (spec_Erase.l1 k x4 (x5.set (x6 : Int).toNat (⟨1, ([] : List Int), 0⟩ : S79)) (wrap64 (x6 + 1)) x1061000 x1061001 x1064000) else (spec_Erase.l1 k x4 x5 (wrap64 (x6 + 1)) x1061000 x1061001 x1064000)) else (none)) else ((some (([] : List Int) : List Int)).bind fun y1070 => (if 0 ≤ x4 then (if x4 < (x1061000.length : Int) then (if y1070.length + ((rd_T68 x1061000 x4).f0).length < 140737488355328 then (if x1064000.length < 2932031007402 then (spec_Erase.l0 k (wrap64 (x4 + 1)) x1061000 x1061001 (x1064000 ++ [(⟨(y1070 ++ ((rd_T68 x1061000 x4).f0)), x5⟩ : S68)])) else (none)) else (none)) else (none)) else (none)))
end
noncomputable def spec_Erase.f (k : Nat) (l0_0 : List (S68)) (l0_1 : List (S72)) : Option ((List (S68)) × (List (S72))) := (spec_ValidGrammar.f l0_0 l0_1).bind fun t1062 => (if t1062 = true then (spec_Erase.l0 k 0 l0_0 l0_1 ([] : List (S68))) else (some (([] : List (S68)), ([] : List (S72)))))
theorem spec_Erase.mono_l : ∀ k, (∀ y0 y1 y2 y3, LeO (spec_Erase.l0 k y0 y1 y2 y3) (spec_Erase.l0 (k + 1) y0 y1 y2 y3)) ∧ (∀ y0 y1 y2 y3 y4 y5, LeO (spec_Erase.l1 k y0 y1 y2 y3 y4 y5) (spec_Erase.l1 (k + 1) y0 y1 y2 y3 y4 y5))
  | 0 => ⟨fun _ _ _ _ r h => by simp [spec_Erase.l0] at h, fun _ _ _ _ _ _ r h => by simp [spec_Erase.l1] at h⟩
  | k + 1 => by
    obtain ⟨ih0, ih1⟩ := spec_Erase.mono_l k
    refine ⟨?_, ?_⟩
    · intro y0 y1 y2 y3
      unfold spec_Erase.l0
      repeat' first
      | (with_reducible exact ih0 _ _ _ _)
      | (with_reducible exact ih1 _ _ _ _ _ _)
      | (with_reducible exact spec_l2copy.mono _ _)
      | (with_reducible exact LeO.refl _)
      | (with_reducible exact LeO.none _)
      | (with_reducible refine LeO.ite ?_ ?_)
      | (with_reducible refine LeO.bind ?_ (fun _ => ?_))
      | exact ih0 _ _ _ _
      | exact ih1 _ _ _ _ _ _
      | exact spec_l2copy.mono _ _
      | exact LeO.none _
      | refine LeO.ite ?_ ?_
      | refine LeO.bind ?_ (fun _ => ?_)
    · intro y0 y1 y2 y3 y4 y5
      unfold spec_Erase.l1
      repeat' first
      | (with_reducible exact ih0 _ _ _ _)
      | (with_reducible exact ih1 _ _ _ _ _ _)
      | (with_reducible exact spec_l2copy.mono _ _)
      | (with_reducible exact LeO.refl _)
      | (with_reducible exact LeO.none _)
      | (with_reducible refine LeO.ite ?_ ?_)
      | (with_reducible refine LeO.bind ?_ (fun _ => ?_))
      | exact ih0 _ _ _ _
      | exact ih1 _ _ _ _ _ _
      | exact spec_l2copy.mono _ _
      | exact LeO.none _
      | refine LeO.ite ?_ ?_
      | refine LeO.bind ?_ (fun _ => ?_)
theorem spec_Erase.mono : ∀ a0 a1 k, LeO (spec_Erase.f k a0 a1) (spec_Erase.f (k + 1) a0 a1) := by
  intro a0 a1 k
  obtain ⟨ih0, ih1⟩ := spec_Erase.mono_l k
  unfold spec_Erase.f
  repeat' first
      | (with_reducible exact ih0 _ _ _ _)
      | (with_reducible exact ih1 _ _ _ _ _ _)
      | (with_reducible exact spec_l2copy.mono _ _)
      | (with_reducible exact LeO.refl _)
      | (with_reducible exact LeO.none _)
      | (with_reducible refine LeO.ite ?_ ?_)
      | (with_reducible refine LeO.bind ?_ (fun _ => ?_))
      | exact ih0 _ _ _ _
      | exact ih1 _ _ _ _ _ _
      | exact spec_l2copy.mono _ _
      | exact LeO.none _
      | refine LeO.ite ?_ ?_
      | refine LeO.bind ?_ (fun _ => ?_)
noncomputable def spec_Erase.T13 : Bool × List (List Nat × List Nat) := (true, [([], []), ([0], [0]), ([], []), ([], []), ([3], [3]), ([], []), ([4, 5], [4, 5]), ([6], [6]), ([7], [7]), ([2, 8], [2, 8]), ([], []), ([9, 10], [9, 10]), ([11], [11]), ([1, 12, 9], [1, 12]), ([0, 1, 2, 3, 4, 5, 6, 7, 8, 9, 10, 11, 12, 13], []), ([14, 13, 13, 0, 1, 2, 3, 4, 5, 6, 7, 8, 9, 10, 11, 12, 13], [13, 14])])
noncomputable def spec_Erase.B13 : List Nat := [0, 1, 0, 0, 8, 0, 56, 120, 248, 508, 0, 2044, 4092, 8191, 16383, 32767]
theorem spec_Erase.tab13 : rtab .any (opsOf Try.f27 13) = spec_Erase.T13 := by kernel_rfl
theorem spec_Erase.bits13 : waitsOk spec_Erase.T13.2 spec_Erase.B13 = true := by kernel_rfl
set_option maxHeartbeats 8000000 in
set_option maxRecDepth 100000 in
theorem spec_Erase.calls (k : Nat) (A0_0 : Option Addr) (c0_0 : Nat) (l0_0 : List (S68)) (A0_1 : Option Addr) (c0_1 : Nat) (l0_1 : List (S72)) (r1 : List (S68)) (r2 : List (S72)) (w : World) (hr0_0 : Kd.C k68 w A0_0 l0_0.length l0_0) (hc0_0 : l0_0.length ≤ c0_0) (hr0_1 : Kd.C k72 w A0_1 l0_1.length l0_1) (hc0_1 : l0_1.length ≤ c0_1) (h : spec_Erase.f k l0_0 l0_1 = some (r1, r2)) :
    Calls Try.prog 27 #[.agg #[.slice A0_0 l0_0.length c0_0, .slice A0_1 l0_1.length c0_1]] w fun e w' => ∃ v0_ v1_ : Value, e = .returned (.agg #[v0_, v1_]) ∧ Kd.R k68 68 w' w.heap.size (fun _ => True) v0_ r1 ∧ Kd.R k72 72 w' w.heap.size (fun _ => True) v1_ r2 ∧ Below w.heap.size w w' := by
  have hu31 := Try.underlying31
  have hu79 := Try.underlying79
  have hu68 := Try.underlying68
  have HR0_0 := Aside0.mk hr0_0
  have HC0_0 := Aside0.mk hc0_0
  clear hr0_0 hc0_0
  have HR0_1 := Aside0.mk hr0_1
  have HC0_1 := Aside0.mk hc0_1
  clear hr0_1 hc0_1
  have HB := Aside0.mk (Below.refl w.heap.size w)
  have H : ((spec_ValidGrammar.f l0_0 l0_1).bind fun t1062 => (if t1062 = true then (spec_Erase.l0 k 0 l0_0 l0_1 ([] : List (S68))) else (some (([] : List (S68)), ([] : List (S72)))))) = some (r1, r2) := h
  clear h
  replace H := Option.bind_eq_some_iff.mp H
  obtain ⟨t1062, A20, H⟩ := H
  replace H : (if t1062 = true then (spec_Erase.l0 k 0 l0_0 l0_1 ([] : List (S68))) else (some (([] : List (S68)), ([] : List (S72))))) = some (r1, r2) := H
  have A2 := Aside0.mk A20
  clear A20
  by_cases c3 : t1062 = true
  · subst c3
    have H1 : (spec_Erase.l0 k 0 l0_0 l0_1 ([] : List (S68))) = some (r1, r2) := by rw [if_pos rfl] at H; exact H
    clear H
    have H := H1
    clear H1
    have H' := Aside0.mk H
    clear H
    go_enter Try.func27, Try.ntmps27
    go_wp2_with (first | ((with_reducible refine gate_dst (N := 1) rfl ?_); refine box_event ?hg (N := 1) ?hd (cs := #[.slice A0_0 l0_0.length c0_0, .slice A0_1 l0_1.length c0_1]) (t := 31) ?hr ?_; (case hd => rfl); (case hg => rfl); (case hr => first | (go_simp; done) | (go_simp; rfl)); intro gb1060 hg w4 hbox hb; have n0_ := Aside0.mk (below_step (by repeat (first | (with_reducible first | exact HB.out | apply below_alloc | apply pw_below_drewN | apply below_drew1) | exact HB.out)) hb); have n1_ := Aside0.mk (hbox); have n2_ := Aside0.mk ((by rw [hg]; exact (below_size (by repeat (first | (with_reducible first | exact HB.out | apply below_alloc | apply pw_below_drewN | apply below_drew1) | exact HB.out))) : w.heap.size ≤ gb1060)); have n3_ := Aside0.mk ((by rw [hg]; exact (below_size (by repeat (first | (with_reducible first | exact HB.out | apply below_alloc | apply pw_below_drewN | apply below_drew1) | exact HB.out))) : w.heap.size ≤ gb1060)); clear HB; have HB := n0_; have BK1060 := n1_; have GW1060 := n2_; have GE1060 := n3_; clear n0_ n1_ n2_ n3_; clear hb hbox hg) | ((with_reducible refine gate_dst (N := 2) rfl ?_); refine box_event ?hg (N := 2) ?hd (cs := #[.slice none 0 0, .slice none 0 0]) (t := 31) ?hr ?_; (case hd => rfl); (case hg => rfl); (case hr => first | (go_simp; done) | (go_simp; rfl)); intro gb1061 hg w5 hbox hb; have n0_ := Aside0.mk (blk_below (g := gb1060) (o := .cells #[.slice A0_0 l0_0.length c0_0, .slice A0_1 l0_1.length c0_1] 31 (0, 0)) (by (with_reducible repeat (first | refine blk_drewN ?_ _ | refine blk_drew ?_ | refine blk_alloc ?_ _)); exact BK1060.out) hb); have n1_ := Aside0.mk (below_step (by repeat (first | (with_reducible first | exact HB.out | apply below_alloc | apply pw_below_drewN | apply below_drew1 | refine below_set ?_ GE1060.out) | exact HB.out)) hb); have n2_ := Aside0.mk (hbox); have n3_ := Aside0.mk ((by rw [hg]; exact (below_size (by repeat (first | (with_reducible first | exact HB.out | apply below_alloc | apply pw_below_drewN | apply below_drew1 | refine below_set ?_ GE1060.out) | exact HB.out))) : w.heap.size ≤ gb1061)); have n4_ := Aside0.mk ((by rw [hg]; exact (below_size (by repeat (first | (with_reducible first | exact HB.out | apply below_alloc | apply pw_below_drewN | apply below_drew1 | refine below_set ?_ GE1060.out) | exact HB.out))) : w.heap.size ≤ gb1061)); have n5_ := Aside0.mk ((by rw [hg]; exact Nat.ne_of_lt (blk_lt (g := gb1060) (o := .cells #[.slice A0_0 l0_0.length c0_0, .slice A0_1 l0_1.length c0_1] 31 (0, 0)) (by (with_reducible repeat (first | refine blk_drewN ?_ _ | refine blk_drew ?_ | refine blk_alloc ?_ _)); exact BK1060.out)) : gb1060 ≠ gb1061)); have n6_ := Aside0.mk ((by rw [hg]; exact Nat.ne_of_gt (blk_lt (g := gb1060) (o := .cells #[.slice A0_0 l0_0.length c0_0, .slice A0_1 l0_1.length c0_1] 31 (0, 0)) (by (with_reducible repeat (first | refine blk_drewN ?_ _ | refine blk_drew ?_ | refine blk_alloc ?_ _)); exact BK1060.out)) : gb1061 ≠ gb1060)); clear BK1060; clear HB; have BK1060 := n0_; have HB := n1_; have BK1061 := n2_; have GW1061 := n3_; have GE1061 := n4_; have NB1060_1061 := n5_; have NB1061_1060 := n6_; clear n0_ n1_ n2_ n3_ n4_ n5_ n6_; clear hb hbox hg; have hnb6 := NB1060_1061.out; have hnc6 := NB1061_1060.out; have hcz7_0 : w5.cell? ⟨gb1060, 0, none⟩ = some (.slice A0_0 l0_0.length c0_0) := (blk_cell BK1060.out 0).trans rfl; have hcz7_1 : w5.cell? ⟨gb1060, 1, none⟩ = some (.slice A0_1 l0_1.length c0_1) := (blk_cell BK1060.out 1).trans rfl; have hfz7_0 := blk_frozen BK1060.out 0; have hfz7_1 := blk_frozen BK1060.out 1) | ((with_reducible refine gate_callee (f := 11) rfl ?_); refine goesL_ (some 8) rfl rfl Try.func11 (by kernel_rfl) rfl #[.agg #[.slice A0_0 l0_0.length c0_0, .slice A0_1 l0_1.length c0_1]] rfl (by (try simp only [List.map_toArray, List.map_cons, List.map_nil]); first | done | rfl | (simp only [List.length_drop, List.length_take]; rfl)) ?_; (with_reducible refine (spec_ValidGrammar.calls _ _ l0_0 _ _ l0_1 true _ ?side1 ?side2 ?side3 ?side4 A2.out).mono ?_); (case side1 => repeat (first | exact (Kd.C_below HR0_0.out HB.out) | (with_reducible refine Kd.C_alloc ?_ _) | (with_reducible refine Kd.C_drewN ?_ _) | (with_reducible refine Kd.C_drew ?_))); (case side2 => exact HC0_0.out); (case side3 => repeat (first | exact (Kd.C_below HR0_1.out HB.out) | (with_reducible refine Kd.C_alloc ?_ _) | (with_reducible refine Kd.C_drewN ?_ _) | (with_reducible refine Kd.C_drew ?_))); (case side4 => exact HC0_1.out); rintro e w8 ⟨rfl, hb⟩; refine ⟨_, rfl, ?_⟩; have n0_ := Aside0.mk (blk_below (g := gb1060) (o := .cells #[.slice A0_0 l0_0.length c0_0, .slice A0_1 l0_1.length c0_1] 31 (0, 0)) (by (with_reducible repeat (first | refine blk_drewN ?_ _ | refine blk_drew ?_ | refine blk_alloc ?_ _)); exact BK1060.out) hb); have n1_ := Aside0.mk (blk_below (g := gb1061) (o := .cells #[.slice none 0 0, .slice none 0 0] 31 (0, 0)) (by (with_reducible repeat (first | refine blk_drewN ?_ _ | refine blk_drew ?_ | refine blk_alloc ?_ _)); exact BK1061.out) hb); have n2_ := Aside0.mk (below_step (by repeat (first | (with_reducible first | exact HB.out | apply below_alloc | apply pw_below_drewN | apply below_drew1 | refine below_set ?_ GE1060.out | refine below_set ?_ GE1061.out) | exact HB.out)) hb); clear BK1060; clear BK1061; clear HB; have BK1060 := n0_; have BK1061 := n1_; have HB := n2_; clear n0_ n1_ n2_; (try clear hb); (try clear hb2); (try clear hk); (try clear hi)) | ((with_reducible refine gate_dst (N := 3) rfl ?_); refine box_event ?hg (N := 3) ?hd (cs := #[.slice none 0 0, .slice none 0 0]) (t := 31) ?hr ?_; (case hd => rfl); (case hg => rfl); (case hr => first | (go_simp; done) | (go_simp; rfl)); intro gb1063 hg w9 hbox hb; have n0_ := Aside0.mk (blk_below (g := gb1060) (o := .cells #[.slice A0_0 l0_0.length c0_0, .slice A0_1 l0_1.length c0_1] 31 (0, 0)) (by (with_reducible repeat (first | refine blk_drewN ?_ _ | refine blk_drew ?_ | refine blk_alloc ?_ _)); exact BK1060.out) hb); have n1_ := Aside0.mk (blk_below (g := gb1061) (o := .cells #[.slice none 0 0, .slice none 0 0] 31 (0, 0)) (by (with_reducible repeat (first | refine blk_drewN ?_ _ | refine blk_drew ?_ | refine blk_alloc ?_ _)); exact BK1061.out) hb); have n2_ := Aside0.mk (below_step (by repeat (first | (with_reducible first | exact HB.out | apply below_alloc | apply pw_below_drewN | apply below_drew1 | refine below_set ?_ GE1060.out | refine below_set ?_ GE1061.out) | exact HB.out)) hb); have n3_ := Aside0.mk (hbox); have n4_ := Aside0.mk ((by rw [hg]; exact (below_size (by repeat (first | (with_reducible first | exact HB.out | apply below_alloc | apply pw_below_drewN | apply below_drew1 | refine below_set ?_ GE1060.out | refine below_set ?_ GE1061.out) | exact HB.out))) : w.heap.size ≤ gb1063)); have n5_ := Aside0.mk ((by rw [hg]; exact (below_size (by repeat (first | (with_reducible first | exact HB.out | apply below_alloc | apply pw_below_drewN | apply below_drew1 | refine below_set ?_ GE1060.out | refine below_set ?_ GE1061.out) | exact HB.out))) : w.heap.size ≤ gb1063)); have n6_ := Aside0.mk ((by rw [hg]; exact Nat.ne_of_lt (blk_lt (g := gb1060) (o := .cells #[.slice A0_0 l0_0.length c0_0, .slice A0_1 l0_1.length c0_1] 31 (0, 0)) (by (with_reducible repeat (first | refine blk_drewN ?_ _ | refine blk_drew ?_ | refine blk_alloc ?_ _)); exact BK1060.out)) : gb1060 ≠ gb1063)); have n7_ := Aside0.mk ((by rw [hg]; exact Nat.ne_of_gt (blk_lt (g := gb1060) (o := .cells #[.slice A0_0 l0_0.length c0_0, .slice A0_1 l0_1.length c0_1] 31 (0, 0)) (by (with_reducible repeat (first | refine blk_drewN ?_ _ | refine blk_drew ?_ | refine blk_alloc ?_ _)); exact BK1060.out)) : gb1063 ≠ gb1060)); have n8_ := Aside0.mk ((by rw [hg]; exact Nat.ne_of_lt (blk_lt (g := gb1061) (o := .cells #[.slice none 0 0, .slice none 0 0] 31 (0, 0)) (by (with_reducible repeat (first | refine blk_drewN ?_ _ | refine blk_drew ?_ | refine blk_alloc ?_ _)); exact BK1061.out)) : gb1061 ≠ gb1063)); have n9_ := Aside0.mk ((by rw [hg]; exact Nat.ne_of_gt (blk_lt (g := gb1061) (o := .cells #[.slice none 0 0, .slice none 0 0] 31 (0, 0)) (by (with_reducible repeat (first | refine blk_drewN ?_ _ | refine blk_drew ?_ | refine blk_alloc ?_ _)); exact BK1061.out)) : gb1063 ≠ gb1061)); clear BK1060; clear BK1061; clear HB; have BK1060 := n0_; have BK1061 := n1_; have HB := n2_; have BK1063 := n3_; have GW1063 := n4_; have GE1063 := n5_; have NB1060_1063 := n6_; have NB1063_1060 := n7_; have NB1061_1063 := n8_; have NB1063_1061 := n9_; clear n0_ n1_ n2_ n3_ n4_ n5_ n6_ n7_ n8_ n9_; clear hb hbox hg))
    go_loopg [4] k (fun kq v4 w' => ∃ (x4_1 : Int) (x1064000_1 : List (S68)) (u1064000 : Value), v4 = .int .i64 x4_1 ∧ Aside0 (spec_Erase.l0 kq x4_1 l0_0 l0_1 x1064000_1 = some (r1, r2)) ∧ Aside0 (kq ≤ k) ∧ Aside0 (Kd.R k68 68 w' w.heap.size (fun _ => True) u1064000 x1064000_1) ∧ Aside0 (w'.heap[gb1060]? = some (.cells #[(.slice A0_0 l0_0.length c0_0), (.slice A0_1 l0_1.length c0_1)] 31 (0, 0))) ∧ Aside0 (w'.heap[gb1061]? = some (.cells #[(.slice none 0 0), (.slice none 0 0)] 31 (0, 0))) ∧ Aside0 (w'.heap[gb1063]? = some (.cells #[u1064000, (.slice none 0 0)] 31 (0, 0))) ∧ Aside0 (Below w.heap.size w w'))
    case atStart => exact ⟨(0), (([] : List (S68))), (.slice none 0 0), (by first | rfl | (simp; done) | (simp [*]; done)), H', ⟨Nat.le_refl _⟩, ⟨by first | exact Kd.R_nil _ _ _ _ _ | exact Kd.N_nil _ _ _ _ _ | exact Kd.V_nil _ _ _ _ _ | exact Kd.Q_nil _ _ _ _ _ | exact Kd.S_nil _ _ _ _ _⟩, ⟨by (with_reducible repeat (first | refine blk_drewN ?_ _ | refine blk_drew ?_ | refine blk_alloc ?_ _)); exact BK1060.out⟩, ⟨by (with_reducible repeat (first | refine blk_drewN ?_ _ | refine blk_drew ?_ | refine blk_alloc ?_ _)); exact BK1061.out⟩, ⟨by (with_reducible repeat (first | refine blk_drewN ?_ _ | refine blk_drew ?_ | refine blk_alloc ?_ _)); exact BK1063.out⟩, ⟨by repeat (first | (with_reducible first | exact HB.out | apply below_alloc | apply pw_below_drewN | apply below_drew1 | refine below_set ?_ GE1060.out | refine below_set ?_ GE1061.out | refine below_set ?_ GE1063.out) | exact HB.out)⟩⟩
    case round =>
      clear H'
      try clear c1
      try clear c2
      try clear p2
      try clear c3
      try clear c6
      try clear hcz7_0
      try clear hcz7_1
      try clear hfz7_0
      try clear hfz7_1
      obtain ⟨x4_1, x1064000_1, u1064000, rfl, HA, HK1, HO_1064000, BK1060, BK1061, BK1063, HB⟩ := hrel
      cases gk with
      | zero => exact absurd HA.out (by simp [spec_Erase.l0])
      | succ k1 =>
        have H := HA.out
        clear HA
        simp only [spec_Erase.l0] at H
        by_cases c10 : x4_1 < (l0_0.length : Int)
        · rw [if_pos c10] at H
          have c10b0 : decide (x4_1 < (l0_0.length : Int)) = true := decide_eq_true c10
          clear c10
          by_cases c11 : 0 ≤ x4_1
          · rw [if_pos c11] at H
            have c11b0 : decide (0 ≤ x4_1) = true := decide_eq_true c11
            clear c11
            replace H := Option.bind_eq_some_iff.mp H
            obtain ⟨t1065, A120, H⟩ := H
            replace H : (spec_Erase.l1 k1 x4_1 t1065 0 l0_0 l0_1 x1064000_1) = some (r1, r2) := H
            have A12 := Aside0.mk A120
            clear A120
            have H' := Aside0.mk H
            clear H
            have hnb13 := NB1060_1061.out
            have hnc13 := NB1061_1060.out
            have hnb14 := NB1060_1063.out
            have hnc14 := NB1063_1060.out
            have hcz15_0 : wr.cell? ⟨gb1060, 0, none⟩ = some (.slice A0_0 l0_0.length c0_0) := (blk_cell BK1060.out 0).trans rfl
            have hcz15_1 : wr.cell? ⟨gb1060, 1, none⟩ = some (.slice A0_1 l0_1.length c0_1) := (blk_cell BK1060.out 1).trans rfl
            have hfz15_0 := blk_frozen BK1060.out 0
            have hfz15_1 := blk_frozen BK1060.out 1
            have p1064 : 0 ≤ (x4_1 : Int) := of_decide_eq_true (by first | (with_reducible assumption) | assumption)
            have q1064 : x4_1 < (l0_0.length : Int) := of_decide_eq_true (by first | (with_reducible assumption) | assumption)
            obtain ⟨ad1064, A1064_0, c1064_0, A1064_1, c1064_1, e1064, hx1064_0, hx1064_1, hl1064_0, hi1064_0, hl1064_1, hi1064_1⟩ := at_T68 HR0_0.out x4_1 p1064 q1064
            cases e1064
            replace hx1064_0 := (HB.out.cell (World.block_lt_of_cell? w _ hx1064_0)).trans hx1064_0
            replace hx1064_1 := (HB.out.cell (World.block_lt_of_cell? w _ hx1064_1)).trans hx1064_1
            have HR1064_0 := Aside0.mk hi1064_0
            have HC1064_0 := Aside0.mk hl1064_0
            clear hi1064_0 hl1064_0
            have HR1064_1 := Aside0.mk hi1064_1
            have HC1064_1 := Aside0.mk hl1064_1
            clear hi1064_1 hl1064_1
            replace p1064 := eq_true p1064
            replace q1064 := eq_true q1064
            go_wp2_with (first | ((with_reducible refine gate_callee (f := 72) rfl ?_); refine goesL_ (some 24) rfl rfl Try.func72 (by kernel_rfl) rfl #[.slice A1064_1 ((rd_T68 l0_0 x4_1).f1).length c1064_1] rfl (by (try simp only [List.map_toArray, List.map_cons, List.map_nil]); first | done | rfl | (simp only [List.length_drop, List.length_take]; rfl)) ?_; (with_reducible refine (spec_l2copy.calls k1 _ _ ((rd_T68 l0_0 x4_1).f1) t1065 _ ?side1 ?side2 A12.out).mono ?_); (case side1 => repeat (first | exact (Kd.C_below HR1064_1.out HB.out) | (with_reducible refine Kd.C_alloc ?_ _) | (with_reducible refine Kd.C_drewN ?_ _) | (with_reducible refine Kd.C_drew ?_))); (case side2 => exact HC1064_1.out); rintro e w16 ⟨v1066, rfl, ho0, hb⟩; refine ⟨_, rfl, ?_⟩; have n0_ := Aside0.mk (Kd.R_elder' (by (with_reducible repeat (first | apply Kd.R_alloc | apply Kd.R_drewN | apply Kd.R_drew)); exact HO_1064000.out) (Kd.S_base ho0) hb); have n1_ := Aside0.mk (Kd.S_lower ho0 (below_size (by repeat (first | (with_reducible first | exact HB.out | apply below_alloc | apply pw_below_drewN | apply below_drew1 | refine below_set ?_ GE1060.out | refine below_set ?_ GE1061.out | refine below_set ?_ GE1063.out) | exact HB.out)))); have n2_ := Aside0.mk (blk_below (g := gb1060) (o := .cells #[.slice (some ad1064) l0_0.length c0_0, .slice A0_1 l0_1.length c0_1] 31 (0, 0)) (by (with_reducible repeat (first | refine blk_drewN ?_ _ | refine blk_drew ?_ | refine blk_alloc ?_ _)); exact BK1060.out) hb); have n3_ := Aside0.mk (blk_below (g := gb1061) (o := .cells #[.slice none 0 0, .slice none 0 0] 31 (0, 0)) (by (with_reducible repeat (first | refine blk_drewN ?_ _ | refine blk_drew ?_ | refine blk_alloc ?_ _)); exact BK1061.out) hb); have n4_ := Aside0.mk (blk_below (g := gb1063) (o := .cells #[u1064000, .slice none 0 0] 31 (0, 0)) (by (with_reducible repeat (first | refine blk_drewN ?_ _ | refine blk_drew ?_ | refine blk_alloc ?_ _)); exact BK1063.out) hb); have n5_ := Aside0.mk (below_step (by repeat (first | (with_reducible first | exact HB.out | apply below_alloc | apply pw_below_drewN | apply below_drew1 | refine below_set ?_ GE1060.out | refine below_set ?_ GE1061.out | refine below_set ?_ GE1063.out) | exact HB.out)) hb); clear HO_1064000; clear BK1060; clear BK1061; clear BK1063; clear HB; have HO_1064000 := n0_; have HO1067 := n1_; have BK1060 := n2_; have BK1061 := n3_; have BK1063 := n4_; have HB := n5_; clear n0_ n1_ n2_ n3_ n4_ n5_; (try clear hb); (try clear hb2); (try clear hk); (try clear hi); (try clear ho0)))
            go_loopg [6] k1 (fun kq v6 w' => ∃ (x5_2 : List (S79)) (x6_2 : Int), v6 = .int .i64 x6_2 ∧ Aside0 (spec_Erase.l1 kq x4_1 x5_2 x6_2 l0_0 l0_1 x1064000_1 = some (r1, r2)) ∧ Aside0 (kq ≤ k1) ∧ Aside0 (Kd.S k79 79 w' w.heap.size (fun _ => True) v1066 x5_2) ∧ Aside0 (Kd.R k68 68 w' w.heap.size (fun k_ => some k_ ≠ (v1066 : Value).ownBlock) u1064000 x1064000_1) ∧ Aside0 (w'.heap[gb1060]? = some (.cells #[(.slice (some ad1064) l0_0.length c0_0), (.slice A0_1 l0_1.length c0_1)] 31 (0, 0))) ∧ Aside0 (w'.heap[gb1061]? = some (.cells #[(.slice none 0 0), (.slice none 0 0)] 31 (0, 0))) ∧ Aside0 (w'.heap[gb1063]? = some (.cells #[u1064000, (.slice none 0 0)] 31 (0, 0))) ∧ Aside0 (Below w.heap.size w w'))
            case atStart => exact ⟨(t1065), (0), (by first | rfl | (simp; done) | (simp [*]; done)), H', ⟨Nat.le_refl _⟩, ⟨by (with_reducible repeat (first | apply Kd.S_alloc | apply Kd.S_drewN | apply Kd.S_drew)); exact HO1067.out⟩, ⟨by (with_reducible repeat (first | apply Kd.R_alloc | apply Kd.R_drewN | apply Kd.R_drew)); exact Kd.R_mono HO_1064000.out (fun _ hk => hk.2)⟩, ⟨by (with_reducible repeat (first | refine blk_drewN ?_ _ | refine blk_drew ?_ | refine blk_alloc ?_ _)); exact BK1060.out⟩, ⟨by (with_reducible repeat (first | refine blk_drewN ?_ _ | refine blk_drew ?_ | refine blk_alloc ?_ _)); exact BK1061.out⟩, ⟨by (with_reducible repeat (first | refine blk_drewN ?_ _ | refine blk_drew ?_ | refine blk_alloc ?_ _)); exact BK1063.out⟩, ⟨by repeat (first | (with_reducible first | exact HB.out | apply below_alloc | apply pw_below_drewN | apply below_drew1 | refine below_set ?_ GE1060.out | refine below_set ?_ GE1061.out | refine below_set ?_ GE1063.out) | exact HB.out)⟩⟩
            case round =>
              clear H'
              try clear c1
              try clear p1
              try clear q1
              try clear hx1
              try clear c2
              try clear p2
              try clear c3
              try clear c6
              try clear c7
              try clear c10
              try clear c10b0
              try clear p10
              try clear q10
              try clear hx10
              try clear c11
              try clear c11b0
              try clear c13
              try clear c14
              try clear hcz15_0
              try clear hcz15_1
              try clear hcz7_0
              try clear hcz7_1
              try clear hfz15_0
              try clear hfz15_1
              try clear hfz7_0
              try clear hfz7_1
              try clear hx1064_0
              try clear hx1064_1
              try clear p1064
              try clear p2
              try clear q1064
              obtain ⟨x5_2, x6_2, rfl, HA, HK2, HO_5, HO_1064000, BK1060, BK1061, BK1063, HB⟩ := hrel
              cases gk with
              | zero => exact absurd HA.out (by simp [spec_Erase.l1])
              | succ k2 =>
                have H := HA.out
                clear HA
                simp only [spec_Erase.l1] at H
                by_cases c17 : x6_2 < (x5_2.length : Int)
                · rw [if_pos c17] at H
                  have c17b0 : decide (x6_2 < (x5_2.length : Int)) = true := decide_eq_true c17
                  clear c17
                  by_cases c18 : 0 ≤ x6_2
                  · rw [if_pos c18] at H
                    have c18b0 : decide (0 ≤ x6_2) = true := decide_eq_true c18
                    clear c18
                    by_cases c19 : ((rd_T79 x5_2 x6_2).f0) = 3
                    · rw [if_pos c19] at H
                      have c19b0 : (((rd_T79 x5_2 x6_2).f0) == 3) = true := beq_iff_eq.mpr c19
                      have c19b1 : (((rd_T79 x5_2 x6_2).f0) != 3) = false := bne_eq_false_iff_eq.mpr c19
                      clear c19
                      obtain ⟨y1069, hy1069⟩ : ∃ y_ : List (S79), y_ = (x5_2.set (x6_2 : Int).toNat (⟨1, ([] : List Int), 0⟩ : S79)) := ⟨_, rfl⟩
                      replace H : (spec_Erase.l1 k2 x4_1 y1069 (wrap64 (x6_2 + 1)) l0_0 l0_1 x1064000_1) = some (r1, r2) := by first | (rw [hy1069]; with_reducible exact H) | (have H2_ := (Option.bind_some _ _).symm.trans H; rw [hy1069]; with_reducible exact H2_) | (have H2_ := (Option.bind_some _ _).symm.trans H; with_reducible exact H2_) | with_reducible exact H | (rw [hy1069]; exact H) | exact H
                      have Ny1069 := Aside0.mk hy1069
                      clear hy1069
                      have H' := Aside0.mk H
                      clear H
                      obtain ⟨Ao21, co21, eo21⟩ := Kd.S_slice HO_5.out
                      subst eo21
                      have p1068 : 0 ≤ (x6_2 : Int) := of_decide_eq_true (by first | (with_reducible assumption) | assumption)
                      have q1068 : x6_2 < (x5_2.length : Int) := of_decide_eq_true (by first | (with_reducible assumption) | assumption)
                      obtain ⟨ad1068, A1068_1, c1068_1, e1068, hx1068_0, hx1068_1, hx1068_2, hl1068_1, hi1068_1⟩ := at_T79 (Kd.S_reads' HO_5.out).2.2 x6_2 p1068 q1068
                      cases e1068
                      obtain ⟨ce1068, hce1068, hMe1068, hcc1068⟩ := Kd.S_get HO_5.out z79 x6_2 p1068 (by first | exact q1068 | exact of_decide_eq_true (by first | (with_reducible assumption) | assumption) | (have e_ := (Kd.S_reads' HO_5.out).1; omega))
                      obtain ⟨ve1068_1, rfl, ge1068_1⟩ := k79_openM hMe1068
                      have hv1068_1 := hcc1068 1 _ rfl
                      rw [add_field _ _ 1 (by omega)] at hv1068_1
                      replace hv1068_1 := Option.some.inj (hv1068_1.symm.trans hx1068_1)
                      rw [hv1068_1] at ge1068_1
                      have HL1068_1 := Aside0.mk (show Kd.R (Kd.int .i64) 3 _ _ _ _ ((rd_T79 x5_2 x6_2).f1) from ge1068_1)
                      clear hv1068_1 ge1068_1
                      clear hcc1068 hce1068
                      have HR1068_1 := Aside0.mk hi1068_1
                      have HC1068_1 := Aside0.mk hl1068_1
                      clear hi1068_1 hl1068_1
                      replace p1068 := eq_true p1068
                      replace q1068 := eq_true q1068
                      have p20 : 0 ≤ (x6_2 : Int) := of_decide_eq_true (by first | (with_reducible assumption) | assumption)
                      have q20 : (x6_2 : Int) < ((x5_2.length : Int) : Int) := of_decide_eq_true (by first | (with_reducible assumption) | assumption)
                      obtain ⟨go20, co20, eo20, gb20, gl20, cl20, HG20⟩ := Kd.S_form HO_5.out (by omega)
                      (first | cases eo20 | (injection eo20 with ea_ en_ ec_; (first | subst ea_ | (injection ea_ with ea_; subst ea_)); subst ec_; clear en_))
                      have GB20 := Aside0.mk gb20
                      have GG20 := Aside0.mk HG20
                      clear gb20 gl20 HG20
                      (first | simp only [add_plain] at hx1068_0 | skip)
                      (first | simp only [add_plain] at hx1068_1 | skip)
                      (first | simp only [add_plain] at hx1068_2 | skip)
                      obtain ⟨_, ce20, hcl20, hM20, hcc20, hfr20, _, _⟩ := Kd.S_elem HO_5.out z79 (x6_2 : Int) p20 q20
                      obtain ⟨ve20_1, rfl, ge20_1⟩ := k79_openM hM20
                      have hx20_0 : wr.cell? ⟨go20, (x6_2 : Int).toNat * 3, none⟩ = some (.int .i64 ((rd_T79 x5_2 x6_2).f0)) := hcc20 0 _ rfl
                      have hx20_1 : wr.cell? ⟨go20, (x6_2 : Int).toNat * 3 + 1, none⟩ = some (ve20_1) := hcc20 1 _ rfl
                      have hx20_2 : wr.cell? ⟨go20, (x6_2 : Int).toNat * 3 + 2, none⟩ = some (.int .i64 ((rd_T79 x5_2 x6_2).f2)) := hcc20 2 _ rfl
                      have hf20_0 : wr.frozen? ⟨go20, (x6_2 : Int).toNat * 3, none⟩ = false := hfr20 0
                      have hf20_1 : wr.frozen? ⟨go20, (x6_2 : Int).toNat * 3 + 1, none⟩ = false := hfr20 1
                      have hf20_2 : wr.frozen? ⟨go20, (x6_2 : Int).toNat * 3 + 2, none⟩ = false := hfr20 2
                      clear hcl20 hcc20 hfr20 hM20
                      replace p20 := eq_true p20
                      replace q20 := eq_true q20
                      have HX22 := Aside0.mk (show Kd.S k79 79 wr w.heap.size (fun k_ => ((fun _ => True)) k_ ∧ ¬ ((fun _ => False)) k_) (.slice (some ⟨go20, 0, none⟩) x5_2.length co21) x5_2 from (by (with_reducible repeat (first | apply Kd.S_alloc | apply Kd.S_drewN | apply Kd.S_drew)); exact Kd.S_mono HO_5.out (fun k_ hk => ⟨trivial, fun e_ => e_⟩)))
                      obtain ⟨oki22, ce22, hcl22, hM22, hcc22, hfr22, hoki22, hH22⟩ := Kd.S_elem HX22.out z79 (x6_2 : Int) (of_decide_eq_true (by first | (with_reducible assumption) | assumption)) (by have h_ : (x6_2 : Int) < ((x5_2.length : Int) : Int) := of_decide_eq_true (by first | (with_reducible assumption) | assumption); first | exact h_ | (have e_ := (Kd.S_reads' HO_5.out).1; omega) | simpa using h_)
                      obtain ⟨ve22_1, rfl, ge22_1⟩ := k79_openM hM22
                      have HP22 := Kd.S_seg hH22 (of_decide_eq_true (by first | (with_reducible assumption) | assumption)) (by have h_ : (x6_2 : Int) < ((x5_2.length : Int) : Int) := of_decide_eq_true (by first | (with_reducible assumption) | assumption); first | exact h_ | (have e_ := (Kd.S_reads' HO_5.out).1; omega) | simpa using h_) (seg := [.int .i64 1, .slice none 0 0, .int .i64 0]) (j := 0) (show 3 ≤ 3 from by decide) (x' := (⟨1, ([] : List Int), 0⟩ : S79)) (k79_mkM _ _ _ (⟨1, ([] : List Int), 0⟩ : S79) (Kd.R_nil _ _ _ _ _)) (fun _ hk => hk) (fun k_ hk_ => hk_.elim)
                      have hx22_0 := hcc22 0 _ rfl
                      (try simp only [show (k79).sz = 3 from rfl, Nat.mul_one, Nat.add_zero] at hx22_0)
                      have hf22_0 := hfr22 0
                      (try simp only [show (k79).sz = 3 from rfl, Nat.mul_one, Nat.add_zero] at hf22_0)
                      have hx22_1 := hcc22 1 _ rfl
                      (try simp only [show (k79).sz = 3 from rfl, Nat.mul_one, Nat.add_zero] at hx22_1)
                      have hf22_1 := hfr22 1
                      (try simp only [show (k79).sz = 3 from rfl, Nat.mul_one, Nat.add_zero] at hf22_1)
                      have hx22_2 := hcc22 2 _ rfl
                      (try simp only [show (k79).sz = 3 from rfl, Nat.mul_one, Nat.add_zero] at hx22_2)
                      have hf22_2 := hfr22 2
                      (try simp only [show (k79).sz = 3 from rfl, Nat.mul_one, Nat.add_zero] at hf22_2)
                      clear hcl22 hcc22 hfr22 hM22 hoki22 hH22
                      go_wp2_with (first | ((with_reducible refine gate_store (t := 79) (p := 40) rfl ?_); refine store_event (t := 79) (p := 40) (v := ?vo_w23) (w1 := (((wr.setCell ⟨go20, (x6_2 : Int).toNat * 3, none⟩ (.int .i64 1)).setCell ⟨go20, (x6_2 : Int).toNat * 3 + 1, none⟩ (.slice none 0 0)).setCell ⟨go20, (x6_2 : Int).toNat * 3 + 2, none⟩ (.int .i64 0))) ?hg ?ho ?hn ?hr ?_; (case ho => rfl); (case hg => rfl); (case hn => rfl); (case hr => first | (go_simp; done) | (go_simp; rfl)); intro w23 hw; have hg : wr.grownBy w23 (some go20) := (by rw [hw]; exact HP22.2); have hp_ : Kd.S k79 79 w23 w.heap.size (fun _ => True) (.slice (some ⟨go20, 0, none⟩) x5_2.length co21) y1069 := (by rw [hw, Ny1069.out]; exact HP22.1); clear HP22; have n0_ := Aside0.mk (hp_); have n1_ := Aside0.mk (Kd.R_after (v := (.slice (some ⟨go20, 0, none⟩) x5_2.length co21)) (v1 := (.slice (some ⟨go20, 0, none⟩) x5_2.length co21)) (ok := (fun _ => True)) (by (with_reducible repeat (first | apply Kd.R_alloc | apply Kd.R_drewN | apply Kd.R_drew)); exact Kd.R_mono HO_1064000.out (fun _ hk => ⟨trivial, hk⟩)) hg (.inl rfl)); have n2_ := Aside0.mk (blk_grown (g := gb1060) (o := .cells #[.slice (some ad1064) l0_0.length c0_0, .slice A0_1 l0_1.length c0_1] 31 (0, 0)) (by (with_reducible repeat (first | refine blk_drewN ?_ _ | refine blk_drew ?_ | refine blk_alloc ?_ _)); exact BK1060.out) hg (Kd.S_ne HO_5.out BK1060.out (by decide))); have n3_ := Aside0.mk (blk_grown (g := gb1061) (o := .cells #[.slice none 0 0, .slice none 0 0] 31 (0, 0)) (by (with_reducible repeat (first | refine blk_drewN ?_ _ | refine blk_drew ?_ | refine blk_alloc ?_ _)); exact BK1061.out) hg (Kd.S_ne HO_5.out BK1061.out (by decide))); have n4_ := Aside0.mk (blk_grown (g := gb1063) (o := .cells #[u1064000, .slice none 0 0] 31 (0, 0)) (by (with_reducible repeat (first | refine blk_drewN ?_ _ | refine blk_drew ?_ | refine blk_alloc ?_ _)); exact BK1063.out) hg (Kd.S_ne HO_5.out BK1063.out (by decide))); have n5_ := Aside0.mk (Kd.R_after (v := (.slice (some ⟨go20, 0, none⟩) x5_2.length co21)) (v1 := (.slice (some ⟨go20, 0, none⟩) x5_2.length co21)) (ok := (fun _ => True)) (by (with_reducible repeat (first | apply Kd.R_alloc | apply Kd.R_drewN | apply Kd.R_drew)); exact HL1068_1.out) hg (.inl rfl)); have n6_ := Aside0.mk ((by rw [hw]; exact below_set (below_set (below_set (HB.out) GB20.out) GB20.out) GB20.out : Below w.heap.size w w23)); clear HO_5; clear HO_1064000; clear BK1060; clear BK1061; clear BK1063; clear HL1068_1; clear HB; have HO_5 := n0_; have HO_1064000 := n1_; have BK1060 := n2_; have BK1061 := n3_; have BK1063 := n4_; have HL1068_1 := n5_; have HB := n6_; clear n0_ n1_ n2_ n3_ n4_ n5_ n6_; clear hg hw hp_))
                      go_roundg k2
                      case measure => have := HK1.out; have := HK2.out; omega
                      case rel => exact ⟨(y1069), (wrap64 (x6_2 + 1)), (by first | rfl | (simp; done) | (simp [*]; done)), H', ⟨by have := HK1.out; have := HK2.out; omega⟩, ⟨by (with_reducible repeat (first | apply Kd.S_alloc | apply Kd.S_drewN | apply Kd.S_drew)); exact HO_5.out⟩, ⟨by (with_reducible repeat (first | apply Kd.R_alloc | apply Kd.R_drewN | apply Kd.R_drew)); exact Kd.R_mono HO_1064000.out (fun _ hk => hk.2)⟩, ⟨by (with_reducible repeat (first | refine blk_drewN ?_ _ | refine blk_drew ?_ | refine blk_alloc ?_ _)); exact BK1060.out⟩, ⟨by (with_reducible repeat (first | refine blk_drewN ?_ _ | refine blk_drew ?_ | refine blk_alloc ?_ _)); exact BK1061.out⟩, ⟨by (with_reducible repeat (first | refine blk_drewN ?_ _ | refine blk_drew ?_ | refine blk_alloc ?_ _)); exact BK1063.out⟩, ⟨by repeat (first | (with_reducible first | exact HB.out | apply below_alloc | apply pw_below_drewN | apply below_drew1 | refine below_set ?_ GE1060.out | refine below_set ?_ GE1061.out | refine below_set ?_ GE1063.out) | exact HB.out)⟩⟩
                    · rw [if_neg c19] at H
                      have c19b0 : (((rd_T79 x5_2 x6_2).f0) == 3) = false := beq_eq_false_iff_ne.mpr c19
                      have c19b1 : (((rd_T79 x5_2 x6_2).f0) != 3) = true := bne_iff_ne.mpr c19
                      have H' := Aside0.mk H
                      clear H
                      obtain ⟨Ao24, co24, eo24⟩ := Kd.S_slice HO_5.out
                      subst eo24
                      have p1068 : 0 ≤ (x6_2 : Int) := of_decide_eq_true (by first | (with_reducible assumption) | assumption)
                      have q1068 : x6_2 < (x5_2.length : Int) := of_decide_eq_true (by first | (with_reducible assumption) | assumption)
                      obtain ⟨ad1068, A1068_1, c1068_1, e1068, hx1068_0, hx1068_1, hx1068_2, hl1068_1, hi1068_1⟩ := at_T79 (Kd.S_reads' HO_5.out).2.2 x6_2 p1068 q1068
                      cases e1068
                      obtain ⟨ce1068, hce1068, hMe1068, hcc1068⟩ := Kd.S_get HO_5.out z79 x6_2 p1068 (by first | exact q1068 | exact of_decide_eq_true (by first | (with_reducible assumption) | assumption) | (have e_ := (Kd.S_reads' HO_5.out).1; omega))
                      obtain ⟨ve1068_1, rfl, ge1068_1⟩ := k79_openM hMe1068
                      have hv1068_1 := hcc1068 1 _ rfl
                      rw [add_field _ _ 1 (by omega)] at hv1068_1
                      replace hv1068_1 := Option.some.inj (hv1068_1.symm.trans hx1068_1)
                      rw [hv1068_1] at ge1068_1
                      have HL1068_1 := Aside0.mk (show Kd.R (Kd.int .i64) 3 _ _ _ _ ((rd_T79 x5_2 x6_2).f1) from ge1068_1)
                      clear hv1068_1 ge1068_1
                      clear hcc1068 hce1068
                      have HR1068_1 := Aside0.mk hi1068_1
                      have HC1068_1 := Aside0.mk hl1068_1
                      clear hi1068_1 hl1068_1
                      replace p1068 := eq_true p1068
                      replace q1068 := eq_true q1068
                      go_wp2
                      go_roundg k2
                      case measure => have := HK1.out; have := HK2.out; omega
                      case rel => exact ⟨(x5_2), (wrap64 (x6_2 + 1)), (by first | rfl | (simp; done) | (simp [*]; done)), H', ⟨by have := HK1.out; have := HK2.out; omega⟩, ⟨by (with_reducible repeat (first | apply Kd.S_alloc | apply Kd.S_drewN | apply Kd.S_drew)); exact HO_5.out⟩, ⟨by (with_reducible repeat (first | apply Kd.R_alloc | apply Kd.R_drewN | apply Kd.R_drew)); exact HO_1064000.out⟩, ⟨by (with_reducible repeat (first | refine blk_drewN ?_ _ | refine blk_drew ?_ | refine blk_alloc ?_ _)); exact BK1060.out⟩, ⟨by (with_reducible repeat (first | refine blk_drewN ?_ _ | refine blk_drew ?_ | refine blk_alloc ?_ _)); exact BK1061.out⟩, ⟨by (with_reducible repeat (first | refine blk_drewN ?_ _ | refine blk_drew ?_ | refine blk_alloc ?_ _)); exact BK1063.out⟩, ⟨by repeat (first | (with_reducible first | exact HB.out | apply below_alloc | apply pw_below_drewN | apply below_drew1 | refine below_set ?_ GE1060.out | refine below_set ?_ GE1061.out | refine below_set ?_ GE1063.out) | exact HB.out)⟩⟩
                  · rw [if_neg c18] at H
                    exact absurd H (by simp)
                · rw [if_neg c17] at H
                  have c17b0 : decide (x6_2 < (x5_2.length : Int)) = false := decide_eq_false c17
                  clear c17
                  obtain ⟨y1070, hy1070⟩ : ∃ y_ : List Int, y_ = (([] : List Int)) := ⟨_, rfl⟩
                  replace H : (if 0 ≤ x4_1 then (if x4_1 < (l0_0.length : Int) then (if y1070.length + ((rd_T68 l0_0 x4_1).f0).length < 140737488355328 then (if x1064000_1.length < 2932031007402 then (spec_Erase.l0 k2 (wrap64 (x4_1 + 1)) l0_0 l0_1 (x1064000_1 ++ [(⟨(y1070 ++ ((rd_T68 l0_0 x4_1).f0)), x5_2⟩ : S68)])) else (none)) else (none)) else (none)) else (none)) = some (r1, r2) := by first | (rw [hy1070]; with_reducible exact H) | (have H2_ := (Option.bind_some _ _).symm.trans H; rw [hy1070]; with_reducible exact H2_) | (have H2_ := (Option.bind_some _ _).symm.trans H; with_reducible exact H2_) | with_reducible exact H | (rw [hy1070]; exact H) | exact H
                  have Ny1070 := Aside0.mk hy1070
                  clear hy1070
                  by_cases c25 : 0 ≤ x4_1
                  · rw [if_pos c25] at H
                    have c25b0 : decide (0 ≤ x4_1) = true := decide_eq_true c25
                    clear c25
                    by_cases c26 : x4_1 < (l0_0.length : Int)
                    · rw [if_pos c26] at H
                      have c26b0 : decide (x4_1 < (l0_0.length : Int)) = true := decide_eq_true c26
                      clear c26
                      by_cases c27 : y1070.length + ((rd_T68 l0_0 x4_1).f0).length < 140737488355328
                      · rw [if_pos c27] at H
                        have LMc27 := Aside0.mk c27
                        clear c27
                        obtain ⟨y1074, hy1074⟩ : ∃ y_ : List Int, y_ = (y1070 ++ ((rd_T68 l0_0 x4_1).f0)) := ⟨_, rfl⟩
                        replace H : (if x1064000_1.length < 2932031007402 then (spec_Erase.l0 k2 (wrap64 (x4_1 + 1)) l0_0 l0_1 (x1064000_1 ++ [(⟨y1074, x5_2⟩ : S68)])) else (none)) = some (r1, r2) := by first | (rw [hy1074]; with_reducible exact H) | (have H2_ := (Option.bind_some _ _).symm.trans H; rw [hy1074]; with_reducible exact H2_) | (have H2_ := (Option.bind_some _ _).symm.trans H; with_reducible exact H2_) | with_reducible exact H | (rw [hy1074]; exact H) | exact H
                        have Ny1074 := Aside0.mk hy1074
                        clear hy1074
                        by_cases c28 : x1064000_1.length < 2932031007402
                        · rw [if_pos c28] at H
                          have LMc28 := Aside0.mk c28
                          clear c28
                          obtain ⟨y1077, hy1077⟩ : ∃ y_ : List (S68), y_ = (x1064000_1 ++ [(⟨y1074, x5_2⟩ : S68)]) := ⟨_, rfl⟩
                          replace H : (spec_Erase.l0 k2 (wrap64 (x4_1 + 1)) l0_0 l0_1 y1077) = some (r1, r2) := by first | (rw [hy1077]; with_reducible exact H) | (have H2_ := (Option.bind_some _ _).symm.trans H; rw [hy1077]; with_reducible exact H2_) | (have H2_ := (Option.bind_some _ _).symm.trans H; with_reducible exact H2_) | with_reducible exact H | (rw [hy1077]; exact H) | exact H
                          have Ny1077 := Aside0.mk hy1077
                          clear hy1077
                          have H' := Aside0.mk H
                          clear H
                          obtain ⟨Ao29, co29, eo29⟩ := Kd.S_slice HO_5.out
                          subst eo29
                          try go_wp2
                          have n0_ := Aside0.mk (Kd.S_drew HO_5.out)
                          have n1_ := Aside0.mk (Kd.R_drew HO_1064000.out)
                          have n2_ := Aside0.mk (blk_drew BK1060.out)
                          have n3_ := Aside0.mk (blk_drew BK1061.out)
                          have n4_ := Aside0.mk (blk_drew BK1063.out)
                          have n5_ := Aside0.mk (below_drew1 HB.out)
                          clear HO_5
                          clear HO_1064000
                          clear BK1060
                          clear BK1061
                          clear BK1063
                          clear HB
                          have HO_5 := n0_
                          have HO_1064000 := n1_
                          have BK1060 := n2_
                          have BK1061 := n3_
                          have BK1063 := n4_
                          have HB := n5_
                          clear n0_ n1_ n2_ n3_ n4_ n5_
                          have p1073 : 0 ≤ (x4_1 : Int) := of_decide_eq_true (by first | (with_reducible assumption) | assumption)
                          have q1073 : x4_1 < (l0_0.length : Int) := of_decide_eq_true (by first | (with_reducible assumption) | assumption)
                          obtain ⟨ad1073, A1073_0, c1073_0, A1073_1, c1073_1, e1073, hx1073_0, hx1073_1, hl1073_0, hi1073_0, hl1073_1, hi1073_1⟩ := at_T68 HR0_0.out x4_1 p1073 q1073
                          have hw1073_1 := hx1073_1
                          have hw1073_0 := hx1073_0
                          obtain rfl : ad1064 = ad1073 := (by injection e1073)
                          replace hx1073_0 := (HB.out.cell (World.block_lt_of_cell? w _ hx1073_0)).trans hx1073_0
                          replace hx1073_1 := (HB.out.cell (World.block_lt_of_cell? w _ hx1073_1)).trans hx1073_1
                          have HR1073_0 := Aside0.mk hi1073_0
                          have HC1073_0 := Aside0.mk hl1073_0
                          clear hi1073_0 hl1073_0
                          have HR1073_1 := Aside0.mk hi1073_1
                          have HC1073_1 := Aside0.mk hl1073_1
                          clear hi1073_1 hl1073_1
                          replace p1073 := eq_true p1073
                          replace q1073 := eq_true q1073
                          refine start_ (n := 16) (S := fun w' => w'.cell? ⟨gb1063, 0, none⟩ = some (u1064000) ∧ w'.cell? ⟨gb1063, 1, none⟩ = some (.slice none 0 0) ∧ w'.cell? ⟨gb1060, 0, none⟩ = some (.slice (some ad1064) l0_0.length c0_0) ∧ w'.cell? ⟨gb1060, 1, none⟩ = some (.slice A0_1 l0_1.length c0_1) ∧ w'.cell? (ad1064.add ((x4_1).toNat * 2)) = some (.slice A1073_0 ((rd_T68 l0_0 x4_1).f0).length c1073_0) ∧ w'.cell? ⟨(ad1064.add ((x4_1).toNat * 2)).block, (ad1064.add ((x4_1).toNat * 2)).off + 1, none⟩ = some (.slice A1073_1 ((rd_T68 l0_0 x4_1).f1).length c1073_1)) (ds := [15]) #[false, false, false, false, false, false, false, false, false, false, false, false, false, false, false, false] (by kernel_rfl) rfl rfl ⟨(blk_cell BK1063.out 0).trans rfl, (blk_cell BK1063.out 1).trans rfl, (blk_cell BK1060.out 0).trans rfl, (blk_cell BK1060.out 1).trans rfl, ((HB.out.cell (World.block_lt_of_cell? w _ hw1073_0)).trans hw1073_0), ((HB.out.cell (World.block_lt_of_cell? w _ hw1073_1)).trans hw1073_1)⟩ (fun hHeld => ?_); refine with_tabW spec_Erase.tab13 spec_Erase.bits13 (fun HT_ HW_ => ?_)
                          generalize wr.drew = w30 at HO_5 HO_1064000 BK1060 BK1061 BK1063 HB HR1073_0 HR1073_1 hx1073_0 hx1073_1 hHeld ⊢
                          refine pure_ (i := 0) (N := some 41) (v := ?_) (a' := ?_) #[true, false, false, false, false, false, false, false, false, false, false, false, false, false, false, false] rfl rfl (any_of HT_.out (by kernel_rfl)) (fun _ _ _ h => h) (Or.inl ⟨by rfl, ?_⟩) ?_ ?_
                          rotate_left
                          · intro w'
                            go_simp
                            with_reducible rfl
                          rotate_left
                          · simp only [Act.put, List.setIfInBounds_toArray, List.set_cons_zero, List.set_cons_succ, i64_w, i32_w]
                            rfl
                          refine pure_ (i := 3) (N := some 44) (v := ?_) (a' := ?_) #[true, false, false, true, false, false, false, false, false, false, false, false, false, false, false, false] rfl rfl (any_of HT_.out (by kernel_rfl)) (fun _ _ _ h => h) (Or.inl ⟨by rfl, ?_⟩) ?_ ?_
                          rotate_left
                          · intro w'
                            go_simp
                            with_reducible rfl
                          rotate_left
                          · simp only [Act.put, List.setIfInBounds_toArray, List.set_cons_zero, List.set_cons_succ, i64_w, i32_w]
                            rfl
                          refine pure_ (i := 5) (N := some 46) (v := ?_) (a' := ?_) #[true, false, false, true, false, true, false, false, false, false, false, false, false, false, false, false] rfl rfl (any_of HT_.out (by kernel_rfl)) (fun _ _ _ h => h) (Or.inl ⟨by rfl, ?_⟩) ?_ ?_
                          rotate_left
                          · intro w'
                            go_simp
                            with_reducible rfl
                          rotate_left
                          · simp only [Act.put, List.setIfInBounds_toArray, List.set_cons_zero, List.set_cons_succ, i64_w, i32_w]
                            rfl
                          refine pure_ (i := 10) (N := some 51) (v := ?_) (a' := ?_) #[true, false, false, true, false, true, false, false, false, false, true, false, false, false, false, false] rfl rfl (any_of HT_.out (by kernel_rfl)) (fun _ _ _ h => h) (Or.inl ⟨by rfl, ?_⟩) ?_ ?_
                          rotate_left
                          · intro w'
                            go_simp
                            with_reducible rfl
                          rotate_left
                          · simp only [Act.put, List.setIfInBounds_toArray, List.set_cons_zero, List.set_cons_succ, i64_w, i32_w]
                            rfl
                          refine take_ (i := 1) (N := some 42) (v := ?_) (a' := ?_) #[true, true, false, true, false, true, false, false, false, false, true, false, false, false, false, false] rfl rfl (take_ofW HT_.out HW_.out (by kernel_rfl)) (fun _ _ _ h => h) (Or.inl ⟨by rfl, ?_⟩) hHeld ?_ ?_
                          rotate_left
                          · rintro w' ⟨s0, s1, s2, s3, s4, s5⟩
                            go_simp
                            with_reducible rfl
                          rotate_left
                          · simp only [Act.put, List.setIfInBounds_toArray, List.set_cons_zero, List.set_cons_succ, i64_w, i32_w]
                            rfl
                          refine take_ (i := 4) (N := some 45) (v := ?_) (a' := ?_) #[true, true, false, true, true, true, false, false, false, false, true, false, false, false, false, false] rfl rfl (take_ofW HT_.out HW_.out (by kernel_rfl)) (fun _ _ _ h => h) (Or.inl ⟨by rfl, ?_⟩) hHeld ?_ ?_
                          rotate_left
                          · rintro w' ⟨s0, s1, s2, s3, s4, s5⟩
                            go_simp
                            with_reducible rfl
                          rotate_left
                          · simp only [Act.put, List.setIfInBounds_toArray, List.set_cons_zero, List.set_cons_succ, i64_w, i32_w]
                            rfl
                          refine pure_ (i := 6) (N := some 47) (v := ?_) (a' := ?_) #[true, true, false, true, true, true, true, false, false, false, true, false, false, false, false, false] rfl rfl (any_of HT_.out (by kernel_rfl)) (fun _ _ _ h => h) (Or.inl ⟨by rfl, ?_⟩) ?_ ?_
                          rotate_left
                          · intro w'
                            go_simp
                            with_reducible rfl
                          rotate_left
                          · simp only [Act.put, List.setIfInBounds_toArray, List.set_cons_zero, List.set_cons_succ, i64_w, i32_w]
                            rfl
                          refine pure_ (i := 7) (N := some 48) (v := ?_) (a' := ?_) #[true, true, false, true, true, true, true, true, false, false, true, false, false, false, false, false] rfl rfl (any_of HT_.out (by kernel_rfl)) (fun _ _ _ h => h) (Or.inl ⟨by rfl, ?_⟩) ?_ ?_
                          rotate_left
                          · intro w'
                            go_simp
                            with_reducible rfl
                          rotate_left
                          · simp only [Act.put, List.setIfInBounds_toArray, List.set_cons_zero, List.set_cons_succ, i64_w, i32_w]
                            rfl
                          refine take_ (i := 8) (N := some 49) (v := ?_) (a' := ?_) #[true, true, false, true, true, true, true, true, true, false, true, false, false, false, false, false] rfl rfl (take_ofW HT_.out HW_.out (by kernel_rfl)) (fun _ _ _ h => h) (Or.inl ⟨by rfl, ?_⟩) hHeld ?_ ?_
                          rotate_left
                          · rintro w' ⟨s0, s1, s2, s3, s4, s5⟩
                            go_simp
                            with_reducible rfl
                          rotate_left
                          · simp only [Act.put, List.setIfInBounds_toArray, List.set_cons_zero, List.set_cons_succ, i64_w, i32_w]
                            rfl
                          refine one_ (i := 2) (N := some 43) #[true, true, true, true, true, true, true, true, true, false, true, false, false, false, false, false] rfl rfl (one_of HT_.out (by kernel_rfl)) (by decide) (fun K hK => ?_)
                          refine Kd.R_lit_step (Kd.int .u8) _ 5 ?hg (N := 43) ?hd (xs := ([] : List Int)) (inner := []) (ok := fun _ => True) (okp := fun _ => True) ?hr ?hp (fun _ hk => hk) trivial (Below.refl _ _) (Nat.le_refl _) (by simp) ?_; (case hd => rfl); (case hg => rfl); (case hr => first | (go_simp; done) | (go_simp; rfl)); (case hp => exact (Reps.none _ _))
                          intro v1071 w31 ho32 hb hg_ hnew_
                          clear hg_ hnew_
                          (first | rw [← Ny1070.out] at ho32 | (simp only [Int.reduceToNat] at ho32; rw [← Ny1070.out] at ho32))
                          have n0_ := Aside0.mk (Kd.S_below (by (with_reducible repeat (first | apply Kd.S_alloc | apply Kd.S_drewN | apply Kd.S_drew)); exact HO_5.out) hb)
                          have n1_ := Aside0.mk (Kd.R_elder' (by (with_reducible repeat (first | apply Kd.R_alloc | apply Kd.R_drewN | apply Kd.R_drew)); exact HO_1064000.out) (Kd.R_base ho32) hb)
                          have n2_ := Aside0.mk (Kd.R_lower ho32 (below_size (by repeat (first | (with_reducible first | exact HB.out | apply below_alloc | apply pw_below_drewN | apply below_drew1 | refine below_set ?_ GE1060.out | refine below_set ?_ GE1061.out | refine below_set ?_ GE1063.out) | exact HB.out))))
                          have n3_ := Aside0.mk (blk_below (g := gb1060) (o := .cells #[.slice (some ad1064) l0_0.length c0_0, .slice A0_1 l0_1.length c0_1] 31 (0, 0)) (by (with_reducible repeat (first | refine blk_drewN ?_ _ | refine blk_drew ?_ | refine blk_alloc ?_ _)); exact BK1060.out) hb)
                          have n4_ := Aside0.mk (blk_below (g := gb1061) (o := .cells #[.slice none 0 0, .slice none 0 0] 31 (0, 0)) (by (with_reducible repeat (first | refine blk_drewN ?_ _ | refine blk_drew ?_ | refine blk_alloc ?_ _)); exact BK1061.out) hb)
                          have n5_ := Aside0.mk (blk_below (g := gb1063) (o := .cells #[u1064000, .slice none 0 0] 31 (0, 0)) (by (with_reducible repeat (first | refine blk_drewN ?_ _ | refine blk_drew ?_ | refine blk_alloc ?_ _)); exact BK1063.out) hb)
                          have n6_ := Aside0.mk (below_step (by repeat (first | (with_reducible first | exact HB.out | apply below_alloc | apply pw_below_drewN | apply below_drew1 | refine below_set ?_ GE1060.out | refine below_set ?_ GE1061.out | refine below_set ?_ GE1063.out) | exact HB.out)) hb)
                          clear HO_5
                          clear HO_1064000
                          clear BK1060
                          clear BK1061
                          clear BK1063
                          clear HB
                          have HO_5 := n0_
                          have HO_1064000 := n1_
                          have HO1072 := n2_
                          have BK1060 := n3_
                          have BK1061 := n4_
                          have BK1063 := n5_
                          have HB := n6_
                          clear n0_ n1_ n2_ n3_ n4_ n5_ n6_
                          clear hb ho32
                          refine hK.out _ _ ⟨(blk_cell BK1063.out 0).trans rfl, (blk_cell BK1063.out 1).trans rfl, (blk_cell BK1060.out 0).trans rfl, (blk_cell BK1060.out 1).trans rfl, ((HB.out.cell (World.block_lt_of_cell? w _ hw1073_0)).trans hw1073_0), ((HB.out.cell (World.block_lt_of_cell? w _ hw1073_1)).trans hw1073_1)⟩ (fun hHeld => ?_)
                          clear hK K
                          refine norm_ (a' := ?_) ?_ ?_
                          rotate_left
                          · show Act.put _ (some 43) _ = _
                            simp only [Act.put, List.setIfInBounds_toArray, List.set_cons_zero, List.set_cons_succ, i64_w, i32_w]
                            rfl
                          refine one_ (i := 9) (N := some 50) #[true, true, true, true, true, true, true, true, true, true, true, false, false, false, false, false] rfl rfl (one_of HT_.out (by kernel_rfl)) (by decide) (fun K hK => ?_)
                          refine Kd.R_append_rows_step (Kd.int .u8) (w0 := w) w.heap.size (by rfl) (.tmp 43) (.tmp 49) 36 5 (.int .u8 0) 1 rfl Try.underlying36 info5 rfl (by decide) (by omega) v1071 y1070 ((rd_T68 l0_0 x4_1).f0) _ _ _ (fun _ => True) (fun _ => False) rfl rfl ?aO ?aR (fun _ _ h => h) (fun _ h => h.elim) ?aF ?aB ?aS ?aL ?_
                          (case aR => repeat (first | exact (Kd.C_below HR1073_0.out HB.out) | (with_reducible refine Kd.C_alloc ?_ _) | (with_reducible refine Kd.C_drewN ?_ _) | (with_reducible refine Kd.C_drew ?_)))
                          (case aB => exact (by repeat (first | (with_reducible first | exact HB.out | apply below_alloc | apply pw_below_drewN | apply below_drew1 | refine below_set ?_ GE1060.out | refine below_set ?_ GE1061.out | refine below_set ?_ GE1063.out) | exact HB.out)))
                          (case aF => exact (fun _ _ => trivial))
                          (case aO => exact (by (with_reducible repeat (first | apply Kd.R_alloc | apply Kd.R_drewN | apply Kd.R_drew)); exact HO1072.out))
                          (case aS => exact (below_size (by repeat (first | (with_reducible first | exact HB.out | apply below_alloc | apply pw_below_drewN | apply below_drew1 | refine below_set ?_ GE1060.out | refine below_set ?_ GE1061.out | refine below_set ?_ GE1063.out) | exact HB.out))))
                          (case aL => have := LMc27.out; omega)
                          intro v1075 w33 ho hb hg hat
                          rw [← Ny1074.out] at ho
                          have n0_ := Aside0.mk (Kd.S_over' (by (with_reducible repeat (first | apply Kd.S_alloc | apply Kd.S_drewN | apply Kd.S_drew)); exact HO_5.out) (Kd.R_typed (by (with_reducible repeat (first | apply Kd.R_alloc | apply Kd.R_drewN | apply Kd.R_drew)); exact HO1072.out)) (by decide) hg)
                          have n1_ := Aside0.mk (Kd.R_after (ok := (fun k_ => some k_ ≠ (.slice Ao29 x5_2.length co29 : Value).ownBlock)) (by (with_reducible repeat (first | apply Kd.R_alloc | apply Kd.R_drewN | apply Kd.R_drew)); exact HO_1064000.out) hg hat)
                          have n2_ := Aside0.mk (blk_grown (g := gb1060) (o := .cells #[.slice (some ad1064) l0_0.length c0_0, .slice A0_1 l0_1.length c0_1] 31 (0, 0)) (by (with_reducible repeat (first | refine blk_drewN ?_ _ | refine blk_drew ?_ | refine blk_alloc ?_ _)); exact BK1060.out) hg (Kd.R_ne HO1072.out BK1060.out (by decide)))
                          have n3_ := Aside0.mk (blk_grown (g := gb1061) (o := .cells #[.slice none 0 0, .slice none 0 0] 31 (0, 0)) (by (with_reducible repeat (first | refine blk_drewN ?_ _ | refine blk_drew ?_ | refine blk_alloc ?_ _)); exact BK1061.out) hg (Kd.R_ne HO1072.out BK1061.out (by decide)))
                          have n4_ := Aside0.mk (blk_grown (g := gb1063) (o := .cells #[u1064000, .slice none 0 0] 31 (0, 0)) (by (with_reducible repeat (first | refine blk_drewN ?_ _ | refine blk_drew ?_ | refine blk_alloc ?_ _)); exact BK1063.out) hg (Kd.R_ne HO1072.out BK1063.out (by decide)))
                          have n5_ := Aside0.mk (hb)
                          have n6_ := Aside0.mk (ho)
                          clear HO_5
                          clear HO_1064000
                          clear BK1060
                          clear BK1061
                          clear BK1063
                          clear HB
                          clear HO1072
                          have HO_5 := n0_
                          have HO_1064000 := n1_
                          have BK1060 := n2_
                          have BK1061 := n3_
                          have BK1063 := n4_
                          have HB := n5_
                          have HO1076 := n6_
                          clear n0_ n1_ n2_ n3_ n4_ n5_ n6_
                          clear ho hb hg hat
                          obtain ⟨Ao34, co34, eo34⟩ := Kd.R_slice HO1076.out
                          (first | subst eo34 | (injection eo34 with f1_ f2_ f3_; have f4_ := f1_.symm; have f5_ := f3_.symm; clear f1_ f2_ f3_; subst f4_; subst f5_))
                          refine hK.out _ _ ⟨(blk_cell BK1063.out 0).trans rfl, (blk_cell BK1063.out 1).trans rfl, (blk_cell BK1060.out 0).trans rfl, (blk_cell BK1060.out 1).trans rfl, ((HB.out.cell (World.block_lt_of_cell? w _ hw1073_0)).trans hw1073_0), ((HB.out.cell (World.block_lt_of_cell? w _ hw1073_1)).trans hw1073_1)⟩ (fun hHeld => ?_)
                          clear hK K
                          refine norm_ (a' := ?_) ?_ ?_
                          rotate_left
                          · show Act.put _ (some 50) _ = _
                            simp only [Act.put, List.setIfInBounds_toArray, List.set_cons_zero, List.set_cons_succ, i64_w, i32_w]
                            rfl
                          refine pure_ (i := 11) (N := some 52) (v := ?_) (a' := ?_) #[true, true, true, true, true, true, true, true, true, true, true, true, false, false, false, false] rfl rfl (any_of HT_.out (by kernel_rfl)) (fun _ _ _ h => h) (Or.inl ⟨by rfl, ?_⟩) ?_ ?_
                          rotate_left
                          · intro w'
                            go_simp
                            with_reducible rfl
                          rotate_left
                          · simp only [Act.put, List.setIfInBounds_toArray, List.set_cons_zero, List.set_cons_succ, i64_w, i32_w]
                            rfl
                          refine one_ (i := 12) (N := some 53) #[true, true, true, true, true, true, true, true, true, true, true, true, true, false, false, false] rfl rfl (one_of HT_.out (by kernel_rfl)) (by decide) (fun K hK => ?_)
                          refine value_ (w1 := ?_) (v := ?_) (by rfl) rfl ?_ ?_
                          rotate_left 2
                          · go_simp
                            constructor
                            · rfl
                            · rfl
                          refine hK.out _ _ ⟨(blk_cell (blk_alloc BK1063.out _) 0).trans rfl, (blk_cell (blk_alloc BK1063.out _) 1).trans rfl, (blk_cell (blk_alloc BK1060.out _) 0).trans rfl, (blk_cell (blk_alloc BK1060.out _) 1).trans rfl, (World.cell?_alloc_lt _ _ _ (World.block_lt_of_cell? _ _ (((HB.out.cell (World.block_lt_of_cell? w _ hw1073_0)).trans hw1073_0)))).trans (((HB.out.cell (World.block_lt_of_cell? w _ hw1073_0)).trans hw1073_0)), (World.cell?_alloc_lt _ _ _ (World.block_lt_of_cell? _ _ (((HB.out.cell (World.block_lt_of_cell? w _ hw1073_1)).trans hw1073_1)))).trans (((HB.out.cell (World.block_lt_of_cell? w _ hw1073_1)).trans hw1073_1))⟩ (fun hHeld => ?_)
                          clear hK K
                          refine norm_ (a' := ?_) ?_ ?_
                          rotate_left
                          · show Act.put _ (some 53) _ = _
                            simp only [Act.put, List.setIfInBounds_toArray, List.set_cons_zero, List.set_cons_succ, i64_w, i32_w]
                            rfl
                          refine one_ (i := 13) (N := some 54) #[true, true, true, true, true, true, true, true, true, true, true, true, true, true, false, false] rfl rfl (one_of HT_.out (by kernel_rfl)) (by decide) (fun K hK => ?_)
                          refine Kd.R_append_step k68 (w0 := w) w.heap.size (by rfl) (.tmp 42) (.tmp 53) 28 68 (.agg #[(.slice none 0 0), (.slice none 0 0)]) 48 rfl Try.underlying28 info68 rfl (by decide) (by omega) u1064000 x1064000_1 (⟨y1074, x5_2⟩ : S68) [.slice Ao34 y1074.length co34, .slice Ao29 x5_2.length co29] (fun _ => True) (fun k_ => ((fun _ => True)) k_ ∧ some k_ ≠ (u1064000 : Value).ownBlock) rfl rfl ?aP (fun _ hk => hk) ?aF ?aO ?aB ?aS ?aL ?_
                          (case aP => exact k68_mkM _ _ _ (⟨y1074, x5_2⟩ : S68) (Kd.R_mono (Kd.R_apart' (HO1076.out) (Kd.R_typed HO_1064000.out) (by decide)) (fun k_ hk => ⟨trivial, hk.2⟩)) (Kd.R_mono (Kd.R_apart' ((Kd.S_R HO_5.out)) (Kd.R_typed HO_1064000.out) (by decide)) (fun k_ hk => ⟨trivial, hk.2⟩)))
                          (case aB => exact (by repeat (first | (with_reducible first | exact HB.out | apply below_alloc | apply pw_below_drewN | apply below_drew1 | refine below_set ?_ GE1060.out | refine below_set ?_ GE1061.out | refine below_set ?_ GE1063.out) | exact HB.out)))
                          (case aF => exact (fun _ _ => trivial))
                          (case aO => exact (by (with_reducible repeat (first | apply Kd.R_alloc | apply Kd.R_drewN | apply Kd.R_drew)); exact Kd.R_mono HO_1064000.out (fun _ hk => trivial)))
                          (case aS => exact (below_size (by repeat (first | (with_reducible first | exact HB.out | apply below_alloc | apply pw_below_drewN | apply below_drew1 | refine below_set ?_ GE1060.out | refine below_set ?_ GE1061.out | refine below_set ?_ GE1063.out) | exact HB.out))))
                          (case aL => have := LMc28.out; omega)
                          intro v1078 w35 ho hb hg hat
                          rw [← Ny1077.out] at ho
                          have n0_ := Aside0.mk (blk_grown (g := gb1060) (o := .cells #[.slice (some ad1064) l0_0.length c0_0, .slice A0_1 l0_1.length c0_1] 31 (0, 0)) (by (with_reducible repeat (first | refine blk_drewN ?_ _ | refine blk_drew ?_ | refine blk_alloc ?_ _)); exact BK1060.out) hg (Kd.R_ne HO_1064000.out BK1060.out (by decide)))
                          have n1_ := Aside0.mk (blk_grown (g := gb1061) (o := .cells #[.slice none 0 0, .slice none 0 0] 31 (0, 0)) (by (with_reducible repeat (first | refine blk_drewN ?_ _ | refine blk_drew ?_ | refine blk_alloc ?_ _)); exact BK1061.out) hg (Kd.R_ne HO_1064000.out BK1061.out (by decide)))
                          have n2_ := Aside0.mk (blk_grown (g := gb1063) (o := .cells #[u1064000, .slice none 0 0] 31 (0, 0)) (by (with_reducible repeat (first | refine blk_drewN ?_ _ | refine blk_drew ?_ | refine blk_alloc ?_ _)); exact BK1063.out) hg (Kd.R_ne HO_1064000.out BK1063.out (by decide)))
                          have n3_ := Aside0.mk (hb)
                          have n4_ := Aside0.mk (ho)
                          clear BK1060
                          clear BK1061
                          clear BK1063
                          clear HB
                          clear HO_1064000
                          clear HO1076
                          clear HO_5
                          have BK1060 := n0_
                          have BK1061 := n1_
                          have BK1063 := n2_
                          have HB := n3_
                          have HO1079 := n4_
                          clear n0_ n1_ n2_ n3_ n4_
                          clear ho hb hg hat
                          obtain ⟨Ao36, co36, eo36⟩ := Kd.R_slice HO1079.out
                          (first | subst eo36 | (injection eo36 with f1_ f2_ f3_; have f4_ := f1_.symm; have f5_ := f3_.symm; clear f1_ f2_ f3_; subst f4_; subst f5_))
                          refine hK.out _ _ ⟨(blk_cell BK1063.out 0).trans rfl, (blk_cell BK1063.out 1).trans rfl, (blk_cell BK1060.out 0).trans rfl, (blk_cell BK1060.out 1).trans rfl, ((HB.out.cell (World.block_lt_of_cell? w _ hw1073_0)).trans hw1073_0), ((HB.out.cell (World.block_lt_of_cell? w _ hw1073_1)).trans hw1073_1)⟩ (fun hHeld => ?_)
                          clear hK K
                          refine norm_ (a' := ?_) ?_ ?_
                          rotate_left
                          · show Act.put _ (some 54) _ = _
                            simp only [Act.put, List.setIfInBounds_toArray, List.set_cons_zero, List.set_cons_succ, i64_w, i32_w]
                            rfl
                          refine pure_ (i := 14) (N := some 55) (v := ?_) (a' := ?_) #[true, true, true, true, true, true, true, true, true, true, true, true, true, true, true, false] rfl rfl (any_of HT_.out (by kernel_rfl)) (fun _ _ _ h => h) (Or.inl ⟨by rfl, ?_⟩) ?_ ?_
                          rotate_left
                          · intro w'
                            go_simp
                            with_reducible rfl
                          rotate_left
                          · simp only [Act.put, List.setIfInBounds_toArray, List.set_cons_zero, List.set_cons_succ, i64_w, i32_w]
                            rfl
                          refine last_ (i := 15) (N := none) #[true, true, true, true, true, true, true, true, true, true, true, true, true, true, true, true] rfl rfl (one_of HT_.out (by kernel_rfl)) (by decide) (fun K hK => ?_)
                          have hs37 : w35.cell? ⟨gb1063, 0, none⟩ = some (u1064000) := (blk_cell BK1063.out 0).trans rfl
                          have hfs37 := blk_frozen BK1063.out 0
                          have hns37_0 := NB1060_1063.out
                          have hns37_1 := NB1061_1063.out
                          have hms37_0 := NB1063_1060.out
                          have hms37_1 := NB1063_1061.out
                          refine skip_ (w1 := ?_) (by rfl) rfl ?_ ?_
                          rotate_left
                          · go_simp
                            rfl
                          refine hK.out _ _ ?_
                          clear hK K
                          refine done_ (done_of HT_.out (by kernel_rfl)) ?_
                          try go_wp2
                          go_roundg k2
                          case measure => have := HK1.out; have := HK2.out; omega
                          case rel => exact ⟨(wrap64 (x4_1 + 1)), (y1077), (.slice Ao36 y1077.length co36), (by first | rfl | (simp; done) | (simp [*]; done)), H', ⟨by have := HK1.out; have := HK2.out; omega⟩, ⟨by (with_reducible repeat (first | apply Kd.R_alloc | apply Kd.R_drewN | apply Kd.R_drew)); exact Kd.R_mono (Kd.R_far (p := ⟨gb1063, 0, none⟩) (Kd.R_types HO1079.out BK1063.out (by decide)) (fun _ hk => hk.2) (.slice Ao36 y1077.length co36)) (fun _ hk => trivial)⟩, ⟨by (with_reducible repeat (first | refine blk_drewN ?_ _ | refine blk_drew ?_ | refine blk_alloc ?_ _)); refine blk_far ?_ NB1060_1063.out _; (with_reducible repeat (first | refine blk_drewN ?_ _ | refine blk_drew ?_ | refine blk_alloc ?_ _)); exact BK1060.out⟩, ⟨by (with_reducible repeat (first | refine blk_drewN ?_ _ | refine blk_drew ?_ | refine blk_alloc ?_ _)); refine blk_far ?_ NB1061_1063.out _; (with_reducible repeat (first | refine blk_drewN ?_ _ | refine blk_drew ?_ | refine blk_alloc ?_ _)); exact BK1061.out⟩, ⟨by (with_reducible repeat (first | refine blk_drewN ?_ _ | refine blk_drew ?_ | refine blk_alloc ?_ _)); refine blk_put (cs := #[u1064000, .slice none 0 0]) ?_ 0 _ rfl; (with_reducible repeat (first | refine blk_drewN ?_ _ | refine blk_drew ?_ | refine blk_alloc ?_ _)); exact BK1063.out⟩, ⟨by repeat (first | (with_reducible first | exact HB.out | apply below_alloc | apply pw_below_drewN | apply below_drew1 | refine below_set ?_ GE1060.out | refine below_set ?_ GE1061.out | refine below_set ?_ GE1063.out) | exact HB.out)⟩⟩
                        · rw [if_neg c28] at H
                          exact absurd H (by simp)
                      · rw [if_neg c27] at H
                        exact absurd H (by simp)
                    · rw [if_neg c26] at H
                      exact absurd H (by simp)
                  · rw [if_neg c25] at H
                    exact absurd H (by simp)
          · rw [if_neg c11] at H
            exact absurd H (by simp)
        · rw [if_neg c10] at H
          have c10b0 : decide (x4_1 < (l0_0.length : Int)) = false := decide_eq_false c10
          clear c10
          simp only [Option.some.injEq, Prod.mk.injEq] at H
          obtain ⟨rfl, rfl⟩ := H
          have hnb38 := NB1060_1061.out
          have hnc38 := NB1061_1060.out
          have hnb39 := NB1060_1063.out
          have hnc39 := NB1063_1060.out
          have hcz40_0 : wr.cell? ⟨gb1060, 0, none⟩ = some (.slice A0_0 l0_0.length c0_0) := (blk_cell BK1060.out 0).trans rfl
          have hcz40_1 : wr.cell? ⟨gb1060, 1, none⟩ = some (.slice A0_1 l0_1.length c0_1) := (blk_cell BK1060.out 1).trans rfl
          have hfz40_0 := blk_frozen BK1060.out 0
          have hfz40_1 := blk_frozen BK1060.out 1
          have hnb41 := NB1063_1061.out
          have hnc41 := NB1061_1063.out
          have hcz42_0 : wr.cell? ⟨gb1063, 0, none⟩ = some (u1064000) := (blk_cell BK1063.out 0).trans rfl
          have hcz42_1 : wr.cell? ⟨gb1063, 1, none⟩ = some (.slice none 0 0) := (blk_cell BK1063.out 1).trans rfl
          have hfz42_0 := blk_frozen BK1063.out 0
          have hfz42_1 := blk_frozen BK1063.out 1
          obtain ⟨Ao43, co43, eo43⟩ := Kd.R_slice HO_1064000.out
          subst eo43
          have hcz44_0 : wr.cell? ⟨gb1061, 0, none⟩ = some (.slice none 0 0) := (blk_cell BK1061.out 0).trans rfl
          have hcz44_1 : wr.cell? ⟨gb1061, 1, none⟩ = some (.slice none 0 0) := (blk_cell BK1061.out 1).trans rfl
          have hfz44_0 := blk_frozen BK1061.out 0
          have hfz44_1 := blk_frozen BK1061.out 1
          go_wp2
          refine bodyPost_ret (results_cell_row rfl _ _ gb1061 31 #[.slice Ao43 x1064000_1.length co43, .slice none 0 0] (0, 0) _ rfl (by (with_reducible repeat (first | refine blk_drewN ?_ _ | refine blk_drew ?_ | refine blk_alloc ?_ _)); refine blk_put (cs := #[.slice Ao43 x1064000_1.length co43, .slice none 0 0]) ?_ 1 _ rfl; (with_reducible repeat (first | refine blk_drewN ?_ _ | refine blk_drew ?_ | refine blk_alloc ?_ _)); refine blk_put (cs := #[.slice none 0 0, .slice none 0 0]) ?_ 0 _ rfl; (with_reducible repeat (first | refine blk_drewN ?_ _ | refine blk_drew ?_ | refine blk_alloc ?_ _)); exact BK1061.out) Try.underlying31 rfl (by kernel_rfl)) rfl ?_
          exact ⟨_, _, by first | rfl | (simp [errW_none, errW_some] <;> rfl) | (simp [*, errW_none, errW_some] <;> rfl), by (with_reducible repeat (first | apply Kd.R_alloc | apply Kd.R_drewN | apply Kd.R_drew)); exact Kd.R_mono (Kd.R_far (p := ⟨gb1061, 1, none⟩) (Kd.R_far (p := ⟨gb1061, 0, none⟩) (Kd.R_types HO_1064000.out BK1061.out (by decide)) (fun _ hk => hk.2) (.slice Ao43 x1064000_1.length co43)) (fun _ hk => hk.2) (.slice none 0 0)) (fun _ hk => trivial), by first | exact Kd.R_nil _ _ _ _ _ | exact Kd.N_nil _ _ _ _ _ | exact Kd.V_nil _ _ _ _ _ | exact Kd.Q_nil _ _ _ _ _ | exact Kd.S_nil _ _ _ _ _, by repeat (first | (with_reducible first | exact HB.out | apply below_alloc | apply pw_below_drewN | apply below_drew1 | refine below_set ?_ GE1060.out | refine below_set ?_ GE1061.out | refine below_set ?_ GE1063.out) | exact HB.out)⟩
  · replace c3 := Bool.eq_false_iff.mpr c3
    subst c3
    have H1 : (some (([] : List (S68)), ([] : List (S72)))) = some (r1, r2) := by rw [if_neg (show ¬ (false = true) by decide)] at H; exact H
    clear H
    have H := H1
    clear H1
    simp only [Option.some.injEq, Prod.mk.injEq] at H
    obtain ⟨rfl, rfl⟩ := H
    go_enter Try.func27, Try.ntmps27
    go_wp2_with (first | ((with_reducible refine gate_dst (N := 1) rfl ?_); refine box_event ?hg (N := 1) ?hd (cs := #[.slice A0_0 l0_0.length c0_0, .slice A0_1 l0_1.length c0_1]) (t := 31) ?hr ?_; (case hd => rfl); (case hg => rfl); (case hr => first | (go_simp; done) | (go_simp; rfl)); intro gb1060 hg w45 hbox hb; have n0_ := Aside0.mk (below_step (by repeat (first | (with_reducible first | exact HB.out | apply below_alloc | apply pw_below_drewN | apply below_drew1) | exact HB.out)) hb); have n1_ := Aside0.mk (hbox); have n2_ := Aside0.mk ((by rw [hg]; exact (below_size (by repeat (first | (with_reducible first | exact HB.out | apply below_alloc | apply pw_below_drewN | apply below_drew1) | exact HB.out))) : w.heap.size ≤ gb1060)); have n3_ := Aside0.mk ((by rw [hg]; exact (below_size (by repeat (first | (with_reducible first | exact HB.out | apply below_alloc | apply pw_below_drewN | apply below_drew1) | exact HB.out))) : w.heap.size ≤ gb1060)); clear HB; have HB := n0_; have BK1060 := n1_; have GW1060 := n2_; have GE1060 := n3_; clear n0_ n1_ n2_ n3_; clear hb hbox hg) | ((with_reducible refine gate_dst (N := 2) rfl ?_); refine box_event ?hg (N := 2) ?hd (cs := #[.slice none 0 0, .slice none 0 0]) (t := 31) ?hr ?_; (case hd => rfl); (case hg => rfl); (case hr => first | (go_simp; done) | (go_simp; rfl)); intro gb1061 hg w46 hbox hb; have n0_ := Aside0.mk (blk_below (g := gb1060) (o := .cells #[.slice A0_0 l0_0.length c0_0, .slice A0_1 l0_1.length c0_1] 31 (0, 0)) (by (with_reducible repeat (first | refine blk_drewN ?_ _ | refine blk_drew ?_ | refine blk_alloc ?_ _)); exact BK1060.out) hb); have n1_ := Aside0.mk (below_step (by repeat (first | (with_reducible first | exact HB.out | apply below_alloc | apply pw_below_drewN | apply below_drew1 | refine below_set ?_ GE1060.out) | exact HB.out)) hb); have n2_ := Aside0.mk (hbox); have n3_ := Aside0.mk ((by rw [hg]; exact (below_size (by repeat (first | (with_reducible first | exact HB.out | apply below_alloc | apply pw_below_drewN | apply below_drew1 | refine below_set ?_ GE1060.out) | exact HB.out))) : w.heap.size ≤ gb1061)); have n4_ := Aside0.mk ((by rw [hg]; exact (below_size (by repeat (first | (with_reducible first | exact HB.out | apply below_alloc | apply pw_below_drewN | apply below_drew1 | refine below_set ?_ GE1060.out) | exact HB.out))) : w.heap.size ≤ gb1061)); have n5_ := Aside0.mk ((by rw [hg]; exact Nat.ne_of_lt (blk_lt (g := gb1060) (o := .cells #[.slice A0_0 l0_0.length c0_0, .slice A0_1 l0_1.length c0_1] 31 (0, 0)) (by (with_reducible repeat (first | refine blk_drewN ?_ _ | refine blk_drew ?_ | refine blk_alloc ?_ _)); exact BK1060.out)) : gb1060 ≠ gb1061)); have n6_ := Aside0.mk ((by rw [hg]; exact Nat.ne_of_gt (blk_lt (g := gb1060) (o := .cells #[.slice A0_0 l0_0.length c0_0, .slice A0_1 l0_1.length c0_1] 31 (0, 0)) (by (with_reducible repeat (first | refine blk_drewN ?_ _ | refine blk_drew ?_ | refine blk_alloc ?_ _)); exact BK1060.out)) : gb1061 ≠ gb1060)); clear BK1060; clear HB; have BK1060 := n0_; have HB := n1_; have BK1061 := n2_; have GW1061 := n3_; have GE1061 := n4_; have NB1060_1061 := n5_; have NB1061_1060 := n6_; clear n0_ n1_ n2_ n3_ n4_ n5_ n6_; clear hb hbox hg; have hnb47 := NB1060_1061.out; have hnc47 := NB1061_1060.out; have hcz48_0 : w46.cell? ⟨gb1060, 0, none⟩ = some (.slice A0_0 l0_0.length c0_0) := (blk_cell BK1060.out 0).trans rfl; have hcz48_1 : w46.cell? ⟨gb1060, 1, none⟩ = some (.slice A0_1 l0_1.length c0_1) := (blk_cell BK1060.out 1).trans rfl; have hfz48_0 := blk_frozen BK1060.out 0; have hfz48_1 := blk_frozen BK1060.out 1) | ((with_reducible refine gate_callee (f := 11) rfl ?_); refine goesL_ (some 8) rfl rfl Try.func11 (by kernel_rfl) rfl #[.agg #[.slice A0_0 l0_0.length c0_0, .slice A0_1 l0_1.length c0_1]] rfl (by (try simp only [List.map_toArray, List.map_cons, List.map_nil]); first | done | rfl | (simp only [List.length_drop, List.length_take]; rfl)) ?_; (with_reducible refine (spec_ValidGrammar.calls _ _ l0_0 _ _ l0_1 false _ ?side1 ?side2 ?side3 ?side4 A2.out).mono ?_); (case side1 => repeat (first | exact (Kd.C_below HR0_0.out HB.out) | (with_reducible refine Kd.C_alloc ?_ _) | (with_reducible refine Kd.C_drewN ?_ _) | (with_reducible refine Kd.C_drew ?_))); (case side2 => exact HC0_0.out); (case side3 => repeat (first | exact (Kd.C_below HR0_1.out HB.out) | (with_reducible refine Kd.C_alloc ?_ _) | (with_reducible refine Kd.C_drewN ?_ _) | (with_reducible refine Kd.C_drew ?_))); (case side4 => exact HC0_1.out); rintro e w49 ⟨rfl, hb⟩; refine ⟨_, rfl, ?_⟩; have n0_ := Aside0.mk (blk_below (g := gb1060) (o := .cells #[.slice A0_0 l0_0.length c0_0, .slice A0_1 l0_1.length c0_1] 31 (0, 0)) (by (with_reducible repeat (first | refine blk_drewN ?_ _ | refine blk_drew ?_ | refine blk_alloc ?_ _)); exact BK1060.out) hb); have n1_ := Aside0.mk (blk_below (g := gb1061) (o := .cells #[.slice none 0 0, .slice none 0 0] 31 (0, 0)) (by (with_reducible repeat (first | refine blk_drewN ?_ _ | refine blk_drew ?_ | refine blk_alloc ?_ _)); exact BK1061.out) hb); have n2_ := Aside0.mk (below_step (by repeat (first | (with_reducible first | exact HB.out | apply below_alloc | apply pw_below_drewN | apply below_drew1 | refine below_set ?_ GE1060.out | refine below_set ?_ GE1061.out) | exact HB.out)) hb); clear BK1060; clear BK1061; clear HB; have BK1060 := n0_; have BK1061 := n1_; have HB := n2_; clear n0_ n1_ n2_; (try clear hb); (try clear hb2); (try clear hk); (try clear hi); have hcz50_0 : w49.cell? ⟨gb1061, 0, none⟩ = some (.slice none 0 0) := (blk_cell BK1061.out 0).trans rfl; have hcz50_1 : w49.cell? ⟨gb1061, 1, none⟩ = some (.slice none 0 0) := (blk_cell BK1061.out 1).trans rfl; have hfz50_0 := blk_frozen BK1061.out 0; have hfz50_1 := blk_frozen BK1061.out 1))
    refine bodyPost_ret (results_cell_row rfl _ _ gb1061 31 #[.slice none 0 0, .slice none 0 0] (0, 0) _ rfl (by (with_reducible repeat (first | refine blk_drewN ?_ _ | refine blk_drew ?_ | refine blk_alloc ?_ _)); refine blk_put (cs := #[.slice none 0 0, .slice none 0 0]) ?_ 1 _ rfl; (with_reducible repeat (first | refine blk_drewN ?_ _ | refine blk_drew ?_ | refine blk_alloc ?_ _)); refine blk_put (cs := #[.slice none 0 0, .slice none 0 0]) ?_ 0 _ rfl; (with_reducible repeat (first | refine blk_drewN ?_ _ | refine blk_drew ?_ | refine blk_alloc ?_ _)); exact BK1061.out) Try.underlying31 rfl (by kernel_rfl)) rfl ?_
    exact ⟨_, _, by first | rfl | (simp [errW_none, errW_some] <;> rfl) | (simp [*, errW_none, errW_some] <;> rfl), by first | exact Kd.R_nil _ _ _ _ _ | exact Kd.N_nil _ _ _ _ _ | exact Kd.V_nil _ _ _ _ _ | exact Kd.Q_nil _ _ _ _ _ | exact Kd.S_nil _ _ _ _ _, by first | exact Kd.R_nil _ _ _ _ _ | exact Kd.N_nil _ _ _ _ _ | exact Kd.V_nil _ _ _ _ _ | exact Kd.Q_nil _ _ _ _ _ | exact Kd.S_nil _ _ _ _ _, by repeat (first | (with_reducible first | exact HB.out | apply below_alloc | apply pw_below_drewN | apply below_drew1 | refine below_set ?_ GE1060.out | refine below_set ?_ GE1061.out) | exact HB.out)⟩
end Go.Proofs.Ytdiilocgjnlmiaa.PAll
