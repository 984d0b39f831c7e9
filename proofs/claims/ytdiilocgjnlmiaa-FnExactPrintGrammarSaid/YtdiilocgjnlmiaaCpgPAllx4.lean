import Derived.Test.YtdiilocgjnlmiaaCpgFlat
import Derived.Test.YtdiilocgjnlmiaaCpgPAllx2
import Derived.Test.YtdiilocgjnlmiaaCpgPAllx3
namespace Go.Proofs.Ytdiilocgjnlmiaa.PAll
open Go.RowKit Go.Proofs.YtdiilocgjnlmiaaW.PrintWords Go.Proofs.YtdiilocgjnlmiaaW.PrintLast Go.Proofs.YtdiilocgjnlmiaaW.PrintMore
attribute [local go_sem] max2_int min2_int max_two min_two max_three min_three max_four min_four   -- for this text's walks alone
set_option linter.unusedVariables false
set_option linter.unusedSimpArgs false
mutual
def spec_l2bodyOK.l0 : Nat → List (S79) → Int → Int → Int → Option (Bool)
 | 0, _, _, _, _ => none
 | k + 1, x0, x1, x2, x7 => if x7 < (x0.length : Int) then (if 0 ≤ x7 then (if ((rd_T79 x0 x7).f0) < 0 then (spec_l2bodyOK.j1 k x0 x1 x2 x7 true ((rd_T79 x0 x7).f0) ((rd_T79 x0 x7).f1) ((rd_T79 x0 x7).f2)) else (spec_l2bodyOK.j1 k x0 x1 x2 x7 (decide (((rd_T79 x0 x7).f0) > 7)) ((rd_T79 x0 x7).f0) ((rd_T79 x0 x7).f1) ((rd_T79 x0 x7).f2))) else (none)) else ((spec_l2shape.f k x0).bind fun t132 => (some t132))
def spec_l2bodyOK.j1 : Nat → List (S79) → Int → Int → Int → Bool → Int → List Int → Int → Option (Bool)
 | 0, _, _, _, _, _, _, _, _ => none
 | k + 1, x0, x1, x2, x7, x27, x135000, x135001, x135002 => if x27 = true then (some false) else (if x135000 = 1 then ((spec_l2canon.f k x135001).bind fun t135 => (spec_l2bodyOK.j2 k x0 x1 x2 x7 (!t135) x135000 x135001 x135002)) else (spec_l2bodyOK.j2 k x0 x1 x2 x7 false x135000 x135001 x135002))
def spec_l2bodyOK.j2 : Nat → List (S79) → Int → Int → Int → Bool → Int → List Int → Int → Option (Bool)
 | 0, _, _, _, _, _, _, _, _ => none
 | k + 1, x0, x1, x2, x7, x36, x135000, x135001, x135002 => if x36 = true then (some false) else (if x135000 = 1 then (spec_l2bodyOK.j3 k x0 x1 x2 x7 false x135000 x135001 x135002) else (spec_l2bodyOK.j3 k x0 x1 x2 x7 ((x135001.length : Int) != 0) x135000 x135001 x135002))
def spec_l2bodyOK.j3 : Nat → List (S79) → Int → Int → Int → Bool → Int → List Int → Int → Option (Bool)
 | 0, _, _, _, _, _, _, _, _ => none
 | k + 1, x0, x1, x2, x7, x45, x135000, x135001, x135002 => if x45 = true then (some false) else (if x135000 = 2 then (spec_l2bodyOK.j4 k x0 x1 x2 x7 x1 x135000 x135001 x135002) else (spec_l2bodyOK.j4 k x0 x1 x2 x7 1 x135000 x135001 x135002))
def spec_l2bodyOK.j4 : Nat → List (S79) → Int → Int → Int → Int → Int → List Int → Int → Option (Bool)
 | 0, _, _, _, _, _, _, _, _ => none
 | k + 1, x0, x1, x2, x7, x9, x135000, x135001, x135002 => if x135000 = 3 then (if x135002 < 0 then (some false) else (if x135002 ≥ x2 then (some false) else (spec_l2bodyOK.l0 k x0 x1 x2 (wrap64 (x7 + 1))))) else (if x135002 < 0 then (some false) else (if x135002 ≥ x9 then (some false) else (spec_l2bodyOK.l0 k x0 x1 x2 (wrap64 (x7 + 1)))))
end
def spec_l2bodyOK.f (k : Nat) (l0 : List (S79)) (a1 : Int) (a2 : Int) : Option (Bool) := spec_l2bodyOK.l0 k l0 a1 a2 0
theorem spec_l2bodyOK.mono_l : ∀ k, (∀ y0 y1 y2 y3, LeO (spec_l2bodyOK.l0 k y0 y1 y2 y3) (spec_l2bodyOK.l0 (k + 1) y0 y1 y2 y3)) ∧ (∀ y0 y1 y2 y3 y4 y5 y6 y7, LeO (spec_l2bodyOK.j1 k y0 y1 y2 y3 y4 y5 y6 y7) (spec_l2bodyOK.j1 (k + 1) y0 y1 y2 y3 y4 y5 y6 y7)) ∧ (∀ y0 y1 y2 y3 y4 y5 y6 y7, LeO (spec_l2bodyOK.j2 k y0 y1 y2 y3 y4 y5 y6 y7) (spec_l2bodyOK.j2 (k + 1) y0 y1 y2 y3 y4 y5 y6 y7)) ∧ (∀ y0 y1 y2 y3 y4 y5 y6 y7, LeO (spec_l2bodyOK.j3 k y0 y1 y2 y3 y4 y5 y6 y7) (spec_l2bodyOK.j3 (k + 1) y0 y1 y2 y3 y4 y5 y6 y7)) ∧ (∀ y0 y1 y2 y3 y4 y5 y6 y7, LeO (spec_l2bodyOK.j4 k y0 y1 y2 y3 y4 y5 y6 y7) (spec_l2bodyOK.j4 (k + 1) y0 y1 y2 y3 y4 y5 y6 y7))
 | 0 => ⟨fun _ _ _ _ r h => by simp [spec_l2bodyOK.l0] at h, fun _ _ _ _ _ _ _ _ r h => by simp [spec_l2bodyOK.j1] at h, fun _ _ _ _ _ _ _ _ r h => by simp [spec_l2bodyOK.j2] at h, fun _ _ _ _ _ _ _ _ r h => by simp [spec_l2bodyOK.j3] at h, fun _ _ _ _ _ _ _ _ r h => by simp [spec_l2bodyOK.j4] at h⟩
 | k + 1 => by
  obtain ⟨ih0, ih1, ih2, ih3, ih4⟩ := spec_l2bodyOK.mono_l k
  refine ⟨?_, ?_, ?_, ?_, ?_⟩
  ·intro y0 y1 y2 y3
   unfold spec_l2bodyOK.l0
   repeat' first
   | (with_reducible exact ih0 _ _ _ _)
   | (with_reducible exact ih1 _ _ _ _ _ _ _ _)
   | (with_reducible exact ih2 _ _ _ _ _ _ _ _)
   | (with_reducible exact ih3 _ _ _ _ _ _ _ _)
   | (with_reducible exact ih4 _ _ _ _ _ _ _ _)
   | (with_reducible exact spec_l2canon.mono _ _)
   | (with_reducible exact spec_l2shape.mono _ _)
   | (with_reducible exact LeO.refl _)
   | (with_reducible exact LeO.none _)
   | (with_reducible refine LeO.ite ?_ ?_)
   | (with_reducible refine LeO.bind ?_ (fun _ => ?_))
   | exact ih0 _ _ _ _
   | exact ih1 _ _ _ _ _ _ _ _
   | exact ih2 _ _ _ _ _ _ _ _
   | exact ih3 _ _ _ _ _ _ _ _
   | exact ih4 _ _ _ _ _ _ _ _
   | exact spec_l2canon.mono _ _
   | exact spec_l2shape.mono _ _
   | exact LeO.none _
   | refine LeO.ite ?_ ?_
   | refine LeO.bind ?_ (fun _ => ?_)
  ·intro y0 y1 y2 y3 y4 y5 y6 y7
   unfold spec_l2bodyOK.j1
   repeat' first
   | (with_reducible exact ih0 _ _ _ _)
   | (with_reducible exact ih1 _ _ _ _ _ _ _ _)
   | (with_reducible exact ih2 _ _ _ _ _ _ _ _)
   | (with_reducible exact ih3 _ _ _ _ _ _ _ _)
   | (with_reducible exact ih4 _ _ _ _ _ _ _ _)
   | (with_reducible exact spec_l2canon.mono _ _)
   | (with_reducible exact spec_l2shape.mono _ _)
   | (with_reducible exact LeO.refl _)
   | (with_reducible exact LeO.none _)
   | (with_reducible refine LeO.ite ?_ ?_)
   | (with_reducible refine LeO.bind ?_ (fun _ => ?_))
   | exact ih0 _ _ _ _
   | exact ih1 _ _ _ _ _ _ _ _
   | exact ih2 _ _ _ _ _ _ _ _
   | exact ih3 _ _ _ _ _ _ _ _
   | exact ih4 _ _ _ _ _ _ _ _
   | exact spec_l2canon.mono _ _
   | exact spec_l2shape.mono _ _
   | exact LeO.none _
   | refine LeO.ite ?_ ?_
   | refine LeO.bind ?_ (fun _ => ?_)
  ·intro y0 y1 y2 y3 y4 y5 y6 y7
   unfold spec_l2bodyOK.j2
   repeat' first
   | (with_reducible exact ih0 _ _ _ _)
   | (with_reducible exact ih1 _ _ _ _ _ _ _ _)
   | (with_reducible exact ih2 _ _ _ _ _ _ _ _)
   | (with_reducible exact ih3 _ _ _ _ _ _ _ _)
   | (with_reducible exact ih4 _ _ _ _ _ _ _ _)
   | (with_reducible exact spec_l2canon.mono _ _)
   | (with_reducible exact spec_l2shape.mono _ _)
   | (with_reducible exact LeO.refl _)
   | (with_reducible exact LeO.none _)
   | (with_reducible refine LeO.ite ?_ ?_)
   | (with_reducible refine LeO.bind ?_ (fun _ => ?_))
   | exact ih0 _ _ _ _
   | exact ih1 _ _ _ _ _ _ _ _
   | exact ih2 _ _ _ _ _ _ _ _
   | exact ih3 _ _ _ _ _ _ _ _
   | exact ih4 _ _ _ _ _ _ _ _
   | exact spec_l2canon.mono _ _
   | exact spec_l2shape.mono _ _
   | exact LeO.none _
   | refine LeO.ite ?_ ?_
   | refine LeO.bind ?_ (fun _ => ?_)
  ·intro y0 y1 y2 y3 y4 y5 y6 y7
   unfold spec_l2bodyOK.j3
   repeat' first
   | (with_reducible exact ih0 _ _ _ _)
   | (with_reducible exact ih1 _ _ _ _ _ _ _ _)
   | (with_reducible exact ih2 _ _ _ _ _ _ _ _)
   | (with_reducible exact ih3 _ _ _ _ _ _ _ _)
   | (with_reducible exact ih4 _ _ _ _ _ _ _ _)
   | (with_reducible exact spec_l2canon.mono _ _)
   | (with_reducible exact spec_l2shape.mono _ _)
   | (with_reducible exact LeO.refl _)
   | (with_reducible exact LeO.none _)
   | (with_reducible refine LeO.ite ?_ ?_)
   | (with_reducible refine LeO.bind ?_ (fun _ => ?_))
   | exact ih0 _ _ _ _
   | exact ih1 _ _ _ _ _ _ _ _
   | exact ih2 _ _ _ _ _ _ _ _
   | exact ih3 _ _ _ _ _ _ _ _
   | exact ih4 _ _ _ _ _ _ _ _
   | exact spec_l2canon.mono _ _
   | exact spec_l2shape.mono _ _
   | exact LeO.none _
   | refine LeO.ite ?_ ?_
   | refine LeO.bind ?_ (fun _ => ?_)
  intro y0 y1 y2 y3 y4 y5 y6 y7
  unfold spec_l2bodyOK.j4
  repeat' first
  | (with_reducible exact ih0 _ _ _ _)
  | (with_reducible exact ih1 _ _ _ _ _ _ _ _)
  | (with_reducible exact ih2 _ _ _ _ _ _ _ _)
  | (with_reducible exact ih3 _ _ _ _ _ _ _ _)
  | (with_reducible exact ih4 _ _ _ _ _ _ _ _)
  | (with_reducible exact spec_l2canon.mono _ _)
  | (with_reducible exact spec_l2shape.mono _ _)
  | (with_reducible exact LeO.refl _)
  | (with_reducible exact LeO.none _)
  | (with_reducible refine LeO.ite ?_ ?_)
  | (with_reducible refine LeO.bind ?_ (fun _ => ?_))
  | exact ih0 _ _ _ _
  | exact ih1 _ _ _ _ _ _ _ _
  | exact ih2 _ _ _ _ _ _ _ _
  | exact ih3 _ _ _ _ _ _ _ _
  | exact ih4 _ _ _ _ _ _ _ _
  | exact spec_l2canon.mono _ _
  | exact spec_l2shape.mono _ _
  | exact LeO.none _
  | refine LeO.ite ?_ ?_
  | refine LeO.bind ?_ (fun _ => ?_)
theorem spec_l2bodyOK.mono : ∀ a0 a1 a2 k, LeO (spec_l2bodyOK.f k a0 a1 a2) (spec_l2bodyOK.f (k + 1) a0 a1 a2) := by
 intro a0 a1 a2 k
 obtain ⟨ih0, ih1, ih2, ih3, ih4⟩ := spec_l2bodyOK.mono_l k
 unfold spec_l2bodyOK.f
 repeat' first
  | (with_reducible exact ih0 _ _ _ _)
  | (with_reducible exact ih1 _ _ _ _ _ _ _ _)
  | (with_reducible exact ih2 _ _ _ _ _ _ _ _)
  | (with_reducible exact ih3 _ _ _ _ _ _ _ _)
  | (with_reducible exact ih4 _ _ _ _ _ _ _ _)
  | (with_reducible exact spec_l2canon.mono _ _)
  | (with_reducible exact spec_l2shape.mono _ _)
  | (with_reducible exact LeO.refl _)
  | (with_reducible exact LeO.none _)
  | (with_reducible refine LeO.ite ?_ ?_)
  | (with_reducible refine LeO.bind ?_ (fun _ => ?_))
  | exact ih0 _ _ _ _
  | exact ih1 _ _ _ _ _ _ _ _
  | exact ih2 _ _ _ _ _ _ _ _
  | exact ih3 _ _ _ _ _ _ _ _
  | exact ih4 _ _ _ _ _ _ _ _
  | exact spec_l2canon.mono _ _
  | exact spec_l2shape.mono _ _
  | exact LeO.none _
  | refine LeO.ite ?_ ?_
  | refine LeO.bind ?_ (fun _ => ?_)
set_option maxHeartbeats 8000000 in
set_option maxRecDepth 100000 in
theorem spec_l2bodyOK.calls (k : Nat) (A0 : Option Addr) (c0 : Nat) (l0 : List (S79)) (a1 : Int) (a2 : Int) (r : Bool) (w : World) (hr0 : Kd.C k79 w A0 l0.length l0) (hc0 : l0.length ≤ c0) (h : spec_l2bodyOK.f k l0 a1 a2 = some r) :
 Calls Try.prog 47 #[.slice A0 l0.length c0, .int .i64 a1, .int .i64 a2] w fun e w' => e = .returned (.bool r) ∧ Below w.heap.size w w' := by
 have hu79 := Try.underlying79
 have HR0 := Aside0.mk hr0
 have HC0 := Aside0.mk hc0
 clear hr0 hc0
 have HB := Aside0.mk (Below.refl w.heap.size w)
 have H : (spec_l2bodyOK.l0 k l0 a1 a2 0) = some r := h
 clear h
 have H' := Aside0.mk H
 clear H
 go_enter Try.func47, Try.ntmps47
 go_wp2
 go_loopg [7] k (fun kq v7 w' => ∃ (x7_1 : Int), v7 = .int .i64 x7_1 ∧ Aside0 (spec_l2bodyOK.l0 kq l0 a1 a2 x7_1 = some r) ∧ Aside0 (kq ≤ k) ∧ Aside0 (Below w.heap.size w w'))
 case atStart => exact ⟨(0), (by first | rfl | (simp; done) | (simp [*]; done)), H', ⟨Nat.le_refl _⟩, ⟨bw_⟩⟩
 case round =>
  clear H'
  try clear p2
  obtain ⟨x7_1, rfl, HA, HK1, HB⟩ := hrel
  cases gk with
  | zero => exact absurd HA.out (by simp [spec_l2bodyOK.l0])
  | succ k1 =>
   have H := HA.out
   clear HA
   simp only [spec_l2bodyOK.l0] at H
   by_cases c4 : x7_1 < (l0.length : Int)
   rotate_left
   ·rw [if_neg c4] at H
    have c4b0 : decide (x7_1 < (l0.length : Int)) = false := decide_eq_false c4
    clear c4
    replace H := Option.bind_eq_some_iff.mp H
    obtain ⟨t132, A380, H⟩ := H
    replace H : (some t132) = some r := H
    have A38 := Aside0.mk A380
    clear A380
    obtain rfl := Option.some.inj H
    go_wp2_with (first | ((with_reducible refine gate_callee (f := 102) rfl ?_); refine goesL_ (some 64) rfl rfl Try.func102 (by kernel_rfl) rfl #[.slice A0 l0.length c0] rfl ml_ ?_; (with_reducible refine (spec_l2shape.calls k1 _ _ l0 t132 _ ?side1 ?side2 A38.out).mono ?_); (case side1 => repeat (first | exact (Kd.C_below HR0.out HB.out) | (with_reducible refine Kd.C_alloc ?_ _) | (with_reducible refine Kd.C_drewN ?_ _) | (with_reducible refine Kd.C_drew ?_))); (case side2 => exact HC0.out); rintro e w' ⟨rfl, ⟨nd, rfl⟩⟩; refine ⟨_, rfl, ?_⟩))
    go_ret
    exact ⟨er_, bw_⟩
   rw [if_pos c4] at H
   have c4b0 : decide (x7_1 < (l0.length : Int)) = true := decide_eq_true c4
   clear c4
   by_cases c5 : 0 ≤ x7_1
   rotate_left
   ·rw [if_neg c5] at H
    exact absurd H (by simp)
   rw [if_pos c5] at H
   have c5b0 : decide (0 ≤ x7_1) = true := decide_eq_true c5
   clear c5
   have HC6 := Aside0.mk H
   clear H
   have p133 : 0 ≤ (x7_1 : Int) := of_decide_eq_true as_
   have q133 : x7_1 < (l0.length : Int) := of_decide_eq_true as_
   obtain ⟨ad133, A133_1, c133_1, e133, hx133_0, hx133_1, hx133_2, hl133_1, hi133_1⟩ := at_T79 HR0.out x7_1 p133 q133
   cases e133
   replace hx133_0 := (HB.out.cell (World.block_lt_of_cell? w _ hx133_0)).trans hx133_0
   replace hx133_1 := (HB.out.cell (World.block_lt_of_cell? w _ hx133_1)).trans hx133_1
   replace hx133_2 := (HB.out.cell (World.block_lt_of_cell? w _ hx133_2)).trans hx133_2
   have HR133_1 := Aside0.mk hi133_1
   have HC133_1 := Aside0.mk hl133_1
   clear hi133_1 hl133_1
   replace p133 := eq_true p133
   replace q133 := eq_true q133
   go_upto_region 5 with (first | ((with_reducible refine gate_dst (N := 8) rfl ?_); (try (refine gate_guard (by rfl) ?_; dsimp only)); refine box_event ?hg (N := 8) ?hd (cs := #[.int .i64 0, .slice none 0 0, .int .i64 0]) (t := 79) ?hr ?_; (case hd => rfl); (case hg => rfl); (case hr => first | (go_simp; done) | (go_simp; rfl)); intro gb134 hg w7 hbox hb; have n0_ := Aside0.mk (below_step bw_ hb); have n1_ := Aside0.mk (hbox); have n2_ := Aside0.mk ((by rw [hg]; exact (below_size bw_) : w.heap.size ≤ gb134)); have n3_ := Aside0.mk ((by rw [hg]; exact (below_size bw_) : w.heap.size ≤ gb134)); clear HB; have HB := n0_; have BK134 := n1_; have GW134 := n2_; have GE134 := n3_; clear n0_ n1_ n2_ n3_; clear hb hbox hg; have hcz8_0 : w7.cell? ⟨gb134, 0, none⟩ = some (.int .i64 0) := (blk_cell BK134.out 0).trans rfl; have hcz8_1 : w7.cell? ⟨gb134, 1, none⟩ = some (.slice none 0 0) := (blk_cell BK134.out 1).trans rfl; have hcz8_2 : w7.cell? ⟨gb134, 2, none⟩ = some (.int .i64 0) := (blk_cell BK134.out 2).trans rfl; have hfz8_0 := blk_frozen BK134.out 0; have hfz8_1 := blk_frozen BK134.out 1; have hfz8_2 := blk_frozen BK134.out 2))
   (try simp only [Act.put, List.setIfInBounds_toArray, List.set_cons_zero, List.set_cons_succ])
   go_cut [27] (fun v27 wc => ∃ (kq : Nat) (x27_5 : Bool), v27 = .bool x27_5 ∧ Aside0 (spec_l2bodyOK.j1 kq l0 a1 a2 x7_1 x27_5 ((rd_T79 l0 x7_1).f0) ((rd_T79 l0 x7_1).f1) ((rd_T79 l0 x7_1).f2) = some r) ∧ Aside0 (kq ≤ k1) ∧ Aside0 (wc.heap[gb134]? = some (.cells #[.int .i64 ((rd_T79 l0 x7_1).f0), (.slice A133_1 ((rd_T79 l0 x7_1).f1).length c133_1), .int .i64 ((rd_T79 l0 x7_1).f2)] 79 (0, 0))) ∧ Aside0 (Below w.heap.size w wc))
   case first =>
    have H := HC6.out
    clear HC6
    by_cases c9 : ((rd_T79 l0 x7_1).f0) < 0
    ·rw [if_pos c9] at H
     have c9b0 : decide (((rd_T79 l0 x7_1).f0) < 0) = true := decide_eq_true c9
     clear c9
     (first | rw [c9b0] | (simp only [i64_w, i32_w]; rw [c9b0]) | skip)
     have H' := Aside0.mk H
     clear H
     have hcz10_0 : w7.cell? ⟨gb134, 0, none⟩ = some (.int .i64 0) := (blk_cell BK134.out 0).trans rfl
     have hcz10_1 : w7.cell? ⟨gb134, 1, none⟩ = some (.slice none 0 0) := (blk_cell BK134.out 1).trans rfl
     have hcz10_2 : w7.cell? ⟨gb134, 2, none⟩ = some (.int .i64 0) := (blk_cell BK134.out 2).trans rfl
     have hfz10_0 := blk_frozen BK134.out 0
     have hfz10_1 := blk_frozen BK134.out 1
     have hfz10_2 := blk_frozen BK134.out 2
     go_wp2
     go_meet
     case rel => exact ⟨_, (true), (by first | rfl | (simp; done) | (simp [*]; done)), H', ⟨by have := HK1.out; first | omega | exact Nat.le_refl _⟩, ⟨by (with_reducible repeat (first | refine blk_drewN ?_ _ | refine blk_drew ?_ | refine blk_alloc ?_ _)); refine blk_put (cs := #[.int .i64 ((rd_T79 l0 x7_1).f0), .slice A133_1 ((rd_T79 l0 x7_1).f1).length c133_1, .int .i64 0]) ?_ 2 _ rfl; (with_reducible repeat (first | refine blk_drewN ?_ _ | refine blk_drew ?_ | refine blk_alloc ?_ _)); refine blk_put (cs := #[.int .i64 ((rd_T79 l0 x7_1).f0), .slice none 0 0, .int .i64 0]) ?_ 1 _ rfl; (with_reducible repeat (first | refine blk_drewN ?_ _ | refine blk_drew ?_ | refine blk_alloc ?_ _)); refine blk_put (cs := #[.int .i64 0, .slice none 0 0, .int .i64 0]) ?_ 0 _ rfl; (with_reducible repeat (first | refine blk_drewN ?_ _ | refine blk_drew ?_ | refine blk_alloc ?_ _)); exact BK134.out⟩, ⟨by repeat (first | (with_reducible first | exact HB.out | apply below_alloc | apply pw_below_drewN | apply below_drew1 | refine below_set ?_ GE134.out) | exact HB.out)⟩⟩
    rw [if_neg c9] at H
    have c9b0 : decide (((rd_T79 l0 x7_1).f0) < 0) = false := decide_eq_false c9
    clear c9
    (first | rw [c9b0] | (simp only [i64_w, i32_w]; rw [c9b0]) | skip)
    have H' := Aside0.mk H
    clear H
    have hcz11_0 : w7.cell? ⟨gb134, 0, none⟩ = some (.int .i64 0) := (blk_cell BK134.out 0).trans rfl
    have hcz11_1 : w7.cell? ⟨gb134, 1, none⟩ = some (.slice none 0 0) := (blk_cell BK134.out 1).trans rfl
    have hcz11_2 : w7.cell? ⟨gb134, 2, none⟩ = some (.int .i64 0) := (blk_cell BK134.out 2).trans rfl
    have hfz11_0 := blk_frozen BK134.out 0
    have hfz11_1 := blk_frozen BK134.out 1
    have hfz11_2 := blk_frozen BK134.out 2
    go_wp2
    go_meet
    case rel => exact ⟨_, (decide (((rd_T79 l0 x7_1).f0) > 7)), (by first | rfl | (simp; done) | (simp [*]; done)), H', ⟨by have := HK1.out; first | omega | exact Nat.le_refl _⟩, ⟨by (with_reducible repeat (first | refine blk_drewN ?_ _ | refine blk_drew ?_ | refine blk_alloc ?_ _)); refine blk_put (cs := #[.int .i64 ((rd_T79 l0 x7_1).f0), .slice A133_1 ((rd_T79 l0 x7_1).f1).length c133_1, .int .i64 0]) ?_ 2 _ rfl; (with_reducible repeat (first | refine blk_drewN ?_ _ | refine blk_drew ?_ | refine blk_alloc ?_ _)); refine blk_put (cs := #[.int .i64 ((rd_T79 l0 x7_1).f0), .slice none 0 0, .int .i64 0]) ?_ 1 _ rfl; (with_reducible repeat (first | refine blk_drewN ?_ _ | refine blk_drew ?_ | refine blk_alloc ?_ _)); refine blk_put (cs := #[.int .i64 0, .slice none 0 0, .int .i64 0]) ?_ 0 _ rfl; (with_reducible repeat (first | refine blk_drewN ?_ _ | refine blk_drew ?_ | refine blk_alloc ?_ _)); exact BK134.out⟩, ⟨by repeat (first | (with_reducible first | exact HB.out | apply below_alloc | apply pw_below_drewN | apply below_drew1 | refine below_set ?_ GE134.out) | exact HB.out)⟩⟩
   case rest =>
    clear HC6
    try clear c1
    try clear p1
    try clear q1
    try clear hx1
    try clear p2
    try clear c4
    try clear c4b0
    try clear c5
    try clear c5b0
    try clear c9
    try clear c9b0
    try clear hcz10_0
    try clear hcz10_1
    try clear hcz10_2
    try clear hcz11_0
    try clear hcz11_1
    try clear hcz11_2
    try clear hcz8_0
    try clear hcz8_1
    try clear hcz8_2
    try clear hfz10_0
    try clear hfz10_1
    try clear hfz10_2
    try clear hfz11_0
    try clear hfz11_1
    try clear hfz11_2
    try clear hfz8_0
    try clear hfz8_1
    try clear hfz8_2
    try clear hx133_0
    try clear hx133_1
    try clear hx133_2
    try clear p133
    try clear p2
    try clear q133
    obtain ⟨kq, x27_5, rfl, HA, HJ5, BK134, HB⟩ := hcut
    cases kq with
    | zero => exact absurd HA.out (by simp [spec_l2bodyOK.j1])
    | succ kj5 =>
     have H := HA.out
     clear HA
     simp only [spec_l2bodyOK.j1] at H
     by_cases c12 : x27_5 = true
     ·subst c12
      have H1 : (some false) = some r := by rw [if_pos rfl] at H; exact H
      clear H
      have H := H1
      clear H1
      obtain rfl := Option.some.inj H
      go_wp2
      go_ret
      exact ⟨er_, by repeat (first | (with_reducible first | exact HB.out | apply below_alloc | apply pw_below_drewN | apply below_drew1 | refine below_set ?_ GE134.out) | exact HB.out)⟩
     replace c12 := Bool.eq_false_iff.mpr c12
     subst c12
     have H1 : (if ((rd_T79 l0 x7_1).f0) = 1 then ((spec_l2canon.f kj5 ((rd_T79 l0 x7_1).f1)).bind fun t135 => (spec_l2bodyOK.j2 kj5 l0 a1 a2 x7_1 (!t135) ((rd_T79 l0 x7_1).f0) ((rd_T79 l0 x7_1).f1) ((rd_T79 l0 x7_1).f2))) else (spec_l2bodyOK.j2 kj5 l0 a1 a2 x7_1 false ((rd_T79 l0 x7_1).f0) ((rd_T79 l0 x7_1).f1) ((rd_T79 l0 x7_1).f2))) = some r := by rw [if_neg (show ¬ (false = true) by decide)] at H; exact H
     clear H
     have H := H1
     clear H1
     have HC13 := Aside0.mk H
     clear H
     go_upto_region 7 with (fail)
     go_cut [36] (fun v36 wc => ∃ (kq : Nat) (x36_12 : Bool), v36 = .bool x36_12 ∧ Aside0 (spec_l2bodyOK.j2 kq l0 a1 a2 x7_1 x36_12 ((rd_T79 l0 x7_1).f0) ((rd_T79 l0 x7_1).f1) ((rd_T79 l0 x7_1).f2) = some r) ∧ Aside0 (kq ≤ kj5) ∧ Aside0 (wc.heap[gb134]? = some (.cells #[.int .i64 ((rd_T79 l0 x7_1).f0), (.slice A133_1 ((rd_T79 l0 x7_1).f1).length c133_1), .int .i64 ((rd_T79 l0 x7_1).f2)] 79 (0, 0))) ∧ Aside0 (Below w.heap.size w wc))
     case first =>
      have H := HC13.out
      clear HC13
      by_cases c14 : ((rd_T79 l0 x7_1).f0) = 1
      ·rw [if_pos c14] at H
       have c14b0 : (((rd_T79 l0 x7_1).f0) == 1) = true := beq_iff_eq.mpr c14
       have c14b1 : (((rd_T79 l0 x7_1).f0) != 1) = false := bne_eq_false_iff_eq.mpr c14
       clear c14
       (first | rw [c14b0] | (simp only [i64_w, i32_w]; rw [c14b0]) | skip)
       replace H := Option.bind_eq_some_iff.mp H
       obtain ⟨t135, A150, H⟩ := H
       replace H : (spec_l2bodyOK.j2 kj5 l0 a1 a2 x7_1 (!t135) ((rd_T79 l0 x7_1).f0) ((rd_T79 l0 x7_1).f1) ((rd_T79 l0 x7_1).f2)) = some r := H
       have A15 := Aside0.mk A150
       clear A150
       have H' := Aside0.mk H
       clear H
       have hcz16_0 : wc.cell? ⟨gb134, 0, none⟩ = some (.int .i64 ((rd_T79 l0 x7_1).f0)) := (blk_cell BK134.out 0).trans rfl
       have hcz16_1 : wc.cell? ⟨gb134, 1, none⟩ = some (.slice A133_1 ((rd_T79 l0 x7_1).f1).length c133_1) := (blk_cell BK134.out 1).trans rfl
       have hcz16_2 : wc.cell? ⟨gb134, 2, none⟩ = some (.int .i64 ((rd_T79 l0 x7_1).f2)) := (blk_cell BK134.out 2).trans rfl
       have hfz16_0 := blk_frozen BK134.out 0
       have hfz16_1 := blk_frozen BK134.out 1
       have hfz16_2 := blk_frozen BK134.out 2
       go_wp2_with (first | (go_at_call 101; (with_reducible refine (spec_l2canon.calls kj5 _ _ ((rd_T79 l0 x7_1).f1) t135 _ ?side1 ?side2 A15.out).mono ?_); (case side1 => repeat (first | exact (Kd.C_below HR133_1.out HB.out) | (with_reducible refine Kd.C_alloc ?_ _) | (with_reducible refine Kd.C_drewN ?_ _) | (with_reducible refine Kd.C_drew ?_))); (case side2 => exact HC133_1.out); rintro e w' ⟨rfl, ⟨nd, rfl⟩⟩))
       go_meet
       case rel => exact ⟨_, (!t135), (by first | rfl | (simp; done) | (simp [*]; done)), H', ⟨by have := HK1.out; have := HJ5.out; first | omega | exact Nat.le_refl _⟩, ⟨by (with_reducible repeat (first | refine blk_drewN ?_ _ | refine blk_drew ?_ | refine blk_alloc ?_ _)); exact BK134.out⟩, ⟨by repeat (first | (with_reducible first | exact HB.out | apply below_alloc | apply pw_below_drewN | apply below_drew1 | refine below_set ?_ GE134.out) | exact HB.out)⟩⟩
      rw [if_neg c14] at H
      have c14b0 : (((rd_T79 l0 x7_1).f0) == 1) = false := beq_eq_false_iff_ne.mpr c14
      have c14b1 : (((rd_T79 l0 x7_1).f0) != 1) = true := bne_iff_ne.mpr c14
      (first | rw [c14b0] | (simp only [i64_w, i32_w]; rw [c14b0]) | skip)
      have H' := Aside0.mk H
      clear H
      have hcz17_0 : wc.cell? ⟨gb134, 0, none⟩ = some (.int .i64 ((rd_T79 l0 x7_1).f0)) := (blk_cell BK134.out 0).trans rfl
      have hcz17_1 : wc.cell? ⟨gb134, 1, none⟩ = some (.slice A133_1 ((rd_T79 l0 x7_1).f1).length c133_1) := (blk_cell BK134.out 1).trans rfl
      have hcz17_2 : wc.cell? ⟨gb134, 2, none⟩ = some (.int .i64 ((rd_T79 l0 x7_1).f2)) := (blk_cell BK134.out 2).trans rfl
      have hfz17_0 := blk_frozen BK134.out 0
      have hfz17_1 := blk_frozen BK134.out 1
      have hfz17_2 := blk_frozen BK134.out 2
      go_wp2
      go_meet
      case rel => exact ⟨_, (false), (by first | rfl | (simp; done) | (simp [*]; done)), H', ⟨by have := HK1.out; have := HJ5.out; first | omega | exact Nat.le_refl _⟩, ⟨by (with_reducible repeat (first | refine blk_drewN ?_ _ | refine blk_drew ?_ | refine blk_alloc ?_ _)); exact BK134.out⟩, ⟨by repeat (first | (with_reducible first | exact HB.out | apply below_alloc | apply pw_below_drewN | apply below_drew1 | refine below_set ?_ GE134.out) | exact HB.out)⟩⟩
     case rest =>
      clear HC13
      try clear c1
      try clear p1
      try clear q1
      try clear hx1
      try clear p2
      try clear c4
      try clear c4b0
      try clear c5
      try clear c5b0
      try clear c9
      try clear c9b0
      try clear c12
      try clear c13
      try clear p13
      try clear q13
      try clear hx13
      try clear c14
      try clear c14b0
      try clear c14b1
      try clear hcz10_0
      try clear hcz10_1
      try clear hcz10_2
      try clear hcz11_0
      try clear hcz11_1
      try clear hcz11_2
      try clear hcz16_0
      try clear hcz16_1
      try clear hcz16_2
      try clear hcz17_0
      try clear hcz17_1
      try clear hcz17_2
      try clear hcz8_0
      try clear hcz8_1
      try clear hcz8_2
      try clear hfz10_0
      try clear hfz10_1
      try clear hfz10_2
      try clear hfz11_0
      try clear hfz11_1
      try clear hfz11_2
      try clear hfz16_0
      try clear hfz16_1
      try clear hfz16_2
      try clear hfz17_0
      try clear hfz17_1
      try clear hfz17_2
      try clear hfz8_0
      try clear hfz8_1
      try clear hfz8_2
      try clear hx133_0
      try clear hx133_1
      try clear hx133_2
      try clear p1
      try clear p133
      try clear p2
      try clear q1
      try clear q133
      obtain ⟨kq, x36_12, rfl, HA, HJ12, BK134, HB⟩ := hcut
      cases kq with
      | zero => exact absurd HA.out (by simp [spec_l2bodyOK.j2])
      | succ kj12 =>
       have H := HA.out
       clear HA
       simp only [spec_l2bodyOK.j2] at H
       by_cases c18 : x36_12 = true
       ·subst c18
        have H1 : (some false) = some r := by rw [if_pos rfl] at H; exact H
        clear H
        have H := H1
        clear H1
        obtain rfl := Option.some.inj H
        go_wp2
        go_ret
        exact ⟨er_, by repeat (first | (with_reducible first | exact HB.out | apply below_alloc | apply pw_below_drewN | apply below_drew1 | refine below_set ?_ GE134.out) | exact HB.out)⟩
       replace c18 := Bool.eq_false_iff.mpr c18
       subst c18
       have H1 : (if ((rd_T79 l0 x7_1).f0) = 1 then (spec_l2bodyOK.j3 kj12 l0 a1 a2 x7_1 false ((rd_T79 l0 x7_1).f0) ((rd_T79 l0 x7_1).f1) ((rd_T79 l0 x7_1).f2)) else (spec_l2bodyOK.j3 kj12 l0 a1 a2 x7_1 ((((rd_T79 l0 x7_1).f1).length : Int) != 0) ((rd_T79 l0 x7_1).f0) ((rd_T79 l0 x7_1).f1) ((rd_T79 l0 x7_1).f2))) = some r := by rw [if_neg (show ¬ (false = true) by decide)] at H; exact H
       clear H
       have H := H1
       clear H1
       have HC19 := Aside0.mk H
       clear H
       go_upto_region 9 with (fail)
       go_cut [45] (fun v45 wc => ∃ (kq : Nat) (x45_18 : Bool), v45 = .bool x45_18 ∧ Aside0 (spec_l2bodyOK.j3 kq l0 a1 a2 x7_1 x45_18 ((rd_T79 l0 x7_1).f0) ((rd_T79 l0 x7_1).f1) ((rd_T79 l0 x7_1).f2) = some r) ∧ Aside0 (kq ≤ kj12) ∧ Aside0 (wc.heap[gb134]? = some (.cells #[.int .i64 ((rd_T79 l0 x7_1).f0), (.slice A133_1 ((rd_T79 l0 x7_1).f1).length c133_1), .int .i64 ((rd_T79 l0 x7_1).f2)] 79 (0, 0))) ∧ Aside0 (Below w.heap.size w wc))
       case first =>
        have H := HC19.out
        clear HC19
        by_cases c20 : ((rd_T79 l0 x7_1).f0) = 1
        ·rw [if_pos c20] at H
         have c20b0 : (((rd_T79 l0 x7_1).f0) == 1) = true := beq_iff_eq.mpr c20
         have c20b1 : (((rd_T79 l0 x7_1).f0) != 1) = false := bne_eq_false_iff_eq.mpr c20
         clear c20
         (first | rw [c20b0] | (simp only [i64_w, i32_w]; rw [c20b0]) | skip)
         have H' := Aside0.mk H
         clear H
         have hcz21_0 : wc.cell? ⟨gb134, 0, none⟩ = some (.int .i64 ((rd_T79 l0 x7_1).f0)) := (blk_cell BK134.out 0).trans rfl
         have hcz21_1 : wc.cell? ⟨gb134, 1, none⟩ = some (.slice A133_1 ((rd_T79 l0 x7_1).f1).length c133_1) := (blk_cell BK134.out 1).trans rfl
         have hcz21_2 : wc.cell? ⟨gb134, 2, none⟩ = some (.int .i64 ((rd_T79 l0 x7_1).f2)) := (blk_cell BK134.out 2).trans rfl
         have hfz21_0 := blk_frozen BK134.out 0
         have hfz21_1 := blk_frozen BK134.out 1
         have hfz21_2 := blk_frozen BK134.out 2
         go_wp2
         go_meet
         case rel => exact ⟨_, (false), (by first | rfl | (simp; done) | (simp [*]; done)), H', ⟨by have := HK1.out; have := HJ5.out; have := HJ12.out; first | omega | exact Nat.le_refl _⟩, ⟨by (with_reducible repeat (first | refine blk_drewN ?_ _ | refine blk_drew ?_ | refine blk_alloc ?_ _)); exact BK134.out⟩, ⟨by repeat (first | (with_reducible first | exact HB.out | apply below_alloc | apply pw_below_drewN | apply below_drew1 | refine below_set ?_ GE134.out) | exact HB.out)⟩⟩
        rw [if_neg c20] at H
        have c20b0 : (((rd_T79 l0 x7_1).f0) == 1) = false := beq_eq_false_iff_ne.mpr c20
        have c20b1 : (((rd_T79 l0 x7_1).f0) != 1) = true := bne_iff_ne.mpr c20
        (first | rw [c20b0] | (simp only [i64_w, i32_w]; rw [c20b0]) | skip)
        have H' := Aside0.mk H
        clear H
        have hcz22_0 : wc.cell? ⟨gb134, 0, none⟩ = some (.int .i64 ((rd_T79 l0 x7_1).f0)) := (blk_cell BK134.out 0).trans rfl
        have hcz22_1 : wc.cell? ⟨gb134, 1, none⟩ = some (.slice A133_1 ((rd_T79 l0 x7_1).f1).length c133_1) := (blk_cell BK134.out 1).trans rfl
        have hcz22_2 : wc.cell? ⟨gb134, 2, none⟩ = some (.int .i64 ((rd_T79 l0 x7_1).f2)) := (blk_cell BK134.out 2).trans rfl
        have hfz22_0 := blk_frozen BK134.out 0
        have hfz22_1 := blk_frozen BK134.out 1
        have hfz22_2 := blk_frozen BK134.out 2
        go_wp2
        go_meet
        case rel => exact ⟨_, (((((rd_T79 l0 x7_1).f1).length : Int) != 0)), (by first | rfl | (simp; done) | (simp [*]; done)), H', ⟨by have := HK1.out; have := HJ5.out; have := HJ12.out; first | omega | exact Nat.le_refl _⟩, ⟨by (with_reducible repeat (first | refine blk_drewN ?_ _ | refine blk_drew ?_ | refine blk_alloc ?_ _)); exact BK134.out⟩, ⟨by repeat (first | (with_reducible first | exact HB.out | apply below_alloc | apply pw_below_drewN | apply below_drew1 | refine below_set ?_ GE134.out) | exact HB.out)⟩⟩
       case rest =>
        clear HC19
        try clear c1
        try clear p1
        try clear q1
        try clear hx1
        try clear c2
        try clear p2
        try clear c4
        try clear c4b0
        try clear c5
        try clear c5b0
        try clear c9
        try clear c9b0
        try clear c12
        try clear c13
        try clear p13
        try clear q13
        try clear hx13
        try clear c14
        try clear c14b0
        try clear c14b1
        try clear c18
        try clear c20
        try clear c20b0
        try clear c20b1
        try clear hcz10_0
        try clear hcz10_1
        try clear hcz10_2
        try clear hcz11_0
        try clear hcz11_1
        try clear hcz11_2
        try clear hcz16_0
        try clear hcz16_1
        try clear hcz16_2
        try clear hcz17_0
        try clear hcz17_1
        try clear hcz17_2
        try clear hcz21_0
        try clear hcz21_1
        try clear hcz21_2
        try clear hcz22_0
        try clear hcz22_1
        try clear hcz22_2
        try clear hcz8_0
        try clear hcz8_1
        try clear hcz8_2
        try clear hfz10_0
        try clear hfz10_1
        try clear hfz10_2
        try clear hfz11_0
        try clear hfz11_1
        try clear hfz11_2
        try clear hfz16_0
        try clear hfz16_1
        try clear hfz16_2
        try clear hfz17_0
        try clear hfz17_1
        try clear hfz17_2
        try clear hfz21_0
        try clear hfz21_1
        try clear hfz21_2
        try clear hfz22_0
        try clear hfz22_1
        try clear hfz22_2
        try clear hfz8_0
        try clear hfz8_1
        try clear hfz8_2
        try clear hx133_0
        try clear hx133_1
        try clear hx133_2
        try clear p1
        try clear p13
        try clear p133
        try clear p2
        try clear q1
        try clear q13
        try clear q133
        obtain ⟨kq, x45_18, rfl, HA, HJ18, BK134, HB⟩ := hcut
        cases kq with
        | zero => exact absurd HA.out (by simp [spec_l2bodyOK.j3])
        | succ kj18 =>
         have H := HA.out
         clear HA
         simp only [spec_l2bodyOK.j3] at H
         by_cases c23 : x45_18 = true
         ·subst c23
          have H1 : (some false) = some r := by rw [if_pos rfl] at H; exact H
          clear H
          have H := H1
          clear H1
          obtain rfl := Option.some.inj H
          go_wp2
          go_ret
          exact ⟨er_, by repeat (first | (with_reducible first | exact HB.out | apply below_alloc | apply pw_below_drewN | apply below_drew1 | refine below_set ?_ GE134.out) | exact HB.out)⟩
         replace c23 := Bool.eq_false_iff.mpr c23
         subst c23
         have H1 : (if ((rd_T79 l0 x7_1).f0) = 2 then (spec_l2bodyOK.j4 kj18 l0 a1 a2 x7_1 a1 ((rd_T79 l0 x7_1).f0) ((rd_T79 l0 x7_1).f1) ((rd_T79 l0 x7_1).f2)) else (spec_l2bodyOK.j4 kj18 l0 a1 a2 x7_1 1 ((rd_T79 l0 x7_1).f0) ((rd_T79 l0 x7_1).f1) ((rd_T79 l0 x7_1).f2))) = some r := by rw [if_neg (show ¬ (false = true) by decide)] at H; exact H
         clear H
         have H := H1
         clear H1
         have HC24 := Aside0.mk H
         clear H
         have hcz25_0 : wc.cell? ⟨gb134, 0, none⟩ = some (.int .i64 ((rd_T79 l0 x7_1).f0)) := (blk_cell BK134.out 0).trans rfl
         have hcz25_1 : wc.cell? ⟨gb134, 1, none⟩ = some (.slice A133_1 ((rd_T79 l0 x7_1).f1).length c133_1) := (blk_cell BK134.out 1).trans rfl
         have hcz25_2 : wc.cell? ⟨gb134, 2, none⟩ = some (.int .i64 ((rd_T79 l0 x7_1).f2)) := (blk_cell BK134.out 2).trans rfl
         have hfz25_0 := blk_frozen BK134.out 0
         have hfz25_1 := blk_frozen BK134.out 1
         have hfz25_2 := blk_frozen BK134.out 2
         go_upto_if 48 with (fail)
         go_cut [9] (fun v9 wc => ∃ (kq : Nat) (x9_23 : Int), v9 = .int .i64 x9_23 ∧ Aside0 (spec_l2bodyOK.j4 kq l0 a1 a2 x7_1 x9_23 ((rd_T79 l0 x7_1).f0) ((rd_T79 l0 x7_1).f1) ((rd_T79 l0 x7_1).f2) = some r) ∧ Aside0 (kq ≤ kj18) ∧ Aside0 (wc.heap[gb134]? = some (.cells #[.int .i64 ((rd_T79 l0 x7_1).f0), (.slice A133_1 ((rd_T79 l0 x7_1).f1).length c133_1), .int .i64 ((rd_T79 l0 x7_1).f2)] 79 (0, 0))) ∧ Aside0 (Below w.heap.size w wc))
         case first =>
          have H := HC24.out
          clear HC24
          by_cases c26 : ((rd_T79 l0 x7_1).f0) = 2
          ·rw [if_pos c26] at H
           have c26b0 : (((rd_T79 l0 x7_1).f0) == 2) = true := beq_iff_eq.mpr c26
           have c26b1 : (((rd_T79 l0 x7_1).f0) != 2) = false := bne_eq_false_iff_eq.mpr c26
           clear c26
           (first | rw [c26b0] | (simp only [i64_w, i32_w]; rw [c26b0]) | skip)
           have H' := Aside0.mk H
           clear H
           go_wp2
           go_meet
           case rel => exact ⟨_, (a1), (by first | rfl | (simp; done) | (simp [*]; done)), H', ⟨by have := HK1.out; have := HJ5.out; have := HJ12.out; have := HJ18.out; first | omega | exact Nat.le_refl _⟩, ⟨by (with_reducible repeat (first | refine blk_drewN ?_ _ | refine blk_drew ?_ | refine blk_alloc ?_ _)); exact BK134.out⟩, ⟨by repeat (first | (with_reducible first | exact HB.out | apply below_alloc | apply pw_below_drewN | apply below_drew1 | refine below_set ?_ GE134.out) | exact HB.out)⟩⟩
          rw [if_neg c26] at H
          have c26b0 : (((rd_T79 l0 x7_1).f0) == 2) = false := beq_eq_false_iff_ne.mpr c26
          have c26b1 : (((rd_T79 l0 x7_1).f0) != 2) = true := bne_iff_ne.mpr c26
          (first | rw [c26b0] | (simp only [i64_w, i32_w]; rw [c26b0]) | skip)
          have H' := Aside0.mk H
          clear H
          go_wp2
          go_meet
          case rel => exact ⟨_, (1), (by first | rfl | (simp; done) | (simp [*]; done)), H', ⟨by have := HK1.out; have := HJ5.out; have := HJ12.out; have := HJ18.out; first | omega | exact Nat.le_refl _⟩, ⟨by (with_reducible repeat (first | refine blk_drewN ?_ _ | refine blk_drew ?_ | refine blk_alloc ?_ _)); exact BK134.out⟩, ⟨by repeat (first | (with_reducible first | exact HB.out | apply below_alloc | apply pw_below_drewN | apply below_drew1 | refine below_set ?_ GE134.out) | exact HB.out)⟩⟩
         case rest =>
          clear HC24
          try clear c1
          try clear p1
          try clear q1
          try clear hx1
          try clear c2
          try clear p2
          try clear c4
          try clear c4b0
          try clear c5
          try clear c5b0
          try clear c9
          try clear c9b0
          try clear c12
          try clear c13
          try clear p13
          try clear q13
          try clear hx13
          try clear c14
          try clear c14b0
          try clear c14b1
          try clear c18
          try clear c20
          try clear c20b0
          try clear c20b1
          try clear c23
          try clear c26
          try clear c26b0
          try clear c26b1
          try clear hcz10_0
          try clear hcz10_1
          try clear hcz10_2
          try clear hcz11_0
          try clear hcz11_1
          try clear hcz11_2
          try clear hcz16_0
          try clear hcz16_1
          try clear hcz16_2
          try clear hcz17_0
          try clear hcz17_1
          try clear hcz17_2
          try clear hcz21_0
          try clear hcz21_1
          try clear hcz21_2
          try clear hcz22_0
          try clear hcz22_1
          try clear hcz22_2
          try clear hcz25_0
          try clear hcz25_1
          try clear hcz25_2
          try clear hcz8_0
          try clear hcz8_1
          try clear hcz8_2
          try clear hfz10_0
          try clear hfz10_1
          try clear hfz10_2
          try clear hfz11_0
          try clear hfz11_1
          try clear hfz11_2
          try clear hfz16_0
          try clear hfz16_1
          try clear hfz16_2
          try clear hfz17_0
          try clear hfz17_1
          try clear hfz17_2
          try clear hfz21_0
          try clear hfz21_1
          try clear hfz21_2
          try clear hfz22_0
          try clear hfz22_1
          try clear hfz22_2
          try clear hfz25_0
          try clear hfz25_1
          try clear hfz25_2
          try clear hfz8_0
          try clear hfz8_1
          try clear hfz8_2
          try clear hx133_0
          try clear hx133_1
          try clear hx133_2
          try clear p1
          try clear p13
          try clear p133
          try clear p2
          try clear q1
          try clear q13
          try clear q133
          obtain ⟨kq, x9_23, rfl, HA, HJ23, BK134, HB⟩ := hcut
          cases kq with
          | zero => exact absurd HA.out (by simp [spec_l2bodyOK.j4])
          | succ kj23 =>
           have H := HA.out
           clear HA
           simp only [spec_l2bodyOK.j4] at H
           by_cases c27 : ((rd_T79 l0 x7_1).f0) = 3
           ·rw [if_pos c27] at H
            have c27b0 : (((rd_T79 l0 x7_1).f0) == 3) = true := beq_iff_eq.mpr c27
            have c27b1 : (((rd_T79 l0 x7_1).f0) != 3) = false := bne_eq_false_iff_eq.mpr c27
            clear c27
            by_cases c28 : ((rd_T79 l0 x7_1).f2) < 0
            ·rw [if_pos c28] at H
             have c28b0 : decide (((rd_T79 l0 x7_1).f2) < 0) = true := decide_eq_true c28
             clear c28
             obtain rfl := Option.some.inj H
             have hcz29_0 : wc.cell? ⟨gb134, 0, none⟩ = some (.int .i64 ((rd_T79 l0 x7_1).f0)) := (blk_cell BK134.out 0).trans rfl
             have hcz29_1 : wc.cell? ⟨gb134, 1, none⟩ = some (.slice A133_1 ((rd_T79 l0 x7_1).f1).length c133_1) := (blk_cell BK134.out 1).trans rfl
             have hcz29_2 : wc.cell? ⟨gb134, 2, none⟩ = some (.int .i64 ((rd_T79 l0 x7_1).f2)) := (blk_cell BK134.out 2).trans rfl
             have hfz29_0 := blk_frozen BK134.out 0
             have hfz29_1 := blk_frozen BK134.out 1
             have hfz29_2 := blk_frozen BK134.out 2
             go_wp2
             go_ret
             exact ⟨er_, by repeat (first | (with_reducible first | exact HB.out | apply below_alloc | apply pw_below_drewN | apply below_drew1 | refine below_set ?_ GE134.out) | exact HB.out)⟩
            rw [if_neg c28] at H
            have c28b0 : decide (((rd_T79 l0 x7_1).f2) < 0) = false := decide_eq_false c28
            clear c28
            by_cases c30 : ((rd_T79 l0 x7_1).f2) ≥ a2
            ·rw [if_pos c30] at H
             have c30b0 : decide (a2 ≤ ((rd_T79 l0 x7_1).f2)) = true := decide_eq_true c30
             clear c30
             obtain rfl := Option.some.inj H
             have hcz31_0 : wc.cell? ⟨gb134, 0, none⟩ = some (.int .i64 ((rd_T79 l0 x7_1).f0)) := (blk_cell BK134.out 0).trans rfl
             have hcz31_1 : wc.cell? ⟨gb134, 1, none⟩ = some (.slice A133_1 ((rd_T79 l0 x7_1).f1).length c133_1) := (blk_cell BK134.out 1).trans rfl
             have hcz31_2 : wc.cell? ⟨gb134, 2, none⟩ = some (.int .i64 ((rd_T79 l0 x7_1).f2)) := (blk_cell BK134.out 2).trans rfl
             have hfz31_0 := blk_frozen BK134.out 0
             have hfz31_1 := blk_frozen BK134.out 1
             have hfz31_2 := blk_frozen BK134.out 2
             go_wp2
             go_ret
             exact ⟨er_, by repeat (first | (with_reducible first | exact HB.out | apply below_alloc | apply pw_below_drewN | apply below_drew1 | refine below_set ?_ GE134.out) | exact HB.out)⟩
            rw [if_neg c30] at H
            have c30b0 : decide (a2 ≤ ((rd_T79 l0 x7_1).f2)) = false := decide_eq_false c30
            clear c30
            have H' := Aside0.mk H
            clear H
            have hcz32_0 : wc.cell? ⟨gb134, 0, none⟩ = some (.int .i64 ((rd_T79 l0 x7_1).f0)) := (blk_cell BK134.out 0).trans rfl
            have hcz32_1 : wc.cell? ⟨gb134, 1, none⟩ = some (.slice A133_1 ((rd_T79 l0 x7_1).f1).length c133_1) := (blk_cell BK134.out 1).trans rfl
            have hcz32_2 : wc.cell? ⟨gb134, 2, none⟩ = some (.int .i64 ((rd_T79 l0 x7_1).f2)) := (blk_cell BK134.out 2).trans rfl
            have hfz32_0 := blk_frozen BK134.out 0
            have hfz32_1 := blk_frozen BK134.out 1
            have hfz32_2 := blk_frozen BK134.out 2
            go_wp2
            go_roundg kj23
            case measure => have := HK1.out; have := HJ5.out; have := HJ12.out; have := HJ18.out; have := HJ23.out; omega
            case rel => exact ⟨(wrap64 (x7_1 + 1)), (by first | rfl | (simp; done) | (simp [*]; done)), H', ⟨by have := HK1.out; have := HJ5.out; have := HJ12.out; have := HJ18.out; have := HJ23.out; omega⟩, ⟨by repeat (first | (with_reducible first | exact HB.out | apply below_alloc | apply pw_below_drewN | apply below_drew1 | refine below_set ?_ GE134.out) | exact HB.out)⟩⟩
           rw [if_neg c27] at H
           have c27b0 : (((rd_T79 l0 x7_1).f0) == 3) = false := beq_eq_false_iff_ne.mpr c27
           have c27b1 : (((rd_T79 l0 x7_1).f0) != 3) = true := bne_iff_ne.mpr c27
           by_cases c33 : ((rd_T79 l0 x7_1).f2) < 0
           ·rw [if_pos c33] at H
            have c33b0 : decide (((rd_T79 l0 x7_1).f2) < 0) = true := decide_eq_true c33
            clear c33
            obtain rfl := Option.some.inj H
            have hcz34_0 : wc.cell? ⟨gb134, 0, none⟩ = some (.int .i64 ((rd_T79 l0 x7_1).f0)) := (blk_cell BK134.out 0).trans rfl
            have hcz34_1 : wc.cell? ⟨gb134, 1, none⟩ = some (.slice A133_1 ((rd_T79 l0 x7_1).f1).length c133_1) := (blk_cell BK134.out 1).trans rfl
            have hcz34_2 : wc.cell? ⟨gb134, 2, none⟩ = some (.int .i64 ((rd_T79 l0 x7_1).f2)) := (blk_cell BK134.out 2).trans rfl
            have hfz34_0 := blk_frozen BK134.out 0
            have hfz34_1 := blk_frozen BK134.out 1
            have hfz34_2 := blk_frozen BK134.out 2
            go_wp2
            go_ret
            exact ⟨er_, by repeat (first | (with_reducible first | exact HB.out | apply below_alloc | apply pw_below_drewN | apply below_drew1 | refine below_set ?_ GE134.out) | exact HB.out)⟩
           rw [if_neg c33] at H
           have c33b0 : decide (((rd_T79 l0 x7_1).f2) < 0) = false := decide_eq_false c33
           clear c33
           by_cases c35 : ((rd_T79 l0 x7_1).f2) ≥ x9_23
           ·rw [if_pos c35] at H
            have c35b0 : decide (x9_23 ≤ ((rd_T79 l0 x7_1).f2)) = true := decide_eq_true c35
            clear c35
            obtain rfl := Option.some.inj H
            have hcz36_0 : wc.cell? ⟨gb134, 0, none⟩ = some (.int .i64 ((rd_T79 l0 x7_1).f0)) := (blk_cell BK134.out 0).trans rfl
            have hcz36_1 : wc.cell? ⟨gb134, 1, none⟩ = some (.slice A133_1 ((rd_T79 l0 x7_1).f1).length c133_1) := (blk_cell BK134.out 1).trans rfl
            have hcz36_2 : wc.cell? ⟨gb134, 2, none⟩ = some (.int .i64 ((rd_T79 l0 x7_1).f2)) := (blk_cell BK134.out 2).trans rfl
            have hfz36_0 := blk_frozen BK134.out 0
            have hfz36_1 := blk_frozen BK134.out 1
            have hfz36_2 := blk_frozen BK134.out 2
            go_wp2
            go_ret
            exact ⟨er_, by repeat (first | (with_reducible first | exact HB.out | apply below_alloc | apply pw_below_drewN | apply below_drew1 | refine below_set ?_ GE134.out) | exact HB.out)⟩
           rw [if_neg c35] at H
           have c35b0 : decide (x9_23 ≤ ((rd_T79 l0 x7_1).f2)) = false := decide_eq_false c35
           clear c35
           have H' := Aside0.mk H
           clear H
           have hcz37_0 : wc.cell? ⟨gb134, 0, none⟩ = some (.int .i64 ((rd_T79 l0 x7_1).f0)) := (blk_cell BK134.out 0).trans rfl
           have hcz37_1 : wc.cell? ⟨gb134, 1, none⟩ = some (.slice A133_1 ((rd_T79 l0 x7_1).f1).length c133_1) := (blk_cell BK134.out 1).trans rfl
           have hcz37_2 : wc.cell? ⟨gb134, 2, none⟩ = some (.int .i64 ((rd_T79 l0 x7_1).f2)) := (blk_cell BK134.out 2).trans rfl
           have hfz37_0 := blk_frozen BK134.out 0
           have hfz37_1 := blk_frozen BK134.out 1
           have hfz37_2 := blk_frozen BK134.out 2
           go_wp2
           go_roundg kj23
           case measure => have := HK1.out; have := HJ5.out; have := HJ12.out; have := HJ18.out; have := HJ23.out; omega
           case rel => exact ⟨(wrap64 (x7_1 + 1)), (by first | rfl | (simp; done) | (simp [*]; done)), H', ⟨by have := HK1.out; have := HJ5.out; have := HJ12.out; have := HJ18.out; have := HJ23.out; omega⟩, ⟨by repeat (first | (with_reducible first | exact HB.out | apply below_alloc | apply pw_below_drewN | apply below_drew1 | refine below_set ?_ GE134.out) | exact HB.out)⟩⟩
def spec_l2less.f (l0 : List Int) (l1 : List Int) : Option (Bool) := some (Op.bytesLess ((strOfNums l0).toList) ((strOfNums l1).toList))
set_option maxHeartbeats 8000000 in
set_option maxRecDepth 100000 in
theorem spec_l2less.calls (A0 : Option Addr) (c0 : Nat) (l0 : List Int) (A1 : Option Addr) (c1 : Nat) (l1 : List Int) (r : Bool) (w : World) (hr0 : Kd.C (Kd.int .u8) w A0 l0.length l0) (hc0 : l0.length ≤ c0) (hr1 : Kd.C (Kd.int .u8) w A1 l1.length l1) (hc1 : l1.length ≤ c1) (h : spec_l2less.f l0 l1 = some r) :
 Calls Try.prog 48 #[.slice A0 l0.length c0, .slice A1 l1.length c1] w fun e w' => e = .returned (.bool r) ∧ Drawn0 w w' := by
 have HR0 := Aside0.mk hr0
 have HC0 := Aside0.mk hc0
 clear hr0 hc0
 have HR1 := Aside0.mk hr1
 have HC1 := Aside0.mk hc1
 clear hr1 hc1
 have H : (some (Op.bytesLess ((strOfNums l0).toList) ((strOfNums l1).toList))) = some r := h
 clear h
 obtain rfl := Option.some.inj H
 have hcv3 := Kd.C_string (P := Try.prog) (A := A0) (c := c0) Try.underlying36 Try.underlying5 Try.underlying9 HR0.out
 have hcv4 := Kd.C_string (P := Try.prog) (A := A1) (c := c1) Try.underlying36 Try.underlying5 Try.underlying9 HR1.out
 go_enter Try.func48, Try.ntmps48
 go_wp2
 go_ret
 exact ⟨by first | rfl | (simp; done) | (simp [*]; done), dr_⟩
end Go.Proofs.Ytdiilocgjnlmiaa.PAll
