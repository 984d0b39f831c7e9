import Derived.Test.YtdiilocgjnlmiaaCchFlat
import Derived.Test.YtdiilocgjnlmiaaCchPAllx16
import Derived.Test.YtdiilocgjnlmiaaCchPAllx21
import Derived.Test.YtdiilocgjnlmiaaCchRegKit
namespace Go.Proofs.Ytdiilocgjnlmiaa.PAll
open Go.RowKit Go.Proofs.YtdiilocgjnlmiaaW.PrintWords Go.Proofs.YtdiilocgjnlmiaaW.PrintLast Go.Proofs.YtdiilocgjnlmiaaW.PrintMore
attribute [local go_sem] max2_int min2_int max_two min_two max_three min_three max_four min_four   -- for this text's walks alone
set_option linter.unusedVariables false
set_option linter.unusedSimpArgs false
mutual
def spec_l3nullable.l0 : Nat → Int → List Bool → Int → List (S68) → List (S72) → Option (List Bool)
 | 0, _, _, _, _, _ => none
 | k + 1, x3, x4, x5, x974000, x974001 => if x5 < x3 then (if 0 ≤ x3 then (if (x3 : Int).toNat ≤ 281474976710656 then (spec_l3nullable.l1 k x3 x4 x5 (List.replicate (x3 : Int).toNat false) 0 x974000 x974001) else (none)) else (none)) else (some x4)
def spec_l3nullable.l1 : Nat → Int → List Bool → Int → List Bool → Int → List (S68) → List (S72) → Option (List Bool)
 | 0, _, _, _, _, _, _, _ => none
 | k + 1, x3, x4, x5, x6, x7, x974000, x974001 => if x7 < x3 then ((spec_l3body.f x974000 x974001 x7).bind fun t981 => ((spec_l3null.f k x974000 x974001 t981 x4).bind fun t984 => (if 0 ≤ x7 then (if x7 < (x6.length : Int) then (spec_l3nullable.l1 k x3 x4 x5 (x6.set (x7 : Int).toNat t984) (wrap64 (x7 + 1)) x974000 x974001) else (none)) else (none)))) else (spec_l3nullable.l0 k x3 x6 (wrap64 (x5 + 1)) x974000 x974001)
end
def spec_l3nullable.f (k : Nat) (l0_0 : List (S68)) (l0_1 : List (S72)) : Option (List Bool) := (spec_l3nodes.f l0_0 l0_1).bind fun t974 => (if 0 ≤ t974 then (if (t974 : Int).toNat ≤ 281474976710656 then (spec_l3nullable.l0 k t974 (List.replicate (t974 : Int).toNat false) 0 l0_0 l0_1) else (none)) else (none))
theorem spec_l3nullable.mono_l : ∀ k, (∀ y0 y1 y2 y3 y4, LeO (spec_l3nullable.l0 k y0 y1 y2 y3 y4) (spec_l3nullable.l0 (k + 1) y0 y1 y2 y3 y4)) ∧ (∀ y0 y1 y2 y3 y4 y5 y6, LeO (spec_l3nullable.l1 k y0 y1 y2 y3 y4 y5 y6) (spec_l3nullable.l1 (k + 1) y0 y1 y2 y3 y4 y5 y6))
 | 0 => ⟨fun _ _ _ _ _ r h => by simp [spec_l3nullable.l0] at h, fun _ _ _ _ _ _ _ r h => by simp [spec_l3nullable.l1] at h⟩
 | k + 1 => by
  obtain ⟨ih0, ih1⟩ := spec_l3nullable.mono_l k
  refine ⟨?_, ?_⟩
  ·intro y0 y1 y2 y3 y4
   unfold spec_l3nullable.l0
   repeat' first | (with_reducible exact ih1 _ _ _ _ _ _ _) | (with_reducible exact LeO.refl _) | (with_reducible refine LeO.ite ?_ ?_)
  intro y0 y1 y2 y3 y4 y5 y6
  unfold spec_l3nullable.l1
  repeat' first | (with_reducible exact ih0 _ _ _ _ _) | (with_reducible exact ih1 _ _ _ _ _ _ _) | (with_reducible exact spec_l3null.mono _ _ _ _ _) | (with_reducible exact LeO.refl _) | (with_reducible refine LeO.ite ?_ ?_) | (with_reducible refine LeO.bind ?_ (fun _ => ?_))
theorem spec_l3nullable.mono : ∀ a0 a1 k, LeO (spec_l3nullable.f k a0 a1) (spec_l3nullable.f (k + 1) a0 a1) := by
 intro a0 a1 k
 obtain ⟨ih0, ih1⟩ := spec_l3nullable.mono_l k
 unfold spec_l3nullable.f
 repeat' first | (with_reducible exact ih0 _ _ _ _ _) | (with_reducible exact LeO.refl _) | (with_reducible refine LeO.ite ?_ ?_) | (with_reducible refine LeO.bind ?_ (fun _ => ?_))
def spec_l3nullable.T10 : Bool × List (List Nat × List Nat) := (true, [([], []), ([], []), ([], []), ([], []), ([], []), ([3, 4], [3, 4]), ([], []), ([2, 5, 6, 5], [2, 5, 6]), ([0, 1, 0, 1, 2, 3, 4, 5, 6, 7], [0, 1]), ([8, 7, 7, 0, 1, 2, 3, 4, 5, 6, 7], [7, 8])])
def spec_l3nullable.B10 : List Nat := [0, 0, 0, 0, 0, 24, 0, 124, 255, 511]
theorem spec_l3nullable.tab10 : rtab .any (opsOf Try.f79 10) = spec_l3nullable.T10 := by kernel_rfl
theorem spec_l3nullable.bits10 : waitsOk spec_l3nullable.T10.2 spec_l3nullable.B10 = true := by kernel_rfl
set_option maxHeartbeats 8000000 in
set_option maxRecDepth 100000 in
theorem spec_l3nullable.calls (k : Nat) (A0_0 : Option Addr) (c0_0 : Nat) (l0_0 : List (S68)) (A0_1 : Option Addr) (c0_1 : Nat) (l0_1 : List (S72)) (r : List Bool) (w : World) (hr0_0 : Kd.C k68 w A0_0 l0_0.length l0_0) (hc0_0 : l0_0.length ≤ c0_0) (hr0_1 : Kd.C k72 w A0_1 l0_1.length l0_1) (hc0_1 : l0_1.length ≤ c0_1) (h : spec_l3nullable.f k l0_0 l0_1 = some r) :
 Calls Try.prog 79 #[.agg #[.slice A0_0 l0_0.length c0_0, .slice A0_1 l0_1.length c0_1]] w fun e w' => ∃ v0_ : Value, e = .returned (v0_) ∧ Kd.R Kd.bool 4 w' w.heap.size (fun _ => True) v0_ r ∧ Below w.heap.size w w' := by
 have hu31 := Try.underlying31
 have HR0_0 := Aside0.mk hr0_0
 have HC0_0 := Aside0.mk hc0_0
 clear hr0_0 hc0_0
 have HR0_1 := Aside0.mk hr0_1
 have HC0_1 := Aside0.mk hc0_1
 clear hr0_1 hc0_1
 have HB := Aside0.mk (Below.refl w.heap.size w)
 have H : ((spec_l3nodes.f l0_0 l0_1).bind fun t974 => (if 0 ≤ t974 then (if (t974 : Int).toNat ≤ 281474976710656 then (spec_l3nullable.l0 k t974 (List.replicate (t974 : Int).toNat false) 0 l0_0 l0_1) else (none)) else (none))) = some r := h
 clear h
 replace H := Option.bind_eq_some_iff.mp H
 obtain ⟨t974, A20, H⟩ := H
 replace H : (if 0 ≤ t974 then (if (t974 : Int).toNat ≤ 281474976710656 then (spec_l3nullable.l0 k t974 (List.replicate (t974 : Int).toNat false) 0 l0_0 l0_1) else (none)) else (none)) = some r := H
 have A2 := Aside0.mk A20
 clear A20
 by_cases c3 : 0 ≤ t974
 rotate_left
 ·rw [if_neg c3] at H
  exact absurd H (by simp)
 rw [if_pos c3] at H
 have c3b0 := eq_true c3
 have c3b1 : decide (0 ≤ t974) = true := decide_eq_true c3
 clear c3
 by_cases c4 : (t974 : Int).toNat ≤ 281474976710656
 rotate_left
 ·rw [if_neg c4] at H
  exact absurd H (by simp)
 rw [if_pos c4] at H
 have c4b0 := eq_true c4
 have c4b1 : decide ((t974 : Int).toNat ≤ 281474976710656) = true := decide_eq_true c4
 clear c4
 obtain ⟨y975, hy975⟩ : ∃ y_ : List Bool, y_ = (List.replicate (t974 : Int).toNat false) := ⟨_, rfl⟩
 replace H : (spec_l3nullable.l0 k t974 y975 0 l0_0 l0_1) = some r := by first | (rw [hy975]; with_reducible exact H)
 have Ny975 := Aside0.mk hy975
 clear hy975
 have H' := Aside0.mk H
 clear H
 go_enter Try.func79, Try.ntmps79
 go_wp2_with (first | ((with_reducible refine gate_dst (N := 1) rfl ?_); refine box_event ?hg (N := 1) ?hd (cs := #[.slice A0_0 l0_0.length c0_0, .slice A0_1 l0_1.length c0_1]) (t := 31) ?hr ?_; (case hd => rfl); (case hg => rfl); (case hr => first | (go_simp; done)); intro gb973 hg w5 hbox hb; have n0_ := Aside0.mk (below_step bw_ hb); have n1_ := Aside0.mk (hbox); have n2_ := Aside0.mk ((by rw [hg]; exact (below_size bw_) : w.heap.size ≤ gb973)); have n3_ := Aside0.mk ((by rw [hg]; exact (below_size bw_) : w.heap.size ≤ gb973)); clear HB; have HB := n0_; have BK973 := n1_; have GW973 := n2_; have GE973 := n3_; clear n0_ n1_ n2_ n3_; clear hb hbox hg; have hcz6_0 : w5.cell? ⟨gb973, 0, none⟩ = some (.slice A0_0 l0_0.length c0_0) := (blk_cell BK973.out 0).trans rfl; have hcz6_1 : w5.cell? ⟨gb973, 1, none⟩ = some (.slice A0_1 l0_1.length c0_1) := (blk_cell BK973.out 1).trans rfl; have hfz6_0 := blk_frozen BK973.out 0; have hfz6_1 := blk_frozen BK973.out 1) | ((with_reducible refine gate_callee (f := 82) rfl ?_); refine goesL_ (some 9) rfl rfl Try.func82 (by kernel_rfl) rfl #[.agg #[.slice A0_0 l0_0.length c0_0, .slice A0_1 l0_1.length c0_1]] rfl ml_ ?_; (with_reducible refine (spec_l3nodes.calls _ _ l0_0 _ _ l0_1 t974 _ ?side1 ?side2 ?side3 ?side4 A2.out).mono ?_); (case side1 => repeat (exact (Kd.C_below HR0_0.out HB.out))); (case side2 => exact HC0_0.out); (case side3 => repeat (exact (Kd.C_below HR0_1.out HB.out))); (case side4 => exact HC0_1.out); rintro e w7 ⟨rfl, hb⟩; refine ⟨_, rfl, ?_⟩; have n0_ := Aside0.mk (blk_below (g := gb973) (o := .cells #[.slice A0_0 l0_0.length c0_0, .slice A0_1 l0_1.length c0_1] 31 (0, 0)) (by (with_reducible repeat (first | refine blk_drewN ?_ _ | refine blk_drew ?_ | refine blk_alloc ?_ _)); exact BK973.out) hb); have n1_ := Aside0.mk (below_step (by repeat ((with_reducible first | exact HB.out))) hb); clear BK973; clear HB; have BK973 := n0_; have HB := n1_; clear n0_ n1_; (try clear hb); (try clear hb2); (try clear hk); (try clear hi)) | ((with_reducible refine gate_dst (N := 11) rfl ?_); refine Kd.R_make Kd.bool _ 4 rfl (N := 11) rfl 55 _ _ rfl t974 rfl rfl Try.underlying55 (.bool false) 1 info4 rfl (by decide) (by omega) false (ok := fun _ => True) (okp := fun _ => True) rfl (fun _ hk => hk) trivial (of_decide_eq_true as_) (Nat.le_trans (Nat.mul_le_mul_right _ (of_decide_eq_true as_ : t974.toNat ≤ 281474976710656)) (by omega)) (Below.refl _ _) (Nat.le_refl _) ?_; intro v976 w8 ho9 hb hg_ hnew_; clear hg_ hnew_; (rw [← Ny975.out] at ho9); have n0_ := Aside0.mk (Kd.R_lower ho9 (below_size (by repeat ((with_reducible first | exact HB.out))))); have n1_ := Aside0.mk (blk_below (g := gb973) (o := .cells #[.slice A0_0 l0_0.length c0_0, .slice A0_1 l0_1.length c0_1] 31 (0, 0)) (by (with_reducible repeat (first | refine blk_drewN ?_ _ | refine blk_drew ?_ | refine blk_alloc ?_ _)); exact BK973.out) hb); have n2_ := Aside0.mk (below_step (by repeat ((with_reducible first | exact HB.out))) hb); clear BK973; clear HB; have HO977 := n0_; have BK973 := n1_; have HB := n2_; clear n0_ n1_ n2_; clear hb ho9))
 go_loopg [4, 5] k (fun kq v4 v5 w' => ∃ (x4_1 : List Bool) (x5_1 : Int), v5 = .int .i64 x5_1 ∧ Aside0 (spec_l3nullable.l0 kq t974 x4_1 x5_1 l0_0 l0_1 = some r) ∧ Aside0 (kq ≤ k) ∧ Aside0 (Kd.R Kd.bool 4 w' w.heap.size (fun _ => True) v4 x4_1) ∧ Aside0 (w'.heap[gb973]? = some (.cells #[(.slice A0_0 l0_0.length c0_0), (.slice A0_1 l0_1.length c0_1)] 31 (0, 0))) ∧ Aside0 (Below w.heap.size w w'))
 case atStart => exact ⟨(y975), (0), (by first | rfl), H', ⟨Nat.le_refl _⟩, ⟨by (with_reducible repeat (first | apply Kd.R_alloc | apply Kd.R_drewN | apply Kd.R_drew)); exact HO977.out⟩, ⟨by (with_reducible repeat (first | refine blk_drewN ?_ _ | refine blk_drew ?_ | refine blk_alloc ?_ _)); exact BK973.out⟩, ⟨by repeat ((with_reducible first | exact HB.out))⟩⟩
 case round =>
  clear H'
  try clear p2
  try clear c3
  try clear c3b0
  try clear c3b1
  try clear c4
  try clear c4b0
  try clear c4b1
  try clear c7
  try clear c8
  try clear hcz6_0
  try clear hcz6_1
  try clear hfz6_0
  try clear hfz6_1
  obtain ⟨x4_1, x5_1, rfl, HA, HK1, HO_4, BK973, HB⟩ := hrel
  cases gk with
  | zero => exact absurd HA.out (by simp [spec_l3nullable.l0])
  | succ k1 =>
   have H := HA.out
   clear HA
   simp only [spec_l3nullable.l0] at H
   by_cases c10 : x5_1 < t974
   rotate_left
   ·rw [if_neg c10] at H
    have c10b0 : decide (x5_1 < t974) = false := decide_eq_false c10
    clear c10
    obtain rfl := Option.some.inj H
    go_wp2
    go_ret
    exact ⟨_, er_, by (with_reducible repeat (first | apply Kd.R_alloc | apply Kd.R_drewN | apply Kd.R_drew)); exact HO_4.out, by repeat ((with_reducible first | exact HB.out))⟩
   rw [if_pos c10] at H
   have c10b0 : decide (x5_1 < t974) = true := decide_eq_true c10
   clear c10
   by_cases c11 : 0 ≤ t974
   rotate_left
   ·rw [if_neg c11] at H
    exact absurd H (by simp)
   rw [if_pos c11] at H
   have c11b0 := eq_true c11
   have c11b1 : decide (0 ≤ t974) = true := decide_eq_true c11
   clear c11
   by_cases c12 : (t974 : Int).toNat ≤ 281474976710656
   rotate_left
   ·rw [if_neg c12] at H
    exact absurd H (by simp)
   rw [if_pos c12] at H
   have c12b0 := eq_true c12
   have c12b1 : decide ((t974 : Int).toNat ≤ 281474976710656) = true := decide_eq_true c12
   clear c12
   obtain ⟨y978, hy978⟩ : ∃ y_ : List Bool, y_ = (List.replicate (t974 : Int).toNat false) := ⟨_, rfl⟩
   replace H : (spec_l3nullable.l1 k1 t974 x4_1 x5_1 y978 0 l0_0 l0_1) = some r := by first | (rw [hy978]; with_reducible exact H)
   have Ny978 := Aside0.mk hy978
   clear hy978
   have H' := Aside0.mk H
   clear H
   go_wp2_with (first | ((with_reducible refine gate_dst (N := 18) rfl ?_); refine Kd.R_make Kd.bool _ 4 rfl (N := 18) rfl 55 _ _ rfl t974 rfl rfl Try.underlying55 (.bool false) 1 info4 rfl (by decide) (by omega) false (ok := fun _ => True) (okp := fun _ => True) rfl (fun _ hk => hk) trivial (of_decide_eq_true as_) (Nat.le_trans (Nat.mul_le_mul_right _ (of_decide_eq_true as_ : t974.toNat ≤ 281474976710656)) (by omega)) (Below.refl _ _) (Nat.le_refl _) ?_; intro v979 w13 ho14 hb hg_ hnew_; clear hg_ hnew_; (rw [← Ny978.out] at ho14); have n0_ := Aside0.mk (Kd.R_elder' (by (with_reducible repeat (first | apply Kd.R_alloc | apply Kd.R_drewN | apply Kd.R_drew)); exact HO_4.out) (Kd.R_base ho14) hb); have n1_ := Aside0.mk (Kd.R_lower (Kd.R_new' ho14 (Kd.R_lt (by (with_reducible repeat (first | apply Kd.R_alloc | apply Kd.R_drewN | apply Kd.R_drew)); exact HO_4.out))) (below_size (by repeat ((with_reducible first | exact HB.out))))); have n2_ := Aside0.mk (blk_below (g := gb973) (o := .cells #[.slice A0_0 l0_0.length c0_0, .slice A0_1 l0_1.length c0_1] 31 (0, 0)) (by (with_reducible repeat (first | refine blk_drewN ?_ _ | refine blk_drew ?_ | refine blk_alloc ?_ _)); exact BK973.out) hb); have n3_ := Aside0.mk (below_step (by repeat ((with_reducible first | exact HB.out))) hb); clear HO_4; clear BK973; clear HB; have HO_4 := n0_; have HO980 := n1_; have BK973 := n2_; have HB := n3_; clear n0_ n1_ n2_ n3_; clear hb ho14))
   go_loopg [7] k1 (fun kq v7 w' => ∃ (x6_2 : List Bool) (x7_2 : Int), v7 = .int .i64 x7_2 ∧ Aside0 (spec_l3nullable.l1 kq t974 x4_1 x5_1 x6_2 x7_2 l0_0 l0_1 = some r) ∧ Aside0 (kq ≤ k1) ∧ Aside0 (Kd.R Kd.bool 4 w' w.heap.size (fun k_ => some k_ ≠ (v979 : Value).ownBlock) u4 x4_1) ∧ Aside0 (Kd.R Kd.bool 4 w' w.heap.size (fun k_ => some k_ ≠ (u4 : Value).ownBlock) v979 x6_2) ∧ Aside0 (w'.heap[gb973]? = some (.cells #[(.slice A0_0 l0_0.length c0_0), (.slice A0_1 l0_1.length c0_1)] 31 (0, 0))) ∧ Aside0 (Below w.heap.size w w'))
   case atStart => exact ⟨(y978), (0), (by first | rfl), H', ⟨Nat.le_refl _⟩, ⟨by (with_reducible repeat (first | apply Kd.R_alloc | apply Kd.R_drewN | apply Kd.R_drew)); exact Kd.R_mono HO_4.out (fun _ hk => hk.2)⟩, ⟨by (with_reducible repeat (first | apply Kd.R_alloc | apply Kd.R_drewN | apply Kd.R_drew)); exact Kd.R_mono HO980.out (fun _ hk => hk.2)⟩, ⟨by (with_reducible repeat (first | refine blk_drewN ?_ _ | refine blk_drew ?_ | refine blk_alloc ?_ _)); exact BK973.out⟩, ⟨by repeat ((with_reducible first | exact HB.out))⟩⟩
   case round =>
    clear H'
    try clear c1
    try clear p2
    try clear c3
    try clear c3b0
    try clear c3b1
    try clear c4
    try clear c4b0
    try clear c4b1
    try clear c7
    try clear c8
    try clear c10
    try clear c10b0
    try clear c11
    try clear c11b0
    try clear c11b1
    try clear c12
    try clear c12b0
    try clear c12b1
    try clear hcz6_0
    try clear hcz6_1
    try clear hfz6_0
    try clear hfz6_1
    try clear p2
    obtain ⟨x6_2, x7_2, rfl, HA, HK2, HO_4, HO_6, BK973, HB⟩ := hrel
    cases gk with
    | zero => exact absurd HA.out (by simp [spec_l3nullable.l1])
    | succ k2 =>
     have H := HA.out
     clear HA
     simp only [spec_l3nullable.l1] at H
     by_cases c15 : x7_2 < t974
     rotate_left
     ·rw [if_neg c15] at H
      have c15b0 : decide (x7_2 < t974) = false := decide_eq_false c15
      clear c15
      have H' := Aside0.mk H
      clear H
      go_wp2
      go_roundg k2
      case measure => have := HK1.out; have := HK2.out; omega
      case rel => exact ⟨(x6_2), (wrap64 (x5_1 + 1)), (by first | rfl), H', ⟨by have := HK1.out; have := HK2.out; omega⟩, ⟨by (with_reducible repeat (first | apply Kd.R_alloc | apply Kd.R_drewN | apply Kd.R_drew)); exact Kd.R_mono HO_6.out (fun _ hk => trivial)⟩, ⟨by (with_reducible repeat (first | refine blk_drewN ?_ _ | refine blk_drew ?_ | refine blk_alloc ?_ _)); exact BK973.out⟩, ⟨by repeat ((with_reducible first | exact HB.out))⟩⟩
     rw [if_pos c15] at H
     have c15b0 : decide (x7_2 < t974) = true := decide_eq_true c15
     clear c15
     replace H := Option.bind_eq_some_iff.mp H
     obtain ⟨t981, A160, H⟩ := H
     replace H : ((spec_l3null.f k2 l0_0 l0_1 t981 x4_1).bind fun t984 => (if 0 ≤ x7_2 then (if x7_2 < (x6_2.length : Int) then (spec_l3nullable.l1 k2 t974 x4_1 x5_1 (x6_2.set (x7_2 : Int).toNat t984) (wrap64 (x7_2 + 1)) l0_0 l0_1) else (none)) else (none))) = some r := H
     have A16 := Aside0.mk A160
     clear A160
     replace H := Option.bind_eq_some_iff.mp H
     obtain ⟨t984, A170, H⟩ := H
     replace H : (if 0 ≤ x7_2 then (if x7_2 < (x6_2.length : Int) then (spec_l3nullable.l1 k2 t974 x4_1 x5_1 (x6_2.set (x7_2 : Int).toNat t984) (wrap64 (x7_2 + 1)) l0_0 l0_1) else (none)) else (none)) = some r := H
     have A17 := Aside0.mk A170
     clear A170
     by_cases c18 : 0 ≤ x7_2
     rotate_left
     ·rw [if_neg c18] at H
      exact absurd H (by simp)
     rw [if_pos c18] at H
     have c18b0 : decide (0 ≤ x7_2) = true := decide_eq_true c18
     clear c18
     by_cases c19 : x7_2 < (x6_2.length : Int)
     rotate_left
     ·rw [if_neg c19] at H
      exact absurd H (by simp)
     rw [if_pos c19] at H
     have c19b0 : decide (x7_2 < (x6_2.length : Int)) = true := decide_eq_true c19
     clear c19
     obtain ⟨y985, hy985⟩ : ∃ y_ : List Bool, y_ = (x6_2.set (x7_2 : Int).toNat t984) := ⟨_, rfl⟩
     replace H : (spec_l3nullable.l1 k2 t974 x4_1 x5_1 y985 (wrap64 (x7_2 + 1)) l0_0 l0_1) = some r := by first | (rw [hy985]; with_reducible exact H)
     have Ny985 := Aside0.mk hy985
     clear hy985
     have H' := Aside0.mk H
     clear H
     try go_wp2
     have n0_ := Aside0.mk (Kd.R_drew HO_4.out)
     have n1_ := Aside0.mk (Kd.R_drew HO_6.out)
     have n2_ := Aside0.mk (blk_drew BK973.out)
     have n3_ := Aside0.mk (below_drew1 HB.out)
     clear HO_4
     clear HO_6
     clear BK973
     clear HB
     have HO_4 := n0_
     have HO_6 := n1_
     have BK973 := n2_
     have HB := n3_
     clear n0_ n1_ n2_ n3_
     refine start_ (n := 10) (S := fun w' => w'.cell? ⟨gb973, 0, none⟩ = some (.slice A0_0 l0_0.length c0_0) ∧ w'.cell? ⟨gb973, 1, none⟩ = some (.slice A0_1 l0_1.length c0_1)) (ds := [9]) #[false, false, false, false, false, false, false, false, false, false] (by kernel_rfl) rfl rfl ⟨(blk_cell BK973.out 0).trans rfl, (blk_cell BK973.out 1).trans rfl⟩ (fun hHeld => ?_); refine with_tabW spec_l3nullable.tab10 spec_l3nullable.bits10 (fun HT_ HW_ => ?_)
     generalize wr.drew = w21 at HO_4 HO_6 BK973 HB hHeld ⊢
     refine pu_ 0 24 HT_ ?_
     refine pu_ 1 25 HT_ ?_
     refine pu_ 4 28 HT_ ?_
     refine pu_ 6 30 HT_ ?_
     refine ta_ 2 26 HT_ HW_ hHeld ?_
     refine ta_ 3 27 HT_ HW_ hHeld ?_
     refine one_ (i := 5) (N := some 29) #[true, true, true, true, true, true, true, false, false, false] rfl rfl (one_of HT_.out (by kernel_rfl)) (by decide) (fun K hK => ?_)
     refine goes_ Try.func84 (by kernel_rfl) rfl #[.agg #[.slice A0_0 l0_0.length c0_0, .slice A0_1 l0_1.length c0_1], .int .i64 x7_2] (by rfl) rfl rfl ml_ ?_
     with_reducible refine (spec_l3body.calls (fun k_ => k_ < w.heap.size) _ _ l0_0 (fun k_ => k_ < w.heap.size) _ _ l0_1 x7_2 t981 _ ?side1 ?side2 A16.out).mono ?_
     (case side1 => exact Kd.V_mk HC0_0.out (Kd.F_below (Kd.C_F k68_heap HR0_0.out) (by repeat ((with_reducible first | exact HB.out)))))
     (case side2 => exact Kd.V_mk HC0_1.out (Kd.F_below (Kd.C_F k72_heap HR0_1.out) (by repeat ((with_reducible first | exact HB.out)))))
     rintro e w22 ⟨v982, rfl, ho0, hb⟩
     refine ⟨_, rfl, ?_⟩
     have n0_ := Aside0.mk (Kd.R_below (by (with_reducible repeat (first | apply Kd.R_alloc | apply Kd.R_drewN | apply Kd.R_drew)); exact HO_4.out) hb)
     have n1_ := Aside0.mk (Kd.R_below (by (with_reducible repeat (first | apply Kd.R_alloc | apply Kd.R_drewN | apply Kd.R_drew)); exact HO_6.out) hb)
     have n2_ := Aside0.mk (Kd.V_lower (Kd.V_mono (ok' := fun k_ => some k_ ≠ (u4 : Value).ownBlock ∧ some k_ ≠ (v979 : Value).ownBlock ∧ k_ ≠ gb973) ho0 (fun k_ hk_ => ⟨Or.elim hk_ (fun hs_ => Or.elim hs_ (fun hs_ => fun e_ => Nat.not_le.2 hs_ (Kd.R_base HO_4.out k_ e_.symm)) (fun hs_ => fun e_ => Nat.not_le.2 hs_ (Kd.R_base HO_4.out k_ e_.symm))) (fun hn_ => (Kd.fresh' (Kd.R_lt (by (with_reducible repeat (first | apply Kd.R_alloc | apply Kd.R_drewN | apply Kd.R_drew)); exact HO_4.out)) k_ hn_)), Or.elim hk_ (fun hs_ => Or.elim hs_ (fun hs_ => fun e_ => Nat.not_le.2 hs_ (Kd.R_base HO_6.out k_ e_.symm)) (fun hs_ => fun e_ => Nat.not_le.2 hs_ (Kd.R_base HO_6.out k_ e_.symm))) (fun hn_ => (Kd.fresh' (Kd.R_lt (by (with_reducible repeat (first | apply Kd.R_alloc | apply Kd.R_drewN | apply Kd.R_drew)); exact HO_6.out)) k_ hn_)), Or.elim hk_ (fun hs_ => Or.elim hs_ (fun hs_ => fun e_ => Nat.not_le.2 hs_ (by rw [e_]; exact GW973.out)) (fun hs_ => fun e_ => Nat.not_le.2 hs_ (by rw [e_]; exact GW973.out))) (fun hn_ => (Kd.freshB (g := gb973) (o := .cells #[.slice A0_0 l0_0.length c0_0, .slice A0_1 l0_1.length c0_1] 31 (0, 0)) (by (with_reducible repeat (first | refine blk_drewN ?_ _ | refine blk_drew ?_ | refine blk_alloc ?_ _)); exact BK973.out) k_ hn_))⟩)) (below_size (by repeat ((with_reducible first | exact HB.out)))))
     have n3_ := Aside0.mk (blk_below (g := gb973) (o := .cells #[.slice A0_0 l0_0.length c0_0, .slice A0_1 l0_1.length c0_1] 31 (0, 0)) (by (with_reducible repeat (first | refine blk_drewN ?_ _ | refine blk_drew ?_ | refine blk_alloc ?_ _)); exact BK973.out) hb)
     have n4_ := Aside0.mk (below_step (by repeat ((with_reducible first | exact HB.out))) hb)
     clear HO_4
     clear HO_6
     clear BK973
     clear HB
     have HO_4 := n0_
     have HO_6 := n1_
     have HO983 := n2_
     have BK973 := n3_
     have HB := n4_
     clear n0_ n1_ n2_ n3_ n4_
     (try clear hb)
     (try clear hb2)
     (try clear hk)
     (try clear hi)
     (try clear ho0)
     obtain ⟨Ao23, co23, eo23⟩ := Kd.V_slice HO983.out
     (subst eo23)
     obtain ⟨Ao24, co24, eo24⟩ := Kd.R_slice HO_4.out
     (subst eo24)
     refine hK.out _ _ ⟨(blk_cell BK973.out 0).trans rfl, (blk_cell BK973.out 1).trans rfl⟩ (fun hHeld => ?_)
     clear hK K
     refine norm_ (a' := ?_) ?_ ?_
     rotate_left
     ·show Act.put _ (some 29) _ = _
      simp only [Act.put, List.setIfInBounds_toArray, List.set_cons_zero, List.set_cons_succ, i64_w, i32_w]
      rfl
     refine one_ (i := 7) (N := some 31) #[true, true, true, true, true, true, true, true, false, false] rfl rfl (one_of HT_.out (by kernel_rfl)) (by decide) (fun K hK => ?_)
     refine goes_ Try.func123 (by kernel_rfl) rfl #[.agg #[.slice A0_0 l0_0.length c0_0, .slice A0_1 l0_1.length c0_1], .slice Ao23 t981.length co23, .slice Ao24 x4_1.length co24] (by rfl) rfl rfl ml_ ?_
     with_reducible refine (spec_l3null.calls k2 _ _ l0_0 _ _ l0_1 _ _ t981 _ _ x4_1 t984 _ ?side1 ?side2 ?side3 ?side4 ?side5 ?side6 ?side7 ?side8 A17.out).mono ?_
     (case side1 => repeat (exact (Kd.C_below HR0_0.out HB.out)))
     (case side2 => exact HC0_0.out)
     (case side3 => repeat (exact (Kd.C_below HR0_1.out HB.out)))
     (case side4 => exact HC0_1.out)
     (case side5 => repeat (exact (Kd.V_reads' HO983.out).2.2))
     (case side6 => exact (Kd.V_reads' HO983.out).2.1)
     (case side7 => repeat (exact (Kd.R_reads' HO_4.out).2.2))
     (case side8 => exact (Kd.R_reads' HO_4.out).2.1)
     rintro e w25 ⟨rfl, hb⟩
     refine ⟨_, rfl, ?_⟩
     have n0_ := Aside0.mk (Kd.R_below (by (with_reducible repeat (first | apply Kd.R_alloc | apply Kd.R_drewN | apply Kd.R_drew)); exact HO_4.out) hb)
     have n1_ := Aside0.mk (Kd.R_below (by (with_reducible repeat (first | apply Kd.R_alloc | apply Kd.R_drewN | apply Kd.R_drew)); exact HO_6.out) hb)
     have n2_ := Aside0.mk (Kd.V_below (by (with_reducible repeat (first | apply Kd.V_alloc | apply Kd.V_drewN | apply Kd.V_drew)); exact HO983.out) hb)
     have n3_ := Aside0.mk (blk_below (g := gb973) (o := .cells #[.slice A0_0 l0_0.length c0_0, .slice A0_1 l0_1.length c0_1] 31 (0, 0)) (by (with_reducible repeat (first | refine blk_drewN ?_ _ | refine blk_drew ?_ | refine blk_alloc ?_ _)); exact BK973.out) hb)
     have n4_ := Aside0.mk (below_step (by repeat ((with_reducible first | exact HB.out))) hb)
     clear HO_4
     clear HO_6
     clear HO983
     clear BK973
     clear HB
     have HO_4 := n0_
     have HO_6 := n1_
     have HO983 := n2_
     have BK973 := n3_
     have HB := n4_
     clear n0_ n1_ n2_ n3_ n4_
     (try clear hb)
     (try clear hb2)
     (try clear hk)
     (try clear hi)
     have p20 : 0 ≤ (x7_2 : Int) := of_decide_eq_true as_
     have q20 : (x7_2 : Int) < ((x6_2.length : Int) : Int) := of_decide_eq_true as_
     obtain ⟨go20, co20, eo20, gb20, gl20, cl20, HG20⟩ := Kd.R_form HO_6.out (by omega)
     (cases eo20)
     have GB20 := Aside0.mk gb20
     have GG20 := Aside0.mk HG20
     clear gb20 gl20 HG20
     obtain ⟨hx20_0, hf20_0⟩ := Kd.R_celln false HO_6.out (x7_2 : Int) p20 q20
     replace p20 := eq_true p20
     replace q20 := eq_true q20
     have HP26 := Kd.R_putn HO_6.out (x7_2 : Int) t984
     rw [← Ny985.out] at HP26
     have HQ26 := Aside0.mk HP26
     clear HP26
     refine hK.out _ _ ⟨(blk_cell BK973.out 0).trans rfl, (blk_cell BK973.out 1).trans rfl⟩ (fun hHeld => ?_)
     clear hK K
     refine norm_ (a' := ?_) ?_ ?_
     rotate_left
     ·show Act.put _ (some 31) _ = _
      simp only [Act.put, List.setIfInBounds_toArray, List.set_cons_zero, List.set_cons_succ, i64_w, i32_w]
      rfl
     refine pu_ 8 32 HT_ ?_
     refine last_ (i := 9) (N := none) #[true, true, true, true, true, true, true, true, true, true] rfl rfl (one_of HT_.out (by kernel_rfl)) (by decide) (fun K hK => ?_)
     refine skip_ (w1 := ?_) (by rfl) rfl ?_ ?_
     rotate_left
     ·go_simp
      rfl
     refine hK.out _ _ ?_
     clear hK K
     refine done_ (done_of HT_.out (by kernel_rfl)) ?_
     try go_wp2
     go_roundg k2
     case measure => have := HK1.out; have := HK2.out; omega
     case rel => exact ⟨(y985), (wrap64 (x7_2 + 1)), (by first | rfl), H', ⟨by have := HK1.out; have := HK2.out; omega⟩, ⟨by (with_reducible repeat (first | apply Kd.R_alloc | apply Kd.R_drewN | apply Kd.R_drew)); exact Kd.R_mono (Kd.R_far (p := ⟨go20, (x7_2 : Int).toNat, none⟩) (Kd.R_mono HO_4.out (fun k_ hk => (⟨hk, fun e_ => hk (by rw [e_]; rfl)⟩ : _ ∧ k_ ≠ go20))) (fun _ hk => hk.2) (.bool t984)) (fun _ hk => hk.1)⟩, ⟨by (with_reducible repeat (first | apply Kd.R_alloc | apply Kd.R_drewN | apply Kd.R_drew)); exact HQ26.out⟩, ⟨by (with_reducible repeat (first | refine blk_drewN ?_ _ | refine blk_drew ?_ | refine blk_alloc ?_ _)); refine blk_far ?_ (by have h_ := Kd.R_ne HO_6.out BK973.out (by decide); intro e_; exact h_ (by rw [e_]; rfl)) _; (with_reducible repeat (first | refine blk_drewN ?_ _ | refine blk_drew ?_ | refine blk_alloc ?_ _)); exact BK973.out⟩, ⟨by repeat ((with_reducible first | exact HB.out | refine below_set ?_ GB20.out))⟩⟩
end Go.Proofs.Ytdiilocgjnlmiaa.PAll
