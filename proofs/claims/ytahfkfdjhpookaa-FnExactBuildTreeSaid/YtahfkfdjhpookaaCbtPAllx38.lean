import Derived.Test.YtahfkfdjhpookaaCbtPAllx0
import Derived.Test.YtahfkfdjhpookaaCbtPAllx5
import Derived.Test.YtahfkfdjhpookaaCbtPAllx6
namespace Go.Proofs.Ytahfkfdjhpookaa.PAll
open Go.RowKit Go.Proofs.YtahfkfdjhpookaaW.PrintWords Go.Proofs.YtahfkfdjhpookaaW.PrintLast Go.Proofs.YtahfkfdjhpookaaW.PrintMore
attribute [local go_sem] max2_int min2_int max_two min_two max_three min_three max_four min_four   -- for this text's walks alone
set_option linter.unusedVariables false
set_option linter.unusedSimpArgs false
mutual
def spec_BuildTree.l0 : Nat → List (S93) → List Int → List Int → List Int → Int → Option ((List (S95)) × Int)
  | 0, _, _, _, _, _ => none
  | k + 1, x0, x4, x5, x6, x7 => if x7 ≥ 0 then (if 0 ≤ x7 then (if x7 < (x0.length : Int) then (if ((rd_T93 x0 x7).f0) = 2 then (if x7 < (x4.length : Int) then (if 0 ≤ (rd x4 x7) then (if (rd x4 x7) < (x5.length : Int) then (spec_BuildTree.l0 k x0 x4 (x5.set ((rd x4 x7) : Int).toNat ((rd_T93 x0 x7).f2)) x6 (wrap64 (x7 - 1))) else (none)) else (none)) else (none)) else (if x7 < (x4.length : Int) then (if 0 ≤ (rd x4 x7) then (if (rd x4 x7) < (x5.length : Int) then (if x7 < (x6.length : Int) then (spec_BuildTree.l0 k x0 x4 x5 (x6.set (x7 : Int).toNat (rd x5 (rd x4 x7))) (wrap64 (x7 - 1))) else (none)) else (none)) else (none)) else (none))) else (none)) else (none)) else (if 0 ≤ (wrap64 ((x0.length : Int) + 2)) then (if (wrap64 ((x0.length : Int) + 2) : Int).toNat ≤ 35184372088832 then ((some (List.replicate (wrap64 ((x0.length : Int) + 2) : Int).toNat 0 : List Int)).bind fun y1395 => (if 0 < (y1395.length : Int) then (spec_BuildTree.l1 k x0 x4 x6 (y1395.set (0 : Int).toNat (-1)) ([] : List (S95)) 0) else (none))) else (none)) else (none))
def spec_BuildTree.l1 : Nat → List (S93) → List Int → List Int → List Int → List (S95) → Int → Option ((List (S95)) × Int)
  | 0, _, _, _, _, _, _ => none
  | k + 1, x0, x4, x6, x8, x9, x10 => if x10 < (x0.length : Int) then (if 0 ≤ x10 then (if ((rd_T93 x0 x10).f0) = 2 then (spec_BuildTree.l1 k x0 x4 x6 x8 x9 (wrap64 (x10 + 1))) else (if x10 < (x4.length : Int) then (if 0 ≤ (rd x4 x10) then (if (rd x4 x10) < (x8.length : Int) then ((some (x8.set ((rd x4 x10) : Int).toNat (x9.length : Int) : List Int)).bind fun y1401 => (if x10 < (x6.length : Int) then (if 0 ≤ (wrap64 ((rd x4 x10) - 1)) then (if (wrap64 ((rd x4 x10) - 1)) < (x8.length : Int) then (if x9.length < 3518437208883 then (spec_BuildTree.l1 k x0 x4 x6 y1401 (x9 ++ [(⟨(rd_T93 x0 x10).f0, (rd_T93 x0 x10).f1, (rd_T93 x0 x10).f2, rd x6 x10, rd y1401 (wrap64 ((rd x4 x10) - 1))⟩ : S95)]) (wrap64 (x10 + 1))) else (none)) else (none)) else (none)) else (none))) else (none)) else (none)) else (none))) else (none)) else (some (x9, 0))
end
def spec_BuildTree.f (k : Nat) (l0 : List (S93)) : Option ((List (S95)) × Int) := (spec_l5eventsOK.f k l0).bind fun t1378 => (if t1378 = true then ((spec_l5depths.f k l0).bind fun t1379 => (if 0 ≤ (wrap64 ((l0.length : Int) + 2)) then (if (wrap64 ((l0.length : Int) + 2) : Int).toNat ≤ 35184372088832 then (if 0 ≤ (l0.length : Int) then (if ((l0.length : Int) : Int).toNat ≤ 35184372088832 then (spec_BuildTree.l0 k l0 t1379 (List.replicate (wrap64 ((l0.length : Int) + 2) : Int).toNat 0) (List.replicate ((l0.length : Int) : Int).toNat 0) (wrap64 ((l0.length : Int) - 1))) else (none)) else (none)) else (none)) else (none))) else (some (([] : List (S95)), 4)))
theorem spec_BuildTree.mono_l : ∀ k, (∀ y0 y1 y2 y3 y4, LeO (spec_BuildTree.l0 k y0 y1 y2 y3 y4) (spec_BuildTree.l0 (k + 1) y0 y1 y2 y3 y4)) ∧ (∀ y0 y1 y2 y3 y4 y5, LeO (spec_BuildTree.l1 k y0 y1 y2 y3 y4 y5) (spec_BuildTree.l1 (k + 1) y0 y1 y2 y3 y4 y5))
  | 0 => ⟨fun _ _ _ _ _ r h => by simp [spec_BuildTree.l0] at h, fun _ _ _ _ _ _ r h => by simp [spec_BuildTree.l1] at h⟩
  | k + 1 => by
    obtain ⟨ih0, ih1⟩ := spec_BuildTree.mono_l k
    refine ⟨?_, ?_⟩
    · intro y0 y1 y2 y3 y4
      unfold spec_BuildTree.l0
      repeat' first
      | (with_reducible exact ih0 _ _ _ _ _)
      | (with_reducible exact ih1 _ _ _ _ _ _)
      | (with_reducible exact spec_l5depths.mono _ _)
      | (with_reducible exact spec_l5eventsOK.mono _ _)
      | (with_reducible exact LeO.refl _)
      | (with_reducible exact LeO.none _)
      | (with_reducible refine LeO.ite ?_ ?_)
      | (with_reducible refine LeO.bind ?_ (fun _ => ?_))
      | exact ih0 _ _ _ _ _
      | exact ih1 _ _ _ _ _ _
      | exact spec_l5depths.mono _ _
      | exact spec_l5eventsOK.mono _ _
      | exact LeO.none _
      | refine LeO.ite ?_ ?_
      | refine LeO.bind ?_ (fun _ => ?_)
    · intro y0 y1 y2 y3 y4 y5
      unfold spec_BuildTree.l1
      repeat' first
      | (with_reducible exact ih0 _ _ _ _ _)
      | (with_reducible exact ih1 _ _ _ _ _ _)
      | (with_reducible exact spec_l5depths.mono _ _)
      | (with_reducible exact spec_l5eventsOK.mono _ _)
      | (with_reducible exact LeO.refl _)
      | (with_reducible exact LeO.none _)
      | (with_reducible refine LeO.ite ?_ ?_)
      | (with_reducible refine LeO.bind ?_ (fun _ => ?_))
      | exact ih0 _ _ _ _ _
      | exact ih1 _ _ _ _ _ _
      | exact spec_l5depths.mono _ _
      | exact spec_l5eventsOK.mono _ _
      | exact LeO.none _
      | refine LeO.ite ?_ ?_
      | refine LeO.bind ?_ (fun _ => ?_)
theorem spec_BuildTree.mono : ∀ a0 k, LeO (spec_BuildTree.f k a0) (spec_BuildTree.f (k + 1) a0) := by
  intro a0 k
  obtain ⟨ih0, ih1⟩ := spec_BuildTree.mono_l k
  unfold spec_BuildTree.f
  repeat' first
      | (with_reducible exact ih0 _ _ _ _ _)
      | (with_reducible exact ih1 _ _ _ _ _ _)
      | (with_reducible exact spec_l5depths.mono _ _)
      | (with_reducible exact spec_l5eventsOK.mono _ _)
      | (with_reducible exact LeO.refl _)
      | (with_reducible exact LeO.none _)
      | (with_reducible refine LeO.ite ?_ ?_)
      | (with_reducible refine LeO.bind ?_ (fun _ => ?_))
      | exact ih0 _ _ _ _ _
      | exact ih1 _ _ _ _ _ _
      | exact spec_l5depths.mono _ _
      | exact spec_l5eventsOK.mono _ _
      | exact LeO.none _
      | refine LeO.ite ?_ ?_
      | refine LeO.bind ?_ (fun _ => ?_)
def spec_BuildTree.T10 : Bool × List (List Nat × List Nat) := (true, [([], []), ([], []), ([], []), ([1, 2], [1, 2]), ([3], [3]), ([], []), ([], []), ([5, 6], [5, 6]), ([7], [7]), ([8], [8]), ([0, 4, 0, 1, 2, 3, 4, 5, 6, 7, 8, 9], [0, 4]), ([10, 9, 0, 1, 2, 3, 4, 5, 6, 7, 8, 9], [9, 10])])
def spec_BuildTree.B10 : List Nat := [0, 0, 0, 6, 14, 0, 0, 96, 224, 480, 1023, 2047]
theorem spec_BuildTree.tab10 : rtab .any (opsOf Try.f25 10) = spec_BuildTree.T10 := by kernel_rfl
theorem spec_BuildTree.bits10 : waitsOk spec_BuildTree.T10.2 spec_BuildTree.B10 = true := by kernel_rfl
def spec_BuildTree.T20 : Bool × List (List Nat × List Nat) := (true, [([], []), ([], []), ([], []), ([1, 2], [1, 2]), ([3], [3]), ([4], [4]), ([], []), ([], []), ([6, 7], [6, 7]), ([8], [8]), ([9], [9]), ([], []), ([], []), ([11, 12], [11, 12]), ([13], [13]), ([14], [14]), ([], []), ([], []), ([16, 17], [16, 17]), ([18], [18]), ([], []), ([], []), ([], []), ([21, 22], [21, 22]), ([23], [23]), ([24], [24]), ([20, 25], [20, 25]), ([26], [26]), ([5, 10, 15, 19, 27], [5, 10, 15, 19, 27]), ([28], [28]), ([0, 29], [0, 29]), ([30, 30, 0, 1, 2, 3, 4, 5, 6, 7, 8, 9, 10, 11, 12, 13, 14, 15, 16, 17, 18, 19, 20, 21, 22, 23, 24, 25, 26, 27, 28, 29, 30], [0, 30])])
def spec_BuildTree.B20 : List Nat := [0, 0, 0, 6, 14, 30, 0, 0, 192, 448, 960, 0, 0, 6144, 14336, 30720, 0, 0, 196608, 458752, 0, 0, 0, 6291456, 14680064, 31457280, 66060288, 133169152, 268435454, 536870910, 1073741823, 2147483647]
theorem spec_BuildTree.tab20 : rtab .any (opsOf Try.f25 20) = spec_BuildTree.T20 := by kernel_rfl
theorem spec_BuildTree.bits20 : waitsOk spec_BuildTree.T20.2 spec_BuildTree.B20 = true := by kernel_rfl
set_option maxHeartbeats 8000000 in
set_option maxRecDepth 100000 in
theorem spec_BuildTree.calls (k : Nat) (A0 : Option Addr) (c0 : Nat) (l0 : List (S93)) (r1 : List (S95)) (r2 : Int) (w : World) (hr0 : Kd.C k93 w A0 l0.length l0) (hc0 : l0.length ≤ c0) (h : spec_BuildTree.f k l0 = some (r1, r2)) :
    Calls Try.prog 25 #[.slice A0 l0.length c0] w fun e w' => ∃ v0_ : Value, e = .returned (.tuple #[v0_, .int .i64 r2]) ∧ Kd.R k95 95 w' w.heap.size (fun _ => True) v0_ r1 ∧ Below w.heap.size w w' := by
  have hu95 := Try.underlying95
  have HR0 := Aside0.mk hr0
  have HC0 := Aside0.mk hc0
  clear hr0 hc0
  have HB := Aside0.mk (Below.refl w.heap.size w)
  have H : ((spec_l5eventsOK.f k l0).bind fun t1378 => (if t1378 = true then ((spec_l5depths.f k l0).bind fun t1379 => (if 0 ≤ (wrap64 ((l0.length : Int) + 2)) then (if (wrap64 ((l0.length : Int) + 2) : Int).toNat ≤ 35184372088832 then (if 0 ≤ (l0.length : Int) then (if ((l0.length : Int) : Int).toNat ≤ 35184372088832 then (spec_BuildTree.l0 k l0 t1379 (List.replicate (wrap64 ((l0.length : Int) + 2) : Int).toNat 0) (List.replicate ((l0.length : Int) : Int).toNat 0) (wrap64 ((l0.length : Int) - 1))) else (none)) else (none)) else (none)) else (none))) else (some (([] : List (S95)), 4)))) = some (r1, r2) := h
  clear h
  replace H := Option.bind_eq_some_iff.mp H
  obtain ⟨t1378, A20, H⟩ := H
  replace H : (if t1378 = true then ((spec_l5depths.f k l0).bind fun t1379 => (if 0 ≤ (wrap64 ((l0.length : Int) + 2)) then (if (wrap64 ((l0.length : Int) + 2) : Int).toNat ≤ 35184372088832 then (if 0 ≤ (l0.length : Int) then (if ((l0.length : Int) : Int).toNat ≤ 35184372088832 then (spec_BuildTree.l0 k l0 t1379 (List.replicate (wrap64 ((l0.length : Int) + 2) : Int).toNat 0) (List.replicate ((l0.length : Int) : Int).toNat 0) (wrap64 ((l0.length : Int) - 1))) else (none)) else (none)) else (none)) else (none))) else (some (([] : List (S95)), 4))) = some (r1, r2) := H
  have A2 := Aside0.mk A20
  clear A20
  by_cases c3 : t1378 = true
  · subst c3
    have H1 : ((spec_l5depths.f k l0).bind fun t1379 => (if 0 ≤ (wrap64 ((l0.length : Int) + 2)) then (if (wrap64 ((l0.length : Int) + 2) : Int).toNat ≤ 35184372088832 then (if 0 ≤ (l0.length : Int) then (if ((l0.length : Int) : Int).toNat ≤ 35184372088832 then (spec_BuildTree.l0 k l0 t1379 (List.replicate (wrap64 ((l0.length : Int) + 2) : Int).toNat 0) (List.replicate ((l0.length : Int) : Int).toNat 0) (wrap64 ((l0.length : Int) - 1))) else (none)) else (none)) else (none)) else (none))) = some (r1, r2) := by rw [if_pos rfl] at H; exact H
    clear H
    have H := H1
    clear H1
    replace H := Option.bind_eq_some_iff.mp H
    obtain ⟨t1379, A40, H⟩ := H
    replace H : (if 0 ≤ (wrap64 ((l0.length : Int) + 2)) then (if (wrap64 ((l0.length : Int) + 2) : Int).toNat ≤ 35184372088832 then (if 0 ≤ (l0.length : Int) then (if ((l0.length : Int) : Int).toNat ≤ 35184372088832 then (spec_BuildTree.l0 k l0 t1379 (List.replicate (wrap64 ((l0.length : Int) + 2) : Int).toNat 0) (List.replicate ((l0.length : Int) : Int).toNat 0) (wrap64 ((l0.length : Int) - 1))) else (none)) else (none)) else (none)) else (none)) = some (r1, r2) := H
    have A4 := Aside0.mk A40
    clear A40
    obtain ⟨ji5, hji5⟩ : ∃ j_ : Int, (wrap64 ((l0.length : Int) + 2)) = j_ := ⟨_, rfl⟩
    replace H : (if 0 ≤ (ji5) then (if (ji5 : Int).toNat ≤ 35184372088832 then (if 0 ≤ (l0.length : Int) then (if ((l0.length : Int) : Int).toNat ≤ 35184372088832 then (spec_BuildTree.l0 k l0 t1379 (List.replicate (ji5 : Int).toNat 0) (List.replicate ((l0.length : Int) : Int).toNat 0) (wrap64 ((l0.length : Int) - 1))) else (none)) else (none)) else (none)) else (none)) = some (r1, r2) := by first | (rw [hji5] at H; exact H) | (simp only [hji5] at H ⊢; exact H)
    (try rw [hji5] at A2)
    (try rw [hji5] at A4)
    have hji5w : (IntKind.i64.wrap ((l0.length : Int) + 2)) = ji5 := (i64_w _).trans hji5
    by_cases c6 : 0 ≤ (ji5)
    · rw [if_pos c6] at H
      have c6b0 := eq_true c6
      have c6b1 : decide (0 ≤ (ji5)) = true := decide_eq_true c6
      clear c6
      by_cases c7 : (ji5 : Int).toNat ≤ 35184372088832
      · rw [if_pos c7] at H
        have c7b0 := eq_true c7
        have c7b1 : decide ((ji5 : Int).toNat ≤ 35184372088832) = true := decide_eq_true c7
        clear c7
        obtain ⟨y1382, hy1382⟩ : ∃ y_ : List Int, y_ = (List.replicate (ji5 : Int).toNat 0) := ⟨_, rfl⟩
        replace H : (if 0 ≤ (l0.length : Int) then (if ((l0.length : Int) : Int).toNat ≤ 35184372088832 then (spec_BuildTree.l0 k l0 t1379 y1382 (List.replicate ((l0.length : Int) : Int).toNat 0) (wrap64 ((l0.length : Int) - 1))) else (none)) else (none)) = some (r1, r2) := by first | (rw [hy1382]; with_reducible exact H) | (have H2_ := (Option.bind_some _ _).symm.trans H; rw [hy1382]; with_reducible exact H2_) | (have H2_ := (Option.bind_some _ _).symm.trans H; with_reducible exact H2_) | with_reducible exact H | (rw [hy1382]; exact H) | exact H
        have Ny1382 := Aside0.mk hy1382
        clear hy1382
        by_cases c8 : 0 ≤ (l0.length : Int)
        · rw [if_pos c8] at H
          have c8b0 := eq_true c8
          have c8b1 : decide (0 ≤ (l0.length : Int)) = true := decide_eq_true c8
          clear c8
          by_cases c9 : ((l0.length : Int) : Int).toNat ≤ 35184372088832
          · rw [if_pos c9] at H
            have c9b0 := eq_true c9
            have c9b1 : decide (((l0.length : Int) : Int).toNat ≤ 35184372088832) = true := decide_eq_true c9
            clear c9
            obtain ⟨y1385, hy1385⟩ : ∃ y_ : List Int, y_ = (List.replicate ((l0.length : Int) : Int).toNat 0) := ⟨_, rfl⟩
            replace H : (spec_BuildTree.l0 k l0 t1379 y1382 y1385 (wrap64 ((l0.length : Int) - 1))) = some (r1, r2) := by first | (rw [hy1385]; with_reducible exact H) | (have H2_ := (Option.bind_some _ _).symm.trans H; rw [hy1385]; with_reducible exact H2_) | (have H2_ := (Option.bind_some _ _).symm.trans H; with_reducible exact H2_) | with_reducible exact H | (rw [hy1385]; exact H) | exact H
            have Ny1385 := Aside0.mk hy1385
            clear hy1385
            have H' := Aside0.mk H
            clear H
            go_enter Try.func25, Try.ntmps25
            go_wp2_with (first | ((with_reducible refine gate_callee (f := 73) rfl ?_); refine goesL_ (some 12) rfl rfl Try.func73 (by kernel_rfl) rfl #[.slice A0 l0.length c0] rfl (by (try simp only [List.map_toArray, List.map_cons, List.map_nil]); first | done | rfl | (simp only [List.length_drop, List.length_take]; rfl)) ?_; (with_reducible refine (spec_l5eventsOK.calls k _ _ l0 true _ ?side1 ?side2 A2.out).mono ?_); (case side1 => repeat (first | exact HR0.out | (with_reducible refine Kd.C_alloc ?_ _) | (with_reducible refine Kd.C_drewN ?_ _) | (with_reducible refine Kd.C_drew ?_))); (case side2 => exact HC0.out); rintro e w' ⟨rfl, ⟨nd, rfl⟩⟩; refine ⟨_, rfl, ?_⟩) | ((with_reducible refine gate_callee (f := 74) rfl ?_); refine goesL_ (some 15) rfl rfl Try.func74 (by kernel_rfl) rfl #[.slice A0 l0.length c0] rfl (by (try simp only [List.map_toArray, List.map_cons, List.map_nil]); first | done | rfl | (simp only [List.length_drop, List.length_take]; rfl)) ?_; (with_reducible refine (spec_l5depths.calls k _ _ l0 t1379 _ ?side1 ?side2 A4.out).mono ?_); (case side1 => repeat (first | exact HR0.out | (with_reducible refine Kd.C_alloc ?_ _) | (with_reducible refine Kd.C_drewN ?_ _) | (with_reducible refine Kd.C_drew ?_))); (case side2 => exact HC0.out); rintro e w10 ⟨v1380, rfl, ho0, hb⟩; refine ⟨_, rfl, ?_⟩; have n0_ := Aside0.mk (Kd.R_lower ho0 (below_size (by repeat (first | (with_reducible first | exact HB.out | apply below_alloc | apply pw_below_drewN | apply below_drew1) | exact HB.out)))); have n1_ := Aside0.mk (below_step (by repeat (first | (with_reducible first | exact HB.out | apply below_alloc | apply pw_below_drewN | apply below_drew1) | exact HB.out)) hb); clear HB; have HO1381 := n0_; have HB := n1_; clear n0_ n1_; (try clear hb); (try clear hb2); (try clear hk); (try clear hi); (try clear ho0)) | ((with_reducible refine gate_dst (N := 19) rfl ?_); refine Kd.R_make (Kd.int .i64) _ 3 rfl (N := 19) rfl 62 _ _ rfl ji5 rfl rfl Try.underlying62 (.int .i64 0) 8 info3 rfl (by decide) (by omega) 0 (ok := fun _ => True) (okp := fun _ => True) rfl (fun _ hk => hk) trivial (of_decide_eq_true (by first | (with_reducible assumption) | assumption)) (Nat.le_trans (Nat.mul_le_mul_right _ (of_decide_eq_true (by first | (with_reducible assumption) | assumption) : ji5.toNat ≤ 35184372088832)) (by omega)) (Below.refl _ _) (Nat.le_refl _) ?_; intro v1383 w11 ho12 hb hg_ hnew_; clear hg_ hnew_; (first | rw [← Ny1382.out] at ho12 | (simp only [Int.reduceToNat] at ho12; rw [← Ny1382.out] at ho12)); have n0_ := Aside0.mk (Kd.R_elder' (by (with_reducible repeat (first | apply Kd.R_alloc | apply Kd.R_drewN | apply Kd.R_drew)); exact HO1381.out) (Kd.R_base ho12) hb); have n1_ := Aside0.mk (Kd.R_lower (Kd.R_new' ho12 (Kd.R_lt (by (with_reducible repeat (first | apply Kd.R_alloc | apply Kd.R_drewN | apply Kd.R_drew)); exact HO1381.out))) (below_size (by repeat (first | (with_reducible first | exact HB.out | apply below_alloc | apply pw_below_drewN | apply below_drew1) | exact HB.out)))); have n2_ := Aside0.mk (below_step (by repeat (first | (with_reducible first | exact HB.out | apply below_alloc | apply pw_below_drewN | apply below_drew1) | exact HB.out)) hb); clear HO1381; clear HB; have HO1381 := n0_; have HO1384 := n1_; have HB := n2_; clear n0_ n1_ n2_; clear hb ho12) | ((with_reducible refine gate_dst (N := 22) rfl ?_); refine Kd.R_make (Kd.int .i64) _ 3 rfl (N := 22) rfl 62 _ _ rfl (l0.length : Int) rfl rfl Try.underlying62 (.int .i64 0) 8 info3 rfl (by decide) (by omega) 0 (ok := fun _ => True) (okp := fun _ => True) rfl (fun _ hk => hk) trivial (of_decide_eq_true (by first | (with_reducible assumption) | assumption)) (Nat.le_trans (Nat.mul_le_mul_right _ (of_decide_eq_true (by first | (with_reducible assumption) | assumption) : (l0.length : Int).toNat ≤ 35184372088832)) (by omega)) (Below.refl _ _) (Nat.le_refl _) ?_; intro v1386 w13 ho14 hb hg_ hnew_; clear hg_ hnew_; (first | rw [← Ny1385.out] at ho14 | (simp only [Int.reduceToNat] at ho14; rw [← Ny1385.out] at ho14)); have n0_ := Aside0.mk (Kd.R_elder' (by (with_reducible repeat (first | apply Kd.R_alloc | apply Kd.R_drewN | apply Kd.R_drew)); exact HO1381.out) (Kd.R_base ho14) hb); have n1_ := Aside0.mk (Kd.R_elder' (by (with_reducible repeat (first | apply Kd.R_alloc | apply Kd.R_drewN | apply Kd.R_drew)); exact HO1384.out) (Kd.R_base ho14) hb); have n2_ := Aside0.mk (Kd.R_lower (Kd.R_new' (Kd.R_new' ho14 (Kd.R_lt (by (with_reducible repeat (first | apply Kd.R_alloc | apply Kd.R_drewN | apply Kd.R_drew)); exact HO1381.out))) (Kd.R_lt (by (with_reducible repeat (first | apply Kd.R_alloc | apply Kd.R_drewN | apply Kd.R_drew)); exact HO1384.out))) (below_size (by repeat (first | (with_reducible first | exact HB.out | apply below_alloc | apply pw_below_drewN | apply below_drew1) | exact HB.out)))); have n3_ := Aside0.mk (below_step (by repeat (first | (with_reducible first | exact HB.out | apply below_alloc | apply pw_below_drewN | apply below_drew1) | exact HB.out)) hb); clear HO1381; clear HO1384; clear HB; have HO1381 := n0_; have HO1384 := n1_; have HO1387 := n2_; have HB := n3_; clear n0_ n1_ n2_ n3_; clear hb ho14))
            go_loopg [7] k (fun kq v7 w' => ∃ (x5_1 : List Int) (x6_1 : List Int) (x7_1 : Int), v7 = .int .i64 x7_1 ∧ Aside0 (spec_BuildTree.l0 kq l0 t1379 x5_1 x6_1 x7_1 = some (r1, r2)) ∧ Aside0 (kq ≤ k) ∧ Aside0 (Kd.R (Kd.int .i64) 3 w' w.heap.size (fun k_ => some k_ ≠ (v1383 : Value).ownBlock ∧ some k_ ≠ (v1386 : Value).ownBlock) v1380 t1379) ∧ Aside0 (Kd.R (Kd.int .i64) 3 w' w.heap.size (fun k_ => some k_ ≠ (v1380 : Value).ownBlock ∧ some k_ ≠ (v1386 : Value).ownBlock) v1383 x5_1) ∧ Aside0 (Kd.R (Kd.int .i64) 3 w' w.heap.size (fun k_ => some k_ ≠ (v1380 : Value).ownBlock ∧ some k_ ≠ (v1383 : Value).ownBlock) v1386 x6_1) ∧ Aside0 (Below w.heap.size w w'))
            case atStart => exact ⟨(y1382), (y1385), (wrap64 ((l0.length : Int) - 1)), (by first | rfl | (simp; done) | (simp [*]; done)), H', ⟨Nat.le_refl _⟩, ⟨by (with_reducible repeat (first | apply Kd.R_alloc | apply Kd.R_drewN | apply Kd.R_drew)); exact Kd.R_mono HO1381.out (fun _ hk => ⟨hk.1.2, hk.2⟩)⟩, ⟨by (with_reducible repeat (first | apply Kd.R_alloc | apply Kd.R_drewN | apply Kd.R_drew)); exact Kd.R_mono HO1384.out (fun _ hk => ⟨hk.1.2, hk.2⟩)⟩, ⟨by (with_reducible repeat (first | apply Kd.R_alloc | apply Kd.R_drewN | apply Kd.R_drew)); exact Kd.R_mono HO1387.out (fun _ hk => ⟨hk.1.2, hk.2⟩)⟩, ⟨by repeat (first | (with_reducible first | exact HB.out | apply below_alloc | apply pw_below_drewN | apply below_drew1) | exact HB.out)⟩⟩
            case round =>
              clear H'
              try clear c2
              try clear p2
              try clear c3
              try clear c6
              try clear c6b0
              try clear c6b1
              try clear p6
              try clear c7
              try clear c7b0
              try clear c7b1
              try clear c8
              try clear c8b0
              try clear c8b1
              try clear c9
              try clear c9b0
              try clear c9b1
              obtain ⟨x5_1, x6_1, x7_1, rfl, HA, HK1, HO_4, HO_5, HO_6, HB⟩ := hrel
              cases gk with
              | zero => exact absurd HA.out (by simp [spec_BuildTree.l0])
              | succ k1 =>
                have H := HA.out
                clear HA
                simp only [spec_BuildTree.l0] at H
                by_cases c15 : x7_1 ≥ 0
                · rw [if_pos c15] at H
                  have c15b0 : decide (0 ≤ x7_1) = true := decide_eq_true c15
                  clear c15
                  by_cases c16 : 0 ≤ x7_1
                  · rw [if_pos c16] at H
                    have c16b0 : decide (0 ≤ x7_1) = true := decide_eq_true c16
                    clear c16
                    by_cases c17 : x7_1 < (l0.length : Int)
                    · rw [if_pos c17] at H
                      have c17b0 : decide (x7_1 < (l0.length : Int)) = true := decide_eq_true c17
                      clear c17
                      by_cases c18 : ((rd_T93 l0 x7_1).f0) = 2
                      · rw [if_pos c18] at H
                        have c18b0 : (((rd_T93 l0 x7_1).f0) == 2) = true := beq_iff_eq.mpr c18
                        have c18b1 : (((rd_T93 l0 x7_1).f0) != 2) = false := bne_eq_false_iff_eq.mpr c18
                        clear c18
                        by_cases c19 : x7_1 < (t1379.length : Int)
                        · rw [if_pos c19] at H
                          have c19b0 : decide (x7_1 < (t1379.length : Int)) = true := decide_eq_true c19
                          clear c19
                          by_cases c20 : 0 ≤ (rd t1379 x7_1)
                          · rw [if_pos c20] at H
                            have c20b0 : decide (0 ≤ (rd t1379 x7_1)) = true := decide_eq_true c20
                            clear c20
                            by_cases c21 : (rd t1379 x7_1) < (x5_1.length : Int)
                            · rw [if_pos c21] at H
                              have c21b0 : decide ((rd t1379 x7_1) < (x5_1.length : Int)) = true := decide_eq_true c21
                              clear c21
                              obtain ⟨y1391, hy1391⟩ : ∃ y_ : List Int, y_ = (x5_1.set ((rd t1379 x7_1) : Int).toNat ((rd_T93 l0 x7_1).f2)) := ⟨_, rfl⟩
                              replace H : (spec_BuildTree.l0 k1 l0 t1379 y1391 x6_1 (wrap64 (x7_1 - 1))) = some (r1, r2) := by first | (rw [hy1391]; with_reducible exact H) | (have H2_ := (Option.bind_some _ _).symm.trans H; rw [hy1391]; with_reducible exact H2_) | (have H2_ := (Option.bind_some _ _).symm.trans H; with_reducible exact H2_) | with_reducible exact H | (rw [hy1391]; exact H) | exact H
                              have Ny1391 := Aside0.mk hy1391
                              clear hy1391
                              have H' := Aside0.mk H
                              clear H
                              have p1388 : 0 ≤ (x7_1 : Int) := of_decide_eq_true (by first | (with_reducible assumption) | assumption)
                              have q1388 : x7_1 < (l0.length : Int) := of_decide_eq_true (by first | (with_reducible assumption) | assumption)
                              obtain ⟨ad1388, e1388, hx1388_0, hx1388_1, hx1388_2⟩ := at_T93 HR0.out x7_1 p1388 q1388
                              cases e1388
                              replace hx1388_0 := (HB.out.cell (World.block_lt_of_cell? w _ hx1388_0)).trans hx1388_0
                              replace hx1388_1 := (HB.out.cell (World.block_lt_of_cell? w _ hx1388_1)).trans hx1388_1
                              replace hx1388_2 := (HB.out.cell (World.block_lt_of_cell? w _ hx1388_2)).trans hx1388_2
                              replace p1388 := eq_true p1388
                              replace q1388 := eq_true q1388
                              try go_wp2
                              have n0_ := Aside0.mk (Kd.R_drew HO_4.out)
                              have n1_ := Aside0.mk (Kd.R_drew HO_5.out)
                              have n2_ := Aside0.mk (Kd.R_drew HO_6.out)
                              have n3_ := Aside0.mk (below_drew1 HB.out)
                              clear HO_4
                              clear HO_5
                              clear HO_6
                              clear HB
                              have HO_4 := n0_
                              have HO_5 := n1_
                              have HO_6 := n2_
                              have HB := n3_
                              clear n0_ n1_ n2_ n3_
                              obtain ⟨Ao24, co24, eo24⟩ := Kd.R_slice HO_4.out
                              (first | subst eo24 | (injection eo24 with f1_ f2_ f3_; have f4_ := f1_.symm; have f5_ := f3_.symm; clear f1_ f2_ f3_; subst f4_; subst f5_))
                              have p1389 : 0 ≤ (x7_1 : Int) := of_decide_eq_true (by first | (with_reducible assumption) | assumption)
                              have q1389 : x7_1 < (t1379.length : Int) := of_decide_eq_true (by first | (with_reducible assumption) | assumption)
                              obtain ⟨ad1389, e1389, hx1389_0⟩ := Kd.at_int (Kd.R_reads' HO_4.out).2.2 x7_1 p1389 q1389
                              cases e1389
                              replace p1389 := eq_true p1389
                              replace q1389 := eq_true q1389
                              have p1390 : 0 ≤ (x7_1 : Int) := of_decide_eq_true (by first | (with_reducible assumption) | assumption)
                              have q1390 : x7_1 < (l0.length : Int) := of_decide_eq_true (by first | (with_reducible assumption) | assumption)
                              obtain ⟨ad1390, e1390, hx1390_0, hx1390_1, hx1390_2⟩ := at_T93 HR0.out x7_1 p1390 q1390
                              have hw1390_2 := hx1390_2
                              have hw1390_1 := hx1390_1
                              have hw1390_0 := hx1390_0
                              obtain rfl : ad1388 = ad1390 := (by injection e1390)
                              replace hx1390_0 := (HB.out.cell (World.block_lt_of_cell? w _ hx1390_0)).trans hx1390_0
                              replace hx1390_1 := (HB.out.cell (World.block_lt_of_cell? w _ hx1390_1)).trans hx1390_1
                              replace hx1390_2 := (HB.out.cell (World.block_lt_of_cell? w _ hx1390_2)).trans hx1390_2
                              replace p1390 := eq_true p1390
                              replace q1390 := eq_true q1390
                              have p22 : 0 ≤ ((rd t1379 x7_1) : Int) := of_decide_eq_true (by first | (with_reducible assumption) | assumption)
                              have q22 : ((rd t1379 x7_1) : Int) < ((x5_1.length : Int) : Int) := of_decide_eq_true (by first | (with_reducible assumption) | assumption)
                              obtain ⟨go22, co22, eo22, gb22, gl22, cl22, HG22⟩ := Kd.R_form HO_5.out (by omega)
                              (first | cases eo22 | (injection eo22 with ea_ en_ ec_; (first | subst ea_ | (injection ea_ with ea_; subst ea_)); subst ec_; clear en_))
                              have GB22 := Aside0.mk gb22
                              have GG22 := Aside0.mk HG22
                              clear gb22 gl22 HG22
                              obtain ⟨hx22_0, hf22_0⟩ := Kd.R_celln 0 HO_5.out ((rd t1379 x7_1) : Int) p22 q22
                              replace p22 := eq_true p22
                              replace q22 := eq_true q22
                              have HP25 := Kd.R_putn HO_5.out ((rd t1379 x7_1) : Int) ((rd_T93 l0 x7_1).f2)
                              rw [← Ny1391.out] at HP25
                              have HQ25 := Aside0.mk HP25
                              clear HP25
                              refine start_ (n := 12) (S := fun w' => w'.cell? (ad1389.add (x7_1).toNat) = some (.int .i64 (rd t1379 x7_1)) ∧ w'.cell? (ad1388.add ((x7_1).toNat * 3)) = some (.int .i64 ((rd_T93 l0 x7_1).f0)) ∧ w'.cell? ⟨(ad1388.add ((x7_1).toNat * 3)).block, (ad1388.add ((x7_1).toNat * 3)).off + 1, none⟩ = some (.int .i64 ((rd_T93 l0 x7_1).f1)) ∧ w'.cell? ⟨(ad1388.add ((x7_1).toNat * 3)).block, (ad1388.add ((x7_1).toNat * 3)).off + 2, none⟩ = some (.int .i64 ((rd_T93 l0 x7_1).f2))) (ds := [11]) #[false, false, false, false, false, false, false, false, false, false, false, false] (by kernel_rfl) rfl rfl ⟨hx1389_0, ((HB.out.cell (World.block_lt_of_cell? w _ hw1390_0)).trans hw1390_0), ((HB.out.cell (World.block_lt_of_cell? w _ hw1390_1)).trans hw1390_1), ((HB.out.cell (World.block_lt_of_cell? w _ hw1390_2)).trans hw1390_2)⟩ (fun hHeld => ?_); refine with_tabW spec_BuildTree.tab10 spec_BuildTree.bits10 (fun HT_ HW_ => ?_)
                              generalize wr.drew = w23 at HO_4 HO_5 HO_6 HB GG22 HQ25 hf22_0 hx1389_0 hx1390_0 hx1390_1 hx1390_2 hx22_0 hHeld ⊢
                              refine pure_ (i := 0) (N := some 36) (v := ?_) (a' := ?_) #[true, false, false, false, false, false, false, false, false, false, false, false] rfl rfl (any_of HT_.out (by kernel_rfl)) (fun _ _ _ h => h) (Or.inl ⟨by rfl, ?_⟩) ?_ ?_
                              rotate_left
                              · intro w'
                                go_simp
                                with_reducible rfl
                              rotate_left
                              · simp only [Act.put, List.setIfInBounds_toArray, List.set_cons_zero, List.set_cons_succ, i64_w, i32_w]
                                rfl
                              refine pure_ (i := 1) (N := some 37) (v := ?_) (a' := ?_) #[true, true, false, false, false, false, false, false, false, false, false, false] rfl rfl (any_of HT_.out (by kernel_rfl)) (fun _ _ _ h => h) (Or.inl ⟨by rfl, ?_⟩) ?_ ?_
                              rotate_left
                              · intro w'
                                go_simp
                                with_reducible rfl
                              rotate_left
                              · simp only [Act.put, List.setIfInBounds_toArray, List.set_cons_zero, List.set_cons_succ, i64_w, i32_w]
                                rfl
                              refine pure_ (i := 2) (N := some 38) (v := ?_) (a' := ?_) #[true, true, true, false, false, false, false, false, false, false, false, false] rfl rfl (any_of HT_.out (by kernel_rfl)) (fun _ _ _ h => h) (Or.inl ⟨by rfl, ?_⟩) ?_ ?_
                              rotate_left
                              · intro w'
                                go_simp
                                with_reducible rfl
                              rotate_left
                              · simp only [Act.put, List.setIfInBounds_toArray, List.set_cons_zero, List.set_cons_succ, i64_w, i32_w]
                                rfl
                              refine pure_ (i := 3) (N := some 39) (v := ?_) (a' := ?_) #[true, true, true, true, false, false, false, false, false, false, false, false] rfl rfl (any_of HT_.out (by kernel_rfl)) (fun _ _ _ h => h) (Or.inl ⟨by rfl, ?_⟩) ?_ ?_
                              rotate_left
                              · intro w'
                                go_simp
                                with_reducible rfl
                              rotate_left
                              · simp only [Act.put, List.setIfInBounds_toArray, List.set_cons_zero, List.set_cons_succ, i64_w, i32_w]
                                rfl
                              refine pure_ (i := 5) (N := some 41) (v := ?_) (a' := ?_) #[true, true, true, true, false, true, false, false, false, false, false, false] rfl rfl (any_of HT_.out (by kernel_rfl)) (fun _ _ _ h => h) (Or.inl ⟨by rfl, ?_⟩) ?_ ?_
                              rotate_left
                              · intro w'
                                go_simp
                                with_reducible rfl
                              rotate_left
                              · simp only [Act.put, List.setIfInBounds_toArray, List.set_cons_zero, List.set_cons_succ, i64_w, i32_w]
                                rfl
                              refine pure_ (i := 6) (N := some 42) (v := ?_) (a' := ?_) #[true, true, true, true, false, true, true, false, false, false, false, false] rfl rfl (any_of HT_.out (by kernel_rfl)) (fun _ _ _ h => h) (Or.inl ⟨by rfl, ?_⟩) ?_ ?_
                              rotate_left
                              · intro w'
                                go_simp
                                with_reducible rfl
                              rotate_left
                              · simp only [Act.put, List.setIfInBounds_toArray, List.set_cons_zero, List.set_cons_succ, i64_w, i32_w]
                                rfl
                              refine pure_ (i := 7) (N := some 43) (v := ?_) (a' := ?_) #[true, true, true, true, false, true, true, true, false, false, false, false] rfl rfl (any_of HT_.out (by kernel_rfl)) (fun _ _ _ h => h) (Or.inl ⟨by rfl, ?_⟩) ?_ ?_
                              rotate_left
                              · intro w'
                                go_simp
                                with_reducible rfl
                              rotate_left
                              · simp only [Act.put, List.setIfInBounds_toArray, List.set_cons_zero, List.set_cons_succ, i64_w, i32_w]
                                rfl
                              refine pure_ (i := 8) (N := some 44) (v := ?_) (a' := ?_) #[true, true, true, true, false, true, true, true, true, false, false, false] rfl rfl (any_of HT_.out (by kernel_rfl)) (fun _ _ _ h => h) (Or.inl ⟨by rfl, ?_⟩) ?_ ?_
                              rotate_left
                              · intro w'
                                go_simp
                                with_reducible rfl
                              rotate_left
                              · simp only [Act.put, List.setIfInBounds_toArray, List.set_cons_zero, List.set_cons_succ, i64_w, i32_w]
                                rfl
                              refine take_ (i := 4) (N := some 40) (v := ?_) (a' := ?_) #[true, true, true, true, true, true, true, true, true, false, false, false] rfl rfl (take_ofW HT_.out HW_.out (by kernel_rfl)) (fun _ _ _ h => h) (Or.inl ⟨by rfl, ?_⟩) hHeld ?_ ?_
                              rotate_left
                              · rintro w' ⟨s0, s1, s2, s3⟩
                                go_simp
                                with_reducible rfl
                              rotate_left
                              · simp only [Act.put, List.setIfInBounds_toArray, List.set_cons_zero, List.set_cons_succ, i64_w, i32_w]
                                rfl
                              refine take_ (i := 9) (N := some 45) (v := ?_) (a' := ?_) #[true, true, true, true, true, true, true, true, true, true, false, false] rfl rfl (take_ofW HT_.out HW_.out (by kernel_rfl)) (fun _ _ _ h => h) (Or.inl ⟨by rfl, ?_⟩) hHeld ?_ ?_
                              rotate_left
                              · rintro w' ⟨s0, s1, s2, s3⟩
                                go_simp
                                with_reducible rfl
                              rotate_left
                              · simp only [Act.put, List.setIfInBounds_toArray, List.set_cons_zero, List.set_cons_succ, i64_w, i32_w]
                                rfl
                              refine pure_ (i := 10) (N := some 46) (v := ?_) (a' := ?_) #[true, true, true, true, true, true, true, true, true, true, true, false] rfl rfl (any_of HT_.out (by kernel_rfl)) (fun _ _ _ h => h) (Or.inl ⟨by rfl, ?_⟩) ?_ ?_
                              rotate_left
                              · intro w'
                                go_simp
                                with_reducible rfl
                              rotate_left
                              · simp only [Act.put, List.setIfInBounds_toArray, List.set_cons_zero, List.set_cons_succ, i64_w, i32_w]
                                rfl
                              refine last_ (i := 11) (N := none) #[true, true, true, true, true, true, true, true, true, true, true, true] rfl rfl (one_of HT_.out (by kernel_rfl)) (by decide) (fun K hK => ?_)
                              refine skip_ (w1 := ?_) (by rfl) rfl ?_ ?_
                              rotate_left
                              · go_simp
                                rfl
                              refine hK.out _ _ ?_
                              clear hK K
                              refine done_ (done_of HT_.out (by kernel_rfl)) ?_
                              try go_wp2
                              go_roundg k1
                              case measure => have := HK1.out; omega
                              case rel => exact ⟨(y1391), (x6_1), (wrap64 (x7_1 - 1)), (by first | rfl | (simp; done) | (simp [*]; done)), H', ⟨by have := HK1.out; omega⟩, ⟨by (with_reducible repeat (first | apply Kd.R_alloc | apply Kd.R_drewN | apply Kd.R_drew)); exact Kd.R_mono (Kd.R_far (p := ⟨go22, ((rd t1379 x7_1) : Int).toNat, none⟩) (Kd.R_mono HO_4.out (fun k_ hk => (⟨hk, fun e_ => hk.1 (by rw [e_]; rfl)⟩ : _ ∧ k_ ≠ go22))) (fun _ hk => hk.2) (.int .i64 ((rd_T93 l0 x7_1).f2))) (fun _ hk => ⟨hk.1.1, hk.1.2⟩)⟩, ⟨by (with_reducible repeat (first | apply Kd.R_alloc | apply Kd.R_drewN | apply Kd.R_drew)); exact HQ25.out⟩, ⟨by (with_reducible repeat (first | apply Kd.R_alloc | apply Kd.R_drewN | apply Kd.R_drew)); exact Kd.R_mono (Kd.R_far (p := ⟨go22, ((rd t1379 x7_1) : Int).toNat, none⟩) (Kd.R_mono HO_6.out (fun k_ hk => (⟨hk, fun e_ => hk.2 (by rw [e_]; rfl)⟩ : _ ∧ k_ ≠ go22))) (fun _ hk => hk.2) (.int .i64 ((rd_T93 l0 x7_1).f2))) (fun _ hk => ⟨hk.1.1, hk.1.2⟩)⟩, ⟨by repeat (first | (with_reducible first | exact HB.out | apply below_alloc | apply pw_below_drewN | apply below_drew1 | refine below_set ?_ GB22.out) | exact HB.out)⟩⟩
                            · rw [if_neg c21] at H
                              exact absurd H (by simp)
                          · rw [if_neg c20] at H
                            exact absurd H (by simp)
                        · rw [if_neg c19] at H
                          exact absurd H (by simp)
                      · rw [if_neg c18] at H
                        have c18b0 : (((rd_T93 l0 x7_1).f0) == 2) = false := beq_eq_false_iff_ne.mpr c18
                        have c18b1 : (((rd_T93 l0 x7_1).f0) != 2) = true := bne_iff_ne.mpr c18
                        by_cases c26 : x7_1 < (t1379.length : Int)
                        · rw [if_pos c26] at H
                          have c26b0 : decide (x7_1 < (t1379.length : Int)) = true := decide_eq_true c26
                          clear c26
                          by_cases c27 : 0 ≤ (rd t1379 x7_1)
                          · rw [if_pos c27] at H
                            have c27b0 : decide (0 ≤ (rd t1379 x7_1)) = true := decide_eq_true c27
                            clear c27
                            by_cases c28 : (rd t1379 x7_1) < (x5_1.length : Int)
                            · rw [if_pos c28] at H
                              have c28b0 : decide ((rd t1379 x7_1) < (x5_1.length : Int)) = true := decide_eq_true c28
                              clear c28
                              by_cases c29 : x7_1 < (x6_1.length : Int)
                              · rw [if_pos c29] at H
                                have c29b0 : decide (x7_1 < (x6_1.length : Int)) = true := decide_eq_true c29
                                clear c29
                                obtain ⟨y1394, hy1394⟩ : ∃ y_ : List Int, y_ = (x6_1.set (x7_1 : Int).toNat (rd x5_1 (rd t1379 x7_1))) := ⟨_, rfl⟩
                                replace H : (spec_BuildTree.l0 k1 l0 t1379 x5_1 y1394 (wrap64 (x7_1 - 1))) = some (r1, r2) := by first | (rw [hy1394]; with_reducible exact H) | (have H2_ := (Option.bind_some _ _).symm.trans H; rw [hy1394]; with_reducible exact H2_) | (have H2_ := (Option.bind_some _ _).symm.trans H; with_reducible exact H2_) | with_reducible exact H | (rw [hy1394]; exact H) | exact H
                                have Ny1394 := Aside0.mk hy1394
                                clear hy1394
                                have H' := Aside0.mk H
                                clear H
                                have p1388 : 0 ≤ (x7_1 : Int) := of_decide_eq_true (by first | (with_reducible assumption) | assumption)
                                have q1388 : x7_1 < (l0.length : Int) := of_decide_eq_true (by first | (with_reducible assumption) | assumption)
                                obtain ⟨ad1388, e1388, hx1388_0, hx1388_1, hx1388_2⟩ := at_T93 HR0.out x7_1 p1388 q1388
                                cases e1388
                                replace hx1388_0 := (HB.out.cell (World.block_lt_of_cell? w _ hx1388_0)).trans hx1388_0
                                replace hx1388_1 := (HB.out.cell (World.block_lt_of_cell? w _ hx1388_1)).trans hx1388_1
                                replace hx1388_2 := (HB.out.cell (World.block_lt_of_cell? w _ hx1388_2)).trans hx1388_2
                                replace p1388 := eq_true p1388
                                replace q1388 := eq_true q1388
                                obtain ⟨Ao31, co31, eo31⟩ := Kd.R_slice HO_4.out
                                subst eo31
                                have p1392 : 0 ≤ (x7_1 : Int) := of_decide_eq_true (by first | (with_reducible assumption) | assumption)
                                have q1392 : x7_1 < (t1379.length : Int) := of_decide_eq_true (by first | (with_reducible assumption) | assumption)
                                obtain ⟨ad1392, e1392, hx1392_0⟩ := Kd.at_int (Kd.R_reads' HO_4.out).2.2 x7_1 p1392 q1392
                                cases e1392
                                replace p1392 := eq_true p1392
                                replace q1392 := eq_true q1392
                                obtain ⟨Ao32, co32, eo32⟩ := Kd.R_slice HO_5.out
                                subst eo32
                                have p1393 : 0 ≤ ((rd t1379 x7_1) : Int) := of_decide_eq_true (by first | (with_reducible assumption) | assumption)
                                have q1393 : (rd t1379 x7_1) < (x5_1.length : Int) := of_decide_eq_true (by first | (with_reducible assumption) | assumption)
                                obtain ⟨ad1393, e1393, hx1393_0⟩ := Kd.at_int (Kd.R_reads' HO_5.out).2.2 (rd t1379 x7_1) p1393 q1393
                                cases e1393
                                replace p1393 := eq_true p1393
                                replace q1393 := eq_true q1393
                                have p30 : 0 ≤ (x7_1 : Int) := of_decide_eq_true (by first | (with_reducible assumption) | assumption)
                                have q30 : (x7_1 : Int) < ((x6_1.length : Int) : Int) := of_decide_eq_true (by first | (with_reducible assumption) | assumption)
                                obtain ⟨go30, co30, eo30, gb30, gl30, cl30, HG30⟩ := Kd.R_form HO_6.out (by omega)
                                (first | cases eo30 | (injection eo30 with ea_ en_ ec_; (first | subst ea_ | (injection ea_ with ea_; subst ea_)); subst ec_; clear en_))
                                have GB30 := Aside0.mk gb30
                                have GG30 := Aside0.mk HG30
                                clear gb30 gl30 HG30
                                obtain ⟨hx30_0, hf30_0⟩ := Kd.R_celln 0 HO_6.out (x7_1 : Int) p30 q30
                                replace p30 := eq_true p30
                                replace q30 := eq_true q30
                                have HP33 := Kd.R_putg HO_6.out (x7_1 : Int) (rd x5_1 (rd t1379 x7_1))
                                go_wp2_with (first | ((with_reducible refine gate_store (t := 3) (p := 56) rfl ?_); refine store_event (t := 3) (p := 56) (v := ?vo_w34) (w1 := (wr.setCell ⟨go30, (x7_1 : Int).toNat, none⟩ (.int .i64 (rd x5_1 (rd t1379 x7_1))))) ?hg ?ho ?hn ?hr ?_; (case ho => rfl); (case hg => rfl); (case hn => rfl); (case hr => first | (go_simp; done) | (go_simp; rfl)); intro w34 hw; have hg : wr.grownBy w34 (some go30) := (by rw [hw]; exact HP33.2); have hp_ : Kd.R (Kd.int .i64) 3 w34 w.heap.size (fun k_ => some k_ ≠ (.slice (some ad1392) t1379.length co31 : Value).ownBlock ∧ some k_ ≠ (.slice (some ad1393) x5_1.length co32 : Value).ownBlock) (.slice (some ⟨go30, 0, none⟩) x6_1.length co30) y1394 := (by rw [hw, Ny1394.out]; exact HP33.1); clear HP33; have n0_ := Aside0.mk (Kd.R_after (v := (.slice (some ⟨go30, 0, none⟩) x6_1.length co30)) (v1 := (.slice (some ⟨go30, 0, none⟩) x6_1.length co30)) (ok := (fun k_ => some k_ ≠ (.slice (some ad1393) x5_1.length co32 : Value).ownBlock)) (by (with_reducible repeat (first | apply Kd.R_alloc | apply Kd.R_drewN | apply Kd.R_drew)); exact HO_4.out) hg (.inl rfl)); have n1_ := Aside0.mk (Kd.R_after (v := (.slice (some ⟨go30, 0, none⟩) x6_1.length co30)) (v1 := (.slice (some ⟨go30, 0, none⟩) x6_1.length co30)) (ok := (fun k_ => some k_ ≠ (.slice (some ad1392) t1379.length co31 : Value).ownBlock)) (by (with_reducible repeat (first | apply Kd.R_alloc | apply Kd.R_drewN | apply Kd.R_drew)); exact HO_5.out) hg (.inl rfl)); have n2_ := Aside0.mk (hp_); have n3_ := Aside0.mk ((by rw [hw]; exact below_set (HB.out) GB30.out : Below w.heap.size w w34)); clear HO_4; clear HO_5; clear HO_6; clear HB; have HO_4 := n0_; have HO_5 := n1_; have HO_6 := n2_; have HB := n3_; clear n0_ n1_ n2_ n3_; clear hg hw hp_))
                                go_roundg k1
                                case measure => have := HK1.out; omega
                                case rel => exact ⟨(x5_1), (y1394), (wrap64 (x7_1 - 1)), (by first | rfl | (simp; done) | (simp [*]; done)), H', ⟨by have := HK1.out; omega⟩, ⟨by (with_reducible repeat (first | apply Kd.R_alloc | apply Kd.R_drewN | apply Kd.R_drew)); exact HO_4.out⟩, ⟨by (with_reducible repeat (first | apply Kd.R_alloc | apply Kd.R_drewN | apply Kd.R_drew)); exact HO_5.out⟩, ⟨by (with_reducible repeat (first | apply Kd.R_alloc | apply Kd.R_drewN | apply Kd.R_drew)); exact HO_6.out⟩, ⟨by repeat (first | (with_reducible first | exact HB.out | apply below_alloc | apply pw_below_drewN | apply below_drew1) | exact HB.out)⟩⟩
                              · rw [if_neg c29] at H
                                exact absurd H (by simp)
                            · rw [if_neg c28] at H
                              exact absurd H (by simp)
                          · rw [if_neg c27] at H
                            exact absurd H (by simp)
                        · rw [if_neg c26] at H
                          exact absurd H (by simp)
                    · rw [if_neg c17] at H
                      exact absurd H (by simp)
                  · rw [if_neg c16] at H
                    exact absurd H (by simp)
                · rw [if_neg c15] at H
                  have c15b0 : decide (0 ≤ x7_1) = false := decide_eq_false c15
                  clear c15
                  obtain ⟨ji35, hji35⟩ : ∃ j_ : Int, (wrap64 ((l0.length : Int) + 2)) = j_ := ⟨_, rfl⟩
                  replace H : (if 0 ≤ (ji35) then (if (ji35 : Int).toNat ≤ 35184372088832 then ((some (List.replicate (ji35 : Int).toNat 0 : List Int)).bind fun y1395 => (if 0 < (y1395.length : Int) then (spec_BuildTree.l1 k1 l0 t1379 x6_1 (y1395.set (0 : Int).toNat (-1)) ([] : List (S95)) 0) else (none))) else (none)) else (none)) = some (r1, r2) := by first | (rw [hji35] at H; exact H) | (simp only [hji35] at H ⊢; exact H)
                  have hji35w : (IntKind.i64.wrap ((l0.length : Int) + 2)) = ji35 := (i64_w _).trans hji35
                  obtain rfl : ji35 = ji5 := hji35.symm.trans hji5
                  clear hji5 hji5w
                  by_cases c36 : 0 ≤ (ji35)
                  · rw [if_pos c36] at H
                    have c36b0 := eq_true c36
                    have c36b1 : decide (0 ≤ (ji35)) = true := decide_eq_true c36
                    clear c36
                    by_cases c37 : (ji35 : Int).toNat ≤ 35184372088832
                    · rw [if_pos c37] at H
                      have c37b0 := eq_true c37
                      have c37b1 : decide ((ji35 : Int).toNat ≤ 35184372088832) = true := decide_eq_true c37
                      clear c37
                      obtain ⟨y1395, hy1395⟩ : ∃ y_ : List Int, y_ = (List.replicate (ji35 : Int).toNat 0) := ⟨_, rfl⟩
                      replace H : (if 0 < (y1395.length : Int) then (spec_BuildTree.l1 k1 l0 t1379 x6_1 (y1395.set (0 : Int).toNat (-1)) ([] : List (S95)) 0) else (none)) = some (r1, r2) := by first | (rw [hy1395]; with_reducible exact H) | (have H2_ := (Option.bind_some _ _).symm.trans H; rw [hy1395]; with_reducible exact H2_) | (have H2_ := (Option.bind_some _ _).symm.trans H; with_reducible exact H2_) | with_reducible exact H | (rw [hy1395]; exact H) | exact H
                      have Ny1395 := Aside0.mk hy1395
                      clear hy1395
                      by_cases c38 : 0 < (y1395.length : Int)
                      · rw [if_pos c38] at H
                        have c38b0 : decide (0 < (y1395.length : Int)) = true := decide_eq_true c38
                        have c38b1 : decide (0 < y1395.length) = true := decide_eq_true (by omega)
                        clear c38
                        obtain ⟨y1398, hy1398⟩ : ∃ y_ : List Int, y_ = (y1395.set (0 : Int).toNat (-1)) := ⟨_, rfl⟩
                        replace H : (spec_BuildTree.l1 k1 l0 t1379 x6_1 y1398 ([] : List (S95)) 0) = some (r1, r2) := by first | (rw [hy1398]; with_reducible exact H) | (have H2_ := (Option.bind_some _ _).symm.trans H; rw [hy1398]; with_reducible exact H2_) | (have H2_ := (Option.bind_some _ _).symm.trans H; with_reducible exact H2_) | with_reducible exact H | (rw [hy1398]; exact H) | exact H
                        have Ny1398 := Aside0.mk hy1398
                        clear hy1398
                        have H' := Aside0.mk H
                        clear H
                        go_wp2_with (first | ((with_reducible refine gate_dst (N := 60) rfl ?_); refine Kd.R_make (Kd.int .i64) _ 3 rfl (N := 60) rfl 62 _ _ rfl ji35 rfl rfl Try.underlying62 (.int .i64 0) 8 info3 rfl (by decide) (by omega) 0 (ok := fun _ => True) (okp := fun _ => True) rfl (fun _ hk => hk) trivial (of_decide_eq_true (by first | (with_reducible assumption) | assumption)) (Nat.le_trans (Nat.mul_le_mul_right _ (of_decide_eq_true (by first | (with_reducible assumption) | assumption) : ji35.toNat ≤ 35184372088832)) (by omega)) (Below.refl _ _) (Nat.le_refl _) ?_; intro v1396 w40 ho41 hb hg_ hnew_; clear hg_ hnew_; (first | rw [← Ny1395.out] at ho41 | (simp only [Int.reduceToNat] at ho41; rw [← Ny1395.out] at ho41)); have n0_ := Aside0.mk (Kd.R_elder' (by (with_reducible repeat (first | apply Kd.R_alloc | apply Kd.R_drewN | apply Kd.R_drew)); exact HO_4.out) (Kd.R_base ho41) hb); have n1_ := Aside0.mk (Kd.R_elder' (by (with_reducible repeat (first | apply Kd.R_alloc | apply Kd.R_drewN | apply Kd.R_drew)); exact HO_5.out) (Kd.R_base ho41) hb); have n2_ := Aside0.mk (Kd.R_elder' (by (with_reducible repeat (first | apply Kd.R_alloc | apply Kd.R_drewN | apply Kd.R_drew)); exact HO_6.out) (Kd.R_base ho41) hb); have n3_ := Aside0.mk (Kd.R_lower (Kd.R_new' (Kd.R_new' (Kd.R_new' ho41 (Kd.R_lt (by (with_reducible repeat (first | apply Kd.R_alloc | apply Kd.R_drewN | apply Kd.R_drew)); exact HO_4.out))) (Kd.R_lt (by (with_reducible repeat (first | apply Kd.R_alloc | apply Kd.R_drewN | apply Kd.R_drew)); exact HO_5.out))) (Kd.R_lt (by (with_reducible repeat (first | apply Kd.R_alloc | apply Kd.R_drewN | apply Kd.R_drew)); exact HO_6.out))) (below_size (by repeat (first | (with_reducible first | exact HB.out | apply below_alloc | apply pw_below_drewN | apply below_drew1) | exact HB.out)))); have n4_ := Aside0.mk (below_step (by repeat (first | (with_reducible first | exact HB.out | apply below_alloc | apply pw_below_drewN | apply below_drew1) | exact HB.out)) hb); clear HO_4; clear HO_5; clear HO_6; clear HB; have HO_4 := n0_; have HO_5 := n1_; have HO_6 := n2_; have HO1397 := n3_; have HB := n4_; clear n0_ n1_ n2_ n3_ n4_; clear hb ho41; have p39 : 0 ≤ (0 : Int) := (by omega); have q39 : (0 : Int) < ((y1395.length : Int) : Int) := of_decide_eq_true (by first | (with_reducible assumption) | assumption); have qi39 : (0 < y1395.length) = True := eq_true (by omega); obtain ⟨go39, co39, eo39, gb39, gl39, cl39, HG39⟩ := Kd.R_form HO1397.out (by omega); (first | cases eo39 | (injection eo39 with ea_ en_ ec_; (first | subst ea_ | (injection ea_ with ea_; subst ea_)); subst ec_; clear en_)); have GB39 := Aside0.mk gb39; have GG39 := Aside0.mk HG39; clear gb39 gl39 HG39; obtain ⟨hx39_0, hf39_0⟩ := Kd.R_celln 0 HO1397.out (0 : Int) p39 q39; (try rw [show ((0 : Int)).toNat = 0 from rfl] at hx39_0); (try simp only [Nat.reduceMul, Nat.zero_mul, Nat.zero_add, Nat.reduceAdd] at hx39_0); (try rw [show ((0 : Int)).toNat = 0 from rfl] at hf39_0); (try simp only [Nat.reduceMul, Nat.zero_mul, Nat.zero_add, Nat.reduceAdd] at hf39_0); replace p39 := eq_true p39; replace q39 := eq_true q39; have n_ := Aside0.mk (Kd.R_mono (ok' := (fun k_ => some k_ ≠ (v1380 : Value).ownBlock ∧ some k_ ≠ (v1383 : Value).ownBlock ∧ some k_ ≠ (v1386 : Value).ownBlock)) HO1397.out (fun k_ hk => ⟨hk.1.1.2, ⟨hk.1.2, hk.2⟩⟩)); clear HO1397; have HO1397 := n_; clear n_; obtain ⟨hy42_, hz42_⟩ := Kd.R_celln 0 HO1397.out (0 : Int) (by omega) (of_decide_eq_true (by first | (with_reducible assumption) | assumption)); (try simp only [Int.reduceToNat, Int.toNat_zero, Int.toNat_ofNat, Nat.reduceMul, Nat.zero_mul, Nat.zero_add] at hy42_ hz42_); (try rw [show ((0 : Int)).toNat = 0 from rfl] at hy42_); (try rw [show ((0 : Int)).toNat = 0 from rfl] at hz42_); have HP42 := Kd.R_putg HO1397.out (0 : Int) (-1)) | ((with_reducible refine gate_store (t := 3) (p := 62) rfl ?_); refine store_event (t := 3) (p := 62) (v := ?vo_w43) (w1 := (w40.setCell ⟨go39, (0 : Int).toNat, none⟩ (.int .i64 (-1)))) ?hg ?ho ?hn ?hr ?_; (case ho => rfl); (case hg => rfl); (case hn => rfl); (case hr => first | (go_simp; done) | (go_simp; rfl)); intro w43 hw; have hg : w40.grownBy w43 (some go39) := (by rw [hw]; exact HP42.2); have hp_ : Kd.R (Kd.int .i64) 3 w43 w.heap.size (fun k_ => some k_ ≠ (v1380 : Value).ownBlock ∧ some k_ ≠ (v1383 : Value).ownBlock ∧ some k_ ≠ (v1386 : Value).ownBlock) (.slice (some ⟨go39, 0, none⟩) y1395.length co39) y1398 := (by rw [hw, Ny1398.out]; exact HP42.1); clear HP42; have n0_ := Aside0.mk (Kd.R_after (v := (.slice (some ⟨go39, 0, none⟩) y1395.length co39)) (v1 := (.slice (some ⟨go39, 0, none⟩) y1395.length co39)) (ok := (fun k_ => some k_ ≠ (v1383 : Value).ownBlock ∧ some k_ ≠ (v1386 : Value).ownBlock)) (by (with_reducible repeat (first | apply Kd.R_alloc | apply Kd.R_drewN | apply Kd.R_drew)); exact HO_4.out) hg (.inl rfl)); have n1_ := Aside0.mk (Kd.R_after (v := (.slice (some ⟨go39, 0, none⟩) y1395.length co39)) (v1 := (.slice (some ⟨go39, 0, none⟩) y1395.length co39)) (ok := (fun k_ => some k_ ≠ (v1380 : Value).ownBlock ∧ some k_ ≠ (v1386 : Value).ownBlock)) (by (with_reducible repeat (first | apply Kd.R_alloc | apply Kd.R_drewN | apply Kd.R_drew)); exact HO_5.out) hg (.inl rfl)); have n2_ := Aside0.mk (Kd.R_after (v := (.slice (some ⟨go39, 0, none⟩) y1395.length co39)) (v1 := (.slice (some ⟨go39, 0, none⟩) y1395.length co39)) (ok := (fun k_ => some k_ ≠ (v1380 : Value).ownBlock ∧ some k_ ≠ (v1383 : Value).ownBlock)) (by (with_reducible repeat (first | apply Kd.R_alloc | apply Kd.R_drewN | apply Kd.R_drew)); exact HO_6.out) hg (.inl rfl)); have n3_ := Aside0.mk (hp_); have n4_ := Aside0.mk ((by rw [hw]; exact below_set (HB.out) GB39.out : Below w.heap.size w w43)); clear HO_4; clear HO_5; clear HO_6; clear HO1397; clear HB; have HO_4 := n0_; have HO_5 := n1_; have HO_6 := n2_; have HO1397 := n3_; have HB := n4_; clear n0_ n1_ n2_ n3_ n4_; clear hg hw hp_))
                        go_loopg [9, 10] k1 (fun kq v9 v10 w' => ∃ (x8_2 : List Int) (x9_2 : List (S95)) (x10_2 : Int), v10 = .int .i64 x10_2 ∧ Aside0 (spec_BuildTree.l1 kq l0 t1379 x6_1 x8_2 x9_2 x10_2 = some (r1, r2)) ∧ Aside0 (kq ≤ k1) ∧ Aside0 (Kd.R (Kd.int .i64) 3 w' w.heap.size (fun k_ => some k_ ≠ (v1386 : Value).ownBlock ∧ some k_ ≠ ((.slice (some ⟨go39, 0, none⟩) y1395.length co39) : Value).ownBlock) v1380 t1379) ∧ Aside0 (Kd.R (Kd.int .i64) 3 w' w.heap.size (fun k_ => some k_ ≠ (v1380 : Value).ownBlock ∧ some k_ ≠ ((.slice (some ⟨go39, 0, none⟩) y1395.length co39) : Value).ownBlock) v1386 x6_1) ∧ Aside0 (Kd.R (Kd.int .i64) 3 w' w.heap.size (fun k_ => some k_ ≠ (v1380 : Value).ownBlock ∧ some k_ ≠ (v1386 : Value).ownBlock) (.slice (some ⟨go39, 0, none⟩) y1395.length co39) x8_2) ∧ Aside0 (Kd.R k95 95 w' w.heap.size (fun _ => True) v9 x9_2) ∧ Aside0 (Below w.heap.size w w'))
                        case atStart => exact ⟨(y1398), (([] : List (S95))), (0), (by first | rfl | (simp; done) | (simp [*]; done)), H', ⟨Nat.le_refl _⟩, ⟨by (with_reducible repeat (first | apply Kd.R_alloc | apply Kd.R_drewN | apply Kd.R_drew)); exact Kd.R_mono HO_4.out (fun _ hk => ⟨hk.1.2, hk.2⟩)⟩, ⟨by (with_reducible repeat (first | apply Kd.R_alloc | apply Kd.R_drewN | apply Kd.R_drew)); exact Kd.R_mono HO_6.out (fun _ hk => ⟨hk.1.1, hk.2⟩)⟩, ⟨by (with_reducible repeat (first | apply Kd.R_alloc | apply Kd.R_drewN | apply Kd.R_drew)); exact Kd.R_mono HO1397.out (fun _ hk => ⟨hk.1, hk.2.2⟩)⟩, ⟨by first | exact Kd.R_nil _ _ _ _ _ | exact Kd.N_nil _ _ _ _ _ | exact Kd.V_nil _ _ _ _ _ | exact Kd.Q_nil _ _ _ _ _ | exact Kd.S_nil _ _ _ _ _⟩, ⟨by repeat (first | (with_reducible first | exact HB.out | apply below_alloc | apply pw_below_drewN | apply below_drew1) | exact HB.out)⟩⟩
                        case round =>
                          clear H'
                          try clear c1
                          try clear p1
                          try clear q1
                          try clear hx1
                          try clear c2
                          try clear p2
                          try clear q2
                          try clear hx2
                          try clear hf2
                          try clear c3
                          try clear p3
                          try clear q3
                          try clear hx3
                          try clear qi3
                          try clear hf3
                          try clear c6
                          try clear c6b0
                          try clear c6b1
                          try clear p6
                          try clear c7
                          try clear c7b0
                          try clear c7b1
                          try clear c8
                          try clear c8b0
                          try clear c8b1
                          try clear c9
                          try clear c9b0
                          try clear c9b1
                          try clear p13
                          try clear q13
                          try clear hx13
                          try clear c15
                          try clear c15b0
                          try clear c16
                          try clear c16b0
                          try clear c17
                          try clear c17b0
                          try clear c18
                          try clear c18b0
                          try clear c18b1
                          try clear c19
                          try clear c19b0
                          try clear c20
                          try clear c20b0
                          try clear c21
                          try clear c21b0
                          try clear p22
                          try clear q22
                          try clear hx22
                          try clear hf22
                          try clear c25
                          try clear c26
                          try clear c26b0
                          try clear c27
                          try clear c27b0
                          try clear c28
                          try clear c28b0
                          try clear c29
                          try clear c29b0
                          try clear p30
                          try clear q30
                          try clear hx30
                          try clear hf30
                          try clear c36
                          try clear c36b0
                          try clear c36b1
                          try clear c37
                          try clear c37b0
                          try clear c37b1
                          try clear c38
                          try clear c38b0
                          try clear c38b1
                          try clear p39
                          try clear q39
                          try clear hx39
                          try clear qi39
                          try clear hf39
                          try clear hx1388_0
                          try clear hx1388_1
                          try clear hx1388_2
                          try clear hx1389_0
                          try clear hx1390_0
                          try clear hx1390_1
                          try clear hx1390_2
                          try clear hx1392_0
                          try clear hx1393_0
                          try clear hx22_0
                          try clear hx30_0
                          try clear hx39_0
                          try clear p1388
                          try clear p1389
                          try clear p1390
                          try clear p1392
                          try clear p1393
                          try clear p2
                          try clear p22
                          try clear p30
                          try clear p39
                          try clear p6
                          try clear q1388
                          try clear q1389
                          try clear q1390
                          try clear q1392
                          try clear q1393
                          try clear q22
                          try clear q30
                          try clear q39
                          obtain ⟨x8_2, x9_2, x10_2, rfl, HA, HK2, HO_4, HO_6, HO_8, HO_9, HB⟩ := hrel
                          have hl8_2 := (Kd.R_reads' HO_8.out).1
                          rw [hl8_2] at HO_8
                          (try simp only [hl8_2])
                          (try simp only [hl8_2] at HO_4)
                          (try simp only [hl8_2] at HO_6)
                          (try simp only [hl8_2] at HO_9)
                          cases gk with
                          | zero => exact absurd HA.out (by simp [spec_BuildTree.l1])
                          | succ k2 =>
                            have H := HA.out
                            clear HA
                            simp only [spec_BuildTree.l1] at H
                            by_cases c44 : x10_2 < (l0.length : Int)
                            · rw [if_pos c44] at H
                              have c44b0 : decide (x10_2 < (l0.length : Int)) = true := decide_eq_true c44
                              clear c44
                              by_cases c45 : 0 ≤ x10_2
                              · rw [if_pos c45] at H
                                have c45b0 : decide (0 ≤ x10_2) = true := decide_eq_true c45
                                clear c45
                                by_cases c46 : ((rd_T93 l0 x10_2).f0) = 2
                                · rw [if_pos c46] at H
                                  have c46b0 : (((rd_T93 l0 x10_2).f0) == 2) = true := beq_iff_eq.mpr c46
                                  have c46b1 : (((rd_T93 l0 x10_2).f0) != 2) = false := bne_eq_false_iff_eq.mpr c46
                                  clear c46
                                  have H' := Aside0.mk H
                                  clear H
                                  have p1399 : 0 ≤ (x10_2 : Int) := of_decide_eq_true (by first | (with_reducible assumption) | assumption)
                                  have q1399 : x10_2 < (l0.length : Int) := of_decide_eq_true (by first | (with_reducible assumption) | assumption)
                                  obtain ⟨ad1399, e1399, hx1399_0, hx1399_1, hx1399_2⟩ := at_T93 HR0.out x10_2 p1399 q1399
                                  cases e1399
                                  replace hx1399_0 := (HB.out.cell (World.block_lt_of_cell? w _ hx1399_0)).trans hx1399_0
                                  replace hx1399_1 := (HB.out.cell (World.block_lt_of_cell? w _ hx1399_1)).trans hx1399_1
                                  replace hx1399_2 := (HB.out.cell (World.block_lt_of_cell? w _ hx1399_2)).trans hx1399_2
                                  replace p1399 := eq_true p1399
                                  replace q1399 := eq_true q1399
                                  go_wp2
                                  (try simp only [← hl8_2])
                                  go_roundg k2
                                  case measure => have := HK1.out; have := HK2.out; omega
                                  case rel => exact ⟨(x8_2), (x9_2), (wrap64 (x10_2 + 1)), (by first | rfl | (simp; done) | (simp [*]; done)), H', ⟨by have := HK1.out; have := HK2.out; omega⟩, ⟨by (try simp only [hl8_2]); (with_reducible repeat (first | apply Kd.R_alloc | apply Kd.R_drewN | apply Kd.R_drew)); exact HO_4.out⟩, ⟨by (try simp only [hl8_2]); (with_reducible repeat (first | apply Kd.R_alloc | apply Kd.R_drewN | apply Kd.R_drew)); exact HO_6.out⟩, ⟨by (try simp only [hl8_2]); (with_reducible repeat (first | apply Kd.R_alloc | apply Kd.R_drewN | apply Kd.R_drew)); exact HO_8.out⟩, ⟨by (try simp only [hl8_2]); (with_reducible repeat (first | apply Kd.R_alloc | apply Kd.R_drewN | apply Kd.R_drew)); exact HO_9.out⟩, ⟨by repeat (first | (with_reducible first | exact HB.out | apply below_alloc | apply pw_below_drewN | apply below_drew1) | exact HB.out)⟩⟩
                                · rw [if_neg c46] at H
                                  have c46b0 : (((rd_T93 l0 x10_2).f0) == 2) = false := beq_eq_false_iff_ne.mpr c46
                                  have c46b1 : (((rd_T93 l0 x10_2).f0) != 2) = true := bne_iff_ne.mpr c46
                                  by_cases c47 : x10_2 < (t1379.length : Int)
                                  · rw [if_pos c47] at H
                                    have c47b0 : decide (x10_2 < (t1379.length : Int)) = true := decide_eq_true c47
                                    clear c47
                                    by_cases c48 : 0 ≤ (rd t1379 x10_2)
                                    · rw [if_pos c48] at H
                                      have c48b0 : decide (0 ≤ (rd t1379 x10_2)) = true := decide_eq_true c48
                                      clear c48
                                      by_cases c49 : (rd t1379 x10_2) < (x8_2.length : Int)
                                      · rw [if_pos c49] at H
                                        have c49b0 : decide ((rd t1379 x10_2) < (x8_2.length : Int)) = true := decide_eq_true c49
                                        clear c49
                                        obtain ⟨y1401, hy1401⟩ : ∃ y_ : List Int, y_ = (x8_2.set ((rd t1379 x10_2) : Int).toNat (x9_2.length : Int)) := ⟨_, rfl⟩
                                        replace H : (if x10_2 < (x6_1.length : Int) then (if 0 ≤ (wrap64 ((rd t1379 x10_2) - 1)) then (if (wrap64 ((rd t1379 x10_2) - 1)) < (x8_2.length : Int) then (if x9_2.length < 3518437208883 then (spec_BuildTree.l1 k2 l0 t1379 x6_1 y1401 (x9_2 ++ [(⟨(rd_T93 l0 x10_2).f0, (rd_T93 l0 x10_2).f1, (rd_T93 l0 x10_2).f2, rd x6_1 x10_2, rd y1401 (wrap64 ((rd t1379 x10_2) - 1))⟩ : S95)]) (wrap64 (x10_2 + 1))) else (none)) else (none)) else (none)) else (none)) = some (r1, r2) := by first | (rw [hy1401]; with_reducible exact H) | (have H2_ := (Option.bind_some _ _).symm.trans H; rw [hy1401]; with_reducible exact H2_) | (have H2_ := (Option.bind_some _ _).symm.trans H; with_reducible exact H2_) | with_reducible exact H | (rw [hy1401]; exact H) | exact H
                                        have Ny1401 := Aside0.mk hy1401
                                        clear hy1401
                                        by_cases c51 : x10_2 < (x6_1.length : Int)
                                        · rw [if_pos c51] at H
                                          have c51b0 : decide (x10_2 < (x6_1.length : Int)) = true := decide_eq_true c51
                                          clear c51
                                          obtain ⟨ji52, hji52⟩ : ∃ j_ : Int, (wrap64 ((rd t1379 x10_2) - 1)) = j_ := ⟨_, rfl⟩
                                          replace H : (if 0 ≤ (ji52) then (if (ji52) < (x8_2.length : Int) then (if x9_2.length < 3518437208883 then (spec_BuildTree.l1 k2 l0 t1379 x6_1 y1401 (x9_2 ++ [(⟨(rd_T93 l0 x10_2).f0, (rd_T93 l0 x10_2).f1, (rd_T93 l0 x10_2).f2, rd x6_1 x10_2, rd y1401 (ji52)⟩ : S95)]) (wrap64 (x10_2 + 1))) else (none)) else (none)) else (none)) = some (r1, r2) := by first | (rw [hji52] at H; exact H) | (simp only [hji52] at H ⊢; exact H)
                                          have hji52w : (IntKind.i64.wrap ((rd t1379 x10_2) - 1)) = ji52 := (i64_w _).trans hji52
                                          by_cases c53 : 0 ≤ (ji52)
                                          · rw [if_pos c53] at H
                                            have c53b0 : decide (0 ≤ (ji52)) = true := decide_eq_true c53
                                            clear c53
                                            by_cases c54 : (ji52) < (x8_2.length : Int)
                                            · rw [if_pos c54] at H
                                              have c54b0 : decide ((ji52) < (x8_2.length : Int)) = true := decide_eq_true c54
                                              clear c54
                                              by_cases c55 : x9_2.length < 3518437208883
                                              · rw [if_pos c55] at H
                                                have LMc55 := Aside0.mk c55
                                                clear c55
                                                obtain ⟨y1408, hy1408⟩ : ∃ y_ : List (S95), y_ = (x9_2 ++ [(⟨(rd_T93 l0 x10_2).f0, (rd_T93 l0 x10_2).f1, (rd_T93 l0 x10_2).f2, rd x6_1 x10_2, rd y1401 (ji52)⟩ : S95)]) := ⟨_, rfl⟩
                                                replace H : (spec_BuildTree.l1 k2 l0 t1379 x6_1 y1401 y1408 (wrap64 (x10_2 + 1))) = some (r1, r2) := by first | (rw [hy1408]; with_reducible exact H) | (have H2_ := (Option.bind_some _ _).symm.trans H; rw [hy1408]; with_reducible exact H2_) | (have H2_ := (Option.bind_some _ _).symm.trans H; with_reducible exact H2_) | with_reducible exact H | (rw [hy1408]; exact H) | exact H
                                                have Ny1408 := Aside0.mk hy1408
                                                clear hy1408
                                                have H' := Aside0.mk H
                                                clear H
                                                have p1399 : 0 ≤ (x10_2 : Int) := of_decide_eq_true (by first | (with_reducible assumption) | assumption)
                                                have q1399 : x10_2 < (l0.length : Int) := of_decide_eq_true (by first | (with_reducible assumption) | assumption)
                                                obtain ⟨ad1399, e1399, hx1399_0, hx1399_1, hx1399_2⟩ := at_T93 HR0.out x10_2 p1399 q1399
                                                cases e1399
                                                replace hx1399_0 := (HB.out.cell (World.block_lt_of_cell? w _ hx1399_0)).trans hx1399_0
                                                replace hx1399_1 := (HB.out.cell (World.block_lt_of_cell? w _ hx1399_1)).trans hx1399_1
                                                replace hx1399_2 := (HB.out.cell (World.block_lt_of_cell? w _ hx1399_2)).trans hx1399_2
                                                replace p1399 := eq_true p1399
                                                replace q1399 := eq_true q1399
                                                obtain ⟨Ao56, co56, eo56⟩ := Kd.R_slice HO_4.out
                                                subst eo56
                                                have p1400 : 0 ≤ (x10_2 : Int) := of_decide_eq_true (by first | (with_reducible assumption) | assumption)
                                                have q1400 : x10_2 < (t1379.length : Int) := of_decide_eq_true (by first | (with_reducible assumption) | assumption)
                                                obtain ⟨ad1400, e1400, hx1400_0⟩ := Kd.at_int (Kd.R_reads' HO_4.out).2.2 x10_2 p1400 q1400
                                                cases e1400
                                                replace p1400 := eq_true p1400
                                                replace q1400 := eq_true q1400
                                                obtain ⟨Ao57, co57, eo57⟩ := Kd.R_slice HO_9.out
                                                subst eo57
                                                have p50 : 0 ≤ ((rd t1379 x10_2) : Int) := of_decide_eq_true (by first | (with_reducible assumption) | assumption)
                                                have q50 : ((rd t1379 x10_2) : Int) < ((x8_2.length : Int) : Int) := of_decide_eq_true (by first | (with_reducible assumption) | assumption)
                                                obtain ⟨hx50_0, hf50_0⟩ := Kd.R_celln 0 HO_8.out ((rd t1379 x10_2) : Int) p50 q50
                                                replace p50 := eq_true p50
                                                replace q50 := eq_true q50
                                                have HP58 := Kd.R_putg HO_8.out ((rd t1379 x10_2) : Int) (x9_2.length : Int)
                                                try go_wp2_with (first | ((with_reducible refine gate_store (t := 3) (p := 82) rfl ?_); refine store_event (t := 3) (p := 82) (v := ?vo_w59) (w1 := (wr.setCell ⟨go39, ((rd t1379 x10_2) : Int).toNat, none⟩ (.int .i64 (x9_2.length : Int)))) ?hg ?ho ?hn ?hr ?_; (case ho => rfl); (case hg => rfl); (case hn => rfl); (case hr => first | (go_simp; done) | (go_simp; rfl)); intro w59 hw; have hg : wr.grownBy w59 (some go39) := (by rw [hw]; exact HP58.2); have hp_ : Kd.R (Kd.int .i64) 3 w59 w.heap.size (fun k_ => some k_ ≠ (.slice (some ad1400) t1379.length co56 : Value).ownBlock ∧ some k_ ≠ (v1386 : Value).ownBlock) (.slice (some ⟨go39, 0, none⟩) x8_2.length co39) y1401 := (by rw [hw, Ny1401.out]; exact HP58.1); clear HP58; have n0_ := Aside0.mk (Kd.R_after (v := (.slice (some ⟨go39, 0, none⟩) x8_2.length co39)) (v1 := (.slice (some ⟨go39, 0, none⟩) x8_2.length co39)) (ok := (fun k_ => some k_ ≠ (v1386 : Value).ownBlock)) (by (with_reducible repeat (first | apply Kd.R_alloc | apply Kd.R_drewN | apply Kd.R_drew)); exact HO_4.out) hg (.inl rfl)); have n1_ := Aside0.mk (Kd.R_after (v := (.slice (some ⟨go39, 0, none⟩) x8_2.length co39)) (v1 := (.slice (some ⟨go39, 0, none⟩) x8_2.length co39)) (ok := (fun k_ => some k_ ≠ (.slice (some ad1400) t1379.length co56 : Value).ownBlock)) (by (with_reducible repeat (first | apply Kd.R_alloc | apply Kd.R_drewN | apply Kd.R_drew)); exact HO_6.out) hg (.inl rfl)); have n2_ := Aside0.mk (hp_); have n3_ := Aside0.mk (Kd.R_over' (v := (.slice (some ⟨go39, 0, none⟩) x8_2.length co39)) (by (with_reducible repeat (first | apply Kd.R_alloc | apply Kd.R_drewN | apply Kd.R_drew)); exact HO_9.out) (Kd.R_typed HO_8.out) (by decide) hg); have n4_ := Aside0.mk ((by rw [hw]; exact below_set (HB.out) GB39.out : Below w.heap.size w w59)); clear HO_4; clear HO_6; clear HO_8; clear HO_9; clear HB; have HO_4 := n0_; have HO_6 := n1_; have HO_8 := n2_; have HO_9 := n3_; have HB := n4_; clear n0_ n1_ n2_ n3_ n4_; clear hg hw hp_))
                                                have n0_ := Aside0.mk (Kd.R_drew HO_4.out)
                                                have n1_ := Aside0.mk (Kd.R_drew HO_6.out)
                                                have n2_ := Aside0.mk (Kd.R_drew HO_8.out)
                                                have n3_ := Aside0.mk (Kd.R_drew HO_9.out)
                                                have n4_ := Aside0.mk (below_drew1 HB.out)
                                                clear HO_4
                                                clear HO_6
                                                clear HO_8
                                                clear HO_9
                                                clear HB
                                                have HO_4 := n0_
                                                have HO_6 := n1_
                                                have HO_8 := n2_
                                                have HO_9 := n3_
                                                have HB := n4_
                                                clear n0_ n1_ n2_ n3_ n4_
                                                have p1402 : 0 ≤ (x10_2 : Int) := of_decide_eq_true (by first | (with_reducible assumption) | assumption)
                                                have q1402 : x10_2 < (l0.length : Int) := of_decide_eq_true (by first | (with_reducible assumption) | assumption)
                                                obtain ⟨ad1402, e1402, hx1402_0, hx1402_1, hx1402_2⟩ := at_T93 HR0.out x10_2 p1402 q1402
                                                have hw1402_2 := hx1402_2
                                                have hw1402_1 := hx1402_1
                                                have hw1402_0 := hx1402_0
                                                obtain rfl : ad1399 = ad1402 := (by injection e1402)
                                                replace hx1402_0 := (HB.out.cell (World.block_lt_of_cell? w _ hx1402_0)).trans hx1402_0
                                                replace hx1402_1 := (HB.out.cell (World.block_lt_of_cell? w _ hx1402_1)).trans hx1402_1
                                                replace hx1402_2 := (HB.out.cell (World.block_lt_of_cell? w _ hx1402_2)).trans hx1402_2
                                                replace p1402 := eq_true p1402
                                                replace q1402 := eq_true q1402
                                                have p1403 : 0 ≤ (x10_2 : Int) := of_decide_eq_true (by first | (with_reducible assumption) | assumption)
                                                have q1403 : x10_2 < (l0.length : Int) := of_decide_eq_true (by first | (with_reducible assumption) | assumption)
                                                obtain ⟨ad1403, e1403, hx1403_0, hx1403_1, hx1403_2⟩ := at_T93 HR0.out x10_2 p1403 q1403
                                                have hw1403_2 := hx1403_2
                                                have hw1403_1 := hx1403_1
                                                have hw1403_0 := hx1403_0
                                                obtain rfl : ad1399 = ad1403 := (by injection e1403)
                                                replace hx1403_0 := (HB.out.cell (World.block_lt_of_cell? w _ hx1403_0)).trans hx1403_0
                                                replace hx1403_1 := (HB.out.cell (World.block_lt_of_cell? w _ hx1403_1)).trans hx1403_1
                                                replace hx1403_2 := (HB.out.cell (World.block_lt_of_cell? w _ hx1403_2)).trans hx1403_2
                                                replace p1403 := eq_true p1403
                                                replace q1403 := eq_true q1403
                                                have p1404 : 0 ≤ (x10_2 : Int) := of_decide_eq_true (by first | (with_reducible assumption) | assumption)
                                                have q1404 : x10_2 < (l0.length : Int) := of_decide_eq_true (by first | (with_reducible assumption) | assumption)
                                                obtain ⟨ad1404, e1404, hx1404_0, hx1404_1, hx1404_2⟩ := at_T93 HR0.out x10_2 p1404 q1404
                                                have hw1404_2 := hx1404_2
                                                have hw1404_1 := hx1404_1
                                                have hw1404_0 := hx1404_0
                                                obtain rfl : ad1399 = ad1404 := (by injection e1404)
                                                replace hx1404_0 := (HB.out.cell (World.block_lt_of_cell? w _ hx1404_0)).trans hx1404_0
                                                replace hx1404_1 := (HB.out.cell (World.block_lt_of_cell? w _ hx1404_1)).trans hx1404_1
                                                replace hx1404_2 := (HB.out.cell (World.block_lt_of_cell? w _ hx1404_2)).trans hx1404_2
                                                replace p1404 := eq_true p1404
                                                replace q1404 := eq_true q1404
                                                obtain ⟨Ao61, co61, eo61⟩ := Kd.R_slice HO_6.out
                                                (first | subst eo61 | (injection eo61 with f1_ f2_ f3_; have f4_ := f1_.symm; have f5_ := f3_.symm; clear f1_ f2_ f3_; subst f4_; subst f5_))
                                                have p1405 : 0 ≤ (x10_2 : Int) := of_decide_eq_true (by first | (with_reducible assumption) | assumption)
                                                have q1405 : x10_2 < (x6_1.length : Int) := of_decide_eq_true (by first | (with_reducible assumption) | assumption)
                                                obtain ⟨ad1405, e1405, hx1405_0⟩ := Kd.at_int (Kd.R_reads' HO_6.out).2.2 x10_2 p1405 q1405
                                                cases e1405
                                                replace p1405 := eq_true p1405
                                                replace q1405 := eq_true q1405
                                                have p1406 : 0 ≤ (x10_2 : Int) := of_decide_eq_true (by first | (with_reducible assumption) | assumption)
                                                have q1406 : x10_2 < (t1379.length : Int) := of_decide_eq_true (by first | (with_reducible assumption) | assumption)
                                                obtain ⟨ad1406, e1406, hx1406_0⟩ := Kd.at_int (Kd.R_reads' HO_4.out).2.2 x10_2 p1406 q1406
                                                obtain rfl : ad1400 = ad1406 := (by injection e1406)
                                                replace p1406 := eq_true p1406
                                                replace q1406 := eq_true q1406
                                                have p1407 : 0 ≤ ((ji52) : Int) := of_decide_eq_true (by first | (with_reducible assumption) | assumption)
                                                have q1407 : (ji52) < (y1401.length : Int) := (by have h_ : ((ji52) : Int) < ((x8_2.length : Int) : Int) := of_decide_eq_true (by first | (with_reducible assumption) | assumption); first | (have e_ := (Kd.R_reads' HO_8.out).1; omega) | simpa only [Ny1401.out, List.length_set] using h_)
                                                have ql1407 : (((ji52) : Int) < ((x8_2.length : Int) : Int)) = True := eq_true (of_decide_eq_true (by first | (with_reducible assumption) | assumption))
                                                obtain ⟨ad1407, e1407, hx1407_0⟩ := Kd.at_int (Kd.R_reads' HO_8.out).2.2 (ji52) p1407 q1407
                                                obtain rfl : (⟨go39, 0, none⟩ : Addr) = ad1407 := (by injection e1407)
                                                (first | simp only [add_plain] at hx1407_0 | simp only [add_at] at hx1407_0 | simp only [Addr.add, Nat.zero_add] at hx1407_0 | skip)
                                                replace p1407 := eq_true p1407
                                                replace q1407 := eq_true q1407
                                                refine start_ (n := 32) (S := fun w' => w'.cell? (ad1399.add ((x10_2).toNat * 3)) = some (.int .i64 ((rd_T93 l0 x10_2).f0)) ∧ w'.cell? ⟨(ad1399.add ((x10_2).toNat * 3)).block, (ad1399.add ((x10_2).toNat * 3)).off + 1, none⟩ = some (.int .i64 ((rd_T93 l0 x10_2).f1)) ∧ w'.cell? ⟨(ad1399.add ((x10_2).toNat * 3)).block, (ad1399.add ((x10_2).toNat * 3)).off + 2, none⟩ = some (.int .i64 ((rd_T93 l0 x10_2).f2)) ∧ w'.cell? (ad1399.add ((x10_2).toNat * 3)) = some (.int .i64 ((rd_T93 l0 x10_2).f0)) ∧ w'.cell? ⟨(ad1399.add ((x10_2).toNat * 3)).block, (ad1399.add ((x10_2).toNat * 3)).off + 1, none⟩ = some (.int .i64 ((rd_T93 l0 x10_2).f1)) ∧ w'.cell? ⟨(ad1399.add ((x10_2).toNat * 3)).block, (ad1399.add ((x10_2).toNat * 3)).off + 2, none⟩ = some (.int .i64 ((rd_T93 l0 x10_2).f2)) ∧ w'.cell? (ad1399.add ((x10_2).toNat * 3)) = some (.int .i64 ((rd_T93 l0 x10_2).f0)) ∧ w'.cell? ⟨(ad1399.add ((x10_2).toNat * 3)).block, (ad1399.add ((x10_2).toNat * 3)).off + 1, none⟩ = some (.int .i64 ((rd_T93 l0 x10_2).f1)) ∧ w'.cell? ⟨(ad1399.add ((x10_2).toNat * 3)).block, (ad1399.add ((x10_2).toNat * 3)).off + 2, none⟩ = some (.int .i64 ((rd_T93 l0 x10_2).f2)) ∧ w'.cell? (ad1405.add (x10_2).toNat) = some (.int .i64 (rd x6_1 x10_2)) ∧ w'.cell? (ad1400.add (x10_2).toNat) = some (.int .i64 (rd t1379 x10_2)) ∧ w'.cell? ⟨go39, ((ji52)).toNat, none⟩ = some (.int .i64 (rd y1401 (ji52)))) (ds := [29, 30]) #[false, false, false, false, false, false, false, false, false, false, false, false, false, false, false, false, false, false, false, false, false, false, false, false, false, false, false, false, false, false, false, false] (by kernel_rfl) rfl rfl ⟨((HB.out.cell (World.block_lt_of_cell? w _ hw1402_0)).trans hw1402_0), ((HB.out.cell (World.block_lt_of_cell? w _ hw1402_1)).trans hw1402_1), ((HB.out.cell (World.block_lt_of_cell? w _ hw1402_2)).trans hw1402_2), ((HB.out.cell (World.block_lt_of_cell? w _ hw1403_0)).trans hw1403_0), ((HB.out.cell (World.block_lt_of_cell? w _ hw1403_1)).trans hw1403_1), ((HB.out.cell (World.block_lt_of_cell? w _ hw1403_2)).trans hw1403_2), ((HB.out.cell (World.block_lt_of_cell? w _ hw1404_0)).trans hw1404_0), ((HB.out.cell (World.block_lt_of_cell? w _ hw1404_1)).trans hw1404_1), ((HB.out.cell (World.block_lt_of_cell? w _ hw1404_2)).trans hw1404_2), hx1405_0, hx1406_0, hx1407_0⟩ (fun hHeld => ?_); refine with_tabW spec_BuildTree.tab20 spec_BuildTree.bits20 (fun HT_ HW_ => ?_)
                                                generalize w59.drew = w60 at HO_4 HO_6 HO_8 HO_9 HB hx1402_0 hx1402_1 hx1402_2 hx1403_0 hx1403_1 hx1403_2 hx1404_0 hx1404_1 hx1404_2 hx1405_0 hx1406_0 hx1407_0 hHeld ⊢
                                                refine pure_ (i := 0) (N := some 83) (v := ?_) (a' := ?_) #[true, false, false, false, false, false, false, false, false, false, false, false, false, false, false, false, false, false, false, false, false, false, false, false, false, false, false, false, false, false, false, false] rfl rfl (any_of HT_.out (by kernel_rfl)) (fun _ _ _ h => h) (Or.inl ⟨by rfl, ?_⟩) ?_ ?_
                                                rotate_left
                                                · intro w'
                                                  go_simp
                                                  with_reducible rfl
                                                rotate_left
                                                · simp only [Act.put, List.setIfInBounds_toArray, List.set_cons_zero, List.set_cons_succ, i64_w, i32_w]
                                                  rfl
                                                refine pure_ (i := 1) (N := some 84) (v := ?_) (a' := ?_) #[true, true, false, false, false, false, false, false, false, false, false, false, false, false, false, false, false, false, false, false, false, false, false, false, false, false, false, false, false, false, false, false] rfl rfl (any_of HT_.out (by kernel_rfl)) (fun _ _ _ h => h) (Or.inl ⟨by rfl, ?_⟩) ?_ ?_
                                                rotate_left
                                                · intro w'
                                                  go_simp
                                                  with_reducible rfl
                                                rotate_left
                                                · simp only [Act.put, List.setIfInBounds_toArray, List.set_cons_zero, List.set_cons_succ, i64_w, i32_w]
                                                  rfl
                                                refine pure_ (i := 2) (N := some 85) (v := ?_) (a' := ?_) #[true, true, true, false, false, false, false, false, false, false, false, false, false, false, false, false, false, false, false, false, false, false, false, false, false, false, false, false, false, false, false, false] rfl rfl (any_of HT_.out (by kernel_rfl)) (fun _ _ _ h => h) (Or.inl ⟨by rfl, ?_⟩) ?_ ?_
                                                rotate_left
                                                · intro w'
                                                  go_simp
                                                  with_reducible rfl
                                                rotate_left
                                                · simp only [Act.put, List.setIfInBounds_toArray, List.set_cons_zero, List.set_cons_succ, i64_w, i32_w]
                                                  rfl
                                                refine pure_ (i := 3) (N := some 86) (v := ?_) (a' := ?_) #[true, true, true, true, false, false, false, false, false, false, false, false, false, false, false, false, false, false, false, false, false, false, false, false, false, false, false, false, false, false, false, false] rfl rfl (any_of HT_.out (by kernel_rfl)) (fun _ _ _ h => h) (Or.inl ⟨by rfl, ?_⟩) ?_ ?_
                                                rotate_left
                                                · intro w'
                                                  go_simp
                                                  with_reducible rfl
                                                rotate_left
                                                · simp only [Act.put, List.setIfInBounds_toArray, List.set_cons_zero, List.set_cons_succ, i64_w, i32_w]
                                                  rfl
                                                refine pure_ (i := 4) (N := some 87) (v := ?_) (a' := ?_) #[true, true, true, true, true, false, false, false, false, false, false, false, false, false, false, false, false, false, false, false, false, false, false, false, false, false, false, false, false, false, false, false] rfl rfl (any_of HT_.out (by kernel_rfl)) (fun _ _ _ h => h) (Or.inl ⟨by rfl, ?_⟩) ?_ ?_
                                                rotate_left
                                                · intro w'
                                                  go_simp
                                                  with_reducible rfl
                                                rotate_left
                                                · simp only [Act.put, List.setIfInBounds_toArray, List.set_cons_zero, List.set_cons_succ, i64_w, i32_w]
                                                  rfl
                                                refine pure_ (i := 6) (N := some 89) (v := ?_) (a' := ?_) #[true, true, true, true, true, false, true, false, false, false, false, false, false, false, false, false, false, false, false, false, false, false, false, false, false, false, false, false, false, false, false, false] rfl rfl (any_of HT_.out (by kernel_rfl)) (fun _ _ _ h => h) (Or.inl ⟨by rfl, ?_⟩) ?_ ?_
                                                rotate_left
                                                · intro w'
                                                  go_simp
                                                  with_reducible rfl
                                                rotate_left
                                                · simp only [Act.put, List.setIfInBounds_toArray, List.set_cons_zero, List.set_cons_succ, i64_w, i32_w]
                                                  rfl
                                                refine pure_ (i := 7) (N := some 90) (v := ?_) (a' := ?_) #[true, true, true, true, true, false, true, true, false, false, false, false, false, false, false, false, false, false, false, false, false, false, false, false, false, false, false, false, false, false, false, false] rfl rfl (any_of HT_.out (by kernel_rfl)) (fun _ _ _ h => h) (Or.inl ⟨by rfl, ?_⟩) ?_ ?_
                                                rotate_left
                                                · intro w'
                                                  go_simp
                                                  with_reducible rfl
                                                rotate_left
                                                · simp only [Act.put, List.setIfInBounds_toArray, List.set_cons_zero, List.set_cons_succ, i64_w, i32_w]
                                                  rfl
                                                refine pure_ (i := 8) (N := some 91) (v := ?_) (a' := ?_) #[true, true, true, true, true, false, true, true, true, false, false, false, false, false, false, false, false, false, false, false, false, false, false, false, false, false, false, false, false, false, false, false] rfl rfl (any_of HT_.out (by kernel_rfl)) (fun _ _ _ h => h) (Or.inl ⟨by rfl, ?_⟩) ?_ ?_
                                                rotate_left
                                                · intro w'
                                                  go_simp
                                                  with_reducible rfl
                                                rotate_left
                                                · simp only [Act.put, List.setIfInBounds_toArray, List.set_cons_zero, List.set_cons_succ, i64_w, i32_w]
                                                  rfl
                                                refine pure_ (i := 9) (N := some 92) (v := ?_) (a' := ?_) #[true, true, true, true, true, false, true, true, true, true, false, false, false, false, false, false, false, false, false, false, false, false, false, false, false, false, false, false, false, false, false, false] rfl rfl (any_of HT_.out (by kernel_rfl)) (fun _ _ _ h => h) (Or.inl ⟨by rfl, ?_⟩) ?_ ?_
                                                rotate_left
                                                · intro w'
                                                  go_simp
                                                  with_reducible rfl
                                                rotate_left
                                                · simp only [Act.put, List.setIfInBounds_toArray, List.set_cons_zero, List.set_cons_succ, i64_w, i32_w]
                                                  rfl
                                                refine pure_ (i := 11) (N := some 94) (v := ?_) (a' := ?_) #[true, true, true, true, true, false, true, true, true, true, false, true, false, false, false, false, false, false, false, false, false, false, false, false, false, false, false, false, false, false, false, false] rfl rfl (any_of HT_.out (by kernel_rfl)) (fun _ _ _ h => h) (Or.inl ⟨by rfl, ?_⟩) ?_ ?_
                                                rotate_left
                                                · intro w'
                                                  go_simp
                                                  with_reducible rfl
                                                rotate_left
                                                · simp only [Act.put, List.setIfInBounds_toArray, List.set_cons_zero, List.set_cons_succ, i64_w, i32_w]
                                                  rfl
                                                refine pure_ (i := 12) (N := some 95) (v := ?_) (a' := ?_) #[true, true, true, true, true, false, true, true, true, true, false, true, true, false, false, false, false, false, false, false, false, false, false, false, false, false, false, false, false, false, false, false] rfl rfl (any_of HT_.out (by kernel_rfl)) (fun _ _ _ h => h) (Or.inl ⟨by rfl, ?_⟩) ?_ ?_
                                                rotate_left
                                                · intro w'
                                                  go_simp
                                                  with_reducible rfl
                                                rotate_left
                                                · simp only [Act.put, List.setIfInBounds_toArray, List.set_cons_zero, List.set_cons_succ, i64_w, i32_w]
                                                  rfl
                                                refine pure_ (i := 13) (N := some 96) (v := ?_) (a' := ?_) #[true, true, true, true, true, false, true, true, true, true, false, true, true, true, false, false, false, false, false, false, false, false, false, false, false, false, false, false, false, false, false, false] rfl rfl (any_of HT_.out (by kernel_rfl)) (fun _ _ _ h => h) (Or.inl ⟨by rfl, ?_⟩) ?_ ?_
                                                rotate_left
                                                · intro w'
                                                  go_simp
                                                  with_reducible rfl
                                                rotate_left
                                                · simp only [Act.put, List.setIfInBounds_toArray, List.set_cons_zero, List.set_cons_succ, i64_w, i32_w]
                                                  rfl
                                                refine pure_ (i := 14) (N := some 97) (v := ?_) (a' := ?_) #[true, true, true, true, true, false, true, true, true, true, false, true, true, true, true, false, false, false, false, false, false, false, false, false, false, false, false, false, false, false, false, false] rfl rfl (any_of HT_.out (by kernel_rfl)) (fun _ _ _ h => h) (Or.inl ⟨by rfl, ?_⟩) ?_ ?_
                                                rotate_left
                                                · intro w'
                                                  go_simp
                                                  with_reducible rfl
                                                rotate_left
                                                · simp only [Act.put, List.setIfInBounds_toArray, List.set_cons_zero, List.set_cons_succ, i64_w, i32_w]
                                                  rfl
                                                refine pure_ (i := 16) (N := some 99) (v := ?_) (a' := ?_) #[true, true, true, true, true, false, true, true, true, true, false, true, true, true, true, false, true, false, false, false, false, false, false, false, false, false, false, false, false, false, false, false] rfl rfl (any_of HT_.out (by kernel_rfl)) (fun _ _ _ h => h) (Or.inl ⟨by rfl, ?_⟩) ?_ ?_
                                                rotate_left
                                                · intro w'
                                                  go_simp
                                                  with_reducible rfl
                                                rotate_left
                                                · simp only [Act.put, List.setIfInBounds_toArray, List.set_cons_zero, List.set_cons_succ, i64_w, i32_w]
                                                  rfl
                                                refine pure_ (i := 17) (N := some 100) (v := ?_) (a' := ?_) #[true, true, true, true, true, false, true, true, true, true, false, true, true, true, true, false, true, true, false, false, false, false, false, false, false, false, false, false, false, false, false, false] rfl rfl (any_of HT_.out (by kernel_rfl)) (fun _ _ _ h => h) (Or.inl ⟨by rfl, ?_⟩) ?_ ?_
                                                rotate_left
                                                · intro w'
                                                  go_simp
                                                  with_reducible rfl
                                                rotate_left
                                                · simp only [Act.put, List.setIfInBounds_toArray, List.set_cons_zero, List.set_cons_succ, i64_w, i32_w]
                                                  rfl
                                                refine pure_ (i := 18) (N := some 101) (v := ?_) (a' := ?_) #[true, true, true, true, true, false, true, true, true, true, false, true, true, true, true, false, true, true, true, false, false, false, false, false, false, false, false, false, false, false, false, false] rfl rfl (any_of HT_.out (by kernel_rfl)) (fun _ _ _ h => h) (Or.inl ⟨by rfl, ?_⟩) ?_ ?_
                                                rotate_left
                                                · intro w'
                                                  go_simp
                                                  with_reducible rfl
                                                rotate_left
                                                · simp only [Act.put, List.setIfInBounds_toArray, List.set_cons_zero, List.set_cons_succ, i64_w, i32_w]
                                                  rfl
                                                refine pure_ (i := 20) (N := some 103) (v := ?_) (a' := ?_) #[true, true, true, true, true, false, true, true, true, true, false, true, true, true, true, false, true, true, true, false, true, false, false, false, false, false, false, false, false, false, false, false] rfl rfl (any_of HT_.out (by kernel_rfl)) (fun _ _ _ h => h) (Or.inl ⟨by rfl, ?_⟩) ?_ ?_
                                                rotate_left
                                                · intro w'
                                                  go_simp
                                                  with_reducible rfl
                                                rotate_left
                                                · simp only [Act.put, List.setIfInBounds_toArray, List.set_cons_zero, List.set_cons_succ, i64_w, i32_w]
                                                  rfl
                                                refine pure_ (i := 21) (N := some 104) (v := ?_) (a' := ?_) #[true, true, true, true, true, false, true, true, true, true, false, true, true, true, true, false, true, true, true, false, true, true, false, false, false, false, false, false, false, false, false, false] rfl rfl (any_of HT_.out (by kernel_rfl)) (fun _ _ _ h => h) (Or.inl ⟨by rfl, ?_⟩) ?_ ?_
                                                rotate_left
                                                · intro w'
                                                  go_simp
                                                  with_reducible rfl
                                                rotate_left
                                                · simp only [Act.put, List.setIfInBounds_toArray, List.set_cons_zero, List.set_cons_succ, i64_w, i32_w]
                                                  rfl
                                                refine pure_ (i := 22) (N := some 105) (v := ?_) (a' := ?_) #[true, true, true, true, true, false, true, true, true, true, false, true, true, true, true, false, true, true, true, false, true, true, true, false, false, false, false, false, false, false, false, false] rfl rfl (any_of HT_.out (by kernel_rfl)) (fun _ _ _ h => h) (Or.inl ⟨by rfl, ?_⟩) ?_ ?_
                                                rotate_left
                                                · intro w'
                                                  go_simp
                                                  with_reducible rfl
                                                rotate_left
                                                · simp only [Act.put, List.setIfInBounds_toArray, List.set_cons_zero, List.set_cons_succ, i64_w, i32_w]
                                                  rfl
                                                refine pure_ (i := 23) (N := some 106) (v := ?_) (a' := ?_) #[true, true, true, true, true, false, true, true, true, true, false, true, true, true, true, false, true, true, true, false, true, true, true, true, false, false, false, false, false, false, false, false] rfl rfl (any_of HT_.out (by kernel_rfl)) (fun _ _ _ h => h) (Or.inl ⟨by rfl, ?_⟩) ?_ ?_
                                                rotate_left
                                                · intro w'
                                                  go_simp
                                                  with_reducible rfl
                                                rotate_left
                                                · simp only [Act.put, List.setIfInBounds_toArray, List.set_cons_zero, List.set_cons_succ, i64_w, i32_w]
                                                  rfl
                                                refine take_ (i := 5) (N := some 88) (v := ?_) (a' := ?_) #[true, true, true, true, true, true, true, true, true, true, false, true, true, true, true, false, true, true, true, false, true, true, true, true, false, false, false, false, false, false, false, false] rfl rfl (take_ofW HT_.out HW_.out (by kernel_rfl)) (fun _ _ _ h => h) (Or.inl ⟨by rfl, ?_⟩) hHeld ?_ ?_
                                                rotate_left
                                                · rintro w' ⟨s0, s1, s2, s3, s4, s5, s6, s7, s8, s9, s10, s11⟩
                                                  go_simp
                                                  with_reducible rfl
                                                rotate_left
                                                · simp only [Act.put, List.setIfInBounds_toArray, List.set_cons_zero, List.set_cons_succ, i64_w, i32_w]
                                                  rfl
                                                refine take_ (i := 10) (N := some 93) (v := ?_) (a' := ?_) #[true, true, true, true, true, true, true, true, true, true, true, true, true, true, true, false, true, true, true, false, true, true, true, true, false, false, false, false, false, false, false, false] rfl rfl (take_ofW HT_.out HW_.out (by kernel_rfl)) (fun _ _ _ h => h) (Or.inl ⟨by rfl, ?_⟩) hHeld ?_ ?_
                                                rotate_left
                                                · rintro w' ⟨s0, s1, s2, s3, s4, s5, s6, s7, s8, s9, s10, s11⟩
                                                  go_simp
                                                  with_reducible rfl
                                                rotate_left
                                                · simp only [Act.put, List.setIfInBounds_toArray, List.set_cons_zero, List.set_cons_succ, i64_w, i32_w]
                                                  rfl
                                                refine take_ (i := 15) (N := some 98) (v := ?_) (a' := ?_) #[true, true, true, true, true, true, true, true, true, true, true, true, true, true, true, true, true, true, true, false, true, true, true, true, false, false, false, false, false, false, false, false] rfl rfl (take_ofW HT_.out HW_.out (by kernel_rfl)) (fun _ _ _ h => h) (Or.inl ⟨by rfl, ?_⟩) hHeld ?_ ?_
                                                rotate_left
                                                · rintro w' ⟨s0, s1, s2, s3, s4, s5, s6, s7, s8, s9, s10, s11⟩
                                                  go_simp
                                                  with_reducible rfl
                                                rotate_left
                                                · simp only [Act.put, List.setIfInBounds_toArray, List.set_cons_zero, List.set_cons_succ, i64_w, i32_w]
                                                  rfl
                                                refine take_ (i := 19) (N := some 102) (v := ?_) (a' := ?_) #[true, true, true, true, true, true, true, true, true, true, true, true, true, true, true, true, true, true, true, true, true, true, true, true, false, false, false, false, false, false, false, false] rfl rfl (take_ofW HT_.out HW_.out (by kernel_rfl)) (fun _ _ _ h => h) (Or.inl ⟨by rfl, ?_⟩) hHeld ?_ ?_
                                                rotate_left
                                                · rintro w' ⟨s0, s1, s2, s3, s4, s5, s6, s7, s8, s9, s10, s11⟩
                                                  go_simp
                                                  with_reducible rfl
                                                rotate_left
                                                · simp only [Act.put, List.setIfInBounds_toArray, List.set_cons_zero, List.set_cons_succ, i64_w, i32_w]
                                                  rfl
                                                refine take_ (i := 24) (N := some 107) (v := ?_) (a' := ?_) #[true, true, true, true, true, true, true, true, true, true, true, true, true, true, true, true, true, true, true, true, true, true, true, true, true, false, false, false, false, false, false, false] rfl rfl (take_ofW HT_.out HW_.out (by kernel_rfl)) (fun _ _ _ h => h) (Or.inl ⟨by rfl, ?_⟩) hHeld ?_ ?_
                                                rotate_left
                                                · rintro w' ⟨s0, s1, s2, s3, s4, s5, s6, s7, s8, s9, s10, s11⟩
                                                  go_simp
                                                  with_reducible rfl
                                                rotate_left
                                                · simp only [Act.put, List.setIfInBounds_toArray, List.set_cons_zero, List.set_cons_succ, i64_w, i32_w]
                                                  rfl
                                                refine pure_ (i := 25) (N := some 108) (v := ?_) (a' := ?_) #[true, true, true, true, true, true, true, true, true, true, true, true, true, true, true, true, true, true, true, true, true, true, true, true, true, true, false, false, false, false, false, false] rfl rfl (any_of HT_.out (by kernel_rfl)) (fun _ _ _ h => h) (Or.inl ⟨by rfl, ?_⟩) ?_ ?_
                                                rotate_left
                                                · intro w'
                                                  go_simp
                                                  with_reducible rfl
                                                rotate_left
                                                · simp only [Act.put, List.setIfInBounds_toArray, List.set_cons_zero, List.set_cons_succ, i64_w, i32_w]
                                                  rfl
                                                refine pure_ (i := 26) (N := some 109) (v := ?_) (a' := ?_) #[true, true, true, true, true, true, true, true, true, true, true, true, true, true, true, true, true, true, true, true, true, true, true, true, true, true, true, false, false, false, false, false] rfl rfl (any_of HT_.out (by kernel_rfl)) (fun _ _ _ h => h) (Or.inl ⟨by rfl, ?_⟩) ?_ ?_
                                                rotate_left
                                                · intro w'
                                                  go_simp
                                                  with_reducible rfl
                                                rotate_left
                                                · simp only [Act.put, List.setIfInBounds_toArray, List.set_cons_zero, List.set_cons_succ, i64_w, i32_w]
                                                  rfl
                                                refine take_ (i := 27) (N := some 110) (v := ?_) (a' := ?_) #[true, true, true, true, true, true, true, true, true, true, true, true, true, true, true, true, true, true, true, true, true, true, true, true, true, true, true, true, false, false, false, false] rfl rfl (take_ofW HT_.out HW_.out (by kernel_rfl)) (fun _ _ _ h => h) (Or.inl ⟨by rfl, ?_⟩) hHeld ?_ ?_
                                                rotate_left
                                                · rintro w' ⟨s0, s1, s2, s3, s4, s5, s6, s7, s8, s9, s10, s11⟩
                                                  go_simp
                                                  with_reducible rfl
                                                rotate_left
                                                · simp only [Act.put, List.setIfInBounds_toArray, List.set_cons_zero, List.set_cons_succ, i64_w, i32_w]
                                                  rfl
                                                refine pure_ (i := 28) (N := some 111) (v := ?_) (a' := ?_) #[true, true, true, true, true, true, true, true, true, true, true, true, true, true, true, true, true, true, true, true, true, true, true, true, true, true, true, true, true, false, false, false] rfl rfl (any_of HT_.out (by kernel_rfl)) (fun _ _ _ h => h) (Or.inl ⟨by rfl, ?_⟩) ?_ ?_
                                                rotate_left
                                                · intro w'
                                                  go_simp
                                                  with_reducible rfl
                                                rotate_left
                                                · simp only [Act.put, List.setIfInBounds_toArray, List.set_cons_zero, List.set_cons_succ, i64_w, i32_w]
                                                  rfl
                                                refine last_ (i := 29) (N := some 112) #[true, true, true, true, true, true, true, true, true, true, true, true, true, true, true, true, true, true, true, true, true, true, true, true, true, true, true, true, true, true, false, false] rfl rfl (one_of HT_.out (by kernel_rfl)) (by decide) (fun K hK => ?_)
                                                refine value_ (w1 := ?_) (v := ?_) (by rfl) rfl ?_ ?_
                                                rotate_left 2
                                                · go_simp
                                                  constructor
                                                  · rfl
                                                  · rfl
                                                refine hK.out _ _ ?_
                                                clear hK K
                                                refine norm_ (a' := ?_) ?_ ?_
                                                rotate_left
                                                · show Act.put _ (some 112) _ = _
                                                  simp only [Act.put, List.setIfInBounds_toArray, List.set_cons_zero, List.set_cons_succ, i64_w, i32_w]
                                                  rfl
                                                refine last_ (i := 30) (N := some 113) #[true, true, true, true, true, true, true, true, true, true, true, true, true, true, true, true, true, true, true, true, true, true, true, true, true, true, true, true, true, true, true, false] rfl rfl (one_of HT_.out (by kernel_rfl)) (by decide) (fun K hK => ?_)
                                                refine Kd.R_append_step k95 (w0 := w) w.heap.size (by rfl) (.tmp 83) (.tmp 112) 34 95 (.agg #[(.int .i64 0), (.int .i64 0), (.int .i64 0), (.int .i64 0), (.int .i64 0)]) 40 rfl Try.underlying34 info95 rfl (by decide) (by omega) (.slice Ao57 x9_2.length co57) x9_2 (⟨(rd_T93 l0 x10_2).f0, (rd_T93 l0 x10_2).f1, (rd_T93 l0 x10_2).f2, rd x6_1 x10_2, rd y1401 (ji52)⟩ : S95) [.int .i64 ((rd_T93 l0 x10_2).f0), .int .i64 ((rd_T93 l0 x10_2).f1), .int .i64 ((rd_T93 l0 x10_2).f2), .int .i64 (rd x6_1 x10_2), .int .i64 (rd y1401 (ji52))] (fun _ => True) (fun _ => False) rfl rfl ?aP (fun _ hk => hk.elim) ?aF ?aO ?aB ?aS ?aL ?_
                                                (case aP => exact k95_mkM _ _ _ (⟨(rd_T93 l0 x10_2).f0, (rd_T93 l0 x10_2).f1, (rd_T93 l0 x10_2).f2, rd x6_1 x10_2, rd y1401 (ji52)⟩ : S95))
                                                (case aB => exact (by repeat (first | (with_reducible first | exact HB.out | apply below_alloc | apply pw_below_drewN | apply below_drew1) | exact HB.out)))
                                                (case aF => exact (fun _ _ => trivial))
                                                (case aO => exact (by (with_reducible repeat (first | apply Kd.R_alloc | apply Kd.R_drewN | apply Kd.R_drew)); exact HO_9.out))
                                                (case aS => exact (below_size (by repeat (first | (with_reducible first | exact HB.out | apply below_alloc | apply pw_below_drewN | apply below_drew1) | exact HB.out))))
                                                (case aL => have := LMc55.out; omega)
                                                intro v1409 w62 ho hb hg hat
                                                rw [← Ny1408.out] at ho
                                                have n0_ := Aside0.mk (Kd.R_over' (by (with_reducible repeat (first | apply Kd.R_alloc | apply Kd.R_drewN | apply Kd.R_drew)); exact HO_4.out) (Kd.R_typed (by (with_reducible repeat (first | apply Kd.R_alloc | apply Kd.R_drewN | apply Kd.R_drew)); exact HO_9.out)) (by decide) hg)
                                                have n1_ := Aside0.mk (Kd.R_over' (by (with_reducible repeat (first | apply Kd.R_alloc | apply Kd.R_drewN | apply Kd.R_drew)); exact HO_6.out) (Kd.R_typed (by (with_reducible repeat (first | apply Kd.R_alloc | apply Kd.R_drewN | apply Kd.R_drew)); exact HO_9.out)) (by decide) hg)
                                                have n2_ := Aside0.mk (Kd.R_over' (by (with_reducible repeat (first | apply Kd.R_alloc | apply Kd.R_drewN | apply Kd.R_drew)); exact HO_8.out) (Kd.R_typed (by (with_reducible repeat (first | apply Kd.R_alloc | apply Kd.R_drewN | apply Kd.R_drew)); exact HO_9.out)) (by decide) hg)
                                                have n3_ := Aside0.mk (hb)
                                                have n4_ := Aside0.mk (ho)
                                                clear HO_4
                                                clear HO_6
                                                clear HO_8
                                                clear HB
                                                clear HO_9
                                                have HO_4 := n0_
                                                have HO_6 := n1_
                                                have HO_8 := n2_
                                                have HB := n3_
                                                have HO1410 := n4_
                                                clear n0_ n1_ n2_ n3_ n4_
                                                clear ho hb hg hat
                                                refine hK.out _ _ ?_
                                                clear hK K
                                                refine norm_ (a' := ?_) ?_ ?_
                                                rotate_left
                                                · show Act.put _ (some 113) _ = _
                                                  simp only [Act.put, List.setIfInBounds_toArray, List.set_cons_zero, List.set_cons_succ, i64_w, i32_w]
                                                  rfl
                                                refine pure_ (i := 31) (N := some 9) (v := ?_) (a' := ?_) #[true, true, true, true, true, true, true, true, true, true, true, true, true, true, true, true, true, true, true, true, true, true, true, true, true, true, true, true, true, true, true, true] rfl rfl (any_of HT_.out (by kernel_rfl)) (fun _ _ _ h => h) (Or.inl ⟨by rfl, ?_⟩) ?_ ?_
                                                rotate_left
                                                · intro w'
                                                  go_simp
                                                  with_reducible rfl
                                                rotate_left
                                                · simp only [Act.put, List.setIfInBounds_toArray, List.set_cons_zero, List.set_cons_succ, i64_w, i32_w]
                                                  rfl
                                                refine done_ (done_of HT_.out (by kernel_rfl)) ?_
                                                try go_wp2
                                                (try simp only [← hl8_2])
                                                go_roundg k2
                                                case measure => have := HK1.out; have := HK2.out; omega
                                                case rel => exact ⟨(y1401), (y1408), (wrap64 (x10_2 + 1)), (by first | rfl | (simp; done) | (simp [*]; done)), H', ⟨by have := HK1.out; have := HK2.out; omega⟩, ⟨by (try simp only [hl8_2]); (with_reducible repeat (first | apply Kd.R_alloc | apply Kd.R_drewN | apply Kd.R_drew)); exact HO_4.out⟩, ⟨by (try simp only [hl8_2]); (with_reducible repeat (first | apply Kd.R_alloc | apply Kd.R_drewN | apply Kd.R_drew)); exact HO_6.out⟩, ⟨by (try simp only [hl8_2]); (with_reducible repeat (first | apply Kd.R_alloc | apply Kd.R_drewN | apply Kd.R_drew)); exact HO_8.out⟩, ⟨by (try simp only [hl8_2]); (with_reducible repeat (first | apply Kd.R_alloc | apply Kd.R_drewN | apply Kd.R_drew)); exact HO1410.out⟩, ⟨by repeat (first | (with_reducible first | exact HB.out | apply below_alloc | apply pw_below_drewN | apply below_drew1) | exact HB.out)⟩⟩
                                              · rw [if_neg c55] at H
                                                exact absurd H (by simp)
                                            · rw [if_neg c54] at H
                                              exact absurd H (by simp)
                                          · rw [if_neg c53] at H
                                            exact absurd H (by simp)
                                        · rw [if_neg c51] at H
                                          exact absurd H (by simp)
                                      · rw [if_neg c49] at H
                                        exact absurd H (by simp)
                                    · rw [if_neg c48] at H
                                      exact absurd H (by simp)
                                  · rw [if_neg c47] at H
                                    exact absurd H (by simp)
                              · rw [if_neg c45] at H
                                exact absurd H (by simp)
                            · rw [if_neg c44] at H
                              have c44b0 : decide (x10_2 < (l0.length : Int)) = false := decide_eq_false c44
                              clear c44
                              simp only [Option.some.injEq, Prod.mk.injEq] at H
                              obtain ⟨rfl, rfl⟩ := H
                              go_wp2
                              go_ret2
                              exact ⟨_, by first | rfl | (simp [errW_none, errW_some] <;> rfl) | (simp only [← hji5, ← hji35]; first | rfl | (simp [errW_none, errW_some] <;> rfl)) | (simp [*, errW_none, errW_some] <;> rfl), by (with_reducible repeat (first | apply Kd.R_alloc | apply Kd.R_drewN | apply Kd.R_drew)); exact HO_9.out, by repeat (first | (with_reducible first | exact HB.out | apply below_alloc | apply pw_below_drewN | apply below_drew1) | exact HB.out)⟩
                      · rw [if_neg c38] at H
                        exact absurd H (by simp)
                    · rw [if_neg c37] at H
                      exact absurd H (by simp)
                  · rw [if_neg c36] at H
                    exact absurd H (by simp)
          · rw [if_neg c9] at H
            exact absurd H (by simp)
        · rw [if_neg c8] at H
          exact absurd H (by simp)
      · rw [if_neg c7] at H
        exact absurd H (by simp)
    · rw [if_neg c6] at H
      exact absurd H (by simp)
  · replace c3 := Bool.eq_false_iff.mpr c3
    subst c3
    have H1 : (some (([] : List (S95)), 4)) = some (r1, r2) := by rw [if_neg (show ¬ (false = true) by decide)] at H; exact H
    clear H
    have H := H1
    clear H1
    simp only [Option.some.injEq, Prod.mk.injEq] at H
    obtain ⟨rfl, rfl⟩ := H
    go_enter Try.func25, Try.ntmps25
    go_wp2_with (first | ((with_reducible refine gate_callee (f := 73) rfl ?_); refine goesL_ (some 12) rfl rfl Try.func73 (by kernel_rfl) rfl #[.slice A0 l0.length c0] rfl (by (try simp only [List.map_toArray, List.map_cons, List.map_nil]); first | done | rfl | (simp only [List.length_drop, List.length_take]; rfl)) ?_; (with_reducible refine (spec_l5eventsOK.calls k _ _ l0 false _ ?side1 ?side2 A2.out).mono ?_); (case side1 => repeat (first | exact HR0.out | (with_reducible refine Kd.C_alloc ?_ _) | (with_reducible refine Kd.C_drewN ?_ _) | (with_reducible refine Kd.C_drew ?_))); (case side2 => exact HC0.out); rintro e w' ⟨rfl, ⟨nd, rfl⟩⟩; refine ⟨_, rfl, ?_⟩))
    go_ret2
    exact ⟨_, by first | rfl | (simp [errW_none, errW_some] <;> rfl) | (simp [*, errW_none, errW_some] <;> rfl), by first | exact Kd.R_nil _ _ _ _ _ | exact Kd.N_nil _ _ _ _ _ | exact Kd.V_nil _ _ _ _ _ | exact Kd.Q_nil _ _ _ _ _ | exact Kd.S_nil _ _ _ _ _, by repeat (first | (with_reducible first | exact HB.out | apply below_alloc | apply pw_below_drewN | apply below_drew1) | exact HB.out)⟩
end Go.Proofs.Ytahfkfdjhpookaa.PAll
