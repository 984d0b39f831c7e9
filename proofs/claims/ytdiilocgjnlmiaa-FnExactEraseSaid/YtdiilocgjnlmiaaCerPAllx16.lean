import Derived.Test.YtdiilocgjnlmiaaCerFlat
import Derived.Test.YtdiilocgjnlmiaaCerPAllx2
import Derived.Test.YtdiilocgjnlmiaaCerPAllx15
namespace Go.Proofs.Ytdiilocgjnlmiaa.PAll
open Go.RowKit Go.Proofs.YtdiilocgjnlmiaaW.PrintWords Go.Proofs.YtdiilocgjnlmiaaW.PrintLast Go.Proofs.YtdiilocgjnlmiaaW.PrintMore
attribute [local go_sem] max2_int min2_int max_two min_two max_three min_three max_four min_four   -- for this text's walks alone
set_option linter.unusedVariables false
set_option linter.unusedSimpArgs false
def laws_heldOpS.l0 : Nat → List (S79) → Int → Int → Option (Int)
  | 0, _, _, _ => none
  | k + 1, x0, x1, x5 => if x5 < (x0.length : Int) then (if 0 ≤ x5 then (if ((rd_T79 x0 x5).f0) = x1 then ((laws_heldIntS.f k ((rd_T79 x0 x5).f1) (wrap64 (x1 + 1))).bind fun t759 => (if t759 < 0 then (some (-1)) else (if ((rd_T79 x0 x5).f2) = t759 then (laws_heldOpS.l0 k x0 (wrap64 (t759 + 1)) (wrap64 (x5 + 1))) else (some (-1))))) else (some (-1))) else (none)) else (some x1)
def laws_heldOpS.f (k : Nat) (l0 : List (S79)) (a1 : Int) : Option (Int) := laws_heldOpS.l0 k l0 a1 0
theorem laws_heldOpS.mono_l : ∀ k, (∀ y0 y1 y2, LeO (laws_heldOpS.l0 k y0 y1 y2) (laws_heldOpS.l0 (k + 1) y0 y1 y2))
  | 0 => fun _ _ _ r h => by simp [laws_heldOpS.l0] at h
  | k + 1 => by
    have ih0 := laws_heldOpS.mono_l k
    · intro y0 y1 y2
      unfold laws_heldOpS.l0
      repeat' first
      | (with_reducible exact ih0 _ _ _)
      | (with_reducible exact laws_heldIntS.mono _ _ _)
      | (with_reducible exact LeO.refl _)
      | (with_reducible exact LeO.none _)
      | (with_reducible refine LeO.ite ?_ ?_)
      | (with_reducible refine LeO.bind ?_ (fun _ => ?_))
      | exact ih0 _ _ _
      | exact laws_heldIntS.mono _ _ _
      | exact LeO.none _
      | refine LeO.ite ?_ ?_
      | refine LeO.bind ?_ (fun _ => ?_)
theorem laws_heldOpS.mono : ∀ a0 a1 k, LeO (laws_heldOpS.f k a0 a1) (laws_heldOpS.f (k + 1) a0 a1) := by
  intro a0 a1 k
  have ih0 := laws_heldOpS.mono_l k
  unfold laws_heldOpS.f
  repeat' first
      | (with_reducible exact ih0 _ _ _)
      | (with_reducible exact laws_heldIntS.mono _ _ _)
      | (with_reducible exact LeO.refl _)
      | (with_reducible exact LeO.none _)
      | (with_reducible refine LeO.ite ?_ ?_)
      | (with_reducible refine LeO.bind ?_ (fun _ => ?_))
      | exact ih0 _ _ _
      | exact laws_heldIntS.mono _ _ _
      | exact LeO.none _
      | refine LeO.ite ?_ ?_
      | refine LeO.bind ?_ (fun _ => ?_)
set_option maxHeartbeats 8000000 in
set_option maxRecDepth 100000 in
theorem laws_heldOpS.calls (k : Nat) (A0 : Option Addr) (c0 : Nat) (l0 : List (S79)) (a1 : Int) (r : Int) (w : World) (hr0 : Kd.C k79 w A0 l0.length l0) (hc0 : l0.length ≤ c0) (h : laws_heldOpS.f k l0 a1 = some r) :
    Calls Try.prog 122 #[.slice A0 l0.length c0, .int .i64 a1] w fun e w' => e = .returned (.int .i64 r) ∧ Drawn0 w w' := by
  have HR0 := Aside0.mk hr0
  have HC0 := Aside0.mk hc0
  clear hr0 hc0
  have H : (laws_heldOpS.l0 k l0 a1 0) = some r := h
  clear h
  have H' := Aside0.mk H
  clear H
  go_enter Try.func122, Try.ntmps122
  go_wp2
  go_loopg [1, 5] k (fun kq v1 v5 w' => ∃ (x1_1 : Int) (x5_1 : Int), v1 = .int .i64 x1_1 ∧ v5 = .int .i64 x5_1 ∧ Aside0 (laws_heldOpS.l0 kq l0 x1_1 x5_1 = some r) ∧ Aside0 (kq ≤ k) ∧ Drawn0 w w')
  case atStart => exact ⟨(a1), (0), (by first | rfl | (simp; done) | (simp [*]; done)), (by first | rfl | (simp; done) | (simp [*]; done)), H', ⟨Nat.le_refl _⟩, by repeat (first | exact Drawn0.refl _ | apply Drawn0.step)⟩
  case round =>
    clear H'
    try clear c1
    try clear p2
    obtain ⟨x1_1, x5_1, rfl, rfl, HA, HK1, ⟨m1, rfl⟩⟩ := hrel
    cases gk with
    | zero => exact absurd HA.out (by simp [laws_heldOpS.l0])
    | succ k1 =>
      have H := HA.out
      clear HA
      simp only [laws_heldOpS.l0] at H
      by_cases c3 : x5_1 < (l0.length : Int)
      · rw [if_pos c3] at H
        have c3b0 : decide (x5_1 < (l0.length : Int)) = true := decide_eq_true c3
        clear c3
        by_cases c4 : 0 ≤ x5_1
        · rw [if_pos c4] at H
          have c4b0 : decide (0 ≤ x5_1) = true := decide_eq_true c4
          clear c4
          by_cases c5 : ((rd_T79 l0 x5_1).f0) = x1_1
          · rw [if_pos c5] at H
            have c5b0 : (((rd_T79 l0 x5_1).f0) == x1_1) = true := beq_iff_eq.mpr c5
            have c5b1 : (((rd_T79 l0 x5_1).f0) != x1_1) = false := bne_eq_false_iff_eq.mpr c5
            clear c5
            replace H := Option.bind_eq_some_iff.mp H
            obtain ⟨t759, A60, H⟩ := H
            replace H : (if t759 < 0 then (some (-1)) else (if ((rd_T79 l0 x5_1).f2) = t759 then (laws_heldOpS.l0 k1 l0 (wrap64 (t759 + 1)) (wrap64 (x5_1 + 1))) else (some (-1)))) = some r := H
            have A6 := Aside0.mk A60
            clear A60
            by_cases c7 : t759 < 0
            · rw [if_pos c7] at H
              have c7b0 : decide (t759 < 0) = true := decide_eq_true c7
              clear c7
              obtain rfl := Option.some.inj H
              have p757 : 0 ≤ (x5_1 : Int) := of_decide_eq_true (by first | (with_reducible assumption) | assumption)
              have q757 : x5_1 < (l0.length : Int) := of_decide_eq_true (by first | (with_reducible assumption) | assumption)
              obtain ⟨ad757, A757_1, c757_1, e757, hx757_0, hx757_1, hx757_2, hl757_1, hi757_1⟩ := at_T79 HR0.out x5_1 p757 q757
              cases e757
              have HR757_1 := Aside0.mk hi757_1
              have HC757_1 := Aside0.mk hl757_1
              clear hi757_1 hl757_1
              replace p757 := eq_true p757
              replace q757 := eq_true q757
              have p758 : 0 ≤ (x5_1 : Int) := of_decide_eq_true (by first | (with_reducible assumption) | assumption)
              have q758 : x5_1 < (l0.length : Int) := of_decide_eq_true (by first | (with_reducible assumption) | assumption)
              obtain ⟨ad758, A758_1, c758_1, e758, hx758_0, hx758_1, hx758_2, hl758_1, hi758_1⟩ := at_T79 HR0.out x5_1 p758 q758
              obtain rfl : ad757 = ad758 := (by injection e758)
              have HR758_1 := Aside0.mk hi758_1
              have HC758_1 := Aside0.mk hl758_1
              clear hi758_1 hl758_1
              replace p758 := eq_true p758
              replace q758 := eq_true q758
              have ea_ := Option.some.inj (hx757_1.symm.trans hx758_1)
              injection ea_ with ea_ en_ ec_
              subst ea_
              subst ec_
              clear en_
              go_wp2_with (first | ((with_reducible refine gate_callee (f := 70) rfl ?_); refine goesL_ (some 27) rfl rfl Try.func70 (by kernel_rfl) rfl #[.slice A757_1 ((rd_T79 l0 x5_1).f1).length c757_1, .int .i64 (wrap64 (x1_1 + 1))] rfl (by (try simp only [List.map_toArray, List.map_cons, List.map_nil]); first | done | rfl | (simp only [List.length_drop, List.length_take]; rfl)) ?_; (with_reducible refine (laws_heldIntS.calls k1 _ _ ((rd_T79 l0 x5_1).f1) (wrap64 (x1_1 + 1)) t759 _ ?side1 ?side2 A6.out).mono ?_); (case side1 => repeat (first | exact HR758_1.out | (with_reducible refine Kd.C_alloc ?_ _) | (with_reducible refine Kd.C_drewN ?_ _) | (with_reducible refine Kd.C_drew ?_))); (case side2 => exact HC758_1.out); rintro e w' ⟨rfl, ⟨nd, rfl⟩⟩; refine ⟨_, rfl, ?_⟩))
              go_ret
              exact ⟨by first | rfl | (simp; done) | (simp [*]; done), by repeat (first | exact Drawn0.refl _ | apply Drawn0.step)⟩
            · rw [if_neg c7] at H
              have c7b0 : decide (t759 < 0) = false := decide_eq_false c7
              clear c7
              by_cases c8 : ((rd_T79 l0 x5_1).f2) = t759
              · rw [if_pos c8] at H
                have c8b0 : (((rd_T79 l0 x5_1).f2) == t759) = true := beq_iff_eq.mpr c8
                have c8b1 : (((rd_T79 l0 x5_1).f2) != t759) = false := bne_eq_false_iff_eq.mpr c8
                clear c8
                have H' := Aside0.mk H
                clear H
                have p757 : 0 ≤ (x5_1 : Int) := of_decide_eq_true (by first | (with_reducible assumption) | assumption)
                have q757 : x5_1 < (l0.length : Int) := of_decide_eq_true (by first | (with_reducible assumption) | assumption)
                obtain ⟨ad757, A757_1, c757_1, e757, hx757_0, hx757_1, hx757_2, hl757_1, hi757_1⟩ := at_T79 HR0.out x5_1 p757 q757
                cases e757
                have HR757_1 := Aside0.mk hi757_1
                have HC757_1 := Aside0.mk hl757_1
                clear hi757_1 hl757_1
                replace p757 := eq_true p757
                replace q757 := eq_true q757
                have p758 : 0 ≤ (x5_1 : Int) := of_decide_eq_true (by first | (with_reducible assumption) | assumption)
                have q758 : x5_1 < (l0.length : Int) := of_decide_eq_true (by first | (with_reducible assumption) | assumption)
                obtain ⟨ad758, A758_1, c758_1, e758, hx758_0, hx758_1, hx758_2, hl758_1, hi758_1⟩ := at_T79 HR0.out x5_1 p758 q758
                obtain rfl : ad757 = ad758 := (by injection e758)
                have HR758_1 := Aside0.mk hi758_1
                have HC758_1 := Aside0.mk hl758_1
                clear hi758_1 hl758_1
                replace p758 := eq_true p758
                replace q758 := eq_true q758
                have ea_ := Option.some.inj (hx757_1.symm.trans hx758_1)
                injection ea_ with ea_ en_ ec_
                subst ea_
                subst ec_
                clear en_
                go_wp2_with (first | ((with_reducible refine gate_callee (f := 70) rfl ?_); refine goesL_ (some 27) rfl rfl Try.func70 (by kernel_rfl) rfl #[.slice A757_1 ((rd_T79 l0 x5_1).f1).length c757_1, .int .i64 (wrap64 (x1_1 + 1))] rfl (by (try simp only [List.map_toArray, List.map_cons, List.map_nil]); first | done | rfl | (simp only [List.length_drop, List.length_take]; rfl)) ?_; (with_reducible refine (laws_heldIntS.calls k1 _ _ ((rd_T79 l0 x5_1).f1) (wrap64 (x1_1 + 1)) t759 _ ?side1 ?side2 A6.out).mono ?_); (case side1 => repeat (first | exact HR758_1.out | (with_reducible refine Kd.C_alloc ?_ _) | (with_reducible refine Kd.C_drewN ?_ _) | (with_reducible refine Kd.C_drew ?_))); (case side2 => exact HC758_1.out); rintro e w' ⟨rfl, ⟨nd, rfl⟩⟩; refine ⟨_, rfl, ?_⟩; have p760 : 0 ≤ (x5_1 : Int) := of_decide_eq_true (by first | (with_reducible assumption) | assumption); have q760 : x5_1 < (l0.length : Int) := of_decide_eq_true (by first | (with_reducible assumption) | assumption); obtain ⟨ad760, A760_1, c760_1, e760, hx760_0, hx760_1, hx760_2, hl760_1, hi760_1⟩ := at_T79 HR0.out x5_1 p760 q760; obtain rfl : ad757 = ad760 := (by injection e760); have HR760_1 := Aside0.mk hi760_1; have HC760_1 := Aside0.mk hl760_1; clear hi760_1 hl760_1; replace p760 := eq_true p760; replace q760 := eq_true q760; have ea_ := Option.some.inj (hx757_1.symm.trans hx760_1); injection ea_ with ea_ en_ ec_; subst ea_; subst ec_; clear en_))
                go_roundg k1
                case measure => have := HK1.out; omega
                case rel => exact ⟨(wrap64 (t759 + 1)), (wrap64 (x5_1 + 1)), (by first | rfl | (simp; done) | (simp [*]; done)), (by first | rfl | (simp; done) | (simp [*]; done)), H', ⟨by have := HK1.out; omega⟩, by repeat (first | exact Drawn0.refl _ | apply Drawn0.step)⟩
              · rw [if_neg c8] at H
                have c8b0 : (((rd_T79 l0 x5_1).f2) == t759) = false := beq_eq_false_iff_ne.mpr c8
                have c8b1 : (((rd_T79 l0 x5_1).f2) != t759) = true := bne_iff_ne.mpr c8
                obtain rfl := Option.some.inj H
                have p757 : 0 ≤ (x5_1 : Int) := of_decide_eq_true (by first | (with_reducible assumption) | assumption)
                have q757 : x5_1 < (l0.length : Int) := of_decide_eq_true (by first | (with_reducible assumption) | assumption)
                obtain ⟨ad757, A757_1, c757_1, e757, hx757_0, hx757_1, hx757_2, hl757_1, hi757_1⟩ := at_T79 HR0.out x5_1 p757 q757
                cases e757
                have HR757_1 := Aside0.mk hi757_1
                have HC757_1 := Aside0.mk hl757_1
                clear hi757_1 hl757_1
                replace p757 := eq_true p757
                replace q757 := eq_true q757
                have p758 : 0 ≤ (x5_1 : Int) := of_decide_eq_true (by first | (with_reducible assumption) | assumption)
                have q758 : x5_1 < (l0.length : Int) := of_decide_eq_true (by first | (with_reducible assumption) | assumption)
                obtain ⟨ad758, A758_1, c758_1, e758, hx758_0, hx758_1, hx758_2, hl758_1, hi758_1⟩ := at_T79 HR0.out x5_1 p758 q758
                obtain rfl : ad757 = ad758 := (by injection e758)
                have HR758_1 := Aside0.mk hi758_1
                have HC758_1 := Aside0.mk hl758_1
                clear hi758_1 hl758_1
                replace p758 := eq_true p758
                replace q758 := eq_true q758
                have ea_ := Option.some.inj (hx757_1.symm.trans hx758_1)
                injection ea_ with ea_ en_ ec_
                subst ea_
                subst ec_
                clear en_
                go_wp2_with (first | ((with_reducible refine gate_callee (f := 70) rfl ?_); refine goesL_ (some 27) rfl rfl Try.func70 (by kernel_rfl) rfl #[.slice A757_1 ((rd_T79 l0 x5_1).f1).length c757_1, .int .i64 (wrap64 (x1_1 + 1))] rfl (by (try simp only [List.map_toArray, List.map_cons, List.map_nil]); first | done | rfl | (simp only [List.length_drop, List.length_take]; rfl)) ?_; (with_reducible refine (laws_heldIntS.calls k1 _ _ ((rd_T79 l0 x5_1).f1) (wrap64 (x1_1 + 1)) t759 _ ?side1 ?side2 A6.out).mono ?_); (case side1 => repeat (first | exact HR758_1.out | (with_reducible refine Kd.C_alloc ?_ _) | (with_reducible refine Kd.C_drewN ?_ _) | (with_reducible refine Kd.C_drew ?_))); (case side2 => exact HC758_1.out); rintro e w' ⟨rfl, ⟨nd, rfl⟩⟩; refine ⟨_, rfl, ?_⟩; have p760 : 0 ≤ (x5_1 : Int) := of_decide_eq_true (by first | (with_reducible assumption) | assumption); have q760 : x5_1 < (l0.length : Int) := of_decide_eq_true (by first | (with_reducible assumption) | assumption); obtain ⟨ad760, A760_1, c760_1, e760, hx760_0, hx760_1, hx760_2, hl760_1, hi760_1⟩ := at_T79 HR0.out x5_1 p760 q760; obtain rfl : ad757 = ad760 := (by injection e760); have HR760_1 := Aside0.mk hi760_1; have HC760_1 := Aside0.mk hl760_1; clear hi760_1 hl760_1; replace p760 := eq_true p760; replace q760 := eq_true q760; have ea_ := Option.some.inj (hx757_1.symm.trans hx760_1); injection ea_ with ea_ en_ ec_; subst ea_; subst ec_; clear en_))
                go_ret
                exact ⟨by first | rfl | (simp; done) | (simp [*]; done), by repeat (first | exact Drawn0.refl _ | apply Drawn0.step)⟩
          · rw [if_neg c5] at H
            have c5b0 : (((rd_T79 l0 x5_1).f0) == x1_1) = false := beq_eq_false_iff_ne.mpr c5
            have c5b1 : (((rd_T79 l0 x5_1).f0) != x1_1) = true := bne_iff_ne.mpr c5
            obtain rfl := Option.some.inj H
            have p757 : 0 ≤ (x5_1 : Int) := of_decide_eq_true (by first | (with_reducible assumption) | assumption)
            have q757 : x5_1 < (l0.length : Int) := of_decide_eq_true (by first | (with_reducible assumption) | assumption)
            obtain ⟨ad757, A757_1, c757_1, e757, hx757_0, hx757_1, hx757_2, hl757_1, hi757_1⟩ := at_T79 HR0.out x5_1 p757 q757
            cases e757
            have HR757_1 := Aside0.mk hi757_1
            have HC757_1 := Aside0.mk hl757_1
            clear hi757_1 hl757_1
            replace p757 := eq_true p757
            replace q757 := eq_true q757
            go_wp2
            go_ret
            exact ⟨by first | rfl | (simp; done) | (simp [*]; done), by repeat (first | exact Drawn0.refl _ | apply Drawn0.step)⟩
        · rw [if_neg c4] at H
          exact absurd H (by simp)
      · rw [if_neg c3] at H
        have c3b0 : decide (x5_1 < (l0.length : Int)) = false := decide_eq_false c3
        clear c3
        obtain rfl := Option.some.inj H
        go_wp2
        go_ret
        exact ⟨by first | rfl | (simp; done) | (simp [*]; done), by repeat (first | exact Drawn0.refl _ | apply Drawn0.step)⟩
def laws_heldRuleS.l0 : Nat → List (S68) → Int → Int → Option (Int)
  | 0, _, _, _ => none
  | k + 1, x0, x1, x5 => if x5 < (x0.length : Int) then (if 0 ≤ x5 then ((laws_heldByteS.f k ((rd_T68 x0 x5).f0) x1).bind fun t762 => (if t762 < 0 then (some (-1)) else ((laws_heldOpS.f k ((rd_T68 x0 x5).f1) t762).bind fun t764 => (if t764 < 0 then (some (-1)) else (laws_heldRuleS.l0 k x0 t764 (wrap64 (x5 + 1))))))) else (none)) else (some x1)
def laws_heldRuleS.f (k : Nat) (l0 : List (S68)) (a1 : Int) : Option (Int) := laws_heldRuleS.l0 k l0 a1 0
theorem laws_heldRuleS.mono_l : ∀ k, (∀ y0 y1 y2, LeO (laws_heldRuleS.l0 k y0 y1 y2) (laws_heldRuleS.l0 (k + 1) y0 y1 y2))
  | 0 => fun _ _ _ r h => by simp [laws_heldRuleS.l0] at h
  | k + 1 => by
    have ih0 := laws_heldRuleS.mono_l k
    · intro y0 y1 y2
      unfold laws_heldRuleS.l0
      repeat' first
      | (with_reducible exact ih0 _ _ _)
      | (with_reducible exact laws_heldByteS.mono _ _ _)
      | (with_reducible exact laws_heldOpS.mono _ _ _)
      | (with_reducible exact LeO.refl _)
      | (with_reducible exact LeO.none _)
      | (with_reducible refine LeO.ite ?_ ?_)
      | (with_reducible refine LeO.bind ?_ (fun _ => ?_))
      | exact ih0 _ _ _
      | exact laws_heldByteS.mono _ _ _
      | exact laws_heldOpS.mono _ _ _
      | exact LeO.none _
      | refine LeO.ite ?_ ?_
      | refine LeO.bind ?_ (fun _ => ?_)
theorem laws_heldRuleS.mono : ∀ a0 a1 k, LeO (laws_heldRuleS.f k a0 a1) (laws_heldRuleS.f (k + 1) a0 a1) := by
  intro a0 a1 k
  have ih0 := laws_heldRuleS.mono_l k
  unfold laws_heldRuleS.f
  repeat' first
      | (with_reducible exact ih0 _ _ _)
      | (with_reducible exact laws_heldByteS.mono _ _ _)
      | (with_reducible exact laws_heldOpS.mono _ _ _)
      | (with_reducible exact LeO.refl _)
      | (with_reducible exact LeO.none _)
      | (with_reducible refine LeO.ite ?_ ?_)
      | (with_reducible refine LeO.bind ?_ (fun _ => ?_))
      | exact ih0 _ _ _
      | exact laws_heldByteS.mono _ _ _
      | exact laws_heldOpS.mono _ _ _
      | exact LeO.none _
      | refine LeO.ite ?_ ?_
      | refine LeO.bind ?_ (fun _ => ?_)
set_option maxHeartbeats 8000000 in
set_option maxRecDepth 100000 in
theorem laws_heldRuleS.calls (k : Nat) (A0 : Option Addr) (c0 : Nat) (l0 : List (S68)) (a1 : Int) (r : Int) (w : World) (hr0 : Kd.C k68 w A0 l0.length l0) (hc0 : l0.length ≤ c0) (h : laws_heldRuleS.f k l0 a1 = some r) :
    Calls Try.prog 77 #[.slice A0 l0.length c0, .int .i64 a1] w fun e w' => e = .returned (.int .i64 r) ∧ Drawn0 w w' := by
  have HR0 := Aside0.mk hr0
  have HC0 := Aside0.mk hc0
  clear hr0 hc0
  have H : (laws_heldRuleS.l0 k l0 a1 0) = some r := h
  clear h
  have H' := Aside0.mk H
  clear H
  go_enter Try.func77, Try.ntmps77
  go_wp2
  go_loopg [1, 5] k (fun kq v1 v5 w' => ∃ (x1_1 : Int) (x5_1 : Int), v1 = .int .i64 x1_1 ∧ v5 = .int .i64 x5_1 ∧ Aside0 (laws_heldRuleS.l0 kq l0 x1_1 x5_1 = some r) ∧ Aside0 (kq ≤ k) ∧ Drawn0 w w')
  case atStart => exact ⟨(a1), (0), (by first | rfl | (simp; done) | (simp [*]; done)), (by first | rfl | (simp; done) | (simp [*]; done)), H', ⟨Nat.le_refl _⟩, by repeat (first | exact Drawn0.refl _ | apply Drawn0.step)⟩
  case round =>
    clear H'
    try clear p2
    obtain ⟨x1_1, x5_1, rfl, rfl, HA, HK1, ⟨m1, rfl⟩⟩ := hrel
    cases gk with
    | zero => exact absurd HA.out (by simp [laws_heldRuleS.l0])
    | succ k1 =>
      have H := HA.out
      clear HA
      simp only [laws_heldRuleS.l0] at H
      by_cases c3 : x5_1 < (l0.length : Int)
      · rw [if_pos c3] at H
        have c3b0 : decide (x5_1 < (l0.length : Int)) = true := decide_eq_true c3
        clear c3
        by_cases c4 : 0 ≤ x5_1
        · rw [if_pos c4] at H
          have c4b0 : decide (0 ≤ x5_1) = true := decide_eq_true c4
          clear c4
          replace H := Option.bind_eq_some_iff.mp H
          obtain ⟨t762, A50, H⟩ := H
          replace H : (if t762 < 0 then (some (-1)) else ((laws_heldOpS.f k1 ((rd_T68 l0 x5_1).f1) t762).bind fun t764 => (if t764 < 0 then (some (-1)) else (laws_heldRuleS.l0 k1 l0 t764 (wrap64 (x5_1 + 1)))))) = some r := H
          have A5 := Aside0.mk A50
          clear A50
          by_cases c6 : t762 < 0
          · rw [if_pos c6] at H
            have c6b0 : decide (t762 < 0) = true := decide_eq_true c6
            clear c6
            obtain rfl := Option.some.inj H
            have p761 : 0 ≤ (x5_1 : Int) := of_decide_eq_true (by first | (with_reducible assumption) | assumption)
            have q761 : x5_1 < (l0.length : Int) := of_decide_eq_true (by first | (with_reducible assumption) | assumption)
            obtain ⟨ad761, A761_0, c761_0, A761_1, c761_1, e761, hx761_0, hx761_1, hl761_0, hi761_0, hl761_1, hi761_1⟩ := at_T68 HR0.out x5_1 p761 q761
            cases e761
            have HR761_0 := Aside0.mk hi761_0
            have HC761_0 := Aside0.mk hl761_0
            clear hi761_0 hl761_0
            have HR761_1 := Aside0.mk hi761_1
            have HC761_1 := Aside0.mk hl761_1
            clear hi761_1 hl761_1
            replace p761 := eq_true p761
            replace q761 := eq_true q761
            go_wp2_with (first | ((with_reducible refine gate_callee (f := 40) rfl ?_); refine goesL_ (some 18) rfl rfl Try.func40 (by kernel_rfl) rfl #[.slice A761_0 ((rd_T68 l0 x5_1).f0).length c761_0, .int .i64 x1_1] rfl (by (try simp only [List.map_toArray, List.map_cons, List.map_nil]); first | done | rfl | (simp only [List.length_drop, List.length_take]; rfl)) ?_; (with_reducible refine (laws_heldByteS.calls k1 _ _ ((rd_T68 l0 x5_1).f0) x1_1 t762 _ ?side1 ?side2 A5.out).mono ?_); (case side1 => repeat (first | exact HR761_0.out | (with_reducible refine Kd.C_alloc ?_ _) | (with_reducible refine Kd.C_drewN ?_ _) | (with_reducible refine Kd.C_drew ?_))); (case side2 => exact HC761_0.out); rintro e w' ⟨rfl, ⟨nd, rfl⟩⟩; refine ⟨_, rfl, ?_⟩))
            go_ret
            exact ⟨by first | rfl | (simp; done) | (simp [*]; done), by repeat (first | exact Drawn0.refl _ | apply Drawn0.step)⟩
          · rw [if_neg c6] at H
            have c6b0 : decide (t762 < 0) = false := decide_eq_false c6
            clear c6
            replace H := Option.bind_eq_some_iff.mp H
            obtain ⟨t764, A70, H⟩ := H
            replace H : (if t764 < 0 then (some (-1)) else (laws_heldRuleS.l0 k1 l0 t764 (wrap64 (x5_1 + 1)))) = some r := H
            have A7 := Aside0.mk A70
            clear A70
            by_cases c8 : t764 < 0
            · rw [if_pos c8] at H
              have c8b0 : decide (t764 < 0) = true := decide_eq_true c8
              clear c8
              obtain rfl := Option.some.inj H
              have p761 : 0 ≤ (x5_1 : Int) := of_decide_eq_true (by first | (with_reducible assumption) | assumption)
              have q761 : x5_1 < (l0.length : Int) := of_decide_eq_true (by first | (with_reducible assumption) | assumption)
              obtain ⟨ad761, A761_0, c761_0, A761_1, c761_1, e761, hx761_0, hx761_1, hl761_0, hi761_0, hl761_1, hi761_1⟩ := at_T68 HR0.out x5_1 p761 q761
              cases e761
              have HR761_0 := Aside0.mk hi761_0
              have HC761_0 := Aside0.mk hl761_0
              clear hi761_0 hl761_0
              have HR761_1 := Aside0.mk hi761_1
              have HC761_1 := Aside0.mk hl761_1
              clear hi761_1 hl761_1
              replace p761 := eq_true p761
              replace q761 := eq_true q761
              go_wp2_with (first | ((with_reducible refine gate_callee (f := 40) rfl ?_); refine goesL_ (some 18) rfl rfl Try.func40 (by kernel_rfl) rfl #[.slice A761_0 ((rd_T68 l0 x5_1).f0).length c761_0, .int .i64 x1_1] rfl (by (try simp only [List.map_toArray, List.map_cons, List.map_nil]); first | done | rfl | (simp only [List.length_drop, List.length_take]; rfl)) ?_; (with_reducible refine (laws_heldByteS.calls k1 _ _ ((rd_T68 l0 x5_1).f0) x1_1 t762 _ ?side1 ?side2 A5.out).mono ?_); (case side1 => repeat (first | exact HR761_0.out | (with_reducible refine Kd.C_alloc ?_ _) | (with_reducible refine Kd.C_drewN ?_ _) | (with_reducible refine Kd.C_drew ?_))); (case side2 => exact HC761_0.out); rintro e w' ⟨rfl, ⟨nd, rfl⟩⟩; refine ⟨_, rfl, ?_⟩; have p763 : 0 ≤ (x5_1 : Int) := of_decide_eq_true (by first | (with_reducible assumption) | assumption); have q763 : x5_1 < (l0.length : Int) := of_decide_eq_true (by first | (with_reducible assumption) | assumption); obtain ⟨ad763, A763_0, c763_0, A763_1, c763_1, e763, hx763_0, hx763_1, hl763_0, hi763_0, hl763_1, hi763_1⟩ := at_T68 HR0.out x5_1 p763 q763; obtain rfl : ad761 = ad763 := (by injection e763); have HR763_0 := Aside0.mk hi763_0; have HC763_0 := Aside0.mk hl763_0; clear hi763_0 hl763_0; have HR763_1 := Aside0.mk hi763_1; have HC763_1 := Aside0.mk hl763_1; clear hi763_1 hl763_1; replace p763 := eq_true p763; replace q763 := eq_true q763; have ea_ := Option.some.inj (hx761_0.symm.trans hx763_0); injection ea_ with ea_ en_ ec_; subst ea_; subst ec_; clear en_; have ea_ := Option.some.inj (hx761_1.symm.trans hx763_1); injection ea_ with ea_ en_ ec_; subst ea_; subst ec_; clear en_) | ((with_reducible refine gate_callee (f := 122) rfl ?_); refine goesL_ (some 27) rfl rfl Try.func122 (by kernel_rfl) rfl #[.slice A761_1 ((rd_T68 l0 x5_1).f1).length c761_1, .int .i64 t762] rfl (by (try simp only [List.map_toArray, List.map_cons, List.map_nil]); first | done | rfl | (simp only [List.length_drop, List.length_take]; rfl)) ?_; (with_reducible refine (laws_heldOpS.calls k1 _ _ ((rd_T68 l0 x5_1).f1) t762 t764 _ ?side1 ?side2 A7.out).mono ?_); (case side1 => repeat (first | exact HR763_1.out | (with_reducible refine Kd.C_alloc ?_ _) | (with_reducible refine Kd.C_drewN ?_ _) | (with_reducible refine Kd.C_drew ?_))); (case side2 => exact HC763_1.out); rintro e w' ⟨rfl, ⟨nd, rfl⟩⟩; refine ⟨_, rfl, ?_⟩))
              go_ret
              exact ⟨by first | rfl | (simp; done) | (simp [*]; done), by repeat (first | exact Drawn0.refl _ | apply Drawn0.step)⟩
            · rw [if_neg c8] at H
              have c8b0 : decide (t764 < 0) = false := decide_eq_false c8
              clear c8
              have H' := Aside0.mk H
              clear H
              have p761 : 0 ≤ (x5_1 : Int) := of_decide_eq_true (by first | (with_reducible assumption) | assumption)
              have q761 : x5_1 < (l0.length : Int) := of_decide_eq_true (by first | (with_reducible assumption) | assumption)
              obtain ⟨ad761, A761_0, c761_0, A761_1, c761_1, e761, hx761_0, hx761_1, hl761_0, hi761_0, hl761_1, hi761_1⟩ := at_T68 HR0.out x5_1 p761 q761
              cases e761
              have HR761_0 := Aside0.mk hi761_0
              have HC761_0 := Aside0.mk hl761_0
              clear hi761_0 hl761_0
              have HR761_1 := Aside0.mk hi761_1
              have HC761_1 := Aside0.mk hl761_1
              clear hi761_1 hl761_1
              replace p761 := eq_true p761
              replace q761 := eq_true q761
              go_wp2_with (first | ((with_reducible refine gate_callee (f := 40) rfl ?_); refine goesL_ (some 18) rfl rfl Try.func40 (by kernel_rfl) rfl #[.slice A761_0 ((rd_T68 l0 x5_1).f0).length c761_0, .int .i64 x1_1] rfl (by (try simp only [List.map_toArray, List.map_cons, List.map_nil]); first | done | rfl | (simp only [List.length_drop, List.length_take]; rfl)) ?_; (with_reducible refine (laws_heldByteS.calls k1 _ _ ((rd_T68 l0 x5_1).f0) x1_1 t762 _ ?side1 ?side2 A5.out).mono ?_); (case side1 => repeat (first | exact HR761_0.out | (with_reducible refine Kd.C_alloc ?_ _) | (with_reducible refine Kd.C_drewN ?_ _) | (with_reducible refine Kd.C_drew ?_))); (case side2 => exact HC761_0.out); rintro e w' ⟨rfl, ⟨nd, rfl⟩⟩; refine ⟨_, rfl, ?_⟩; have p763 : 0 ≤ (x5_1 : Int) := of_decide_eq_true (by first | (with_reducible assumption) | assumption); have q763 : x5_1 < (l0.length : Int) := of_decide_eq_true (by first | (with_reducible assumption) | assumption); obtain ⟨ad763, A763_0, c763_0, A763_1, c763_1, e763, hx763_0, hx763_1, hl763_0, hi763_0, hl763_1, hi763_1⟩ := at_T68 HR0.out x5_1 p763 q763; obtain rfl : ad761 = ad763 := (by injection e763); have HR763_0 := Aside0.mk hi763_0; have HC763_0 := Aside0.mk hl763_0; clear hi763_0 hl763_0; have HR763_1 := Aside0.mk hi763_1; have HC763_1 := Aside0.mk hl763_1; clear hi763_1 hl763_1; replace p763 := eq_true p763; replace q763 := eq_true q763; have ea_ := Option.some.inj (hx761_0.symm.trans hx763_0); injection ea_ with ea_ en_ ec_; subst ea_; subst ec_; clear en_; have ea_ := Option.some.inj (hx761_1.symm.trans hx763_1); injection ea_ with ea_ en_ ec_; subst ea_; subst ec_; clear en_) | ((with_reducible refine gate_callee (f := 122) rfl ?_); refine goesL_ (some 27) rfl rfl Try.func122 (by kernel_rfl) rfl #[.slice A761_1 ((rd_T68 l0 x5_1).f1).length c761_1, .int .i64 t762] rfl (by (try simp only [List.map_toArray, List.map_cons, List.map_nil]); first | done | rfl | (simp only [List.length_drop, List.length_take]; rfl)) ?_; (with_reducible refine (laws_heldOpS.calls k1 _ _ ((rd_T68 l0 x5_1).f1) t762 t764 _ ?side1 ?side2 A7.out).mono ?_); (case side1 => repeat (first | exact HR763_1.out | (with_reducible refine Kd.C_alloc ?_ _) | (with_reducible refine Kd.C_drewN ?_ _) | (with_reducible refine Kd.C_drew ?_))); (case side2 => exact HC763_1.out); rintro e w' ⟨rfl, ⟨nd, rfl⟩⟩; refine ⟨_, rfl, ?_⟩))
              go_roundg k1
              case measure => have := HK1.out; omega
              case rel => exact ⟨(t764), (wrap64 (x5_1 + 1)), (by first | rfl | (simp; done) | (simp [*]; done)), (by first | rfl | (simp; done) | (simp [*]; done)), H', ⟨by have := HK1.out; omega⟩, by repeat (first | exact Drawn0.refl _ | apply Drawn0.step)⟩
        · rw [if_neg c4] at H
          exact absurd H (by simp)
      · rw [if_neg c3] at H
        have c3b0 : decide (x5_1 < (l0.length : Int)) = false := decide_eq_false c3
        clear c3
        obtain rfl := Option.some.inj H
        go_wp2
        go_ret
        exact ⟨by first | rfl | (simp; done) | (simp [*]; done), by repeat (first | exact Drawn0.refl _ | apply Drawn0.step)⟩
def laws_heldLabelS.l0 : Nat → List (S72) → Int → Int → Option (Int)
  | 0, _, _, _ => none
  | k + 1, x0, x1, x5 => if x5 < (x0.length : Int) then (if 0 ≤ x5 then ((laws_heldByteS.f k ((rd_T72 x0 x5).f0) x1).bind fun t766 => (if t766 < 0 then (some (-1)) else (if (((rd_T72 x0 x5).f1) != ((Int.tmod t766 3) == 0)) = true then (some (-1)) else ((laws_heldOpS.f k ((rd_T72 x0 x5).f2) (wrap64 (t766 + 1))).bind fun t769 => (if t769 < 0 then (some (-1)) else (laws_heldLabelS.l0 k x0 t769 (wrap64 (x5 + 1)))))))) else (none)) else (some x1)
def laws_heldLabelS.f (k : Nat) (l0 : List (S72)) (a1 : Int) : Option (Int) := laws_heldLabelS.l0 k l0 a1 0
theorem laws_heldLabelS.mono_l : ∀ k, (∀ y0 y1 y2, LeO (laws_heldLabelS.l0 k y0 y1 y2) (laws_heldLabelS.l0 (k + 1) y0 y1 y2))
  | 0 => fun _ _ _ r h => by simp [laws_heldLabelS.l0] at h
  | k + 1 => by
    have ih0 := laws_heldLabelS.mono_l k
    · intro y0 y1 y2
      unfold laws_heldLabelS.l0
      repeat' first
      | (with_reducible exact ih0 _ _ _)
      | (with_reducible exact laws_heldByteS.mono _ _ _)
      | (with_reducible exact laws_heldOpS.mono _ _ _)
      | (with_reducible exact LeO.refl _)
      | (with_reducible exact LeO.none _)
      | (with_reducible refine LeO.ite ?_ ?_)
      | (with_reducible refine LeO.bind ?_ (fun _ => ?_))
      | exact ih0 _ _ _
      | exact laws_heldByteS.mono _ _ _
      | exact laws_heldOpS.mono _ _ _
      | exact LeO.none _
      | refine LeO.ite ?_ ?_
      | refine LeO.bind ?_ (fun _ => ?_)
theorem laws_heldLabelS.mono : ∀ a0 a1 k, LeO (laws_heldLabelS.f k a0 a1) (laws_heldLabelS.f (k + 1) a0 a1) := by
  intro a0 a1 k
  have ih0 := laws_heldLabelS.mono_l k
  unfold laws_heldLabelS.f
  repeat' first
      | (with_reducible exact ih0 _ _ _)
      | (with_reducible exact laws_heldByteS.mono _ _ _)
      | (with_reducible exact laws_heldOpS.mono _ _ _)
      | (with_reducible exact LeO.refl _)
      | (with_reducible exact LeO.none _)
      | (with_reducible refine LeO.ite ?_ ?_)
      | (with_reducible refine LeO.bind ?_ (fun _ => ?_))
      | exact ih0 _ _ _
      | exact laws_heldByteS.mono _ _ _
      | exact laws_heldOpS.mono _ _ _
      | exact LeO.none _
      | refine LeO.ite ?_ ?_
      | refine LeO.bind ?_ (fun _ => ?_)
set_option maxHeartbeats 8000000 in
set_option maxRecDepth 100000 in
theorem laws_heldLabelS.calls (k : Nat) (A0 : Option Addr) (c0 : Nat) (l0 : List (S72)) (a1 : Int) (r : Int) (w : World) (hr0 : Kd.C k72 w A0 l0.length l0) (hc0 : l0.length ≤ c0) (h : laws_heldLabelS.f k l0 a1 = some r) :
    Calls Try.prog 78 #[.slice A0 l0.length c0, .int .i64 a1] w fun e w' => e = .returned (.int .i64 r) ∧ Drawn0 w w' := by
  have HR0 := Aside0.mk hr0
  have HC0 := Aside0.mk hc0
  clear hr0 hc0
  have H : (laws_heldLabelS.l0 k l0 a1 0) = some r := h
  clear h
  have H' := Aside0.mk H
  clear H
  go_enter Try.func78, Try.ntmps78
  go_wp2
  go_loopg [1, 5] k (fun kq v1 v5 w' => ∃ (x1_1 : Int) (x5_1 : Int), v1 = .int .i64 x1_1 ∧ v5 = .int .i64 x5_1 ∧ Aside0 (laws_heldLabelS.l0 kq l0 x1_1 x5_1 = some r) ∧ Aside0 (kq ≤ k) ∧ Drawn0 w w')
  case atStart => exact ⟨(a1), (0), (by first | rfl | (simp; done) | (simp [*]; done)), (by first | rfl | (simp; done) | (simp [*]; done)), H', ⟨Nat.le_refl _⟩, by repeat (first | exact Drawn0.refl _ | apply Drawn0.step)⟩
  case round =>
    clear H'
    try clear p2
    obtain ⟨x1_1, x5_1, rfl, rfl, HA, HK1, ⟨m1, rfl⟩⟩ := hrel
    cases gk with
    | zero => exact absurd HA.out (by simp [laws_heldLabelS.l0])
    | succ k1 =>
      have H := HA.out
      clear HA
      simp only [laws_heldLabelS.l0] at H
      by_cases c3 : x5_1 < (l0.length : Int)
      · rw [if_pos c3] at H
        have c3b0 : decide (x5_1 < (l0.length : Int)) = true := decide_eq_true c3
        clear c3
        by_cases c4 : 0 ≤ x5_1
        · rw [if_pos c4] at H
          have c4b0 : decide (0 ≤ x5_1) = true := decide_eq_true c4
          clear c4
          replace H := Option.bind_eq_some_iff.mp H
          obtain ⟨t766, A50, H⟩ := H
          replace H : (if t766 < 0 then (some (-1)) else (if (((rd_T72 l0 x5_1).f1) != ((Int.tmod t766 3) == 0)) = true then (some (-1)) else ((laws_heldOpS.f k1 ((rd_T72 l0 x5_1).f2) (wrap64 (t766 + 1))).bind fun t769 => (if t769 < 0 then (some (-1)) else (laws_heldLabelS.l0 k1 l0 t769 (wrap64 (x5_1 + 1))))))) = some r := H
          have A5 := Aside0.mk A50
          clear A50
          by_cases c6 : t766 < 0
          · rw [if_pos c6] at H
            have c6b0 : decide (t766 < 0) = true := decide_eq_true c6
            clear c6
            obtain rfl := Option.some.inj H
            have p765 : 0 ≤ (x5_1 : Int) := of_decide_eq_true (by first | (with_reducible assumption) | assumption)
            have q765 : x5_1 < (l0.length : Int) := of_decide_eq_true (by first | (with_reducible assumption) | assumption)
            obtain ⟨ad765, A765_0, c765_0, A765_2, c765_2, e765, hx765_0, hx765_1, hx765_2, hl765_0, hi765_0, hl765_2, hi765_2⟩ := at_T72 HR0.out x5_1 p765 q765
            cases e765
            have HR765_0 := Aside0.mk hi765_0
            have HC765_0 := Aside0.mk hl765_0
            clear hi765_0 hl765_0
            have HR765_2 := Aside0.mk hi765_2
            have HC765_2 := Aside0.mk hl765_2
            clear hi765_2 hl765_2
            replace p765 := eq_true p765
            replace q765 := eq_true q765
            go_wp2_with (first | ((with_reducible refine gate_callee (f := 40) rfl ?_); refine goesL_ (some 18) rfl rfl Try.func40 (by kernel_rfl) rfl #[.slice A765_0 ((rd_T72 l0 x5_1).f0).length c765_0, .int .i64 x1_1] rfl (by (try simp only [List.map_toArray, List.map_cons, List.map_nil]); first | done | rfl | (simp only [List.length_drop, List.length_take]; rfl)) ?_; (with_reducible refine (laws_heldByteS.calls k1 _ _ ((rd_T72 l0 x5_1).f0) x1_1 t766 _ ?side1 ?side2 A5.out).mono ?_); (case side1 => repeat (first | exact HR765_0.out | (with_reducible refine Kd.C_alloc ?_ _) | (with_reducible refine Kd.C_drewN ?_ _) | (with_reducible refine Kd.C_drew ?_))); (case side2 => exact HC765_0.out); rintro e w' ⟨rfl, ⟨nd, rfl⟩⟩; refine ⟨_, rfl, ?_⟩))
            go_ret
            exact ⟨by first | rfl | (simp; done) | (simp [*]; done), by repeat (first | exact Drawn0.refl _ | apply Drawn0.step)⟩
          · rw [if_neg c6] at H
            have c6b0 : decide (t766 < 0) = false := decide_eq_false c6
            clear c6
            by_cases c7 : (((rd_T72 l0 x5_1).f1) != ((Int.tmod t766 3) == 0)) = true
            · rw [if_pos c7] at H
              have c7b0 : (((rd_T72 l0 x5_1).f1) != ((Int.tmod t766 3) == 0)) = true := c7
              (try (have c7b1 : decide (((rd_T72 l0 x5_1).f1) = ((Int.tmod t766 3) == 0)) = false := by simpa using c7))
              (try (have c7b2 : (((rd_T72 l0 x5_1).f1) == ((Int.tmod t766 3) == 0)) = false := by simpa using c7))
              (try (have c7b3 : ¬ (((rd_T72 l0 x5_1).f1) = ((Int.tmod t766 3) == 0)) := by simpa using c7))
              clear c7
              obtain rfl := Option.some.inj H
              have p765 : 0 ≤ (x5_1 : Int) := of_decide_eq_true (by first | (with_reducible assumption) | assumption)
              have q765 : x5_1 < (l0.length : Int) := of_decide_eq_true (by first | (with_reducible assumption) | assumption)
              obtain ⟨ad765, A765_0, c765_0, A765_2, c765_2, e765, hx765_0, hx765_1, hx765_2, hl765_0, hi765_0, hl765_2, hi765_2⟩ := at_T72 HR0.out x5_1 p765 q765
              cases e765
              have HR765_0 := Aside0.mk hi765_0
              have HC765_0 := Aside0.mk hl765_0
              clear hi765_0 hl765_0
              have HR765_2 := Aside0.mk hi765_2
              have HC765_2 := Aside0.mk hl765_2
              clear hi765_2 hl765_2
              replace p765 := eq_true p765
              replace q765 := eq_true q765
              go_wp2_with (first | ((with_reducible refine gate_callee (f := 40) rfl ?_); refine goesL_ (some 18) rfl rfl Try.func40 (by kernel_rfl) rfl #[.slice A765_0 ((rd_T72 l0 x5_1).f0).length c765_0, .int .i64 x1_1] rfl (by (try simp only [List.map_toArray, List.map_cons, List.map_nil]); first | done | rfl | (simp only [List.length_drop, List.length_take]; rfl)) ?_; (with_reducible refine (laws_heldByteS.calls k1 _ _ ((rd_T72 l0 x5_1).f0) x1_1 t766 _ ?side1 ?side2 A5.out).mono ?_); (case side1 => repeat (first | exact HR765_0.out | (with_reducible refine Kd.C_alloc ?_ _) | (with_reducible refine Kd.C_drewN ?_ _) | (with_reducible refine Kd.C_drew ?_))); (case side2 => exact HC765_0.out); rintro e w' ⟨rfl, ⟨nd, rfl⟩⟩; refine ⟨_, rfl, ?_⟩; have p767 : 0 ≤ (x5_1 : Int) := of_decide_eq_true (by first | (with_reducible assumption) | assumption); have q767 : x5_1 < (l0.length : Int) := of_decide_eq_true (by first | (with_reducible assumption) | assumption); obtain ⟨ad767, A767_0, c767_0, A767_2, c767_2, e767, hx767_0, hx767_1, hx767_2, hl767_0, hi767_0, hl767_2, hi767_2⟩ := at_T72 HR0.out x5_1 p767 q767; obtain rfl : ad765 = ad767 := (by injection e767); have HR767_0 := Aside0.mk hi767_0; have HC767_0 := Aside0.mk hl767_0; clear hi767_0 hl767_0; have HR767_2 := Aside0.mk hi767_2; have HC767_2 := Aside0.mk hl767_2; clear hi767_2 hl767_2; replace p767 := eq_true p767; replace q767 := eq_true q767; have ea_ := Option.some.inj (hx765_0.symm.trans hx767_0); injection ea_ with ea_ en_ ec_; subst ea_; subst ec_; clear en_; have ea_ := Option.some.inj (hx765_2.symm.trans hx767_2); injection ea_ with ea_ en_ ec_; subst ea_; subst ec_; clear en_))
              go_ret
              exact ⟨by first | rfl | (simp; done) | (simp [*]; done), by repeat (first | exact Drawn0.refl _ | apply Drawn0.step)⟩
            · rw [if_neg c7] at H
              have c7b0 : (((rd_T72 l0 x5_1).f1) != ((Int.tmod t766 3) == 0)) = false := by simpa using c7
              (try (have c7b1 : decide (((rd_T72 l0 x5_1).f1) = ((Int.tmod t766 3) == 0)) = true := by simpa using c7))
              (try (have c7b2 : (((rd_T72 l0 x5_1).f1) == ((Int.tmod t766 3) == 0)) = true := by simpa using c7))
              clear c7
              replace H := Option.bind_eq_some_iff.mp H
              obtain ⟨t769, A80, H⟩ := H
              replace H : (if t769 < 0 then (some (-1)) else (laws_heldLabelS.l0 k1 l0 t769 (wrap64 (x5_1 + 1)))) = some r := H
              have A8 := Aside0.mk A80
              clear A80
              by_cases c9 : t769 < 0
              · rw [if_pos c9] at H
                have c9b0 : decide (t769 < 0) = true := decide_eq_true c9
                clear c9
                obtain rfl := Option.some.inj H
                have p765 : 0 ≤ (x5_1 : Int) := of_decide_eq_true (by first | (with_reducible assumption) | assumption)
                have q765 : x5_1 < (l0.length : Int) := of_decide_eq_true (by first | (with_reducible assumption) | assumption)
                obtain ⟨ad765, A765_0, c765_0, A765_2, c765_2, e765, hx765_0, hx765_1, hx765_2, hl765_0, hi765_0, hl765_2, hi765_2⟩ := at_T72 HR0.out x5_1 p765 q765
                cases e765
                have HR765_0 := Aside0.mk hi765_0
                have HC765_0 := Aside0.mk hl765_0
                clear hi765_0 hl765_0
                have HR765_2 := Aside0.mk hi765_2
                have HC765_2 := Aside0.mk hl765_2
                clear hi765_2 hl765_2
                replace p765 := eq_true p765
                replace q765 := eq_true q765
                go_wp2_with (first | ((with_reducible refine gate_callee (f := 40) rfl ?_); refine goesL_ (some 18) rfl rfl Try.func40 (by kernel_rfl) rfl #[.slice A765_0 ((rd_T72 l0 x5_1).f0).length c765_0, .int .i64 x1_1] rfl (by (try simp only [List.map_toArray, List.map_cons, List.map_nil]); first | done | rfl | (simp only [List.length_drop, List.length_take]; rfl)) ?_; (with_reducible refine (laws_heldByteS.calls k1 _ _ ((rd_T72 l0 x5_1).f0) x1_1 t766 _ ?side1 ?side2 A5.out).mono ?_); (case side1 => repeat (first | exact HR765_0.out | (with_reducible refine Kd.C_alloc ?_ _) | (with_reducible refine Kd.C_drewN ?_ _) | (with_reducible refine Kd.C_drew ?_))); (case side2 => exact HC765_0.out); rintro e w' ⟨rfl, ⟨nd, rfl⟩⟩; refine ⟨_, rfl, ?_⟩; have p767 : 0 ≤ (x5_1 : Int) := of_decide_eq_true (by first | (with_reducible assumption) | assumption); have q767 : x5_1 < (l0.length : Int) := of_decide_eq_true (by first | (with_reducible assumption) | assumption); obtain ⟨ad767, A767_0, c767_0, A767_2, c767_2, e767, hx767_0, hx767_1, hx767_2, hl767_0, hi767_0, hl767_2, hi767_2⟩ := at_T72 HR0.out x5_1 p767 q767; obtain rfl : ad765 = ad767 := (by injection e767); have HR767_0 := Aside0.mk hi767_0; have HC767_0 := Aside0.mk hl767_0; clear hi767_0 hl767_0; have HR767_2 := Aside0.mk hi767_2; have HC767_2 := Aside0.mk hl767_2; clear hi767_2 hl767_2; replace p767 := eq_true p767; replace q767 := eq_true q767; have ea_ := Option.some.inj (hx765_0.symm.trans hx767_0); injection ea_ with ea_ en_ ec_; subst ea_; subst ec_; clear en_; have ea_ := Option.some.inj (hx765_2.symm.trans hx767_2); injection ea_ with ea_ en_ ec_; subst ea_; subst ec_; clear en_; have p768 : 0 ≤ (x5_1 : Int) := of_decide_eq_true (by first | (with_reducible assumption) | assumption); have q768 : x5_1 < (l0.length : Int) := of_decide_eq_true (by first | (with_reducible assumption) | assumption); obtain ⟨ad768, A768_0, c768_0, A768_2, c768_2, e768, hx768_0, hx768_1, hx768_2, hl768_0, hi768_0, hl768_2, hi768_2⟩ := at_T72 HR0.out x5_1 p768 q768; obtain rfl : ad765 = ad768 := (by injection e768); have HR768_0 := Aside0.mk hi768_0; have HC768_0 := Aside0.mk hl768_0; clear hi768_0 hl768_0; have HR768_2 := Aside0.mk hi768_2; have HC768_2 := Aside0.mk hl768_2; clear hi768_2 hl768_2; replace p768 := eq_true p768; replace q768 := eq_true q768; have ea_ := Option.some.inj (hx765_0.symm.trans hx768_0); injection ea_ with ea_ en_ ec_; subst ea_; subst ec_; clear en_; have ea_ := Option.some.inj (hx765_2.symm.trans hx768_2); injection ea_ with ea_ en_ ec_; subst ea_; subst ec_; clear en_) | ((with_reducible refine gate_callee (f := 122) rfl ?_); refine goesL_ (some 38) rfl rfl Try.func122 (by kernel_rfl) rfl #[.slice A765_2 ((rd_T72 l0 x5_1).f2).length c765_2, .int .i64 (wrap64 (t766 + 1))] rfl (by (try simp only [List.map_toArray, List.map_cons, List.map_nil]); first | done | rfl | (simp only [List.length_drop, List.length_take]; rfl)) ?_; (with_reducible refine (laws_heldOpS.calls k1 _ _ ((rd_T72 l0 x5_1).f2) (wrap64 (t766 + 1)) t769 _ ?side1 ?side2 A8.out).mono ?_); (case side1 => repeat (first | exact HR768_2.out | (with_reducible refine Kd.C_alloc ?_ _) | (with_reducible refine Kd.C_drewN ?_ _) | (with_reducible refine Kd.C_drew ?_))); (case side2 => exact HC768_2.out); rintro e w' ⟨rfl, ⟨nd, rfl⟩⟩; refine ⟨_, rfl, ?_⟩))
                go_ret
                exact ⟨by first | rfl | (simp; done) | (simp [*]; done), by repeat (first | exact Drawn0.refl _ | apply Drawn0.step)⟩
              · rw [if_neg c9] at H
                have c9b0 : decide (t769 < 0) = false := decide_eq_false c9
                clear c9
                have H' := Aside0.mk H
                clear H
                have p765 : 0 ≤ (x5_1 : Int) := of_decide_eq_true (by first | (with_reducible assumption) | assumption)
                have q765 : x5_1 < (l0.length : Int) := of_decide_eq_true (by first | (with_reducible assumption) | assumption)
                obtain ⟨ad765, A765_0, c765_0, A765_2, c765_2, e765, hx765_0, hx765_1, hx765_2, hl765_0, hi765_0, hl765_2, hi765_2⟩ := at_T72 HR0.out x5_1 p765 q765
                cases e765
                have HR765_0 := Aside0.mk hi765_0
                have HC765_0 := Aside0.mk hl765_0
                clear hi765_0 hl765_0
                have HR765_2 := Aside0.mk hi765_2
                have HC765_2 := Aside0.mk hl765_2
                clear hi765_2 hl765_2
                replace p765 := eq_true p765
                replace q765 := eq_true q765
                go_wp2_with (first | ((with_reducible refine gate_callee (f := 40) rfl ?_); refine goesL_ (some 18) rfl rfl Try.func40 (by kernel_rfl) rfl #[.slice A765_0 ((rd_T72 l0 x5_1).f0).length c765_0, .int .i64 x1_1] rfl (by (try simp only [List.map_toArray, List.map_cons, List.map_nil]); first | done | rfl | (simp only [List.length_drop, List.length_take]; rfl)) ?_; (with_reducible refine (laws_heldByteS.calls k1 _ _ ((rd_T72 l0 x5_1).f0) x1_1 t766 _ ?side1 ?side2 A5.out).mono ?_); (case side1 => repeat (first | exact HR765_0.out | (with_reducible refine Kd.C_alloc ?_ _) | (with_reducible refine Kd.C_drewN ?_ _) | (with_reducible refine Kd.C_drew ?_))); (case side2 => exact HC765_0.out); rintro e w' ⟨rfl, ⟨nd, rfl⟩⟩; refine ⟨_, rfl, ?_⟩; have p767 : 0 ≤ (x5_1 : Int) := of_decide_eq_true (by first | (with_reducible assumption) | assumption); have q767 : x5_1 < (l0.length : Int) := of_decide_eq_true (by first | (with_reducible assumption) | assumption); obtain ⟨ad767, A767_0, c767_0, A767_2, c767_2, e767, hx767_0, hx767_1, hx767_2, hl767_0, hi767_0, hl767_2, hi767_2⟩ := at_T72 HR0.out x5_1 p767 q767; obtain rfl : ad765 = ad767 := (by injection e767); have HR767_0 := Aside0.mk hi767_0; have HC767_0 := Aside0.mk hl767_0; clear hi767_0 hl767_0; have HR767_2 := Aside0.mk hi767_2; have HC767_2 := Aside0.mk hl767_2; clear hi767_2 hl767_2; replace p767 := eq_true p767; replace q767 := eq_true q767; have ea_ := Option.some.inj (hx765_0.symm.trans hx767_0); injection ea_ with ea_ en_ ec_; subst ea_; subst ec_; clear en_; have ea_ := Option.some.inj (hx765_2.symm.trans hx767_2); injection ea_ with ea_ en_ ec_; subst ea_; subst ec_; clear en_; have p768 : 0 ≤ (x5_1 : Int) := of_decide_eq_true (by first | (with_reducible assumption) | assumption); have q768 : x5_1 < (l0.length : Int) := of_decide_eq_true (by first | (with_reducible assumption) | assumption); obtain ⟨ad768, A768_0, c768_0, A768_2, c768_2, e768, hx768_0, hx768_1, hx768_2, hl768_0, hi768_0, hl768_2, hi768_2⟩ := at_T72 HR0.out x5_1 p768 q768; obtain rfl : ad765 = ad768 := (by injection e768); have HR768_0 := Aside0.mk hi768_0; have HC768_0 := Aside0.mk hl768_0; clear hi768_0 hl768_0; have HR768_2 := Aside0.mk hi768_2; have HC768_2 := Aside0.mk hl768_2; clear hi768_2 hl768_2; replace p768 := eq_true p768; replace q768 := eq_true q768; have ea_ := Option.some.inj (hx765_0.symm.trans hx768_0); injection ea_ with ea_ en_ ec_; subst ea_; subst ec_; clear en_; have ea_ := Option.some.inj (hx765_2.symm.trans hx768_2); injection ea_ with ea_ en_ ec_; subst ea_; subst ec_; clear en_) | ((with_reducible refine gate_callee (f := 122) rfl ?_); refine goesL_ (some 38) rfl rfl Try.func122 (by kernel_rfl) rfl #[.slice A765_2 ((rd_T72 l0 x5_1).f2).length c765_2, .int .i64 (wrap64 (t766 + 1))] rfl (by (try simp only [List.map_toArray, List.map_cons, List.map_nil]); first | done | rfl | (simp only [List.length_drop, List.length_take]; rfl)) ?_; (with_reducible refine (laws_heldOpS.calls k1 _ _ ((rd_T72 l0 x5_1).f2) (wrap64 (t766 + 1)) t769 _ ?side1 ?side2 A8.out).mono ?_); (case side1 => repeat (first | exact HR768_2.out | (with_reducible refine Kd.C_alloc ?_ _) | (with_reducible refine Kd.C_drewN ?_ _) | (with_reducible refine Kd.C_drew ?_))); (case side2 => exact HC768_2.out); rintro e w' ⟨rfl, ⟨nd, rfl⟩⟩; refine ⟨_, rfl, ?_⟩))
                go_roundg k1
                case measure => have := HK1.out; omega
                case rel => exact ⟨(t769), (wrap64 (x5_1 + 1)), (by first | rfl | (simp; done) | (simp [*]; done)), (by first | rfl | (simp; done) | (simp [*]; done)), H', ⟨by have := HK1.out; omega⟩, by repeat (first | exact Drawn0.refl _ | apply Drawn0.step)⟩
        · rw [if_neg c4] at H
          exact absurd H (by simp)
      · rw [if_neg c3] at H
        have c3b0 : decide (x5_1 < (l0.length : Int)) = false := decide_eq_false c3
        clear c3
        obtain rfl := Option.some.inj H
        go_wp2
        go_ret
        exact ⟨by first | rfl | (simp; done) | (simp [*]; done), by repeat (first | exact Drawn0.refl _ | apply Drawn0.step)⟩
def laws_heldGrammar.f (k : Nat) (l0_0 : List (S68)) (l0_1 : List (S72)) (a1 : Int) : Option (Int) := (laws_heldRuleS.f k l0_0 a1).bind fun t771 => (if t771 < 0 then (some (-1)) else ((laws_heldLabelS.f k l0_1 t771).bind fun t772 => (if t772 < 0 then (some (-1)) else (some t772))))
theorem laws_heldGrammar.mono : ∀ a0 a1 a2 k, LeO (laws_heldGrammar.f k a0 a1 a2) (laws_heldGrammar.f (k + 1) a0 a1 a2) := by
  intro a0 a1 a2 k
  unfold laws_heldGrammar.f
  repeat' first
      | (with_reducible exact laws_heldLabelS.mono _ _ _)
      | (with_reducible exact laws_heldRuleS.mono _ _ _)
      | (with_reducible exact LeO.refl _)
      | (with_reducible exact LeO.none _)
      | (with_reducible refine LeO.ite ?_ ?_)
      | (with_reducible refine LeO.bind ?_ (fun _ => ?_))
      | exact laws_heldLabelS.mono _ _ _
      | exact laws_heldRuleS.mono _ _ _
      | exact LeO.none _
      | refine LeO.ite ?_ ?_
      | refine LeO.bind ?_ (fun _ => ?_)
set_option maxHeartbeats 8000000 in
set_option maxRecDepth 100000 in
theorem laws_heldGrammar.calls (k : Nat) (A0_0 : Option Addr) (c0_0 : Nat) (l0_0 : List (S68)) (A0_1 : Option Addr) (c0_1 : Nat) (l0_1 : List (S72)) (a1 : Int) (r : Int) (w : World) (hr0_0 : Kd.C k68 w A0_0 l0_0.length l0_0) (hc0_0 : l0_0.length ≤ c0_0) (hr0_1 : Kd.C k72 w A0_1 l0_1.length l0_1) (hc0_1 : l0_1.length ≤ c0_1) (h : laws_heldGrammar.f k l0_0 l0_1 a1 = some r) :
    Calls Try.prog 30 #[.agg #[.slice A0_0 l0_0.length c0_0, .slice A0_1 l0_1.length c0_1], .int .i64 a1] w fun e w' => e = .returned (.int .i64 r) ∧ Below w.heap.size w w' := by
  have hu31 := Try.underlying31
  have HR0_0 := Aside0.mk hr0_0
  have HC0_0 := Aside0.mk hc0_0
  clear hr0_0 hc0_0
  have HR0_1 := Aside0.mk hr0_1
  have HC0_1 := Aside0.mk hc0_1
  clear hr0_1 hc0_1
  have HB := Aside0.mk (Below.refl w.heap.size w)
  have H : ((laws_heldRuleS.f k l0_0 a1).bind fun t771 => (if t771 < 0 then (some (-1)) else ((laws_heldLabelS.f k l0_1 t771).bind fun t772 => (if t772 < 0 then (some (-1)) else (some t772))))) = some r := h
  clear h
  replace H := Option.bind_eq_some_iff.mp H
  obtain ⟨t771, A30, H⟩ := H
  replace H : (if t771 < 0 then (some (-1)) else ((laws_heldLabelS.f k l0_1 t771).bind fun t772 => (if t772 < 0 then (some (-1)) else (some t772)))) = some r := H
  have A3 := Aside0.mk A30
  clear A30
  by_cases c4 : t771 < 0
  · rw [if_pos c4] at H
    have c4b0 : decide (t771 < 0) = true := decide_eq_true c4
    clear c4
    obtain rfl := Option.some.inj H
    go_enter Try.func30, Try.ntmps30
    go_wp2_with (first | ((with_reducible refine gate_dst (N := 2) rfl ?_); refine box_event ?hg (N := 2) ?hd (cs := #[.slice A0_0 l0_0.length c0_0, .slice A0_1 l0_1.length c0_1]) (t := 31) ?hr ?_; (case hd => rfl); (case hg => rfl); (case hr => first | (go_simp; done) | (go_simp; rfl)); intro gb770 hg w5 hbox hb; have n0_ := Aside0.mk (below_step (by repeat (first | (with_reducible first | exact HB.out | apply below_alloc | apply pw_below_drewN | apply below_drew1) | exact HB.out)) hb); have n1_ := Aside0.mk (hbox); have n2_ := Aside0.mk ((by rw [hg]; exact (below_size (by repeat (first | (with_reducible first | exact HB.out | apply below_alloc | apply pw_below_drewN | apply below_drew1) | exact HB.out))) : w.heap.size ≤ gb770)); have n3_ := Aside0.mk ((by rw [hg]; exact (below_size (by repeat (first | (with_reducible first | exact HB.out | apply below_alloc | apply pw_below_drewN | apply below_drew1) | exact HB.out))) : w.heap.size ≤ gb770)); clear HB; have HB := n0_; have BK770 := n1_; have GW770 := n2_; have GE770 := n3_; clear n0_ n1_ n2_ n3_; clear hb hbox hg; have hcz6_0 : w5.cell? ⟨gb770, 0, none⟩ = some (.slice A0_0 l0_0.length c0_0) := (blk_cell BK770.out 0).trans rfl; have hcz6_1 : w5.cell? ⟨gb770, 1, none⟩ = some (.slice A0_1 l0_1.length c0_1) := (blk_cell BK770.out 1).trans rfl; have hfz6_0 := blk_frozen BK770.out 0; have hfz6_1 := blk_frozen BK770.out 1) | ((with_reducible refine gate_callee (f := 77) rfl ?_); refine goesL_ (some 8) rfl rfl Try.func77 (by kernel_rfl) rfl #[.slice A0_0 l0_0.length c0_0, .int .i64 a1] rfl (by (try simp only [List.map_toArray, List.map_cons, List.map_nil]); first | done | rfl | (simp only [List.length_drop, List.length_take]; rfl)) ?_; (with_reducible refine (laws_heldRuleS.calls k _ _ l0_0 a1 t771 _ ?side1 ?side2 A3.out).mono ?_); (case side1 => repeat (first | exact (Kd.C_below HR0_0.out HB.out) | (with_reducible refine Kd.C_alloc ?_ _) | (with_reducible refine Kd.C_drewN ?_ _) | (with_reducible refine Kd.C_drew ?_))); (case side2 => exact HC0_0.out); rintro e w' ⟨rfl, ⟨nd, rfl⟩⟩; refine ⟨_, rfl, ?_⟩))
    go_ret
    exact ⟨by first | rfl | (simp [errW_none, errW_some] <;> rfl) | (simp [*, errW_none, errW_some] <;> rfl), by repeat (first | (with_reducible first | exact HB.out | apply below_alloc | apply pw_below_drewN | apply below_drew1 | refine below_set ?_ GE770.out) | exact HB.out)⟩
  · rw [if_neg c4] at H
    have c4b0 : decide (t771 < 0) = false := decide_eq_false c4
    clear c4
    replace H := Option.bind_eq_some_iff.mp H
    obtain ⟨t772, A70, H⟩ := H
    replace H : (if t772 < 0 then (some (-1)) else (some t772)) = some r := H
    have A7 := Aside0.mk A70
    clear A70
    by_cases c8 : t772 < 0
    · rw [if_pos c8] at H
      have c8b0 : decide (t772 < 0) = true := decide_eq_true c8
      clear c8
      obtain rfl := Option.some.inj H
      go_enter Try.func30, Try.ntmps30
      go_wp2_with (first | ((with_reducible refine gate_dst (N := 2) rfl ?_); refine box_event ?hg (N := 2) ?hd (cs := #[.slice A0_0 l0_0.length c0_0, .slice A0_1 l0_1.length c0_1]) (t := 31) ?hr ?_; (case hd => rfl); (case hg => rfl); (case hr => first | (go_simp; done) | (go_simp; rfl)); intro gb770 hg w9 hbox hb; have n0_ := Aside0.mk (below_step (by repeat (first | (with_reducible first | exact HB.out | apply below_alloc | apply pw_below_drewN | apply below_drew1) | exact HB.out)) hb); have n1_ := Aside0.mk (hbox); have n2_ := Aside0.mk ((by rw [hg]; exact (below_size (by repeat (first | (with_reducible first | exact HB.out | apply below_alloc | apply pw_below_drewN | apply below_drew1) | exact HB.out))) : w.heap.size ≤ gb770)); have n3_ := Aside0.mk ((by rw [hg]; exact (below_size (by repeat (first | (with_reducible first | exact HB.out | apply below_alloc | apply pw_below_drewN | apply below_drew1) | exact HB.out))) : w.heap.size ≤ gb770)); clear HB; have HB := n0_; have BK770 := n1_; have GW770 := n2_; have GE770 := n3_; clear n0_ n1_ n2_ n3_; clear hb hbox hg; have hcz10_0 : w9.cell? ⟨gb770, 0, none⟩ = some (.slice A0_0 l0_0.length c0_0) := (blk_cell BK770.out 0).trans rfl; have hcz10_1 : w9.cell? ⟨gb770, 1, none⟩ = some (.slice A0_1 l0_1.length c0_1) := (blk_cell BK770.out 1).trans rfl; have hfz10_0 := blk_frozen BK770.out 0; have hfz10_1 := blk_frozen BK770.out 1) | ((with_reducible refine gate_callee (f := 77) rfl ?_); refine goesL_ (some 8) rfl rfl Try.func77 (by kernel_rfl) rfl #[.slice A0_0 l0_0.length c0_0, .int .i64 a1] rfl (by (try simp only [List.map_toArray, List.map_cons, List.map_nil]); first | done | rfl | (simp only [List.length_drop, List.length_take]; rfl)) ?_; (with_reducible refine (laws_heldRuleS.calls k _ _ l0_0 a1 t771 _ ?side1 ?side2 A3.out).mono ?_); (case side1 => repeat (first | exact (Kd.C_below HR0_0.out HB.out) | (with_reducible refine Kd.C_alloc ?_ _) | (with_reducible refine Kd.C_drewN ?_ _) | (with_reducible refine Kd.C_drew ?_))); (case side2 => exact HC0_0.out); rintro e w' ⟨rfl, ⟨nd, rfl⟩⟩; refine ⟨_, rfl, ?_⟩) | ((with_reducible refine gate_callee (f := 78) rfl ?_); refine goesL_ (some 14) rfl rfl Try.func78 (by kernel_rfl) rfl #[.slice A0_1 l0_1.length c0_1, .int .i64 t771] rfl (by (try simp only [List.map_toArray, List.map_cons, List.map_nil]); first | done | rfl | (simp only [List.length_drop, List.length_take]; rfl)) ?_; (with_reducible refine (laws_heldLabelS.calls k _ _ l0_1 t771 t772 _ ?side1 ?side2 A7.out).mono ?_); (case side1 => repeat (first | exact (Kd.C_below HR0_1.out (by repeat (first | (with_reducible first | exact HB.out | apply below_alloc | apply pw_below_drewN | apply below_drew1 | refine below_set ?_ GE770.out) | exact HB.out))) | (with_reducible refine Kd.C_alloc ?_ _) | (with_reducible refine Kd.C_drewN ?_ _) | (with_reducible refine Kd.C_drew ?_))); (case side2 => exact HC0_1.out); rintro e w' ⟨rfl, ⟨nd, rfl⟩⟩; refine ⟨_, rfl, ?_⟩))
      go_ret
      exact ⟨by first | rfl | (simp [errW_none, errW_some] <;> rfl) | (simp [*, errW_none, errW_some] <;> rfl), by repeat (first | (with_reducible first | exact HB.out | apply below_alloc | apply pw_below_drewN | apply below_drew1 | refine below_set ?_ GE770.out) | exact HB.out)⟩
    · rw [if_neg c8] at H
      have c8b0 : decide (t772 < 0) = false := decide_eq_false c8
      clear c8
      obtain rfl := Option.some.inj H
      go_enter Try.func30, Try.ntmps30
      go_wp2_with (first | ((with_reducible refine gate_dst (N := 2) rfl ?_); refine box_event ?hg (N := 2) ?hd (cs := #[.slice A0_0 l0_0.length c0_0, .slice A0_1 l0_1.length c0_1]) (t := 31) ?hr ?_; (case hd => rfl); (case hg => rfl); (case hr => first | (go_simp; done) | (go_simp; rfl)); intro gb770 hg w11 hbox hb; have n0_ := Aside0.mk (below_step (by repeat (first | (with_reducible first | exact HB.out | apply below_alloc | apply pw_below_drewN | apply below_drew1) | exact HB.out)) hb); have n1_ := Aside0.mk (hbox); have n2_ := Aside0.mk ((by rw [hg]; exact (below_size (by repeat (first | (with_reducible first | exact HB.out | apply below_alloc | apply pw_below_drewN | apply below_drew1) | exact HB.out))) : w.heap.size ≤ gb770)); have n3_ := Aside0.mk ((by rw [hg]; exact (below_size (by repeat (first | (with_reducible first | exact HB.out | apply below_alloc | apply pw_below_drewN | apply below_drew1) | exact HB.out))) : w.heap.size ≤ gb770)); clear HB; have HB := n0_; have BK770 := n1_; have GW770 := n2_; have GE770 := n3_; clear n0_ n1_ n2_ n3_; clear hb hbox hg; have hcz12_0 : w11.cell? ⟨gb770, 0, none⟩ = some (.slice A0_0 l0_0.length c0_0) := (blk_cell BK770.out 0).trans rfl; have hcz12_1 : w11.cell? ⟨gb770, 1, none⟩ = some (.slice A0_1 l0_1.length c0_1) := (blk_cell BK770.out 1).trans rfl; have hfz12_0 := blk_frozen BK770.out 0; have hfz12_1 := blk_frozen BK770.out 1) | ((with_reducible refine gate_callee (f := 77) rfl ?_); refine goesL_ (some 8) rfl rfl Try.func77 (by kernel_rfl) rfl #[.slice A0_0 l0_0.length c0_0, .int .i64 a1] rfl (by (try simp only [List.map_toArray, List.map_cons, List.map_nil]); first | done | rfl | (simp only [List.length_drop, List.length_take]; rfl)) ?_; (with_reducible refine (laws_heldRuleS.calls k _ _ l0_0 a1 t771 _ ?side1 ?side2 A3.out).mono ?_); (case side1 => repeat (first | exact (Kd.C_below HR0_0.out HB.out) | (with_reducible refine Kd.C_alloc ?_ _) | (with_reducible refine Kd.C_drewN ?_ _) | (with_reducible refine Kd.C_drew ?_))); (case side2 => exact HC0_0.out); rintro e w' ⟨rfl, ⟨nd, rfl⟩⟩; refine ⟨_, rfl, ?_⟩) | ((with_reducible refine gate_callee (f := 78) rfl ?_); refine goesL_ (some 14) rfl rfl Try.func78 (by kernel_rfl) rfl #[.slice A0_1 l0_1.length c0_1, .int .i64 t771] rfl (by (try simp only [List.map_toArray, List.map_cons, List.map_nil]); first | done | rfl | (simp only [List.length_drop, List.length_take]; rfl)) ?_; (with_reducible refine (laws_heldLabelS.calls k _ _ l0_1 t771 t772 _ ?side1 ?side2 A7.out).mono ?_); (case side1 => repeat (first | exact (Kd.C_below HR0_1.out (by repeat (first | (with_reducible first | exact HB.out | apply below_alloc | apply pw_below_drewN | apply below_drew1 | refine below_set ?_ GE770.out) | exact HB.out))) | (with_reducible refine Kd.C_alloc ?_ _) | (with_reducible refine Kd.C_drewN ?_ _) | (with_reducible refine Kd.C_drew ?_))); (case side2 => exact HC0_1.out); rintro e w' ⟨rfl, ⟨nd, rfl⟩⟩; refine ⟨_, rfl, ?_⟩))
      go_ret
      exact ⟨by first | rfl | (simp [errW_none, errW_some] <;> rfl) | (simp [*, errW_none, errW_some] <;> rfl), by repeat (first | (with_reducible first | exact HB.out | apply below_alloc | apply pw_below_drewN | apply below_drew1 | refine below_set ?_ GE770.out) | exact HB.out)⟩
def spec_l3nodes.f (l0_0 : List (S68)) (l0_1 : List (S72)) : Option (Int) := some (wrap64 ((l0_0.length : Int) + (l0_1.length : Int)))
def spec_l3body.f (l0_0 : List (S68)) (l0_1 : List (S72)) (a1 : Int) : Option ((List (S79))) := if a1 < (l0_0.length : Int) then (if 0 ≤ a1 then (some ((rd_T68 l0_0 a1).f1)) else (none)) else (if 0 ≤ (wrap64 (a1 - (l0_0.length : Int))) then (if (wrap64 (a1 - (l0_0.length : Int))) < (l0_1.length : Int) then (some ((rd_T72 l0_1 (wrap64 (a1 - (l0_0.length : Int)))).f2)) else (none)) else (none))
def spec_l3target.f (l0_0 : List (S68)) (l0_1 : List (S72)) (a1_0 : Int) (l1_1 : List Int) (a1_2 : Int) : Option (Int) := if a1_0 = 2 then (some a1_2) else (some (wrap64 ((l0_0.length : Int) + a1_2)))
def spec_l2start.l0 : Nat → List (S79) → Int → Int → Option (Int)
  | 0, _, _, _ => none
  | k + 1, x0, x5, x6 => if x6 > 0 then (if x5 > 0 then (if 0 ≤ (wrap64 (x6 - 1)) then (if (wrap64 (x6 - 1)) < (x0.length : Int) then ((spec_l2arity.f k ((rd_T79 x0 (wrap64 (x6 - 1))).f0)).bind fun t780 => (spec_l2start.l0 k x0 (wrap64 (x5 + (wrap64 (t780 - 1)))) (wrap64 (x6 - 1)))) else (none)) else (none)) else (some x6)) else (some x6)
def spec_l2start.f (k : Nat) (l0 : List (S79)) (a1 : Int) : Option (Int) := spec_l2start.l0 k l0 1 a1
theorem spec_l2start.mono_l : ∀ k, (∀ y0 y1 y2, LeO (spec_l2start.l0 k y0 y1 y2) (spec_l2start.l0 (k + 1) y0 y1 y2))
  | 0 => fun _ _ _ r h => by simp [spec_l2start.l0] at h
  | k + 1 => by
    have ih0 := spec_l2start.mono_l k
    · intro y0 y1 y2
      unfold spec_l2start.l0
      repeat' first
      | (with_reducible exact ih0 _ _ _)
      | (with_reducible exact spec_l2arity.mono _ _)
      | (with_reducible exact LeO.refl _)
      | (with_reducible exact LeO.none _)
      | (with_reducible refine LeO.ite ?_ ?_)
      | (with_reducible refine LeO.bind ?_ (fun _ => ?_))
      | exact ih0 _ _ _
      | exact spec_l2arity.mono _ _
      | exact LeO.none _
      | refine LeO.ite ?_ ?_
      | refine LeO.bind ?_ (fun _ => ?_)
theorem spec_l2start.mono : ∀ a0 a1 k, LeO (spec_l2start.f k a0 a1) (spec_l2start.f (k + 1) a0 a1) := by
  intro a0 a1 k
  have ih0 := spec_l2start.mono_l k
  unfold spec_l2start.f
  repeat' first
      | (with_reducible exact ih0 _ _ _)
      | (with_reducible exact spec_l2arity.mono _ _)
      | (with_reducible exact LeO.refl _)
      | (with_reducible exact LeO.none _)
      | (with_reducible refine LeO.ite ?_ ?_)
      | (with_reducible refine LeO.bind ?_ (fun _ => ?_))
      | exact ih0 _ _ _
      | exact spec_l2arity.mono _ _
      | exact LeO.none _
      | refine LeO.ite ?_ ?_
      | refine LeO.bind ?_ (fun _ => ?_)
end Go.Proofs.Ytdiilocgjnlmiaa.PAll
