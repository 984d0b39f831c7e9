/- Lemmas of the proof, and the walks of functions that it stands on. -/
import Derived.Test.YtdiilocgjnlmiaaCnuFlat
import Derived.Test.YtdiilocgjnlmiaaCnuNullables
import Derived.Test.YtdiilocgjnlmiaaCnuVImpl
import Derived.Test.YtdiilocgjnlmiaaCnuVSpec
import Derived.Test.YtdiilocgjnlmiaaCnuGraphOf
import Derived.Test.YtdiilocgjnlmiaaCnuNullLaw
import Derived.Deep.RegionHeld3
import Derived.Outline
section
-- Printed by a program of this session (printall.sh, over the kit's print.py).
namespace Go.Proofs.Ytdiilocgjnlmiaa.PAll
open Go.RowKit Go.Proofs.YtdiilocgjnlmiaaW.PrintWords Go.Proofs.YtdiilocgjnlmiaaW.PrintLast Go.Proofs.YtdiilocgjnlmiaaW.PrintMore
attribute [local go_sem] max2_int min2_int max_two min_two max_three min_three max_four min_four   -- for this text's walks alone
set_option linter.unusedVariables false
set_option linter.unusedSimpArgs false
def laws_eqBoolS.l0 : Nat → List Bool → List Bool → Int → Option (Bool)
 | 0, _, _, _ => none
 | k + 1, x0, x1, x5 => if x5 < (x0.length : Int) then (if 0 ≤ x5 then (if x5 < (x1.length : Int) then (if ((rdOf false x0 x5) != (rdOf false x1 x5)) = true then (some false) else (laws_eqBoolS.l0 k x0 x1 (wrap64 (x5 + 1)))) else (none)) else (none)) else (some true)
def laws_eqBoolS.f (k : Nat) (l0 : List Bool) (l1 : List Bool) : Option (Bool) := if (l0.length : Int) = (l1.length : Int) then (laws_eqBoolS.l0 k l0 l1 0) else (some false)
theorem laws_eqBoolS.mono_l : ∀ k, (∀ y0 y1 y2, LeO (laws_eqBoolS.l0 k y0 y1 y2) (laws_eqBoolS.l0 (k + 1) y0 y1 y2))
 | 0 => fun _ _ _ r h => by simp [laws_eqBoolS.l0] at h
 | k + 1 => by
  have ih0 := laws_eqBoolS.mono_l k
  intro y0 y1 y2
  unfold laws_eqBoolS.l0
  repeat' first
  | (with_reducible exact ih0 _ _ _)
  | (with_reducible exact LeO.refl _)
  | (with_reducible exact LeO.none _)
  | (with_reducible refine LeO.ite ?_ ?_)
  | (with_reducible refine LeO.bind ?_ (fun _ => ?_))
  | exact ih0 _ _ _
  | exact LeO.none _
  | refine LeO.ite ?_ ?_
  | refine LeO.bind ?_ (fun _ => ?_)
theorem laws_eqBoolS.mono : ∀ a0 a1 k, LeO (laws_eqBoolS.f k a0 a1) (laws_eqBoolS.f (k + 1) a0 a1) := by
 intro a0 a1 k
 have ih0 := laws_eqBoolS.mono_l k
 unfold laws_eqBoolS.f
 repeat' first
  | (with_reducible exact ih0 _ _ _)
  | (with_reducible exact LeO.refl _)
  | (with_reducible exact LeO.none _)
  | (with_reducible refine LeO.ite ?_ ?_)
  | (with_reducible refine LeO.bind ?_ (fun _ => ?_))
  | exact ih0 _ _ _
  | exact LeO.none _
  | refine LeO.ite ?_ ?_
  | refine LeO.bind ?_ (fun _ => ?_)
set_option maxHeartbeats 8000000 in
set_option maxRecDepth 100000 in
theorem laws_eqBoolS.calls (k : Nat) (A0 : Option Addr) (c0 : Nat) (l0 : List Bool) (A1 : Option Addr) (c1 : Nat) (l1 : List Bool) (r : Bool) (w : World) (hr0 : Kd.C Kd.bool w A0 l0.length l0) (hc0 : l0.length ≤ c0) (hr1 : Kd.C Kd.bool w A1 l1.length l1) (hc1 : l1.length ≤ c1) (h : laws_eqBoolS.f k l0 l1 = some r) :
 Calls Try.prog 33 #[.slice A0 l0.length c0, .slice A1 l1.length c1] w fun e w' => e = .returned (.bool r) ∧ Drawn0 w w' := by
 have HR0 := Aside0.mk hr0
 have HC0 := Aside0.mk hc0
 clear hr0 hc0
 have HR1 := Aside0.mk hr1
 have HC1 := Aside0.mk hc1
 clear hr1 hc1
 have H : (if (l0.length : Int) = (l1.length : Int) then (laws_eqBoolS.l0 k l0 l1 0) else (some false)) = some r := h
 clear h
 by_cases c3 : (l0.length : Int) = (l1.length : Int)
 rotate_left
 ·rw [if_neg c3] at H
  have c3b0 : ((l0.length : Int) == (l1.length : Int)) = false := beq_eq_false_iff_ne.mpr c3
  have c3b1 : ((l0.length : Int) != (l1.length : Int)) = true := bne_iff_ne.mpr c3
  have c3b2 : (l0.length == l1.length) = false := by first | simpa using c3 | (simp at c3 ⊢; omega)
  obtain rfl := Option.some.inj H
  go_enter Try.func33, Try.ntmps33
  go_wp2
  repeat (go_quiet (fail); try go_wp2)
  go_ret
  exact ⟨by first | rfl | (simp; done) | (simp [*]; done), by repeat (first | exact Drawn0.refl _ | apply Drawn0.step)⟩
 rw [if_pos c3] at H
 have c3b0 : ((l0.length : Int) == (l1.length : Int)) = true := beq_iff_eq.mpr c3
 have c3b1 : ((l0.length : Int) != (l1.length : Int)) = false := bne_eq_false_iff_eq.mpr c3
 have c3b2 : (l0.length == l1.length) = true := by first | simpa using c3 | (simp at c3 ⊢; omega)
 clear c3
 have H' := Aside0.mk H
 clear H
 go_enter Try.func33, Try.ntmps33
 go_wp2
 repeat (go_quiet (fail); try go_wp2)
 go_loopg [5] k (fun kq v5 w' => ∃ (x5_1 : Int), v5 = .int .i64 x5_1 ∧ Aside0 (laws_eqBoolS.l0 kq l0 l1 x5_1 = some r) ∧ Aside0 (kq ≤ k) ∧ Drawn0 w w')
 case atStart => exact ⟨(0), (by first | rfl | (simp; done) | (simp [*]; done)), H', ⟨Nat.le_refl _⟩, by repeat (first | exact Drawn0.refl _ | apply Drawn0.step)⟩
 case round =>
  clear H'
  try clear c1
  try clear p2
  try clear c3
  try clear c3b0
  try clear c3b1
  try clear c3b2
  obtain ⟨x5_1, rfl, HA, HK1, ⟨m1, rfl⟩⟩ := hrel
  cases gk with
  | zero => exact absurd HA.out (by simp [laws_eqBoolS.l0])
  | succ k1 =>
   have H := HA.out
   clear HA
   simp only [laws_eqBoolS.l0] at H
   by_cases c4 : x5_1 < (l0.length : Int)
   rotate_left
   ·rw [if_neg c4] at H
    have c4b0 : decide (x5_1 < (l0.length : Int)) = false := decide_eq_false c4
    clear c4
    obtain rfl := Option.some.inj H
    go_wp2
    repeat (go_quiet (fail); try go_wp2)
    go_ret
    exact ⟨by first | rfl | (simp; done) | (simp [*]; done), by repeat (first | exact Drawn0.refl _ | apply Drawn0.step)⟩
   rw [if_pos c4] at H
   have c4b0 : decide (x5_1 < (l0.length : Int)) = true := decide_eq_true c4
   clear c4
   by_cases c5 : 0 ≤ x5_1
   rotate_left
   ·rw [if_neg c5] at H
    exact absurd H (by simp)
   rw [if_pos c5] at H
   have c5b0 : decide (0 ≤ x5_1) = true := decide_eq_true c5
   clear c5
   by_cases c6 : x5_1 < (l1.length : Int)
   rotate_left
   ·rw [if_neg c6] at H
    exact absurd H (by simp)
   rw [if_pos c6] at H
   have c6b0 : decide (x5_1 < (l1.length : Int)) = true := decide_eq_true c6
   clear c6
   by_cases c7 : ((rdOf false l0 x5_1) != (rdOf false l1 x5_1)) = true
   ·rw [if_pos c7] at H
    have c7b0 : ((rdOf false l0 x5_1) != (rdOf false l1 x5_1)) = true := c7
    (try (have c7b1 : decide ((rdOf false l0 x5_1) = (rdOf false l1 x5_1)) = false := by simpa using c7))
    (try (have c7b2 : ((rdOf false l0 x5_1) == (rdOf false l1 x5_1)) = false := by simpa using c7))
    (try (have c7b3 : ¬ ((rdOf false l0 x5_1) = (rdOf false l1 x5_1)) := by simpa using c7))
    clear c7
    obtain rfl := Option.some.inj H
    have p781 : 0 ≤ (x5_1 : Int) := of_decide_eq_true (by first | (with_reducible assumption) | assumption)
    have q781 : x5_1 < (l0.length : Int) := of_decide_eq_true (by first | (with_reducible assumption) | assumption)
    obtain ⟨ad781, e781, hx781_0⟩ := Kd.at_bool HR0.out x5_1 p781 q781
    cases e781
    replace p781 := eq_true p781
    replace q781 := eq_true q781
    have p782 : 0 ≤ (x5_1 : Int) := of_decide_eq_true (by first | (with_reducible assumption) | assumption)
    have q782 : x5_1 < (l1.length : Int) := of_decide_eq_true (by first | (with_reducible assumption) | assumption)
    obtain ⟨ad782, e782, hx782_0⟩ := Kd.at_bool HR1.out x5_1 p782 q782
    cases e782
    replace p782 := eq_true p782
    replace q782 := eq_true q782
    go_wp2
    repeat (go_quiet (fail); try go_wp2)
    go_ret
    exact ⟨by first | rfl | (simp; done) | (simp [*]; done), by repeat (first | exact Drawn0.refl _ | apply Drawn0.step)⟩
   rw [if_neg c7] at H
   have c7b0 : ((rdOf false l0 x5_1) != (rdOf false l1 x5_1)) = false := by simpa using c7
   (try (have c7b1 : decide ((rdOf false l0 x5_1) = (rdOf false l1 x5_1)) = true := by simpa using c7))
   (try (have c7b2 : ((rdOf false l0 x5_1) == (rdOf false l1 x5_1)) = true := by simpa using c7))
   clear c7
   have H' := Aside0.mk H
   clear H
   have p781 : 0 ≤ (x5_1 : Int) := of_decide_eq_true (by first | (with_reducible assumption) | assumption)
   have q781 : x5_1 < (l0.length : Int) := of_decide_eq_true (by first | (with_reducible assumption) | assumption)
   obtain ⟨ad781, e781, hx781_0⟩ := Kd.at_bool HR0.out x5_1 p781 q781
   cases e781
   replace p781 := eq_true p781
   replace q781 := eq_true q781
   have p782 : 0 ≤ (x5_1 : Int) := of_decide_eq_true (by first | (with_reducible assumption) | assumption)
   have q782 : x5_1 < (l1.length : Int) := of_decide_eq_true (by first | (with_reducible assumption) | assumption)
   obtain ⟨ad782, e782, hx782_0⟩ := Kd.at_bool HR1.out x5_1 p782 q782
   cases e782
   replace p782 := eq_true p782
   replace q782 := eq_true q782
   go_wp2
   repeat (go_quiet (fail); try go_wp2)
   go_roundg k1
   case measure => have := HK1.out; omega
   case rel => exact ⟨(wrap64 (x5_1 + 1)), (by first | rfl | (simp; done) | (simp [*]; done)), H', ⟨by have := HK1.out; omega⟩, by repeat (first | exact Drawn0.refl _ | apply Drawn0.step)⟩
def laws_markBoolS.l0 : Nat → List Bool → Int → Int → Option (Int × List Bool)
 | 0, _, _, _ => none
 | k + 1, x0, x1, x5 => if x5 < (x0.length : Int) then (if 0 ≤ x5 then (laws_markBoolS.l0 k (x0.set (x5 : Int).toNat ((Int.tmod x1 3) == 0)) (wrap64 (x1 + 1)) (wrap64 (x5 + 1))) else (none)) else (some (x1, x0))
def laws_markBoolS.f (k : Nat) (l0 : List Bool) (a1 : Int) : Option (Int × List Bool) := laws_markBoolS.l0 k l0 a1 0
theorem laws_markBoolS.mono_l : ∀ k, (∀ y0 y1 y2, LeO (laws_markBoolS.l0 k y0 y1 y2) (laws_markBoolS.l0 (k + 1) y0 y1 y2))
 | 0 => fun _ _ _ r h => by simp [laws_markBoolS.l0] at h
 | k + 1 => by
  have ih0 := laws_markBoolS.mono_l k
  intro y0 y1 y2
  unfold laws_markBoolS.l0
  repeat' first
  | (with_reducible exact ih0 _ _ _)
  | (with_reducible exact LeO.refl _)
  | (with_reducible exact LeO.none _)
  | (with_reducible refine LeO.ite ?_ ?_)
  | (with_reducible refine LeO.bind ?_ (fun _ => ?_))
  | exact ih0 _ _ _
  | exact LeO.none _
  | refine LeO.ite ?_ ?_
  | refine LeO.bind ?_ (fun _ => ?_)
theorem laws_markBoolS.mono : ∀ a0 a1 k, LeO (laws_markBoolS.f k a0 a1) (laws_markBoolS.f (k + 1) a0 a1) := by
 intro a0 a1 k
 have ih0 := laws_markBoolS.mono_l k
 unfold laws_markBoolS.f
 repeat' first
  | (with_reducible exact ih0 _ _ _)
  | (with_reducible exact LeO.refl _)
  | (with_reducible exact LeO.none _)
  | (with_reducible refine LeO.ite ?_ ?_)
  | (with_reducible refine LeO.bind ?_ (fun _ => ?_))
  | exact ih0 _ _ _
  | exact LeO.none _
  | refine LeO.ite ?_ ?_
  | refine LeO.bind ?_ (fun _ => ?_)
set_option maxHeartbeats 8000000 in
set_option maxRecDepth 100000 in
theorem laws_markBoolS.calls (k : Nat) (P0_ : Nat → Prop) (u9000_ : Value) (l0 : List Bool) (a1 : Int) (r1 : Int) (r2 : List Bool) (w0 w : World) (hB : Below w0.heap.size w0 w) (ho0 : Kd.R Kd.bool 4 w w0.heap.size P0_ u9000_ l0) (h : laws_markBoolS.f k l0 a1 = some (r1, r2)) :
 Calls Try.prog 34 #[u9000_, .int .i64 a1] w fun e w' => e = .returned (.int .i64 r1) ∧ Kd.R Kd.bool 4 w' w0.heap.size (fun k_ => (P0_ k_ ∨ w.heap.size ≤ k_)) u9000_ r2 ∧ Below w0.heap.size w0 w' ∧ Kept w w' (fun k_ => P0_ k_) := by
 have HO0 := Aside0.mk (show Kd.R Kd.bool 4 w w0.heap.size (fun k_ => (P0_ k_ ∨ w.heap.size ≤ k_)) u9000_ l0 from Kd.R_mono ho0 (fun k_ hk => (.inl hk)))
 have HK := Aside0.mk (Kept.refl w (fun k_ => P0_ k_))
 have HW0 := Aside0.mk hB.size
 have HB := Aside0.mk hB
 clear hB
 have H : (laws_markBoolS.l0 k l0 a1 0) = some (r1, r2) := h
 clear h
 have H' := Aside0.mk H
 clear H
 go_enter Try.func34, Try.ntmps34
 go_wp2
 go_loopg [1, 5] k (fun kq v1 v5 w' => ∃ (x0_1 : List Bool) (x1_1 : Int) (x5_1 : Int), v1 = .int .i64 x1_1 ∧ v5 = .int .i64 x5_1 ∧ Aside0 (laws_markBoolS.l0 kq x0_1 x1_1 x5_1 = some (r1, r2)) ∧ Aside0 (kq ≤ k) ∧ Aside0 (Kd.R Kd.bool 4 w' w0.heap.size (fun k_ => (P0_ k_ ∨ w.heap.size ≤ k_)) u9000_ x0_1) ∧ Aside0 (Kept w w' (fun k_ => P0_ k_)) ∧ Aside0 (Below w0.heap.size w0 w'))
 case atStart => exact ⟨(l0), (a1), (0), (by first | rfl | (simp; done) | (simp [*]; done)), (by first | rfl | (simp; done) | (simp [*]; done)), H', ⟨Nat.le_refl _⟩, ⟨by (with_reducible repeat (first | apply Kd.R_alloc | apply Kd.R_drewN | apply Kd.R_drew)); exact HO0.out⟩, ⟨by repeat (first | (with_reducible first | exact HK.out | apply Kept.alloc | apply Kept.drewN | apply Kept.drew) | exact HK.out)⟩, ⟨by repeat (first | (with_reducible first | exact HB.out | apply below_alloc | apply pw_below_drewN | apply below_drew1) | exact HB.out)⟩⟩
 case round =>
  clear H'
  try clear p2
  obtain ⟨x0_1, x1_1, x5_1, rfl, rfl, HA, HK1, HO_0, HK, HB⟩ := hrel
  cases gk with
  | zero => exact absurd HA.out (by simp [laws_markBoolS.l0])
  | succ k1 =>
   have H := HA.out
   clear HA
   simp only [laws_markBoolS.l0] at H
   by_cases c3 : x5_1 < (x0_1.length : Int)
   rotate_left
   ·rw [if_neg c3] at H
    have c3b0 : decide (x5_1 < (x0_1.length : Int)) = false := decide_eq_false c3
    clear c3
    simp only [Option.some.injEq, Prod.mk.injEq] at H
    obtain ⟨rfl, rfl⟩ := H
    obtain ⟨Ao9, co9, eo9⟩ := Kd.R_slice HO_0.out
    subst eo9
    go_wp2
    go_ret
    exact ⟨by first | rfl | (simp [errW_none, errW_some] <;> rfl) | (simp [*, errW_none, errW_some] <;> rfl), by (with_reducible repeat (first | apply Kd.R_alloc | apply Kd.R_drewN | apply Kd.R_drew)); exact HO_0.out, by repeat (first | (with_reducible first | exact HB.out | apply below_alloc | apply pw_below_drewN | apply below_drew1) | exact HB.out), by repeat (first | (with_reducible first | exact HK.out | apply Kept.alloc | apply Kept.drewN | apply Kept.drew) | exact HK.out)⟩
   rw [if_pos c3] at H
   have c3b0 : decide (x5_1 < (x0_1.length : Int)) = true := decide_eq_true c3
   clear c3
   by_cases c4 : 0 ≤ x5_1
   rotate_left
   ·rw [if_neg c4] at H
    exact absurd H (by simp)
   rw [if_pos c4] at H
   have c4b0 : decide (0 ≤ x5_1) = true := decide_eq_true c4
   clear c4
   obtain ⟨y783, hy783⟩ : ∃ y_ : List Bool, y_ = (x0_1.set (x5_1 : Int).toNat ((Int.tmod x1_1 3) == 0)) := ⟨_, rfl⟩
   replace H : (laws_markBoolS.l0 k1 y783 (wrap64 (x1_1 + 1)) (wrap64 (x5_1 + 1))) = some (r1, r2) := by first | (rw [hy783]; with_reducible exact H) | (have H2_ := (Option.bind_some _ _).symm.trans H; rw [hy783]; with_reducible exact H2_) | (have H2_ := (Option.bind_some _ _).symm.trans H; with_reducible exact H2_) | with_reducible exact H | (rw [hy783]; exact H) | exact H
   have Ny783 := Aside0.mk hy783
   clear hy783
   have H' := Aside0.mk H
   clear H
   obtain ⟨Ao6, co6, eo6⟩ := Kd.R_slice HO_0.out
   subst eo6
   have p5 : 0 ≤ (x5_1 : Int) := of_decide_eq_true (by first | (with_reducible assumption) | assumption)
   have q5 : (x5_1 : Int) < ((x0_1.length : Int) : Int) := of_decide_eq_true (by first | (with_reducible assumption) | assumption)
   obtain ⟨go5, co5, eo5, gb5, gl5, cl5, HG5⟩ := Kd.R_form HO_0.out (by omega)
   (first | cases eo5 | (injection eo5 with ea_ en_ ec_; (first | subst ea_ | (injection ea_ with ea_; subst ea_)); subst ec_; clear en_))
   have GB5 := Aside0.mk gb5
   have GG5 := Aside0.mk HG5
   clear gb5 gl5 HG5
   have HMgo5 := Aside0.mk (show (P0_ go5 ∨ w.heap.size ≤ go5) from (HO_0.out.1 _ rfl))
   obtain ⟨hx5_0, hf5_0⟩ := Kd.R_celln false HO_0.out (x5_1 : Int) p5 q5
   replace p5 := eq_true p5
   replace q5 := eq_true q5
   have HP7 := Kd.R_putg HO_0.out (x5_1 : Int) ((Int.tmod x1_1 3) == 0)
   go_wp2_with (first | ((with_reducible refine gate_store (t := 4) (p := 17) rfl ?_); refine store_event (t := 4) (p := 17) (v := ?vo_w8) (w1 := (wr.setCell ⟨go5, (x5_1 : Int).toNat, none⟩ (.bool ((Int.tmod x1_1 3) == 0)))) ?hg ?ho ?hn ?hr ?_; (case ho => rfl); (case hg => rfl); (case hn => rfl); (case hr => first | (go_simp; done) | (go_simp; rfl)); intro w8 hw; have hg : wr.grownBy w8 (some go5) := (by rw [hw]; exact HP7.2); have hp_ : Kd.R Kd.bool 4 w8 w0.heap.size (fun k_ => (P0_ k_ ∨ w.heap.size ≤ k_)) (.slice (some ⟨go5, 0, none⟩) x0_1.length co6) y783 := (by rw [hw, Ny783.out]; exact HP7.1); clear HP7; have n0_ := Aside0.mk (hp_); have n1_ := Aside0.mk ((by rw [hw]; exact below_set (HB.out) GB5.out : Below w0.heap.size w0 w8)); have n2_ := Aside0.mk (Kept.of_grown (S := (fun k_ => P0_ k_)) hg (by repeat (first | (with_reducible first | exact HK.out | apply Kept.alloc | apply Kept.drewN | apply Kept.drew) | exact HK.out)) (fun k_ e_ => (HO_0.out.1 k_ e_))); clear HO_0; clear HB; clear HK; have HO_0 := n0_; have HB := n1_; have HK := n2_; clear n0_ n1_ n2_; clear hg hw hp_))
   go_roundg k1
   case measure => have := HK1.out; omega
   case rel => exact ⟨(y783), (wrap64 (x1_1 + 1)), (wrap64 (x5_1 + 1)), (by first | rfl | (simp; done) | (simp [*]; done)), (by first | rfl | (simp; done) | (simp [*]; done)), H', ⟨by have := HK1.out; omega⟩, ⟨by (with_reducible repeat (first | apply Kd.R_alloc | apply Kd.R_drewN | apply Kd.R_drew)); exact HO_0.out⟩, ⟨by repeat (first | (with_reducible first | exact HK.out | apply Kept.alloc | apply Kept.drewN | apply Kept.drew) | exact HK.out)⟩, ⟨by repeat (first | (with_reducible first | exact HB.out | apply below_alloc | apply pw_below_drewN | apply below_drew1) | exact HB.out)⟩⟩
def laws_heldBoolS.l0 : Nat → List Bool → Int → Int → Option (Int)
 | 0, _, _, _ => none
 | k + 1, x0, x1, x5 => if x5 < (x0.length : Int) then (if 0 ≤ x5 then (if ((rdOf false x0 x5) != ((Int.tmod x1 3) == 0)) = true then (some (-1)) else (laws_heldBoolS.l0 k x0 (wrap64 (x1 + 1)) (wrap64 (x5 + 1)))) else (none)) else (some x1)
def laws_heldBoolS.f (k : Nat) (l0 : List Bool) (a1 : Int) : Option (Int) := laws_heldBoolS.l0 k l0 a1 0
theorem laws_heldBoolS.mono_l : ∀ k, (∀ y0 y1 y2, LeO (laws_heldBoolS.l0 k y0 y1 y2) (laws_heldBoolS.l0 (k + 1) y0 y1 y2))
 | 0 => fun _ _ _ r h => by simp [laws_heldBoolS.l0] at h
 | k + 1 => by
  have ih0 := laws_heldBoolS.mono_l k
  intro y0 y1 y2
  unfold laws_heldBoolS.l0
  repeat' first
  | (with_reducible exact ih0 _ _ _)
  | (with_reducible exact LeO.refl _)
  | (with_reducible exact LeO.none _)
  | (with_reducible refine LeO.ite ?_ ?_)
  | (with_reducible refine LeO.bind ?_ (fun _ => ?_))
  | exact ih0 _ _ _
  | exact LeO.none _
  | refine LeO.ite ?_ ?_
  | refine LeO.bind ?_ (fun _ => ?_)
theorem laws_heldBoolS.mono : ∀ a0 a1 k, LeO (laws_heldBoolS.f k a0 a1) (laws_heldBoolS.f (k + 1) a0 a1) := by
 intro a0 a1 k
 have ih0 := laws_heldBoolS.mono_l k
 unfold laws_heldBoolS.f
 repeat' first
  | (with_reducible exact ih0 _ _ _)
  | (with_reducible exact LeO.refl _)
  | (with_reducible exact LeO.none _)
  | (with_reducible refine LeO.ite ?_ ?_)
  | (with_reducible refine LeO.bind ?_ (fun _ => ?_))
  | exact ih0 _ _ _
  | exact LeO.none _
  | refine LeO.ite ?_ ?_
  | refine LeO.bind ?_ (fun _ => ?_)
set_option maxHeartbeats 8000000 in
set_option maxRecDepth 100000 in
theorem laws_heldBoolS.calls (k : Nat) (A0 : Option Addr) (c0 : Nat) (l0 : List Bool) (a1 : Int) (r : Int) (w : World) (hr0 : Kd.C Kd.bool w A0 l0.length l0) (hc0 : l0.length ≤ c0) (h : laws_heldBoolS.f k l0 a1 = some r) :
 Calls Try.prog 35 #[.slice A0 l0.length c0, .int .i64 a1] w fun e w' => e = .returned (.int .i64 r) ∧ Drawn0 w w' := by
 have HR0 := Aside0.mk hr0
 have HC0 := Aside0.mk hc0
 clear hr0 hc0
 have H : (laws_heldBoolS.l0 k l0 a1 0) = some r := h
 clear h
 have H' := Aside0.mk H
 clear H
 go_enter Try.func35, Try.ntmps35
 go_wp2
 go_loopg [1, 5] k (fun kq v1 v5 w' => ∃ (x1_1 : Int) (x5_1 : Int), v1 = .int .i64 x1_1 ∧ v5 = .int .i64 x5_1 ∧ Aside0 (laws_heldBoolS.l0 kq l0 x1_1 x5_1 = some r) ∧ Aside0 (kq ≤ k) ∧ Drawn0 w w')
 case atStart => exact ⟨(a1), (0), (by first | rfl | (simp; done) | (simp [*]; done)), (by first | rfl | (simp; done) | (simp [*]; done)), H', ⟨Nat.le_refl _⟩, by repeat (first | exact Drawn0.refl _ | apply Drawn0.step)⟩
 case round =>
  clear H'
  try clear p2
  obtain ⟨x1_1, x5_1, rfl, rfl, HA, HK1, ⟨m1, rfl⟩⟩ := hrel
  cases gk with
  | zero => exact absurd HA.out (by simp [laws_heldBoolS.l0])
  | succ k1 =>
   have H := HA.out
   clear HA
   simp only [laws_heldBoolS.l0] at H
   by_cases c3 : x5_1 < (l0.length : Int)
   rotate_left
   ·rw [if_neg c3] at H
    have c3b0 : decide (x5_1 < (l0.length : Int)) = false := decide_eq_false c3
    clear c3
    obtain rfl := Option.some.inj H
    go_wp2
    go_ret
    exact ⟨by first | rfl | (simp; done) | (simp [*]; done), by repeat (first | exact Drawn0.refl _ | apply Drawn0.step)⟩
   rw [if_pos c3] at H
   have c3b0 : decide (x5_1 < (l0.length : Int)) = true := decide_eq_true c3
   clear c3
   by_cases c4 : 0 ≤ x5_1
   rotate_left
   ·rw [if_neg c4] at H
    exact absurd H (by simp)
   rw [if_pos c4] at H
   have c4b0 : decide (0 ≤ x5_1) = true := decide_eq_true c4
   clear c4
   by_cases c5 : ((rdOf false l0 x5_1) != ((Int.tmod x1_1 3) == 0)) = true
   ·rw [if_pos c5] at H
    have c5b0 : ((rdOf false l0 x5_1) != ((Int.tmod x1_1 3) == 0)) = true := c5
    (try (have c5b1 : decide ((rdOf false l0 x5_1) = ((Int.tmod x1_1 3) == 0)) = false := by simpa using c5))
    (try (have c5b2 : ((rdOf false l0 x5_1) == ((Int.tmod x1_1 3) == 0)) = false := by simpa using c5))
    (try (have c5b3 : ¬ ((rdOf false l0 x5_1) = ((Int.tmod x1_1 3) == 0)) := by simpa using c5))
    clear c5
    obtain rfl := Option.some.inj H
    have p784 : 0 ≤ (x5_1 : Int) := of_decide_eq_true (by first | (with_reducible assumption) | assumption)
    have q784 : x5_1 < (l0.length : Int) := of_decide_eq_true (by first | (with_reducible assumption) | assumption)
    obtain ⟨ad784, e784, hx784_0⟩ := Kd.at_bool HR0.out x5_1 p784 q784
    cases e784
    replace p784 := eq_true p784
    replace q784 := eq_true q784
    go_wp2
    go_ret
    exact ⟨by first | rfl | (simp; done) | (simp [*]; done), by repeat (first | exact Drawn0.refl _ | apply Drawn0.step)⟩
   rw [if_neg c5] at H
   have c5b0 : ((rdOf false l0 x5_1) != ((Int.tmod x1_1 3) == 0)) = false := by simpa using c5
   (try (have c5b1 : decide ((rdOf false l0 x5_1) = ((Int.tmod x1_1 3) == 0)) = true := by simpa using c5))
   (try (have c5b2 : ((rdOf false l0 x5_1) == ((Int.tmod x1_1 3) == 0)) = true := by simpa using c5))
   clear c5
   have H' := Aside0.mk H
   clear H
   have p784 : 0 ≤ (x5_1 : Int) := of_decide_eq_true (by first | (with_reducible assumption) | assumption)
   have q784 : x5_1 < (l0.length : Int) := of_decide_eq_true (by first | (with_reducible assumption) | assumption)
   obtain ⟨ad784, e784, hx784_0⟩ := Kd.at_bool HR0.out x5_1 p784 q784
   cases e784
   replace p784 := eq_true p784
   replace q784 := eq_true q784
   go_wp2
   go_roundg k1
   case measure => have := HK1.out; omega
   case rel => exact ⟨(wrap64 (x1_1 + 1)), (wrap64 (x5_1 + 1)), (by first | rfl | (simp; done) | (simp [*]; done)), (by first | rfl | (simp; done) | (simp [*]; done)), H', ⟨by have := HK1.out; omega⟩, by repeat (first | exact Drawn0.refl _ | apply Drawn0.step)⟩
-- NOT PRINTED: function 86 (impl_graph_leftRecursive)
-- NOT PRINTED: function 87 (impl_graph_loops)
end Go.Proofs.Ytdiilocgjnlmiaa.PAll
end
section
namespace Go.Proofs.Ytdiilocgjnlmiaa.Tre
open Go.RowKit Go.Proofs.YtdiilocgjnlmiaaW.PrintWords Go.Proofs.YtdiilocgjnlmiaaW.PrintLast Go.Proofs.YtdiilocgjnlmiaaW.PrintMore
open Go.Proofs.Ytdiilocgjnlmiaa.PAll
set_option linter.unusedVariables false
set_option linter.unusedSimpArgs false
noncomputable def nulG (Rs : List Ru) (Ls : List La) : List Bool := if validB Rs Ls = true then nullF Rs.length (trees Rs Ls) else []
theorem nulG_len (Rs : List Ru) (Ls : List La) : (nulG Rs Ls).length ≤ 200 := by
 unfold nulG
 split
 ·rename_i h
  have h := validB_iff.1 h
  have h1 := h.r2
  have h2 := h.l2
  rw [nullF_len, len_trees]
  omega
 exact Nat.zero_le _
theorem Nice.ok {Rs : List Ru} {Ls : List La} (h : Nice Rs Ls) : ∀ i, i < (trees Rs Ls).length → okO Rs.length Ls.length (tr (trees Rs Ls) i) := fun i hi t ht => by
 rw [len_trees] at hi
 rcases h.body i hi with ⟨_, h2⟩ | ⟨x, h1, _, h3, _⟩
 ·rw [h2] at ht; cases ht
 rw [h1] at ht; cases ht; exact h3
theorem Nice.one {Rs : List Ru} {Ls : List La} (h : Nice Rs Ls) : ∀ i, i < (trees Rs Ls).length → (occO Rs.length (tr (trees Rs Ls) i)).length ≤ 1000000 := fun i hi => by
 rw [len_trees] at hi
 rcases h.body i hi with ⟨_, h2⟩ | ⟨x, h1, _, _, h4⟩
 ·rw [h2]; exact Nat.zero_le _
 rw [h1]; exact Nat.le_trans (occ_len x) (by omega)
theorem Nice.sum {Rs : List Ru} {Ls : List La} (h : Nice Rs Ls) : ∀ i, i ≤ (trees Rs Ls).length → occSum Rs.length (trees Rs Ls) i ≤ 1000000 := fun i hi => by
 rw [len_trees] at hi
 have h1 := h.occ_sum i hi
 have h2 := h.r
 have h3 := h.l
 omega
def NulPost (w : World) (m : List Bool) (e : Ending) (w' : World) : Prop := ∃ v, e = .returned v ∧ w'.ownsRow w.heap.size 4 1 v m.length (boolsV m) ∧ Below w.heap.size w w'
set_option maxRecDepth 100000 in
set_option maxHeartbeats 8000000 in
theorem nullable_in (w : World) (A0 A1 : Option Addr) (c0 c1 : Nat) (Rs : List Ru) (Ls : List La) (hr0 : Kd.C k68 w A0 Rs.length Rs) (hc0 : Rs.length ≤ c0) (hr1 : Kd.C k72 w A1 Ls.length Ls) (hc1 : Ls.length ≤ c1) (hok : okG Rs Ls = true) :
 Calls Try.prog 32 #[.agg #[.slice A0 Rs.length c0, .slice A1 Ls.length c1]] w (NulPost w (nulG Rs Ls)) := by
 have hb1 : Below w.heap.size w (w.alloc (Obj.cells #[.slice A0 Rs.length c0, .slice A1 Ls.length c1] 31)) := below_alloc (Below.refl _ _) _
 have HR0 := Aside0.mk (Kd.C_below hr0 hb1)
 have HL0 := Aside0.mk (Kd.C_below hr1 hb1)
 have HB1 := Aside0.mk hb1
 have HBG := Aside0.mk (blk_new w (Obj.cells #[.slice A0 Rs.length c0, .slice A1 Ls.length c1] 31))
 have HOK := Aside0.mk hok
 clear hr0 hr1 hb1 hok
 cases hvb : validB Rs Ls with
 | false =>
  have HVB := Lib.hid hvb
  have HG : Aside0 (nulG Rs Ls = []) := ⟨by unfold nulG; rw [hvb]; rfl⟩
  clear hvb
  go_enter Try.func32, Try.ntmps32
  go_wp2_with (go_at_call 13; refine (valid_in _ A0 A1 c0 c1 Rs Ls HR0.out hc0 HL0.out hc1 HOK.out).mono ?_; go_must (rintro e W1 ⟨rfl, hb⟩; rw [HVB.out]; have HB := Aside0.mk hb; clear hb))
  go_ret
  exact ⟨_, rfl, by rw [HG.out]; exact own_nil _ _ _ _, below_then HB1.out HB1.out.size HB.out⟩
 | true =>
  have hv := validB_iff.1 hvb
  have HN := Aside0.mk hv.nice
  have HGO := Aside0.mk hv.gok
  have HVB := Lib.hid hvb
  have hr2 := hv.r2
  have hl2 := hv.l2
  have HG : Aside0 (nulG Rs Ls = nullF Rs.length (trees Rs Ls)) := ⟨by unfold nulG; rw [hvb]; rfl⟩
  have HLT : Aside0 ((trees Rs Ls).length = Rs.length + Ls.length) := ⟨len_trees Rs Ls⟩
  clear hvb hv
  go_enter Try.func32, Try.ntmps32
  go_wp2_with (first
   | (go_at_call 13; refine (valid_in _ A0 A1 c0 c1 Rs Ls HR0.out hc0 HL0.out hc1 HOK.out).mono ?_; go_must (rintro e W1 ⟨rfl, hb⟩; rw [HVB.out]; have HB := Aside0.mk hb; have g0 := blk_cell (blk_below HBG.out hb) 0; have g1 := blk_cell (blk_below HBG.out hb) 1; clear hb))
   | (go_at_call 80; refine (graphOf_in W1 A0 A1 c0 c1 Rs Ls (Kd.C_below HR0.out HB.out) hc0 (Kd.C_below HL0.out HB.out) hc1 HOK.out hr2 hl2 HGO.out).mono ?_; go_must (rintro e W2 ⟨Ag, cg, rfl, hT, hb⟩; have HT := Aside0.mk hT; have HB2 := Aside0.mk hb; clear hT hb))
   | (go_at_call 81; refine (nullables_in W2 Ag cg Rs.length Ls.length (trees Rs Ls) HT.out HLT hr2 hl2 HN.out.ok HN.out.okTs HN.out.sum HN.out.one).mono ?_; go_must (rintro e W3 ⟨v, rfl, ho, hb⟩; have HO := Aside0.mk ho; have HB3 := Aside0.mk hb; clear ho hb)))
  go_ret
  have hs2 : w.heap.size ≤ W2.heap.size := Nat.le_trans HB1.out.size (Nat.le_trans HB.out.size HB2.out.size)
  exact ⟨_, rfl, by rw [HG.out, nullF_len]; exact own_lower' HO.out hs2, below_then (below_then (below_then HB1.out HB1.out.size HB.out) (Nat.le_trans HB1.out.size HB.out.size) HB2.out) hs2 HB3.out⟩
def BoolsR (w : World) (m : List Bool) (e : Ending) (w' : World) : Prop := ∃ v, e = .returned v ∧ Kd.R Kd.bool 4 w' w.heap.size (fun _ => True) v m ∧ Below w.heap.size w w'
set_option maxRecDepth 100000 in
set_option maxHeartbeats 8000000 in
theorem snullable_in (w : World) (A0 A1 : Option Addr) (c0 c1 : Nat) (Rs : List Ru) (Ls : List La) (hr0 : Kd.C k68 w A0 Rs.length Rs) (hc0 : Rs.length ≤ c0) (hr1 : Kd.C k72 w A1 Ls.length Ls) (hc1 : Ls.length ≤ c1) (hok : okG Rs Ls = true) :
 Calls Try.prog 31 #[.agg #[.slice A0 Rs.length c0, .slice A1 Ls.length c1]] w (BoolsR w (nulG Rs Ls)) := by
 have hb1 : Below w.heap.size w (w.alloc (Obj.cells #[.slice A0 Rs.length c0, .slice A1 Ls.length c1] 31)) := below_alloc (Below.refl _ _) _
 have HR0 := Aside0.mk (Kd.C_below hr0 hb1)
 have HL0 := Aside0.mk (Kd.C_below hr1 hb1)
 have HB1 := Aside0.mk hb1
 have HBG := Aside0.mk (blk_new w (Obj.cells #[.slice A0 Rs.length c0, .slice A1 Ls.length c1] 31))
 have HVF : Aside0 (spec_ValidGrammar.f Rs Ls = some (validB Rs Ls)) := ⟨by unfold spec_ValidGrammar.f; rw [if_pos hok]⟩
 clear hr0 hr1 hb1 hok
 cases hvb : validB Rs Ls with
 | false =>
  have HVB := Lib.hid hvb
  have HG : Aside0 (nulG Rs Ls = []) := ⟨by unfold nulG; rw [hvb]; rfl⟩
  clear hvb
  go_enter Try.func31, Try.ntmps31
  go_wp2_with (go_at_call 11; refine (spec_ValidGrammar.calls A0 c0 Rs A1 c1 Ls _ _ HR0.out hc0 HL0.out hc1 HVF.out).mono ?_; go_must (rintro e W1 ⟨rfl, hb⟩; rw [HVB.out]; have HB := Aside0.mk hb; clear hb))
  go_ret
  exact ⟨_, rfl, by rw [HG.out]; exact Kd.R_nil _ _ _ _ _, below_then HB1.out HB1.out.size HB.out⟩
 | true =>
  have hv := validB_iff.1 hvb
  have HNF := Aside0.mk (nullable_f hv.nice)
  have HVB := Lib.hid hvb
  have HG : Aside0 (nulG Rs Ls = nullF Rs.length (trees Rs Ls)) := ⟨by unfold nulG; rw [hvb]; rfl⟩
  clear hvb hv
  go_enter Try.func31, Try.ntmps31
  go_wp2_with (first
   | (go_at_call 11; refine (spec_ValidGrammar.calls A0 c0 Rs A1 c1 Ls _ _ HR0.out hc0 HL0.out hc1 HVF.out).mono ?_; go_must (rintro e W1 ⟨rfl, hb⟩; rw [HVB.out]; have HB := Aside0.mk hb; have g0 := blk_cell (blk_below HBG.out hb) 0; have g1 := blk_cell (blk_below HBG.out hb) 1; clear hb))
   | (go_at_call 79; refine (spec_l3nullable.calls 60000 A0 c0 Rs A1 c1 Ls _ W1 (Kd.C_below HR0.out HB.out) hc0 (Kd.C_below HL0.out HB.out) hc1 HNF.out).mono ?_; go_must (rintro e W2 ⟨v, rfl, hR, hb⟩; have HR := Aside0.mk hR; have HB2 := Aside0.mk hb; clear hR hb)))
  go_ret
  have hs1 : w.heap.size ≤ W1.heap.size := Nat.le_trans HB1.out.size HB.out.size
  exact ⟨_, rfl, by rw [HG.out]; exact Kd.R_lower HR.out hs1, below_then (below_then HB1.out HB1.out.size HB.out) hs1 HB2.out⟩
theorem eqBool_l0 (m : List Bool) (hm : m.length ≤ 1099511627776) : ∀ (d k i : Nat), i + d = m.length → d < k → laws_eqBoolS.l0 k m m (i : Int) = some true
 | d, 0, i, _, h => by omega
 | 0, k + 1, i, h1, h2 => by rw [laws_eqBoolS.l0, if_neg (by omega)]
 | d + 1, k + 1, i, h1, h2 => by
  rw [laws_eqBoolS.l0, if_pos (by omega), if_pos (by omega), if_pos (by omega), if_neg (by simp), wid (by omega) (by omega)]
  exact eqBool_l0 m hm d k (i + 1) (by omega) (by omega)
theorem eqBool_f (m : List Bool) (hm : m.length ≤ 1099511627776) (k : Nat) (hk : m.length < k) : laws_eqBoolS.f k m m = some true := by
 rw [laws_eqBoolS.f, if_pos rfl]
 exact eqBool_l0 m hm m.length k 0 (by omega) hk
def mkBo (n : Nat) : List Bool := (List.range n).map fun q => decide ((1 + q) % 3 = 0)
theorem mkBo_len (n : Nat) : (mkBo n).length = n := by simp [mkBo]
theorem rd_mkBo {n i : Nat} (h : i < n) : rdOf false (mkBo n) (i : Int) = decide ((1 + i) % 3 = 0) := by simp [rdOf, mkBo, List.getD_eq_getElem?_getD, h]
theorem tmod3 (i : Nat) : (Int.tmod (1 + (i : Int)) 3 == 0) = decide ((1 + i) % 3 = 0) := by
 rw [Int.tmod_eq_emod_of_nonneg (by omega), Bool.eq_iff_iff, beq_iff_eq, decide_eq_true_eq]
 omega
theorem markBool_l0 (n : Nat) (hn : n ≤ 1099511627776) : ∀ (d k i : Nat) (m : List Bool), m.length = n → i + d = n → d < k → m.take i = (mkBo n).take i → laws_markBoolS.l0 k m (1 + (i : Int)) (i : Int) = some (1 + (n : Int), mkBo n)
 | d, 0, i, m, _, _, h, _ => by omega
 | 0, k + 1, i, m, hm, h1, h2, h3 => by
  rw [laws_markBoolS.l0, if_neg (by omega)]
  rw [List.take_of_length_le (by omega), List.take_of_length_le (by rw [mkBo_len]; omega)] at h3
  rw [h3, show i = n by omega]
 | d + 1, k + 1, i, m, hm, h1, h2, h3 => by
  rw [laws_markBoolS.l0, if_pos (by omega), if_pos (by omega), wid (x := (1 : Int) + (i : Int) + 1) (by omega) (by omega), wid (x := (i : Int) + 1) (by omega) (by omega), tmod3, Int.toNat_natCast, show (1 : Int) + (i : Int) + 1 = 1 + ((i + 1 : Nat) : Int) by omega]
  refine markBool_l0 n hn d k (i + 1) _ (by rw [List.length_set]; exact hm) (by omega) (by omega) ?_
  have := set_take (m := m) (q := mkBo n) (i := i) (by rw [mkBo_len]; omega) (by rw [mkBo_len]; omega) h3
  rwa [show mkd (mkBo n) i = decide ((1 + i) % 3 = 0) by rw [← rdOf_mkd (i := (i : Int)) rfl]; exact rd_mkBo (by omega)] at this
theorem markBool_f (m : List Bool) (hn : m.length ≤ 1099511627776) (k : Nat) (hk : m.length < k) : laws_markBoolS.f k m 1 = some (1 + (m.length : Int), mkBo m.length) := by
 rw [laws_markBoolS.f]
 have := markBool_l0 m.length hn m.length k 0 m rfl (by omega) hk (by rw [List.take_zero, List.take_zero])
 simpa using this
theorem heldBool_l0 (n : Nat) (hn : n ≤ 1099511627776) : ∀ (d k i : Nat), i + d = n → d < k → laws_heldBoolS.l0 k (mkBo n) (1 + (i : Int)) (i : Int) = some (1 + (n : Int))
 | d, 0, i, _, h => by omega
 | 0, k + 1, i, h1, h2 => by
  rw [laws_heldBoolS.l0, mkBo_len, if_neg (by omega), show i = n by omega]
 | d + 1, k + 1, i, h1, h2 => by
  rw [laws_heldBoolS.l0, mkBo_len, if_pos (by omega), if_pos (by omega), rd_mkBo (by omega), tmod3, if_neg (by simp), wid (x := (1 : Int) + (i : Int) + 1) (by omega) (by omega), wid (x := (i : Int) + 1) (by omega) (by omega), show (1 : Int) + (i : Int) + 1 = 1 + ((i + 1 : Nat) : Int) by omega]
  exact heldBool_l0 n hn d k (i + 1) (by omega) (by omega)
theorem heldBool_f (n : Nat) (hn : n ≤ 1099511627776) (k : Nat) (hk : n < k) : laws_heldBoolS.f k (mkBo n) 1 = some (1 + (n : Int)) := by
 rw [laws_heldBoolS.f]
 have := heldBool_l0 n hn n k 0 (by omega) hk
 simpa using this
end Go.Proofs.Ytdiilocgjnlmiaa.Tre
end
section
namespace Go.Proofs.Ytdiilocgjnlmiaa.Tre
open Go.RowKit Go.Proofs.YtdiilocgjnlmiaaW.PrintWords Go.Proofs.YtdiilocgjnlmiaaW.PrintLast Go.Proofs.YtdiilocgjnlmiaaW.PrintMore
open Go.Proofs.Ytdiilocgjnlmiaa.PAll
set_option linter.unusedVariables false
set_option linter.unusedSimpArgs false
theorem nmark_x {U0 W4 W8 W9 : World} {G : Gr} (hW : WGr W4 (fun b => U0.heap.size ≤ b) G) (h8 : Below U0.heap.size U0 W8) (hE : Evo (grX G) W8 W9) : Below U0.heap.size U0 W9 ∧ ∀ b, W4.heap.size ≤ b → b < W8.heap.size → W9.heap[b]? = W8.heap[b]? :=
 ⟨h8.trans (hE.below h8.size fun k hk => (grX_in hW hk).1), fun b hb hl => hE.same b hl fun hx => absurd (grX_in hW hx).2 (by omega)⟩
theorem nwgr_below {W W' : World} {X : Nat → Prop} {G : Gr} (h : WGr W X G) (hb : Below W.heap.size W W') : WGr W' X G := WGr.evo h (Evo.of_below (X := fun _ => False) hb)
def OwB (B : Nat) (W : World) (v : Value) (m : List Bool) : Prop := W.ownsRow B 4 1 v m.length (boolsV m)
theorem OwB.below {B : Nat} {W W' : World} {v : Value} {m : List Bool} (h : OwB B W v m) (hb : Below W.heap.size W W') : OwB B W' v m := pw_own_below h hb
theorem OwB.C {B : Nat} {W : World} {A : Option Addr} {n c : Nat} {m : List Bool} (h : OwB B W (.slice A n c) m) : Kd.C Kd.bool W A m.length m ∧ m.length ≤ c := by
 obtain ⟨h1, h2, h3⟩ := Kd.R_reads' (Kd.R_of_own (ok := fun _ => True) (enc := Value.bool) (h1 := fun _ => rfl) h fun _ _ => trivial)
 exact ⟨h3, by omega⟩
theorem eqb_in {W : World} {A0 A1 : Option Addr} {c0 c1 n0 n1 : Nat} {m : List Bool} (e0 : n0 = m.length) (e1 : n1 = m.length) (h0 : Kd.C Kd.bool W A0 m.length m ∧ m.length ≤ c0) (h1 : Kd.C Kd.bool W A1 m.length m ∧ m.length ≤ c1) (hm : m.length ≤ 200) :
 Calls Try.prog 33 #[.slice A0 n0 c0, .slice A1 n1 c1] W (TruePost W) := by
 subst e0
 rw [e1]
 exact (laws_eqBoolS.calls 1000 A0 c0 m A1 c1 m true W h0.1 h0.2 h1.1 h1.2 (eqBool_f m (by omega) 1000 (by omega))).mono fun e w' h => ⟨h.1, h.2.below⟩
theorem heldb_in {W : World} {A : Option Addr} {c n0 n : Nat} (e0 : n0 = n) (h : Kd.C Kd.bool W A (mkBo n).length (mkBo n) ∧ (mkBo n).length ≤ c) (hm : n ≤ 200) :
 Calls Try.prog 35 #[.slice A n0 c, .int .i64 1] W fun e w' => e = .returned (.int .i64 (1 + (n : Int))) ∧ Below W.heap.size W w' := by
 subst e0
 have := laws_heldBoolS.calls 1000 A c (mkBo n0) 1 (1 + (n0 : Int)) W h.1 h.2 (heldBool_f n0 (by omega) 1000 (by omega))
 rw [mkBo_len] at this
 exact this.mono fun e w' h => ⟨h.1, h.2.below⟩
theorem markb_in {w0 W : World} {v : Value} {m : List Bool} (hB : Below w0.heap.size w0 W) (ho : OwB w0.heap.size W v m) (hm : m.length ≤ 200) :
 Calls Try.prog 34 #[v, .int .i64 1] W fun e w' => e = .returned (.int .i64 (1 + (m.length : Int))) ∧ OwB w0.heap.size w' v (mkBo m.length) ∧ Below w0.heap.size w0 w' :=
 (laws_markBoolS.calls 1000 (fun _ => True) v m 1 _ _ w0 W hB (Kd.R_of_own (enc := Value.bool) (h1 := fun _ => rfl) ho fun _ _ => trivial) (markBool_f m (by omega) 1000 (by omega))).mono fun e w' h => ⟨h.1, Kd.own_of_R h.2.1, h.2.2.1⟩
set_option maxRecDepth 100000 in
set_option maxHeartbeats 8000000 in
theorem law_nullable_in (w : World) (A0 A1 : Option Addr) (c0 c1 : Nat) (Rs : List LRu) (Ls : List LLa) (hr0 : Kd.C k153 w A0 Rs.length Rs) (hc0 : Rs.length ≤ c0) (hr1 : Kd.C k156 w A1 Ls.length Ls) (hc1 : Ls.length ≤ c1) (hR : inR Rs) (hL : inL Ls) :
 Calls Try.prog 6 #[.agg #[.slice A0 Rs.length c0, .slice A1 Ls.length c1]] w (TruePost w) := by
 obtain ⟨r, hr, hr2⟩ := szGrammar_f Rs Ls hR hL 3200001 (by omega)
 have HR0 := Aside0.mk hr0
 have HL0 := Aside0.mk hr1
 have HRR := Aside0.mk hr
 have HB0 : Aside0 (Below w.heap.size w (w.alloc (Obj.cells #[.slice A0 Rs.length c0, .slice A1 Ls.length c1] 25))) := ⟨below_alloc (Below.refl _ _) _⟩
 have HX0 := Aside0.mk (blk_new w (Obj.cells #[.slice A0 Rs.length c0, .slice A1 Ls.length c1] 25))
 clear hr hr0 hr1 hR hL
 rcases hr2 with hneg | ⟨hpos, sm1, sm2⟩
 ·have d1 : decide (r < 0) = true := decide_eq_true hneg
  go_enter Try.func6, Try.ntmps6
  go_wp2_with (first
   | (go_at_call 10; refine (laws_szGrammar.calls 3200001 A0 c0 Rs A1 c1 Ls 1048576 r _ (Kd.C_below HR0.out HB0.out) hc0 (Kd.C_below HL0.out HB0.out) hc1 HRR.out).mono ?_; go_must (rintro e W1 ⟨rfl, hb⟩; have HB1 := Aside0.mk (below_then HB0.out HB0.out.size hb); clear hb)))
  go_ret
  exact ⟨rfl, HB1.out⟩
 have d1 : decide (r < 0) = false := decide_eq_false (by omega)
 have hss := ssRs_of sm1
 have hsl := ssLs_of sm2
 have hto := toGrammar_f Rs Ls sm1 sm2 3200001 (by omega)
 have hok := okG_of hss hsl
 generalize hxr : Rs.map cvR = Xr at *
 generalize hxl : Ls.map cvL = Xl at *
 have hm := nulG_len Xr Xl
 have hnu : nulG Xr Xl = nulG Xr Xl := rfl
 generalize hM : nulG Xr Xl = M at hm
 clear hnu
 have HTO := Aside0.mk hto
 have HOK := Aside0.mk hok
 have HSS := Aside0.mk hss
 have HSL := Aside0.mk hsl
 have HMM := Aside0.mk hM
 clear hto hok hss hsl hM hxr hxl sm1 sm2
 go_enter Try.func6, Try.ntmps6
 go_wp2_with (first
  | (go_at_call 10; refine (laws_szGrammar.calls 3200001 A0 c0 Rs A1 c1 Ls 1048576 r _ (Kd.C_below HR0.out HB0.out) hc0 (Kd.C_below HL0.out HB0.out) hc1 HRR.out).mono ?_; go_must (rintro e W1 ⟨rfl, hb⟩; have HB1 := Aside0.mk (below_then HB0.out HB0.out.size hb); have HX1 := Aside0.mk (blk_below HX0.out hb); have p0 := blk_cell HX1.out 0; have p1 := blk_cell HX1.out 1; clear hb))
  | (go_at_call 12; refine (laws_toGrammar.calls 3200001 A0 c0 Rs A1 c1 Ls Xr Xl _ (Kd.C_below HR0.out HB1.out) hc0 (Kd.C_below HL0.out HB1.out) hc1 HTO.out).mono ?_; go_must (rintro e W2 ⟨v0, v1, rfl, h0, h1, hb⟩; obtain ⟨a0, b0, a1, b1, rfl, rfl, hg⟩ := grc_of_R h0 h1; have HG2 := Aside0.mk hg; have HB2 := Aside0.mk (below_then HB1.out HB1.out.size hb); have HX2 := Aside0.mk (blk_below HX1.out hb); clear hb h0 h1 hg))
  | (go_at_call 31; refine (snullable_in W2 a0 a1 b0 b1 Xr Xl HG2.out.r HG2.out.rc HG2.out.l HG2.out.lc HOK.out).mono ?_; go_must (rw [HMM.out]; rintro e W3 ⟨v, rfl, hv, hb⟩; obtain ⟨aw, cw, rfl, hcw, hCw⟩ := Kd.R_reads hv; have HW3 := Aside0.mk (And.intro hCw hcw); have HB3 := Aside0.mk (below_then HB2.out HB2.out.size hb); have HX3 := Aside0.mk (blk_below HX2.out hb); have px0 := blk_cell HX3.out 0; have px1 := blk_cell HX3.out 1; clear hb hv hcw hCw))
  | (go_at_call 12; refine (laws_toGrammar.calls 3200001 A0 c0 Rs A1 c1 Ls Xr Xl W3 (Kd.C_below HR0.out HB3.out) hc0 (Kd.C_below HL0.out HB3.out) hc1 HTO.out).mono ?_; go_must (rintro e W4 ⟨v0, v1, rfl, h0, h1, hb⟩; obtain ⟨G, hG, hWG, hGc⟩ := wgr_of_R h0 h1 HSS.out HSL.out; obtain ⟨a4, b4, a5, b5, rfl, rfl, hg⟩ := grc_of_R h0 h1; have HWG := Aside0.mk hWG; have HGE := Aside0.mk hG; have HGC := Aside0.mk hGc; have HU4 := Aside0.mk (below_alloc hb (Obj.cells #[.slice a4 Xr.length b4, .slice a5 Xl.length b5] 31)); have HG4 := Aside0.mk (hg.below (below_alloc (Below.refl _ _) (Obj.cells #[.slice a4 Xr.length b4, .slice a5 Xl.length b5] 31))); have HZ4 := Aside0.mk (blk_new W4 (Obj.cells #[.slice a4 Xr.length b4, .slice a5 Xl.length b5] 31)); clear hb h0 h1 hg hG hWG hGc))
  | (go_at_call 32; refine (nullable_in _ a4 a5 b4 b5 Xr Xl HG4.out.r HG4.out.rc HG4.out.l HG4.out.lc HOK.out).mono ?_; go_must (rw [HMM.out]; rintro e W5 ⟨v, rfl, ho, hb⟩; obtain ⟨ag, cg, rfl⟩ := own_form1 ho; have HO5 : Aside0 (OwB _ W5 _ M) := Aside0.mk ho; have HV5 := Aside0.mk hb; have HZ5 := Aside0.mk (blk_below HZ4.out hb); have HU5 := Aside0.mk (below_then HU4.out HU4.out.size hb); have HX5 := Aside0.mk (blk_below HX3.out HU5.out); have pz0 := blk_cell HZ5.out 0; have pz1 := blk_cell HZ5.out 1; clear hb ho))
  | (go_at_call 33; refine (eqb_in rfl rfl HO5.out.C ⟨Kd.C_below HW3.out.1 HU5.out, HW3.out.2⟩ hm).mono ?_; go_must (rintro e W6 ⟨rfl, hb⟩; have HU6 := Aside0.mk (below_then HU5.out HU5.out.size hb); have HV6 := Aside0.mk (below_then HV5.out HV5.out.size hb); have HX6 := Aside0.mk (blk_below HX5.out hb); have HZ6 := Aside0.mk (blk_below HZ5.out hb); have HO6 := Aside0.mk (HO5.out.below hb); have qx0 := blk_cell HX6.out 0; have qx1 := blk_cell HX6.out 1; have qz0 := blk_cell HZ6.out 0; have qz1 := blk_cell HZ6.out 1; clear hb)))
 have hbz : Aside0 (Below W6.heap.size W6 W6) := ⟨Below.refl _ _⟩
 go_region_held3 (fun W' => W'.cell? ⟨W4.heap.size, 0, none⟩ = some (.slice a4 Xr.length b4) ∧ W'.cell? ⟨W4.heap.size, 1, none⟩ = some (.slice a5 Xl.length b5) ∧ W'.cell? ⟨w.heap.size, 0, none⟩ = some (.slice A0 Rs.length c0) ∧ W'.cell? ⟨w.heap.size, 1, none⟩ = some (.slice A1 Ls.length c1) ∧ Aside0 (Below W6.heap.size W6 W'))
  (first | exact ⟨qz0, qz1, qx0, qx1, ⟨Below.refl _ _⟩⟩ | (go_split_ands; exact four_step (by first | (with_reducible exact pw_below_drewN (Below.refl _ _) _) | (with_reducible exact below_drew1 (Below.refl _ _)) | (with_reducible assumption)) ⟨by assumption, by assumption, by assumption, by assumption, by assumption⟩))
  (first
   | (go_at_call 12; go_split_ands; go_must (refine (laws_toGrammar.calls 3200001 A0 c0 Rs A1 c1 Ls Xr Xl _ (Kd.C_below HR0.out (below_then HB3.out HB3.out.size (below_then HU6.out HU6.out.size (Aside0.out (by assumption))))) hc0 (Kd.C_below HL0.out (below_then HB3.out HB3.out.size (below_then HU6.out HU6.out.size (Aside0.out (by assumption))))) hc1 HTO.out).mono ?_); rintro e W7 ⟨v0, v1, rfl, h0, h1, hb⟩; obtain ⟨a7, b7, a8, b8, rfl, rfl, hg⟩ := grc_of_R h0 h1; have HG7 := Aside0.mk hg; clear h0 h1 hg)
   | (go_at_call 14; go_split_ands; go_must (refine (eq_in (HG4.out.below (below_then HV6.out HV6.out.size (Aside0.out (by assumption)))) (HG7.out.below (by repeat (first | exact Below.refl _ _ | apply Below.drew))) HSS.out HSL.out).mono ?_); rintro e W8 ⟨rfl, hb⟩; have HB68 : Aside0 (Below W6.heap.size W6 W8) := ⟨have hq : Below W6.heap.size W6 _ := Aside0.out (by assumption); below_then hq hq.size hb⟩))
 have HU8 := Aside0.mk (below_then HU6.out HU6.out.size HB68.out)
 have HO8 := Aside0.mk (HO6.out.below HB68.out)
 have rz0 := pw_cell_below HB68.out qz0
 have rz1 := pw_cell_below HB68.out qz1
 have HV8 := Aside0.mk (below_then HV6.out HV6.out.size HB68.out)
 have HL4 : Aside0 (W4.heap.size ≤ (W4.alloc (Obj.cells #[.slice a4 Xr.length b4, .slice a5 Xl.length b5] 31)).heap.size) := ⟨by simp⟩
 have HL3 : Aside0 (W3.heap.size ≤ (W4.alloc (Obj.cells #[.slice a4 Xr.length b4, .slice a5 Xl.length b5] 31)).heap.size) := ⟨HU4.out.size⟩
 have HW48 : Aside0 (Below W4.heap.size W4 W8) := ⟨below_then (below_alloc (Below.refl _ _) _) HL4.out HV8.out⟩
 have d2 : decide (1 + (cntG G : Int) < 0) = false := decide_eq_false (by omega)
 have d3 : decide (1 + (M.length : Int) < 0) = false := decide_eq_false (by omega)
 clear qx0 qx1 qz0 qz1
 go_wp2_with (first
  | (go_at_call 35; refine (heldb_in rfl HO15.out.C hm).mono ?_; go_must (rintro e W16 ⟨rfl, hb⟩; have HU16 := Aside0.mk (below_then HU15.out HU15.out.size hb); clear hb))
  | (go_at_call 33; refine (eqb_in rfl rfl HH14.out.C ⟨Kd.C_below HW3.out.1 HU14.out, HW3.out.2⟩ hm).mono ?_; go_must (rintro e W15 ⟨rfl, hb⟩; have HU15 := Aside0.mk (below_then HU14.out HU14.out.size hb); have HO15 := Aside0.mk (HO14.out.below hb); clear hb))
  | (go_at_call 32; refine (nullable_in W13 a9 a10 b9 b10 Xr Xl HG13.out.r HG13.out.rc HG13.out.l HG13.out.lc HOK.out).mono ?_; go_must (rw [HMM.out]; rintro e W14 ⟨v, rfl, ho, hb⟩; obtain ⟨ah, ch, rfl⟩ := own_form1 ho; have HH14 : Aside0 (OwB _ W14 _ M) := Aside0.mk ho; have HO14 := Aside0.mk (HO13.out.below hb); have HU14 := Aside0.mk (below_then HU13.out HU13.out.size hb); clear hb ho))
  | (go_at_call 12; refine (laws_toGrammar.calls 3200001 A0 c0 Rs A1 c1 Ls Xr Xl W12 (Kd.C_below HR0.out (below_then HB3.out HB3.out.size HU12.out)) hc0 (Kd.C_below HL0.out (below_then HB3.out HB3.out.size HU12.out)) hc1 HTO.out).mono ?_; go_must (rintro e W13 ⟨v0, v1, rfl, h0, h1, hb⟩; obtain ⟨a9, b9, a10, b10, rfl, rfl, hg⟩ := grc_of_R h0 h1; have HG13 := Aside0.mk hg; have HU13 := Aside0.mk (below_then HU12.out HU12.out.size hb); have HO13 := Aside0.mk (HO12.out.below hb); clear hb h0 h1 hg))
  | (go_at_call 35; refine (heldb_in rfl HO11.out.C hm).mono ?_; go_must (rintro e W12 ⟨rfl, hb⟩; have HU12 := Aside0.mk (below_then HU11.out HU11.out.size hb); have HO12 := Aside0.mk (HO11.out.below hb); have HX12 := Aside0.mk (blk_below HX3.out HU12.out); have ux0 := blk_cell HX12.out 0; have ux1 := blk_cell HX12.out 1; clear hb))
  | (go_at_call 34; refine (markb_in (w0 := W3) HU10.out (own_lower' HO10.out HL3.out) hm).mono ?_; go_must (rintro e W11 ⟨rfl, ho, hb⟩; have ho := ho; rw [show Value.slice ag M.length cg = Value.slice ag (mkBo M.length).length cg by rw [mkBo_len]] at ho; have HO11 := Aside0.mk ho; have HU11 := Aside0.mk hb; clear hb ho))
  | (go_at_call 33; refine (eqb_in rfl rfl HO9.out.C ⟨Kd.C_below HW3.out.1 HU9.out, HW3.out.2⟩ hm).mono ?_; go_must (rintro e W10 ⟨rfl, hb⟩; have HU10 := Aside0.mk (below_then HU9.out HU9.out.size hb); have HO10 := Aside0.mk (HO9.out.below hb); clear hb))
  | (go_at_call 29; rw [← HGE.out]; refine (markGram_in W8 _ G 1 (nwgr_below HWG.out HW48.out) (by omega) (by have := HGC.out; omega)).mono ?_; go_must (rintro e W9 ⟨rfl, hE, _⟩; obtain ⟨hU9, hs9⟩ := nmark_x HWG.out HU8.out hE; have HU9 := Aside0.mk hU9; have HO9 : Aside0 (OwB _ W9 _ M) := Aside0.mk (own_same HO8.out fun b hb hl => hs9 b (Nat.le_trans HL4.out hb) hl); clear hE hU9 hs9)))
 go_ret
 exact ⟨rfl, below_then HB3.out HB3.out.size HU16.out⟩
end Go.Proofs.Ytdiilocgjnlmiaa.Tre
end
