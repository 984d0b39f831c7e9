/- Lemmas of the proof, and the walks of functions that it stands on. -/
import Derived.Test.YtdiilocgjnlmiaaCpgByteText
import Derived.Test.YtdiilocgjnlmiaaCpgValid
import Derived.Test.YtdiilocgjnlmiaaCpgFlat
import Derived.Test.YtdiilocgjnlmiaaCpgMarkedC
import Derived.Test.YtdiilocgjnlmiaaCpgMarkFlat
import Derived.Deep.DeepMust
import Derived.Deep.RegionHeld3
import Derived.Outline
import Derived.Test.YtdiilocgjnlmiaaCpgTreeWalk
import Derived.Test.YtdiilocgjnlmiaaCpgClone
import Derived.Maps.OwnSet
import Derived.Test.YtdiilocgjnlmiaaCpgCompare
import Derived.WalkSpells
section
namespace Go.Proofs.Ytdiilocgjnlmiaa.Tre
open Go.RowKit Go.Proofs.YtdiilocgjnlmiaaW.PrintWords Go.Proofs.YtdiilocgjnlmiaaW.PrintLast Go.Proofs.YtdiilocgjnlmiaaW.PrintMore
open Go.Proofs.Ytdiilocgjnlmiaa.PAll
set_option linter.unusedVariables false
set_option linter.unusedSimpArgs false
theorem group_in (s : ByteArray) (yes : Bool) (hs : s.size ≤ 1099511627776) (w : World) : Calls Try.prog 134 #[.string s, .bool yes] w (StrPost w (grB yes s)) := by
 cases yes with
 | true =>
  have s1 : (⟨#[40]⟩ ++ s : ByteArray).size ≤ 1099511627777 := by
   rw [ByteArray.size_append]
   show 1 + _ ≤ _
   omega
  have HE : Aside0 (grB true s = (⟨#[40]⟩ ++ s) ++ ⟨#[41]⟩) := ⟨rfl⟩
  go_enter Try.func134, Try.ntmps134
  go_wp2_with fail
  go_ret
  rw [HE.out]
  exact ⟨rfl, Below.refl _ _⟩
 | false =>
  have HE : Aside0 (grB false s = s) := ⟨rfl⟩
  clear hs
  go_enter Try.func134, Try.ntmps134
  go_wp2_with fail
  go_ret
  rw [HE.out]
  exact ⟨rfl, Below.refl _ _⟩
theorem stF_row (s : List Int) (h1 : ¬ (s.length = 2 ∧ s[0]? = some 0 ∧ s[1]? = some 255)) (h2 : ¬ (s.length = 2 ∧ s[0]? = s[1]?)) : stF s = (⟨#[91]⟩ ++ rgF s) ++ ⟨#[93]⟩ := by
 unfold stF
 split
 ·next lo hi =>
  rw [if_neg (fun h => h1 ⟨rfl, by simp [h.1], by simp [h.2]⟩), if_neg (fun h => h2 ⟨rfl, by simp [h]⟩)]
 rfl
structure okS (s : List Int) : Prop where
 ev : ∃ m : Nat, s.length = 2 * m
 sz : s.length ≤ 1048576
 by_ : ∀ i : Nat, 0 ≤ rd s (i : Int) ∧ rd s (i : Int) ≤ 255
theorem rg_rd (s : List Int) (i : Nat) (h : i + 1 < s.length) : rgF (s.drop i) = (btF (rd s (i : Int)) ++ (if rd s ((i + 1 : Nat) : Int) > rd s (i : Int) + 1 then ⟨#[45]⟩ else ByteArray.empty)) ++ (if rd s ((i + 1 : Nat) : Int) > rd s (i : Int) then btF (rd s ((i + 1 : Nat) : Int)) else ByteArray.empty) ++ rgF (s.drop (i + 2)) := by
 rw [drop_rd (by omega : i < s.length), drop_rd h, rgF]
theorem cell_s {w : World} {A : Option Addr} {s : List Int} (hC : Kd.C (Kd.int .i64) w A s.length s) (i : Nat) (h : i < s.length) : ∃ ad, A = some ad ∧ w.cell? (ad.add i) = some (.int .i64 (rd s (i : Int))) := by
 obtain ⟨ad, e, x⟩ := Kd.at_int hC (i : Int) (by omega) (by omega)
 exact ⟨ad, e, by simpa using x⟩
theorem two_of {s : List Int} (h : s.length = 2) : s = [rd s ((0 : Nat) : Int), rd s ((1 : Nat) : Int)] := by
 match s, h with
 | [a, b], _ => rfl
theorem rg_end {s : List Int} {i : Nat} (h : s.length ≤ i) : rgF (s.drop i) = ByteArray.empty := by rw [List.drop_eq_nil_of_le h]; rfl
set_option maxRecDepth 100000 in
set_option maxHeartbeats 16000000 in
theorem sset_in (s : List Int) (hs : okS s) (A : Option Addr) (c : Nat) (hc : s.length ≤ c) (w : World) (hC : Kd.C (Kd.int .i64) w A s.length s) : Calls Try.prog 133 #[.slice A s.length c] w (StrPost w (stF s)) := by
 obtain ⟨M, hM⟩ := hs.ev
 have HM := Aside0.mk hM
 have HS := Aside0.mk hs
 have HC := Aside0.mk hC
 by_cases hn : s.length = 2
 rotate_left
 ·have HROW : Aside0 (stF s = (⟨#[91]⟩ ++ rgF s) ++ ⟨#[93]⟩) := ⟨stF_row s (fun h => hn h.1) (fun h => hn h.1)⟩
  have b1 : ((s.length : Int) == 2) = false := beq_eq_false_iff_ne.mpr (by omega)
  clear hs hC hM hn
  go_enter Try.func133, Try.ntmps133
  go_wp2_with fail
  repeat (go_quiet (fail); try go_wp2_with fail)
  go_loopg [3, 4] M (fun kq v3 v4 w' => ∃ (acc : ByteArray) (i : Nat), v3 = .string acc ∧ v4 = .int .i64 (i : Int) ∧ Aside0 (i + 2 * kq = s.length) ∧ Aside0 (acc ++ rgF (s.drop i) = ⟨#[91]⟩ ++ rgF s) ∧ Aside0 (acc.size ≤ 1 + 9 * i) ∧ Aside0 (Below w.heap.size w w'))
  case atStart => exact ⟨_, 0, rfl, rfl, ⟨by have := HM.out; omega⟩, ⟨by rw [List.drop_zero]⟩, ⟨by exact (by decide : (1 : Nat) ≤ 1 + 9 * 0)⟩, ⟨by repeat (first | exact Below.refl _ _ | apply pw_below_drewN | apply Below.drew)⟩⟩
  case round =>
   obtain ⟨acc, i, rfl, rfl, I1, I2, I3, I4⟩ := hrel
   have hsz := HS.out.sz
   have i1 := I1.out
   have i3 := I3.out
   cases gk with
   | zero =>
    obtain ⟨q, hq⟩ : ∃ q : Nat, q = i + 1 := ⟨_, rfl⟩
    have d : decide ((q : Int) < (s.length : Int)) = false := decide_eq_false (by omega)
    have d' : decide (q < s.length) = false := decide_eq_false (by omega)
    have ew : IntKind.i64.wrap ((i : Int) + 1) = (q : Int) := (i64_w _).trans (by rw [wid (by omega) (by omega)]; omega)
    have HE : Aside0 (stF s = acc ++ ⟨#[93]⟩) := ⟨by
     have h := I2.out
     rw [rg_end (by omega), ByteArray.append_empty] at h
     rw [HROW.out, h]⟩
    have z0 : acc.size ≤ 99999999 := by omega
    clear i1 i3 hsz hq
    go_wp2_with fail
    go_ret
    rw [HE.out]
    exact ⟨rfl, by repeat (first | exact I4.out | apply pw_below_drewN | apply Below.drew)⟩
   | succ k1 =>
    obtain ⟨q, hq⟩ : ∃ q : Nat, q = i + 1 := ⟨_, rfl⟩
    have d : decide ((q : Int) < (s.length : Int)) = true := decide_eq_true (by omega)
    have d' : decide (q < s.length) = true := decide_eq_true (by omega)
    have ew : IntKind.i64.wrap ((i : Int) + 1) = (q : Int) := (i64_w _).trans (by rw [wid (by omega) (by omega)]; omega)
    have ew2 : IntKind.i64.wrap ((i : Int) + 2) = ((i + 2 : Nat) : Int) := (i64_w _).trans (by rw [wid (by omega) (by omega)]; omega)
    have hr := rg_rd s i (by omega)
    rw [← hq] at hr
    obtain ⟨ad, e, x0⟩ := cell_s HC.out i (by omega)
    first | (injection e with e; subst e) | subst e
    obtain ⟨ad2, e, x1⟩ := cell_s HC.out q (by omega)
    (injection e with e; subst e)
    obtain ⟨p0, p1⟩ := HS.out.by_ i
    obtain ⟨q0, q1⟩ := HS.out.by_ q
    generalize rd s (i : Int) = lo at *
    generalize rd s (q : Int) = hi at *
    obtain ⟨lo1, hlo1⟩ : ∃ lo1 : Int, lo1 = lo + 1 := ⟨_, rfl⟩
    have el : IntKind.i64.wrap (lo + 1) = lo1 := (i64_w _).trans (by rw [wid (by omega) (by omega)]; omega)
    replace x0 := pw_cell_below I4.out x0
    replace x1 := pw_cell_below I4.out x1
    have lx := World.block_lt_of_cell? _ _ x0
    have e1 : (0 ≤ (i : Int)) = True := eq_true (by omega)
    have e2 : ((i : Int) < (s.length : Int)) = True := eq_true (by omega)
    have e3 : (0 ≤ (q : Int)) = True := eq_true (by omega)
    have e4 : ((q : Int) < (s.length : Int)) = True := eq_true (by omega)
    have s1 := size_btF lo
    have s2 := size_btF hi
    have z0 : acc.size ≤ 99999999 := by omega
    have z1 : (acc ++ btF lo).size ≤ 99999999 := by rw [ByteArray.size_append]; omega
    have z2 : ((acc ++ btF lo) ++ (⟨#[45]⟩ : ByteArray)).size ≤ 99999999 := by rw [ByteArray.size_append, ByteArray.size_append]; show _ + 1 ≤ _; omega
    obtain ⟨j, hj⟩ : ∃ j : Nat, j = i + 2 := ⟨_, rfl⟩
    rw [← hj] at hr ew2
    have HJ := Aside0.mk hj
    have hg := I2.out
    rw [hr] at hg
    clear I2 hr
    have HL := Aside0.mk hlo1
    rcases (by omega : hi > lo + 1 ∨ (¬ hi > lo + 1 ∧ hi > lo) ∨ (¬ hi > lo + 1 ∧ ¬ hi > lo)) with g | ⟨g, g'⟩ | ⟨g, g'⟩
    ·rw [if_pos g, if_pos (by omega)] at hg
     have t1 : decide (hi > lo1) = true := decide_eq_true (by omega)
     have t2 : decide (hi > lo) = true := decide_eq_true (by omega)
     have HG := Aside0.mk hg
     have Z3 : Aside0 ((((acc ++ btF lo) ++ (⟨#[45]⟩ : ByteArray)) ++ btF hi : ByteArray).size ≤ 1 + 9 * j) := ⟨by simp only [ByteArray.size_append]; (try show (_ + 1) + _ ≤ _); omega⟩
     clear hg g hlo1 hj i1 i3 hsz hq
     (try clear g')
     go_wp2_with (go_at_call 164; refine (sbyte_in lo p0 p1 _).mono ?_; go_must (rintro e W1 ⟨rfl, hb⟩; have y0 := pw_cell_below hb x0; have y1 := pw_cell_below hb x1; have ly := World.block_lt_of_cell? _ _ y0; have HB1 := Aside0.mk (below_then I4.out I4.out.size hb); clear hb))
     go_quiet (fail)
     go_wp2_with fail
     go_quiet (fail)
     go_wp2_with (go_at_call 164; refine (sbyte_in hi q0 q1 _).mono ?_; go_must (rintro e W2 ⟨rfl, hb⟩; have HB2 := Aside0.mk (below_then (by repeat (first | exact HB1.out | apply pw_below_drewN | apply Below.drew)) (by have := HB1.out.size; simp; omega) hb); clear hb))
     go_roundg k1
     case measure => omega
     case rel => exact ⟨_, j, rfl, rfl, ⟨by have := I1.out; have := HJ.out; omega⟩, ⟨by rw [← HG.out]; simp only [ByteArray.append_assoc, ByteArray.append_empty, ByteArray.empty_append]⟩, Z3, ⟨by repeat (first | exact HB2.out | apply pw_below_drewN | apply Below.drew)⟩⟩
    ·rw [if_neg g, if_pos g'] at hg
     have t1 : decide (hi > lo1) = false := decide_eq_false (by omega)
     have t2 : decide (hi > lo) = true := decide_eq_true (by omega)
     have HG := Aside0.mk hg
     have Z3 : Aside0 (((acc ++ btF lo) ++ btF hi : ByteArray).size ≤ 1 + 9 * j) := ⟨by simp only [ByteArray.size_append]; (try show (_ + 1) + _ ≤ _); omega⟩
     clear hg g hlo1 hj i1 i3 hsz hq
     (try clear g')
     go_wp2_with (go_at_call 164; refine (sbyte_in lo p0 p1 _).mono ?_; go_must (rintro e W1 ⟨rfl, hb⟩; have y0 := pw_cell_below hb x0; have y1 := pw_cell_below hb x1; have ly := World.block_lt_of_cell? _ _ y0; have HB1 := Aside0.mk (below_then I4.out I4.out.size hb); clear hb))
     go_quiet (fail)
     go_wp2_with fail
     go_quiet (fail)
     go_wp2_with (go_at_call 164; refine (sbyte_in hi q0 q1 _).mono ?_; go_must (rintro e W2 ⟨rfl, hb⟩; have HB2 := Aside0.mk (below_then (by repeat (first | exact HB1.out | apply pw_below_drewN | apply Below.drew)) (by have := HB1.out.size; simp; omega) hb); clear hb))
     go_roundg k1
     case measure => omega
     case rel => exact ⟨_, j, rfl, rfl, ⟨by have := I1.out; have := HJ.out; omega⟩, ⟨by rw [← HG.out]; simp only [ByteArray.append_assoc, ByteArray.append_empty, ByteArray.empty_append]⟩, Z3, ⟨by repeat (first | exact HB2.out | apply pw_below_drewN | apply Below.drew)⟩⟩
    rw [if_neg g, if_neg g'] at hg
    have t1 : decide (hi > lo1) = false := decide_eq_false (by omega)
    have t2 : decide (hi > lo) = false := decide_eq_false (by omega)
    have HG := Aside0.mk hg
    have Z3 : Aside0 ((acc ++ btF lo : ByteArray).size ≤ 1 + 9 * j) := ⟨by simp only [ByteArray.size_append]; (try show (_ + 1) + _ ≤ _); omega⟩
    clear hg g hlo1 hj i1 i3 hsz hq
    (try clear g')
    go_wp2_with (go_at_call 164; refine (sbyte_in lo p0 p1 _).mono ?_; go_must (rintro e W1 ⟨rfl, hb⟩; have y0 := pw_cell_below hb x0; have y1 := pw_cell_below hb x1; have ly := World.block_lt_of_cell? _ _ y0; have HB1 := Aside0.mk (below_then I4.out I4.out.size hb); clear hb))
    go_quiet (fail)
    go_wp2_with fail
    go_quiet (fail)
    go_wp2_with fail
    go_roundg k1
    case measure => omega
    case rel => exact ⟨_, j, rfl, rfl, ⟨by have := I1.out; have := HJ.out; omega⟩, ⟨by rw [← HG.out]; simp only [ByteArray.append_assoc, ByteArray.append_empty, ByteArray.empty_append]⟩, Z3, ⟨by repeat (first | exact HB1.out | apply pw_below_drewN | apply Below.drew)⟩⟩
 have hb0 := hs.by_ 0
 have hb1 := hs.by_ 1
 obtain ⟨ad0, hA, g0⟩ := cell_s hC 0 (by omega)
 obtain ⟨ad1, hA1, g1⟩ := cell_s hC 1 (by omega)
 subst hA
 obtain rfl : ad0 = ad1 := by injection hA1
 have h2 := two_of hn
 have k0 : s[0]? = some (rd s ((0 : Nat) : Int)) := by rw [h2]; rfl
 have k1 : s[1]? = some (rd s ((1 : Nat) : Int)) := by rw [h2]; rfl
 generalize rd s ((0 : Nat) : Int) = l0 at *
 generalize rd s ((1 : Nat) : Int) = l1 at *
 have ga : ad0.add 0 = ad0 := by first | rfl | simp | (cases ad0; simp [Addr.add])
 rw [ga] at g0
 clear ga
 have g2 := g1
 simp only [Addr.add, Nat.one_ne_zero, if_false] at g2
 have lg := World.block_lt_of_cell? _ _ g0
 have b1 : ((s.length : Int) == 2) = true := beq_iff_eq.mpr (by omega)
 have f0 : (0 < (s.length : Int)) = True := eq_true (by omega)
 have f1 : (1 < (s.length : Int)) = True := eq_true (by omega)
 have f2 : (0 < s.length) = True := eq_true (by omega)
 have f3 : (1 < s.length) = True := eq_true (by omega)
 by_cases c1 : l0 = 0 ∧ l1 = 255
 ·have HE : Aside0 (stF s = ⟨#[46]⟩) := ⟨by rw [h2]; exact if_pos c1⟩
  obtain ⟨rfl, rfl⟩ := c1
  clear hs hC hM hn h2 k0 k1 hb0 hb1
  go_enter Try.func133, Try.ntmps133
  go_wp2_with fail
  (try repeat (go_quiet (fail); try go_wp2_with fail))
  go_ret
  rw [HE.out]
  exact ⟨rfl, by repeat (first | exact Below.refl _ _ | apply pw_below_drewN | apply Below.drew)⟩
 by_cases c2 : l0 = l1
 ·have HE : Aside0 (stF s = (⟨#[34]⟩ ++ btF l0) ++ ⟨#[34]⟩) := ⟨by rw [h2]; show (if l0 = 0 ∧ l1 = 255 then _ else if l0 = l1 then _ else _) = _; rw [if_neg c1, if_pos c2]⟩
  subst c2
  have hbb := hb0
  obtain ⟨p0, p1⟩ := hbb
  have s1 := size_btF l0
  have z1 : (⟨#[34]⟩ ++ btF l0 : ByteArray).size ≤ 5 := by rw [ByteArray.size_append]; show 1 + _ ≤ _; omega
  have b4 : (l0 == l0) = true := beq_self_eq_true _
  by_cases c3 : l0 = 0
  ·subst c3
   clear hs hC hM hn h2 k0 k1 hb0 hb1 c1
   go_enter Try.func133, Try.ntmps133
   go_wp2_with fail
   repeat (go_quiet (fail); try go_wp2_with ((go_at_call 164; refine (sbyte_in _ p0 p1 _).mono ?_; go_must (rintro e W1 ⟨rfl, hb⟩; have HB1 : Aside0 (Below w.heap.size w W1) := ⟨below_then (by repeat (first | exact Below.refl _ _ | apply pw_below_drewN | apply Below.drew)) (by first | exact Nat.le_refl _ | simp) hb⟩; clear hb))))
   go_ret
   rw [HE.out]
   exact ⟨rfl, HB1.out⟩
  have b3 : (l0 == 0) = false := beq_eq_false_iff_ne.mpr c3
  clear hs hC hM hn h2 k0 k1 hb0 hb1 c1 c3
  go_enter Try.func133, Try.ntmps133
  go_wp2_with fail
  repeat (go_quiet (fail); try go_wp2_with ((go_at_call 164; refine (sbyte_in _ p0 p1 _).mono ?_; go_must (rintro e W1 ⟨rfl, hb⟩; have HB1 : Aside0 (Below w.heap.size w W1) := ⟨below_then (by repeat (first | exact Below.refl _ _ | apply pw_below_drewN | apply Below.drew)) (by first | exact Nat.le_refl _ | simp) hb⟩; clear hb))))
  go_ret
  rw [HE.out]
  exact ⟨rfl, HB1.out⟩
 have HROW : Aside0 (stF s = (⟨#[91]⟩ ++ rgF s) ++ ⟨#[93]⟩) := ⟨stF_row s (fun h => c1 ⟨by have := k0.symm.trans h.2.1; injection this, by have := k1.symm.trans h.2.2; injection this⟩) (fun h => c2 (by have := h.2; rw [k0, k1] at this; injection this))⟩
 have b4 : (l0 == l1) = false := beq_eq_false_iff_ne.mpr c2
 have hgo : (l0 = 0 ∧ (l1 == 255) = false) ∨ (l0 == 0) = false := by
  by_cases h : l0 = 0
  ·exact .inl ⟨h, beq_eq_false_iff_ne.mpr fun h' => c1 ⟨h, h'⟩⟩
  exact .inr (beq_eq_false_iff_ne.mpr h)
 clear hs hC hM hn h2 k0 k1 hb0 hb1 c1 c2
 rcases hgo with ⟨rfl, b3⟩ | b3
 ·go_enter Try.func133, Try.ntmps133
  go_wp2_with fail
  repeat (go_quiet (fail); try go_wp2_with fail)
  go_loopg [3, 4] M (fun kq v3 v4 w' => ∃ (acc : ByteArray) (i : Nat), v3 = .string acc ∧ v4 = .int .i64 (i : Int) ∧ Aside0 (i + 2 * kq = s.length) ∧ Aside0 (acc ++ rgF (s.drop i) = ⟨#[91]⟩ ++ rgF s) ∧ Aside0 (acc.size ≤ 1 + 9 * i) ∧ Aside0 (Below w.heap.size w w'))
  case atStart => exact ⟨_, 0, rfl, rfl, ⟨by have := HM.out; omega⟩, ⟨by rw [List.drop_zero]⟩, ⟨by exact (by decide : (1 : Nat) ≤ 1 + 9 * 0)⟩, ⟨by repeat (first | exact Below.refl _ _ | apply pw_below_drewN | apply Below.drew)⟩⟩
  case round =>
   obtain ⟨acc, i, rfl, rfl, I1, I2, I3, I4⟩ := hrel
   have hsz := HS.out.sz
   have i1 := I1.out
   have i3 := I3.out
   cases gk with
   | zero =>
    obtain ⟨q, hq⟩ : ∃ q : Nat, q = i + 1 := ⟨_, rfl⟩
    have d : decide ((q : Int) < (s.length : Int)) = false := decide_eq_false (by omega)
    have d' : decide (q < s.length) = false := decide_eq_false (by omega)
    have ew : IntKind.i64.wrap ((i : Int) + 1) = (q : Int) := (i64_w _).trans (by rw [wid (by omega) (by omega)]; omega)
    have HE : Aside0 (stF s = acc ++ ⟨#[93]⟩) := ⟨by
     have h := I2.out
     rw [rg_end (by omega), ByteArray.append_empty] at h
     rw [HROW.out, h]⟩
    have z0 : acc.size ≤ 99999999 := by omega
    clear i1 i3 hsz hq
    go_wp2_with fail
    go_ret
    rw [HE.out]
    exact ⟨rfl, by repeat (first | exact I4.out | apply pw_below_drewN | apply Below.drew)⟩
   | succ k1 =>
    obtain ⟨q, hq⟩ : ∃ q : Nat, q = i + 1 := ⟨_, rfl⟩
    have d : decide ((q : Int) < (s.length : Int)) = true := decide_eq_true (by omega)
    have d' : decide (q < s.length) = true := decide_eq_true (by omega)
    have ew : IntKind.i64.wrap ((i : Int) + 1) = (q : Int) := (i64_w _).trans (by rw [wid (by omega) (by omega)]; omega)
    have ew2 : IntKind.i64.wrap ((i : Int) + 2) = ((i + 2 : Nat) : Int) := (i64_w _).trans (by rw [wid (by omega) (by omega)]; omega)
    have hr := rg_rd s i (by omega)
    rw [← hq] at hr
    obtain ⟨ad, e, x0⟩ := cell_s HC.out i (by omega)
    first | (injection e with e; subst e) | subst e
    obtain ⟨ad2, e, x1⟩ := cell_s HC.out q (by omega)
    (injection e with e; subst e)
    obtain ⟨p0, p1⟩ := HS.out.by_ i
    obtain ⟨q0, q1⟩ := HS.out.by_ q
    generalize rd s (i : Int) = lo at *
    generalize rd s (q : Int) = hi at *
    obtain ⟨lo1, hlo1⟩ : ∃ lo1 : Int, lo1 = lo + 1 := ⟨_, rfl⟩
    have el : IntKind.i64.wrap (lo + 1) = lo1 := (i64_w _).trans (by rw [wid (by omega) (by omega)]; omega)
    replace x0 := pw_cell_below I4.out x0
    replace x1 := pw_cell_below I4.out x1
    have lx := World.block_lt_of_cell? _ _ x0
    have e1 : (0 ≤ (i : Int)) = True := eq_true (by omega)
    have e2 : ((i : Int) < (s.length : Int)) = True := eq_true (by omega)
    have e3 : (0 ≤ (q : Int)) = True := eq_true (by omega)
    have e4 : ((q : Int) < (s.length : Int)) = True := eq_true (by omega)
    have s1 := size_btF lo
    have s2 := size_btF hi
    have z0 : acc.size ≤ 99999999 := by omega
    have z1 : (acc ++ btF lo).size ≤ 99999999 := by rw [ByteArray.size_append]; omega
    have z2 : ((acc ++ btF lo) ++ (⟨#[45]⟩ : ByteArray)).size ≤ 99999999 := by rw [ByteArray.size_append, ByteArray.size_append]; show _ + 1 ≤ _; omega
    obtain ⟨j, hj⟩ : ∃ j : Nat, j = i + 2 := ⟨_, rfl⟩
    rw [← hj] at hr ew2
    have HJ := Aside0.mk hj
    have hg := I2.out
    rw [hr] at hg
    clear I2 hr
    have HL := Aside0.mk hlo1
    rcases (by omega : hi > lo + 1 ∨ (¬ hi > lo + 1 ∧ hi > lo) ∨ (¬ hi > lo + 1 ∧ ¬ hi > lo)) with g | ⟨g, g'⟩ | ⟨g, g'⟩
    ·rw [if_pos g, if_pos (by omega)] at hg
     have t1 : decide (hi > lo1) = true := decide_eq_true (by omega)
     have t2 : decide (hi > lo) = true := decide_eq_true (by omega)
     have HG := Aside0.mk hg
     have Z3 : Aside0 ((((acc ++ btF lo) ++ (⟨#[45]⟩ : ByteArray)) ++ btF hi : ByteArray).size ≤ 1 + 9 * j) := ⟨by simp only [ByteArray.size_append]; (try show (_ + 1) + _ ≤ _); omega⟩
     clear hg g hlo1 hj i1 i3 hsz hq
     (try clear g')
     go_wp2_with (go_at_call 164; refine (sbyte_in lo p0 p1 _).mono ?_; go_must (rintro e W1 ⟨rfl, hb⟩; have y0 := pw_cell_below hb x0; have y1 := pw_cell_below hb x1; have ly := World.block_lt_of_cell? _ _ y0; have HB1 := Aside0.mk (below_then I4.out I4.out.size hb); clear hb))
     go_quiet (fail)
     go_wp2_with fail
     go_quiet (fail)
     go_wp2_with (go_at_call 164; refine (sbyte_in hi q0 q1 _).mono ?_; go_must (rintro e W2 ⟨rfl, hb⟩; have HB2 := Aside0.mk (below_then (by repeat (first | exact HB1.out | apply pw_below_drewN | apply Below.drew)) (by have := HB1.out.size; simp; omega) hb); clear hb))
     go_roundg k1
     case measure => omega
     case rel => exact ⟨_, j, rfl, rfl, ⟨by have := I1.out; have := HJ.out; omega⟩, ⟨by rw [← HG.out]; simp only [ByteArray.append_assoc, ByteArray.append_empty, ByteArray.empty_append]⟩, Z3, ⟨by repeat (first | exact HB2.out | apply pw_below_drewN | apply Below.drew)⟩⟩
    ·rw [if_neg g, if_pos g'] at hg
     have t1 : decide (hi > lo1) = false := decide_eq_false (by omega)
     have t2 : decide (hi > lo) = true := decide_eq_true (by omega)
     have HG := Aside0.mk hg
     have Z3 : Aside0 (((acc ++ btF lo) ++ btF hi : ByteArray).size ≤ 1 + 9 * j) := ⟨by simp only [ByteArray.size_append]; (try show (_ + 1) + _ ≤ _); omega⟩
     clear hg g hlo1 hj i1 i3 hsz hq
     (try clear g')
     go_wp2_with (go_at_call 164; refine (sbyte_in lo p0 p1 _).mono ?_; go_must (rintro e W1 ⟨rfl, hb⟩; have y0 := pw_cell_below hb x0; have y1 := pw_cell_below hb x1; have ly := World.block_lt_of_cell? _ _ y0; have HB1 := Aside0.mk (below_then I4.out I4.out.size hb); clear hb))
     go_quiet (fail)
     go_wp2_with fail
     go_quiet (fail)
     go_wp2_with (go_at_call 164; refine (sbyte_in hi q0 q1 _).mono ?_; go_must (rintro e W2 ⟨rfl, hb⟩; have HB2 := Aside0.mk (below_then (by repeat (first | exact HB1.out | apply pw_below_drewN | apply Below.drew)) (by have := HB1.out.size; simp; omega) hb); clear hb))
     go_roundg k1
     case measure => omega
     case rel => exact ⟨_, j, rfl, rfl, ⟨by have := I1.out; have := HJ.out; omega⟩, ⟨by rw [← HG.out]; simp only [ByteArray.append_assoc, ByteArray.append_empty, ByteArray.empty_append]⟩, Z3, ⟨by repeat (first | exact HB2.out | apply pw_below_drewN | apply Below.drew)⟩⟩
    rw [if_neg g, if_neg g'] at hg
    have t1 : decide (hi > lo1) = false := decide_eq_false (by omega)
    have t2 : decide (hi > lo) = false := decide_eq_false (by omega)
    have HG := Aside0.mk hg
    have Z3 : Aside0 ((acc ++ btF lo : ByteArray).size ≤ 1 + 9 * j) := ⟨by simp only [ByteArray.size_append]; (try show (_ + 1) + _ ≤ _); omega⟩
    clear hg g hlo1 hj i1 i3 hsz hq
    (try clear g')
    go_wp2_with (go_at_call 164; refine (sbyte_in lo p0 p1 _).mono ?_; go_must (rintro e W1 ⟨rfl, hb⟩; have y0 := pw_cell_below hb x0; have y1 := pw_cell_below hb x1; have ly := World.block_lt_of_cell? _ _ y0; have HB1 := Aside0.mk (below_then I4.out I4.out.size hb); clear hb))
    go_quiet (fail)
    go_wp2_with fail
    go_quiet (fail)
    go_wp2_with fail
    go_roundg k1
    case measure => omega
    case rel => exact ⟨_, j, rfl, rfl, ⟨by have := I1.out; have := HJ.out; omega⟩, ⟨by rw [← HG.out]; simp only [ByteArray.append_assoc, ByteArray.append_empty, ByteArray.empty_append]⟩, Z3, ⟨by repeat (first | exact HB1.out | apply pw_below_drewN | apply Below.drew)⟩⟩
 go_enter Try.func133, Try.ntmps133
 go_wp2_with fail
 repeat (go_quiet (fail); try go_wp2_with fail)
 go_loopg [3, 4] M (fun kq v3 v4 w' => ∃ (acc : ByteArray) (i : Nat), v3 = .string acc ∧ v4 = .int .i64 (i : Int) ∧ Aside0 (i + 2 * kq = s.length) ∧ Aside0 (acc ++ rgF (s.drop i) = ⟨#[91]⟩ ++ rgF s) ∧ Aside0 (acc.size ≤ 1 + 9 * i) ∧ Aside0 (Below w.heap.size w w'))
 case atStart => exact ⟨_, 0, rfl, rfl, ⟨by have := HM.out; omega⟩, ⟨by rw [List.drop_zero]⟩, ⟨by exact (by decide : (1 : Nat) ≤ 1 + 9 * 0)⟩, ⟨by repeat (first | exact Below.refl _ _ | apply pw_below_drewN | apply Below.drew)⟩⟩
 case round =>
  obtain ⟨acc, i, rfl, rfl, I1, I2, I3, I4⟩ := hrel
  have hsz := HS.out.sz
  have i1 := I1.out
  have i3 := I3.out
  cases gk with
  | zero =>
   obtain ⟨q, hq⟩ : ∃ q : Nat, q = i + 1 := ⟨_, rfl⟩
   have d : decide ((q : Int) < (s.length : Int)) = false := decide_eq_false (by omega)
   have d' : decide (q < s.length) = false := decide_eq_false (by omega)
   have ew : IntKind.i64.wrap ((i : Int) + 1) = (q : Int) := (i64_w _).trans (by rw [wid (by omega) (by omega)]; omega)
   have HE : Aside0 (stF s = acc ++ ⟨#[93]⟩) := ⟨by
    have h := I2.out
    rw [rg_end (by omega), ByteArray.append_empty] at h
    rw [HROW.out, h]⟩
   have z0 : acc.size ≤ 99999999 := by omega
   clear i1 i3 hsz hq
   go_wp2_with fail
   go_ret
   rw [HE.out]
   exact ⟨rfl, by repeat (first | exact I4.out | apply pw_below_drewN | apply Below.drew)⟩
  | succ k1 =>
   obtain ⟨q, hq⟩ : ∃ q : Nat, q = i + 1 := ⟨_, rfl⟩
   have d : decide ((q : Int) < (s.length : Int)) = true := decide_eq_true (by omega)
   have d' : decide (q < s.length) = true := decide_eq_true (by omega)
   have ew : IntKind.i64.wrap ((i : Int) + 1) = (q : Int) := (i64_w _).trans (by rw [wid (by omega) (by omega)]; omega)
   have ew2 : IntKind.i64.wrap ((i : Int) + 2) = ((i + 2 : Nat) : Int) := (i64_w _).trans (by rw [wid (by omega) (by omega)]; omega)
   have hr := rg_rd s i (by omega)
   rw [← hq] at hr
   obtain ⟨ad, e, x0⟩ := cell_s HC.out i (by omega)
   first | (injection e with e; subst e) | subst e
   obtain ⟨ad2, e, x1⟩ := cell_s HC.out q (by omega)
   (injection e with e; subst e)
   obtain ⟨p0, p1⟩ := HS.out.by_ i
   obtain ⟨q0, q1⟩ := HS.out.by_ q
   generalize rd s (i : Int) = lo at *
   generalize rd s (q : Int) = hi at *
   obtain ⟨lo1, hlo1⟩ : ∃ lo1 : Int, lo1 = lo + 1 := ⟨_, rfl⟩
   have el : IntKind.i64.wrap (lo + 1) = lo1 := (i64_w _).trans (by rw [wid (by omega) (by omega)]; omega)
   replace x0 := pw_cell_below I4.out x0
   replace x1 := pw_cell_below I4.out x1
   have lx := World.block_lt_of_cell? _ _ x0
   have e1 : (0 ≤ (i : Int)) = True := eq_true (by omega)
   have e2 : ((i : Int) < (s.length : Int)) = True := eq_true (by omega)
   have e3 : (0 ≤ (q : Int)) = True := eq_true (by omega)
   have e4 : ((q : Int) < (s.length : Int)) = True := eq_true (by omega)
   have s1 := size_btF lo
   have s2 := size_btF hi
   have z0 : acc.size ≤ 99999999 := by omega
   have z1 : (acc ++ btF lo).size ≤ 99999999 := by rw [ByteArray.size_append]; omega
   have z2 : ((acc ++ btF lo) ++ (⟨#[45]⟩ : ByteArray)).size ≤ 99999999 := by rw [ByteArray.size_append, ByteArray.size_append]; show _ + 1 ≤ _; omega
   obtain ⟨j, hj⟩ : ∃ j : Nat, j = i + 2 := ⟨_, rfl⟩
   rw [← hj] at hr ew2
   have HJ := Aside0.mk hj
   have hg := I2.out
   rw [hr] at hg
   clear I2 hr
   have HL := Aside0.mk hlo1
   rcases (by omega : hi > lo + 1 ∨ (¬ hi > lo + 1 ∧ hi > lo) ∨ (¬ hi > lo + 1 ∧ ¬ hi > lo)) with g | ⟨g, g'⟩ | ⟨g, g'⟩
   ·rw [if_pos g, if_pos (by omega)] at hg
    have t1 : decide (hi > lo1) = true := decide_eq_true (by omega)
    have t2 : decide (hi > lo) = true := decide_eq_true (by omega)
    have HG := Aside0.mk hg
    have Z3 : Aside0 ((((acc ++ btF lo) ++ (⟨#[45]⟩ : ByteArray)) ++ btF hi : ByteArray).size ≤ 1 + 9 * j) := ⟨by simp only [ByteArray.size_append]; (try show (_ + 1) + _ ≤ _); omega⟩
    clear hg g hlo1 hj i1 i3 hsz hq
    (try clear g')
    go_wp2_with (go_at_call 164; refine (sbyte_in lo p0 p1 _).mono ?_; go_must (rintro e W1 ⟨rfl, hb⟩; have y0 := pw_cell_below hb x0; have y1 := pw_cell_below hb x1; have ly := World.block_lt_of_cell? _ _ y0; have HB1 := Aside0.mk (below_then I4.out I4.out.size hb); clear hb))
    go_quiet (fail)
    go_wp2_with fail
    go_quiet (fail)
    go_wp2_with (go_at_call 164; refine (sbyte_in hi q0 q1 _).mono ?_; go_must (rintro e W2 ⟨rfl, hb⟩; have HB2 := Aside0.mk (below_then (by repeat (first | exact HB1.out | apply pw_below_drewN | apply Below.drew)) (by have := HB1.out.size; simp; omega) hb); clear hb))
    go_roundg k1
    case measure => omega
    case rel => exact ⟨_, j, rfl, rfl, ⟨by have := I1.out; have := HJ.out; omega⟩, ⟨by rw [← HG.out]; simp only [ByteArray.append_assoc, ByteArray.append_empty, ByteArray.empty_append]⟩, Z3, ⟨by repeat (first | exact HB2.out | apply pw_below_drewN | apply Below.drew)⟩⟩
   ·rw [if_neg g, if_pos g'] at hg
    have t1 : decide (hi > lo1) = false := decide_eq_false (by omega)
    have t2 : decide (hi > lo) = true := decide_eq_true (by omega)
    have HG := Aside0.mk hg
    have Z3 : Aside0 (((acc ++ btF lo) ++ btF hi : ByteArray).size ≤ 1 + 9 * j) := ⟨by simp only [ByteArray.size_append]; (try show (_ + 1) + _ ≤ _); omega⟩
    clear hg g hlo1 hj i1 i3 hsz hq
    (try clear g')
    go_wp2_with (go_at_call 164; refine (sbyte_in lo p0 p1 _).mono ?_; go_must (rintro e W1 ⟨rfl, hb⟩; have y0 := pw_cell_below hb x0; have y1 := pw_cell_below hb x1; have ly := World.block_lt_of_cell? _ _ y0; have HB1 := Aside0.mk (below_then I4.out I4.out.size hb); clear hb))
    go_quiet (fail)
    go_wp2_with fail
    go_quiet (fail)
    go_wp2_with (go_at_call 164; refine (sbyte_in hi q0 q1 _).mono ?_; go_must (rintro e W2 ⟨rfl, hb⟩; have HB2 := Aside0.mk (below_then (by repeat (first | exact HB1.out | apply pw_below_drewN | apply Below.drew)) (by have := HB1.out.size; simp; omega) hb); clear hb))
    go_roundg k1
    case measure => omega
    case rel => exact ⟨_, j, rfl, rfl, ⟨by have := I1.out; have := HJ.out; omega⟩, ⟨by rw [← HG.out]; simp only [ByteArray.append_assoc, ByteArray.append_empty, ByteArray.empty_append]⟩, Z3, ⟨by repeat (first | exact HB2.out | apply pw_below_drewN | apply Below.drew)⟩⟩
   rw [if_neg g, if_neg g'] at hg
   have t1 : decide (hi > lo1) = false := decide_eq_false (by omega)
   have t2 : decide (hi > lo) = false := decide_eq_false (by omega)
   have HG := Aside0.mk hg
   have Z3 : Aside0 ((acc ++ btF lo : ByteArray).size ≤ 1 + 9 * j) := ⟨by simp only [ByteArray.size_append]; (try show (_ + 1) + _ ≤ _); omega⟩
   clear hg g hlo1 hj i1 i3 hsz hq
   (try clear g')
   go_wp2_with (go_at_call 164; refine (sbyte_in lo p0 p1 _).mono ?_; go_must (rintro e W1 ⟨rfl, hb⟩; have y0 := pw_cell_below hb x0; have y1 := pw_cell_below hb x1; have ly := World.block_lt_of_cell? _ _ y0; have HB1 := Aside0.mk (below_then I4.out I4.out.size hb); clear hb))
   go_quiet (fail)
   go_wp2_with fail
   go_quiet (fail)
   go_wp2_with fail
   go_roundg k1
   case measure => omega
   case rel => exact ⟨_, j, rfl, rfl, ⟨by have := I1.out; have := HJ.out; omega⟩, ⟨by rw [← HG.out]; simp only [ByteArray.append_assoc, ByteArray.append_empty, ByteArray.empty_append]⟩, Z3, ⟨by repeat (first | exact HB1.out | apply pw_below_drewN | apply Below.drew)⟩⟩
end Go.Proofs.Ytdiilocgjnlmiaa.Tre
end
section
namespace Go.Proofs.Ytdiilocgjnlmiaa.PAll
open Go.RowKit Go.Proofs.YtdiilocgjnlmiaaW.PrintWords Go.Proofs.YtdiilocgjnlmiaaW.PrintLast Go.Proofs.YtdiilocgjnlmiaaW.PrintMore
attribute [local go_sem] max2_int min2_int max_two min_two max_three min_three max_four min_four   -- for this text's walks alone
set_option linter.unusedVariables false
set_option linter.unusedSimpArgs false
mutual
def spec_l4size.l0 : Nat → List (S79) → Int → Int → Option (Int)
 | 0, _, _, _ => none
 | k + 1, x0, x3, x4 => if x4 < (x0.length : Int) then (if 0 ≤ x4 then (if ((rd_T79 x0 x4).f0) = 1 then (spec_l4size.j1 k x0 x3 x4 ((rd_T79 x0 x4).f0) true) else (if ((rd_T79 x0 x4).f0) = 2 then (spec_l4size.j1 k x0 x3 x4 ((rd_T79 x0 x4).f0) true) else (spec_l4size.j1 k x0 x3 x4 ((rd_T79 x0 x4).f0) (((rd_T79 x0 x4).f0) == 3)))) else (none)) else (some x3)
def spec_l4size.j1 : Nat → List (S79) → Int → Int → Int → Bool → Option (Int)
 | 0, _, _, _, _, _ => none
 | k + 1, x0, x3, x4, x5, x26 => if x26 = true then (spec_l4size.l0 k x0 (wrap64 (x3 + 1)) (wrap64 (x4 + 1))) else (if x5 = 5 then (spec_l4size.l0 k x0 (wrap64 (x3 + 2)) (wrap64 (x4 + 1))) else (if x5 = 6 then (spec_l4size.l0 k x0 (wrap64 (x3 + 2)) (wrap64 (x4 + 1))) else (if x5 = 7 then (spec_l4size.l0 k x0 (wrap64 (x3 + 2)) (wrap64 (x4 + 1))) else (spec_l4size.l0 k x0 x3 (wrap64 (x4 + 1))))))
end
def spec_l4size.f (k : Nat) (l0 : List (S79)) : Option (Int) := spec_l4size.l0 k l0 0 0
theorem spec_l4size.mono_l : ∀ k, (∀ y0 y1 y2, LeO (spec_l4size.l0 k y0 y1 y2) (spec_l4size.l0 (k + 1) y0 y1 y2)) ∧ (∀ y0 y1 y2 y3 y4, LeO (spec_l4size.j1 k y0 y1 y2 y3 y4) (spec_l4size.j1 (k + 1) y0 y1 y2 y3 y4))
 | 0 => ⟨fun _ _ _ r h => by simp [spec_l4size.l0] at h, fun _ _ _ _ _ r h => by simp [spec_l4size.j1] at h⟩
 | k + 1 => by
  obtain ⟨ih0, ih1⟩ := spec_l4size.mono_l k
  refine ⟨?_, ?_⟩
  ·intro y0 y1 y2
   unfold spec_l4size.l0
   repeat' first
   | (with_reducible exact ih0 _ _ _)
   | (with_reducible exact ih1 _ _ _ _ _)
   | (with_reducible exact LeO.refl _)
   | (with_reducible exact LeO.none _)
   | (with_reducible refine LeO.ite ?_ ?_)
   | (with_reducible refine LeO.bind ?_ (fun _ => ?_))
   | exact ih0 _ _ _
   | exact ih1 _ _ _ _ _
   | exact LeO.none _
   | refine LeO.ite ?_ ?_
   | refine LeO.bind ?_ (fun _ => ?_)
  intro y0 y1 y2 y3 y4
  unfold spec_l4size.j1
  repeat' first
  | (with_reducible exact ih0 _ _ _)
  | (with_reducible exact ih1 _ _ _ _ _)
  | (with_reducible exact LeO.refl _)
  | (with_reducible exact LeO.none _)
  | (with_reducible refine LeO.ite ?_ ?_)
  | (with_reducible refine LeO.bind ?_ (fun _ => ?_))
  | exact ih0 _ _ _
  | exact ih1 _ _ _ _ _
  | exact LeO.none _
  | refine LeO.ite ?_ ?_
  | refine LeO.bind ?_ (fun _ => ?_)
theorem spec_l4size.mono : ∀ a0 k, LeO (spec_l4size.f k a0) (spec_l4size.f (k + 1) a0) := by
 intro a0 k
 obtain ⟨ih0, ih1⟩ := spec_l4size.mono_l k
 unfold spec_l4size.f
 repeat' first
  | (with_reducible exact ih0 _ _ _)
  | (with_reducible exact ih1 _ _ _ _ _)
  | (with_reducible exact LeO.refl _)
  | (with_reducible exact LeO.none _)
  | (with_reducible refine LeO.ite ?_ ?_)
  | (with_reducible refine LeO.bind ?_ (fun _ => ?_))
  | exact ih0 _ _ _
  | exact ih1 _ _ _ _ _
  | exact LeO.none _
  | refine LeO.ite ?_ ?_
  | refine LeO.bind ?_ (fun _ => ?_)
def spec_l4place.l0 : Nat → Int → Int → Int → List (S68) → List (S72) → Option (Int)
 | 0, _, _, _, _, _ => none
 | k + 1, x1, x5, x6, x849000, x849001 => if x6 < x1 then ((spec_l3body.f x849000 x849001 x6).bind fun t852 => (if (t852.length : Int) > 0 then ((spec_l3body.f x849000 x849001 x6).bind fun t855 => ((spec_l4size.f k t855).bind fun t858 => (spec_l4place.l0 k x1 (wrap64 (x5 + (wrap64 (3 + t858)))) (wrap64 (x6 + 1)) x849000 x849001))) else (spec_l4place.l0 k x1 x5 (wrap64 (x6 + 1)) x849000 x849001))) else (some x5)
def spec_l4place.f (k : Nat) (l0_0 : List (S68)) (l0_1 : List (S72)) (a1 : Int) : Option (Int) := (spec_l3body.f l0_0 l0_1 a1).bind fun t849 => (if (t849.length : Int) = 0 then (some (-1)) else (spec_l4place.l0 k a1 2 0 l0_0 l0_1))
theorem spec_l4place.mono_l : ∀ k, (∀ y0 y1 y2 y3 y4, LeO (spec_l4place.l0 k y0 y1 y2 y3 y4) (spec_l4place.l0 (k + 1) y0 y1 y2 y3 y4))
 | 0 => fun _ _ _ _ _ r h => by simp [spec_l4place.l0] at h
 | k + 1 => by
  have ih0 := spec_l4place.mono_l k
  intro y0 y1 y2 y3 y4
  unfold spec_l4place.l0
  repeat' first
  | (with_reducible exact ih0 _ _ _ _ _)
  | (with_reducible exact spec_l4size.mono _ _)
  | (with_reducible exact LeO.refl _)
  | (with_reducible exact LeO.none _)
  | (with_reducible refine LeO.ite ?_ ?_)
  | (with_reducible refine LeO.bind ?_ (fun _ => ?_))
  | exact ih0 _ _ _ _ _
  | exact spec_l4size.mono _ _
  | exact LeO.none _
  | refine LeO.ite ?_ ?_
  | refine LeO.bind ?_ (fun _ => ?_)
theorem spec_l4place.mono : ∀ a0 a1 a2 k, LeO (spec_l4place.f k a0 a1 a2) (spec_l4place.f (k + 1) a0 a1 a2) := by
 intro a0 a1 a2 k
 have ih0 := spec_l4place.mono_l k
 unfold spec_l4place.f
 repeat' first
  | (with_reducible exact ih0 _ _ _ _ _)
  | (with_reducible exact spec_l4size.mono _ _)
  | (with_reducible exact LeO.refl _)
  | (with_reducible exact LeO.none _)
  | (with_reducible refine LeO.ite ?_ ?_)
  | (with_reducible refine LeO.bind ?_ (fun _ => ?_))
  | exact ih0 _ _ _ _ _
  | exact spec_l4size.mono _ _
  | exact LeO.none _
  | refine LeO.ite ?_ ?_
  | refine LeO.bind ?_ (fun _ => ?_)
def laws_heldInsS.l0 : Nat → List (S88) → Int → Int → Option (Int)
 | 0, _, _, _ => none
 | k + 1, x0, x1, x5 => if x5 < (x0.length : Int) then (if 0 ≤ x5 then (if ((rd_T88 x0 x5).f0) = x1 then (if ((rd_T88 x0 x5).f1) = (wrap64 (x1 + 1)) then (if ((rd_T88 x0 x5).f2) = (wrap64 ((wrap64 (x1 + 1)) + 1)) then ((laws_heldIntS.f k ((rd_T88 x0 x5).f3) (wrap64 ((wrap64 ((wrap64 (x1 + 1)) + 1)) + 1))).bind fun t863 => (if t863 < 0 then (some (-1)) else (laws_heldInsS.l0 k x0 t863 (wrap64 (x5 + 1))))) else (some (-1))) else (some (-1))) else (some (-1))) else (none)) else (some x1)
def laws_heldInsS.f (k : Nat) (l0 : List (S88)) (a1 : Int) : Option (Int) := laws_heldInsS.l0 k l0 a1 0
theorem laws_heldInsS.mono_l : ∀ k, (∀ y0 y1 y2, LeO (laws_heldInsS.l0 k y0 y1 y2) (laws_heldInsS.l0 (k + 1) y0 y1 y2))
 | 0 => fun _ _ _ r h => by simp [laws_heldInsS.l0] at h
 | k + 1 => by
  have ih0 := laws_heldInsS.mono_l k
  intro y0 y1 y2
  unfold laws_heldInsS.l0
  repeat' first
  | (with_reducible exact ih0 _ _ _)
  | (with_reducible exact laws_heldIntS.mono _ _ _)
  | (with_reducible exact LeO.refl _)
  | (with_reducible exact LeO.none _)
  | (with_reducible refine LeO.ite ?_ ?_)
  | (with_reducible refine LeO.bind ?_ (fun _ => ?_))
  | exact ih0 _ _ _
  | exact laws_heldIntS.mono _ _ _
  | exact LeO.none _
  | refine LeO.ite ?_ ?_
  | refine LeO.bind ?_ (fun _ => ?_)
theorem laws_heldInsS.mono : ∀ a0 a1 k, LeO (laws_heldInsS.f k a0 a1) (laws_heldInsS.f (k + 1) a0 a1) := by
 intro a0 a1 k
 have ih0 := laws_heldInsS.mono_l k
 unfold laws_heldInsS.f
 repeat' first
  | (with_reducible exact ih0 _ _ _)
  | (with_reducible exact laws_heldIntS.mono _ _ _)
  | (with_reducible exact LeO.refl _)
  | (with_reducible exact LeO.none _)
  | (with_reducible refine LeO.ite ?_ ?_)
  | (with_reducible refine LeO.bind ?_ (fun _ => ?_))
  | exact ih0 _ _ _
  | exact laws_heldIntS.mono _ _ _
  | exact LeO.none _
  | refine LeO.ite ?_ ?_
  | refine LeO.bind ?_ (fun _ => ?_)
end Go.Proofs.Ytdiilocgjnlmiaa.PAll
end
section
namespace Go.Proofs.Ytdiilocgjnlmiaa.Tre
open Go.RowKit Go.Proofs.YtdiilocgjnlmiaaW.PrintWords Go.Proofs.YtdiilocgjnlmiaaW.PrintLast Go.Proofs.YtdiilocgjnlmiaaW.PrintMore
open Go.Proofs.Ytdiilocgjnlmiaa.PAll
set_option linter.unusedVariables false
set_option linter.unusedSimpArgs false
abbrev In := S88
abbrev inn (l : List In) (q : Nat) : In := rd_T88 l (q : Int)
def inCell (sv : Nat → Value) (l : List In) (q : Nat) : List Value := [.int .i64 (inn l q).f0, .int .i64 (inn l q).f1, .int .i64 (inn l q).f2, sv q]
theorem inn_get {l : List In} {q : Nat} (h : q < l.length) : inn l q = l[q] := by
 simp [inn, rd_T88, List.getD_eq_getElem?_getD, h]
structure InSt (W : World) (B : Nat) (v : Value) (sv : Nat → Value) (l : List In) : Prop where
 row : W.ownsRow B 88 4 v l.length (lineC (inCell sv l) l.length)
 sets : ∀ q, q < l.length → W.ownsRow B 3 1 (sv q) (inn l q).f3.length (nums .i64 (inn l q).f3)
 apart : Apart l.length sv
theorem InSt.same {W W' : World} {B : Nat} {v : Value} {sv : Nat → Value} {l : List In} (h : InSt W B v sv l) (hs : ∀ b, B ≤ b → b < W.heap.size → W'.heap[b]? = W.heap[b]?) : InSt W' B v sv l :=
 ⟨own_same h.row hs, fun q hq => own_same (h.sets q hq) hs, h.apart⟩
theorem InSt.below {W W' : World} {B : Nat} {v : Value} {sv : Nat → Value} {l : List In} (h : InSt W B v sv l) (hb : Below W.heap.size W W') : InSt W' B v sv l := h.same fun b _ hl => hb.block b hl
theorem InSt.nil (W : World) (B : Nat) (sv : Nat → Value) : InSt W B (.slice none 0 0) sv [] := ⟨own_nil _ _ _ _, fun q hq => absurd hq (Nat.not_lt_zero _), fun i j hi => absurd hi (Nat.not_lt_zero _)⟩
theorem InSt.set {W : World} {B : Nat} {v : Value} {sv : Nat → Value} {l : List In} (h : InSt W B v sv l) {k : Nat} {cs : Array Value} {t' : TypeId} (hb : W.heap[k]? = some (.cells cs t' (0, 0))) (h1 : 88 ≠ t') (h2 : 3 ≠ t') (i : Nat) (u : Value) : InSt (W.setCell ⟨k, i, none⟩ u) B v sv l :=
 ⟨own_set h.row hb h1 i u, fun q hq => own_set (h.sets q hq) hb h2 i u, h.apart⟩
theorem InSt.one {W : World} {B : Nat} (hB : B ≤ W.heap.size) {s : Value} {x : In} (hs : W.ownsRow B 3 1 s x.f3.length (nums .i64 x.f3)) (sv : Nat → Value) (hv : sv 0 = s) :
 InSt (W.alloc (Obj.cells #[.int .i64 x.f0, .int .i64 x.f1, .int .i64 x.f2, s] 88)) B (.slice (some ⟨W.heap.size, 0, none⟩) 1 1) sv [x] := by
 subst hv
 have e0 : inn [x] 0 = x := rfl
 refine ⟨?_, fun q hq => ?_, fun i j hi hj hne => ?_⟩
 ·have := World.ownsRow_lit (base := B) (e := 88) (size := 4) W #[.int .i64 x.f0, .int .i64 x.f1, .int .i64 x.f2, sv 0] 1 hB (by unfold maxLen; omega) (by simp)
  simpa [lineC, inCell, e0] using this
 ·obtain rfl : q = 0 := by simpa using hq
  rw [e0]
  exact own_same hs fun b _ hl => (below_alloc (Below.refl _ _) _).block b hl
 simp at hi hj
 omega
theorem InSt.src {W : World} {B : Nat} {v : Value} {sv : Nat → Value} {l : List In} (h : InSt W B v sv l) {A : Option Addr} {c : Nat} (hv : v = .slice A l.length c) : SrcN W A (lineC (inCell sv l) l.length) := by
 intro j u hu
 rcases h.row.2 with ⟨e, hn⟩ | ⟨g, cap, cur, e, hb, hg, hnc, hcm, hcs, htake⟩
 ·rw [hn] at hu
  simp [lineC] at hu
 rw [hv] at e
 injection e with e1 e2 e3
 subst e1
 refine ⟨_, rfl, ?_⟩
 rw [add_plain, blk_cell hg]
 have hl : j < l.length * 4 := by
  have := (List.getElem?_eq_some_iff.1 hu).1
  rwa [lineC_len (sz := 4) (fun i => rfl)] at this
 rw [← htake, List.getElem?_take, if_pos hl] at hu
 simpa using hu
theorem InSt.C {W : World} {B : Nat} {v : Value} {sv : Nat → Value} {l : List In} (h : InSt W B v sv l) (hn : l.length ≤ 1048576) (hs : ∀ x ∈ l, x.f3.length ≤ 1048576) : ∃ A c, v = .slice A l.length c ∧ l.length ≤ c ∧ k88.C W A l.length l := by
 refine C_of_W k88 (WRow.of_own (p := fun i cs => cs = ((lineC (inCell sv l) l.length).drop (i * 4)).take 4) h.row (by omega) fun i _ => rfl) rfl rfl fun i x g c cs hi hx e hcs hcell hp => ?_
 rw [hp, lineC_at (cell := inCell sv l) (sz := 4) (fun j => rfl) l.length i hi, inCell]
 obtain ⟨_, e2⟩ := List.getElem?_eq_some_iff.1 hx
 have eo : inn l i = x := by rw [inn_get hi, e2]
 have hx1 : x.f3.length ≤ 1048576 := hs x (by rw [← e2]; exact List.getElem_mem hi)
 have hsv := h.sets i hi
 rw [eo] at hsv ⊢
 obtain ⟨A1, c1, es, h1, C1⟩ := own_C_int hsv (by omega)
 rw [es]
 exact k88_mk W x h1 C1
end Go.Proofs.Ytdiilocgjnlmiaa.Tre
end
section
namespace Go.Proofs.Ytdiilocgjnlmiaa.Tre
open Go.RowKit Go.Proofs.YtdiilocgjnlmiaaW.PrintWords Go.Proofs.YtdiilocgjnlmiaaW.PrintLast Go.Proofs.YtdiilocgjnlmiaaW.PrintMore
open Go.Proofs.Ytdiilocgjnlmiaa.PAll
set_option linter.unusedVariables false
set_option linter.unusedSimpArgs false
section
variable {Rs : List Ru} {Ls : List La}
end
end Go.Proofs.Ytdiilocgjnlmiaa.Tre
end
section
namespace Go.Proofs.Ytdiilocgjnlmiaa.Tre
open Go.RowKit Go.Proofs.YtdiilocgjnlmiaaW.PrintWords Go.Proofs.YtdiilocgjnlmiaaW.PrintLast Go.Proofs.YtdiilocgjnlmiaaW.PrintMore
open Go.Proofs.Ytdiilocgjnlmiaa.PAll
set_option linter.unusedVariables false
set_option linter.unusedSimpArgs false
inductive Rch (E : Nat → List Nat) : Nat → Nat → Prop
 | one {a b : Nat} : b ∈ E a → Rch E a b
 | more {a b c : Nat} : Rch E a b → c ∈ E b → Rch E a c
def uns : List Bool → Nat
 | [] => 0
 | b :: l => (if b = true then 0 else 1) + uns l
structure Df (E : Nat → List Nat) (n st : Nat) (s : Bool × List Bool) (xs : List Nat) (s' : Bool × List Bool) : Prop where
 len : s'.2.length = n
 le : LeM s.2 s'.2
 un : uns s'.2 ≤ uns s.2
 got : ∀ x ∈ xs, mkd s'.2 x = true
 clo : ∀ x, mkd s'.2 x = true → mkd s.2 x = true ∨ ∀ y ∈ E x, mkd s'.2 y = true
 fnd : (mkd s.2 st = true → s.1 = true) → mkd s'.2 st = true → s'.1 = true
 so : ∀ P : Nat → Prop, (∀ a b, P a → b ∈ E a → P b) → (∀ x ∈ xs, P x) → (s.1 = true → P st) → s'.1 = true → P st
theorem Df.trans {E : Nat → List Nat} {n st : Nat} {s s1 s2 : Bool × List Bool} {m : Nat} {xs : List Nat} (h1 : Df E n st s [m] s1) (h2 : Df E n st s1 xs s2) : Df E n st s (m :: xs) s2 :=
 ⟨h2.len, fun k hk => h2.le k (h1.le k hk), Nat.le_trans h2.un h1.un, fun x hx => by
  rcases List.mem_cons.1 hx with rfl | hx
  ·exact h2.le _ (h1.got _ (List.mem_singleton.2 rfl))
  ·exact h2.got x hx, fun x hx => by
  rcases h2.clo x hx with h | h
  ·rcases h1.clo x h with h | h
   ·exact .inl h
   exact .inr fun y hy => h2.le y (h y hy)
  exact .inr h, fun h hs => h2.fnd (h1.fnd h) hs, fun P hc hp h0 h3 => h2.so P hc (fun x hx => hp x (List.mem_cons_of_mem _ hx)) (h1.so P hc (fun x hx => hp x (by rw [List.mem_singleton.1 hx]; exact List.mem_cons_self)) h0) h3⟩
theorem Rch.trans {E : Nat → List Nat} {a b c : Nat} (h1 : Rch E a b) (h2 : Rch E b c) : Rch E a c := by
 induction h2 with
 | one h => exact .more h1 h
 | more _ h ih => exact .more ih h
end Go.Proofs.Ytdiilocgjnlmiaa.Tre
end
section
namespace Go.Proofs.Ytdiilocgjnlmiaa.Tre
open Go.RowKit Go.Proofs.YtdiilocgjnlmiaaW.PrintWords Go.Proofs.YtdiilocgjnlmiaaW.PrintLast Go.Proofs.YtdiilocgjnlmiaaW.PrintMore
open Go.Proofs.Ytdiilocgjnlmiaa.PAll
set_option linter.unusedVariables false
set_option linter.unusedSimpArgs false
structure MkV (W : World) (A : Option Addr) (c : Nat) (m : List Bool) : Prop where
 cells : Kd.C Kd.bool W A m.length m
 cap : m.length ≤ c
theorem MkV.below {W W' : World} {A : Option Addr} {c : Nat} {m : List Bool} (h : MkV W A c m) (hb : Below W.heap.size W W') : MkV W' A c m := ⟨Kd.C_below h.cells hb, h.cap⟩
theorem MkV.at {W : World} {A : Option Addr} {c : Nat} {m : List Bool} (h : MkV W A c m) {i : Nat} (hi : i < m.length) : ∃ ad, A = some ad ∧ W.cell? (ad.add i) = some (.bool (mkd m i)) := by
 obtain ⟨ad, e, hc⟩ := Kd.at_bool h.cells (i : Int) (by omega) (by omega)
 rw [rdOf_mkd rfl] at hc
 exact ⟨ad, e, by simpa using hc⟩
theorem ta_gen {P : Program} (S X : TypeId) (ut : TypeDesc) (hu : P.underlying S = some ut) (hni : ∀ ms, ut ≠ .interface ms) (z : Value) (hz : ∀ w, (zeroValue S).run P w = .ok z w) (T : TypeId) (u : Value) (w : World) :
 (Instr.typeAssert (.iface T u) X S true).run P w = .ok (if T = S then .tuple #[u, .bool true] else .tuple #[z, .bool false]) w := by
 unfold Instr.typeAssert
 simp only [Sem.run_bind, run_underlying hu, Result.andThen_ok]
 cases ut <;> first | (exact absurd rfl (hni _)) | skip
 all_goals
  by_cases h : T = S
  ·simp [h]
  simp [h, hz]
theorem ta_nil {P : Program} (S X : TypeId) (ut : TypeDesc) (hu : P.underlying S = some ut) (hni : ∀ ms, ut ≠ .interface ms) (z : Value) (hz : ∀ w, (zeroValue S).run P w = .ok z w) (w : World) :
 (Instr.typeAssert .nilIface X S true).run P w = .ok (.tuple #[z, .bool false]) w := by
 unfold Instr.typeAssert
 simp only [Sem.run_bind, run_underlying hu, Result.andThen_ok]
 cases ut <;> first | (exact absurd rfl (hni _)) | skip
 all_goals simp [hz]
theorem ta_set (T : TypeId) (u : Value) (w : World) : (Instr.typeAssert (.iface T u) 127 200 true).run Try.prog w = .ok (if T = 200 then .tuple #[u, .bool true] else .tuple #[.agg #[.slice none 0 0], .bool false]) w :=
 ta_gen _ _ _ Try.underlying200 (by intro ms h; cases h) _ (fun _ => by kernel_rfl) T u w
theorem ta_ref (T : TypeId) (u : Value) (w : World) : (Instr.typeAssert (.iface T u) 127 202 true).run Try.prog w = .ok (if T = 202 then .tuple #[u, .bool true] else .tuple #[.agg #[.int .i64 0], .bool false]) w :=
 ta_gen _ _ _ Try.underlying202 (by intro ms h; cases h) _ (fun _ => by kernel_rfl) T u w
theorem ta_thr (T : TypeId) (u : Value) (w : World) : (Instr.typeAssert (.iface T u) 127 204 true).run Try.prog w = .ok (if T = 204 then .tuple #[u, .bool true] else .tuple #[.agg #[.int .i64 0], .bool false]) w :=
 ta_gen _ _ _ Try.underlying204 (by intro ms h; cases h) _ (fun _ => by kernel_rfl) T u w
theorem ta_seq (T : TypeId) (u : Value) (w : World) : (Instr.typeAssert (.iface T u) 127 189 true).run Try.prog w = .ok (if T = 189 then .tuple #[u, .bool true] else .tuple #[.agg #[.nilIface, .nilIface], .bool false]) w :=
 ta_gen _ _ _ Try.underlying189 (by intro ms h; cases h) _ (fun _ => by kernel_rfl) T u w
theorem tn_seq (w : World) : (Instr.typeAssert .nilIface 127 189 true).run Try.prog w = .ok (.tuple #[.agg #[.nilIface, .nilIface], .bool false]) w :=
 ta_nil _ _ _ Try.underlying189 (by intro ms h; cases h) _ (fun _ => by kernel_rfl) w
theorem ta_alt (T : TypeId) (u : Value) (w : World) : (Instr.typeAssert (.iface T u) 127 190 true).run Try.prog w = .ok (if T = 190 then .tuple #[u, .bool true] else .tuple #[.agg #[.nilIface, .nilIface], .bool false]) w :=
 ta_gen _ _ _ Try.underlying190 (by intro ms h; cases h) _ (fun _ => by kernel_rfl) T u w
theorem tn_alt (w : World) : (Instr.typeAssert .nilIface 127 190 true).run Try.prog w = .ok (.tuple #[.agg #[.nilIface, .nilIface], .bool false]) w :=
 ta_nil _ _ _ Try.underlying190 (by intro ms h; cases h) _ (fun _ => by kernel_rfl) w
theorem ta_star (T : TypeId) (u : Value) (w : World) : (Instr.typeAssert (.iface T u) 127 192 true).run Try.prog w = .ok (if T = 192 then .tuple #[u, .bool true] else .tuple #[.agg #[.nilIface], .bool false]) w :=
 ta_gen _ _ _ Try.underlying192 (by intro ms h; cases h) _ (fun _ => by kernel_rfl) T u w
theorem tn_star (w : World) : (Instr.typeAssert .nilIface 127 192 true).run Try.prog w = .ok (.tuple #[.agg #[.nilIface], .bool false]) w :=
 ta_nil _ _ _ Try.underlying192 (by intro ms h; cases h) _ (fun _ => by kernel_rfl) w
theorem ta_neg (T : TypeId) (u : Value) (w : World) : (Instr.typeAssert (.iface T u) 127 193 true).run Try.prog w = .ok (if T = 193 then .tuple #[u, .bool true] else .tuple #[.agg #[.nilIface], .bool false]) w :=
 ta_gen _ _ _ Try.underlying193 (by intro ms h; cases h) _ (fun _ => by kernel_rfl) T u w
theorem tn_neg (w : World) : (Instr.typeAssert .nilIface 127 193 true).run Try.prog w = .ok (.tuple #[.agg #[.nilIface], .bool false]) w :=
 ta_nil _ _ _ Try.underlying193 (by intro ms h; cases h) _ (fun _ => by kernel_rfl) w
def OV (W : World) : Option Tr → Value → Prop
 | none, v => v = .nilIface
 | some t, v => TrV W t v
theorem OV.below {W W' : World} {o : Option Tr} {v : Value} (h : OV W o v) (hb : Below W.heap.size W W') : OV W' o v := by
 cases o with
 | none => exact h
 | some t => exact TrV.below hb h
theorem OV.one {W : World} {o : Option Tr} {v : Value} (h : OV W o v) : v = .nilIface ∨ ∃ T u, v = .iface T u := by
 cases o with
 | none => exact .inl h
 | some t => exact .inr (TrV.iface h)
end Go.Proofs.Ytdiilocgjnlmiaa.Tre
end
section
namespace Go.Proofs.Ytdiilocgjnlmiaa.Tre
open Go.RowKit Go.Proofs.YtdiilocgjnlmiaaW.PrintWords Go.Proofs.YtdiilocgjnlmiaaW.PrintLast Go.Proofs.YtdiilocgjnlmiaaW.PrintMore
open Go.Proofs.Ytdiilocgjnlmiaa.PAll
set_option linter.unusedVariables false
set_option linter.unusedSimpArgs false
def TsL (W : World) (ts : List (Option Tr)) (i : Nat) (xs : List Value) : Prop := ∀ j, j < i → ∃ u, xs[j]? = some u ∧ OV W (tr ts j) u
theorem TsL.below {W W' : World} {ts : List (Option Tr)} {i : Nat} {xs : List Value} (h : TsL W ts i xs) (hb : Below W.heap.size W W') : TsL W' ts i xs := fun j hj => by
 obtain ⟨u, h1, h2⟩ := h j hj
 exact ⟨u, h1, h2.below hb⟩
structure TsV (W : World) (A : Option Addr) (c : Nat) (ts : List (Option Tr)) : Prop where
 get : ∀ j, j < ts.length → ∃ ad u, A = some ad ∧ W.cell? (ad.add j) = some u ∧ OV W (tr ts j) u
 cap : ts.length ≤ c
theorem TsV.below {W W' : World} {A : Option Addr} {c : Nat} {ts : List (Option Tr)} (h : TsV W A c ts) (hb : Below W.heap.size W W') : TsV W' A c ts := ⟨fun j hj => by
 obtain ⟨ad, u, h1, h2, h3⟩ := h.get j hj
 exact ⟨ad, u, h1, pw_cell_below hb h2, h3.below hb⟩, h.cap⟩
structure GoSt (w0 w W : World) (B : Nat) (R : Int) (ts : List (Option Tr)) (v : Value) (xs : List Value) (i : Nat) : Prop where
 box : W.heap[B]? = some (.cells #[v, .int .i64 R] 116 (0, 0))
 own : W.ownsRow w.heap.size 127 1 v i xs
 row : TsL w0 ts i xs
 bel : Below w.heap.size w W
theorem GoSt.below {w0 w W W' : World} {B : Nat} {R : Int} {ts : List (Option Tr)} {v : Value} {xs : List Value} {i : Nat} (h : GoSt w0 w W B R ts v xs i) (hb : Below W.heap.size W W') : GoSt w0 w W' B R ts v xs i :=
 ⟨blk_below h.box hb, own_same h.own (fun b _ hl => hb.block b hl), h.row, below_then h.bel h.bel.size hb⟩
theorem ov_of_post {w0 w w' : World} {ops : List Op} {e : Ending} (h : TreePost w0 w ops e w') : ∃ v b, e = .returned (.tuple #[v, .bool b]) ∧ OV w0 (treeF ops) v ∧ Below w.heap.size w w' := by
 obtain ⟨v, b, h1, h2, _, h4, h5⟩ := h
 refine ⟨v, b, h1, ?_, h2⟩
 cases ht : treeF ops with
 | none => exact h4 ht
 | some t => exact h5 t ht
structure GOK (Rs : List Ru) (Ls : List La) : Prop where
 rt : ∀ i, i < Rs.length → ∃ t, treeF (ru Rs i).f1 = some t
 lt : ∀ j, j < Ls.length → (la Ls j).f1 = true → ∃ t, treeF (la Ls j).f2 = some t
 ln : ∀ j, j < Ls.length → (la Ls j).f1 = false → (la Ls j).f2 = []
theorem Valid.gok {Rs : List Ru} {Ls : List La} (h : Valid Rs Ls) : GOK Rs Ls := by
 refine ⟨fun i hi => ?_, fun j hj hh => ?_, fun j hj hh => List.length_eq_zero_iff.1 ((h.labels j hj).none hh)⟩
 ·obtain ⟨x, h1, _⟩ := body_tree (h.rules i hi).body
  exact ⟨x, h1⟩
 obtain ⟨x, h1, _⟩ := body_tree ((h.labels j hj).body hh)
 exact ⟨x, h1⟩
theorem tr_ru {Rs : List Ru} {Ls : List La} {i : Nat} (hi : i < Rs.length) {t : Tr} (h : treeF (ru Rs i).f1 = some t) : tr (trees Rs Ls) i = some t := by rw [tr_trees (by omega), bodyN_ru hi]; exact h
theorem tr_la {Rs : List Ru} {Ls : List La} {j : Nat} (hj : j < Ls.length) : tr (trees Rs Ls) (Rs.length + j) = treeF (la Ls j).f2 := by rw [tr_trees (by omega), bodyN_la hj]
end Go.Proofs.Ytdiilocgjnlmiaa.Tre
end
section
namespace Go.Proofs.Ytdiilocgjnlmiaa.Tre
open Go.RowKit Go.Proofs.YtdiilocgjnlmiaaW.PrintWords Go.Proofs.YtdiilocgjnlmiaaW.PrintLast Go.Proofs.YtdiilocgjnlmiaaW.PrintMore
open Go.Proofs.Ytdiilocgjnlmiaa.PAll Go.Maps
set_option linter.unusedVariables false
set_option linter.unusedSimpArgs false
section
variable {P : Program} {w : World} {K E : TypeId} {b n : Nat} {f : Lit → Bool}
end
def nodesV (xs : List Nat) : List Value := xs.map fun (x : Nat) => Value.int .i64 (x : Int)
structure WkSt (W : World) (wb : Nat) (v mp : Value) (items : List Nat) (p : Nat) : Prop where
 box : W.heap[wb]? = some (.cells #[v, mp] 181 (0, 0))
 q : QRow W wb 125 1 v items.length (nodesV items)
 map : (mp = .map none ∧ items = []) ∨ ∃ mb f, mp = .map (some mb) ∧ wb < mb ∧ MapB Try.prog W 125 4 mb p f ∧ ∀ x : Nat, f (.int .i64 (x : Int)) = decide (x ∈ items)
theorem WkSt.below {W W' : World} {wb : Nat} {v mp : Value} {items : List Nat} {p : Nat} (h : WkSt W wb v mp items p) (hb : Below W.heap.size W W') : WkSt W' wb v mp items p :=
 ⟨blk_below h.box hb, q_move h.q fun k hk => hb.block k (q_lt h.q k hk), h.map.imp id fun ⟨mb, f, h1, h2, h3, h4⟩ => ⟨mb, f, h1, h2, h3.below hb, h4⟩⟩
structure WkRun (w W : World) (wb mb : Nat) (v0 v : Value) (items : List Nat) (p : Nat) : Prop where
 box : W.heap[wb]? = some (.cells #[v, .map (some mb)] 181 (0, 0))
 q : QRow W wb 125 1 v items.length (nodesV items)
 map : ∃ f, MapB Try.prog W 125 4 mb p f ∧ ∀ x : Nat, f (.int .i64 (x : Int)) = decide (x ∈ items)
 lt : wb < mb
 bel : Below wb w W
 size : w.heap.size ≤ W.heap.size
 same : ∀ b, b < w.heap.size → b ≠ wb → b ≠ mb → some b ≠ v0.ownBlock → W.heap[b]? = w.heap[b]?
 own : v.ownBlock = v0.ownBlock ∨ ∃ b, v.ownBlock = some b ∧ w.heap.size ≤ b
theorem add_block (ad : Addr) (j : Nat) : (ad.add j).block = ad.block := by unfold Addr.add; split <;> rfl
theorem WkRun.turn {w W W1 : World} {wb mb : Nat} {v0 v : Value} {items : List Nat} {p : Nat} (h : WkRun w W wb mb v0 v items p) (hwb : wb < w.heap.size) (hg : W.grownBy W1 (some mb)) : W1.heap[wb]? = some (.cells #[v, .map (some mb)] 181 (0, 0)) ∧ QRow W1 wb 125 1 v items.length (nodesV items) := by
 have hne : some wb ≠ some mb := fun e => absurd (Option.some.inj e) (Nat.ne_of_lt h.lt)
 obtain ⟨f, ⟨D, ⟨es, clock, hm, _⟩, _⟩, _⟩ := h.map
 refine ⟨blk_grown h.box hg hne, q_move h.q fun k hk => hg.block k (q_lt h.q k hk) fun e => ?_⟩
 obtain ⟨_, cells, hc⟩ := q_typed h.q k hk
 rw [Option.some.inj e, hm] at hc
 cases hc
theorem WkRun.next {w W W1 W2 : World} {wb mb : Nat} {v0 v v' : Value} {items : List Nat} {p x : Nat} {f : Lit → Bool} (h : WkRun w W wb mb v0 v items p) (hwb : wb < w.heap.size) (hg : W.grownBy W1 (some mb)) (hM : MapB Try.prog W1 125 4 mb (p + 1) f) (hf : ∀ y : Nat, f (.int .i64 (y : Int)) = decide (y ∈ items ++ [x]))
 (hq : QRow W2 wb 125 1 v' (items.length + 1) (nodesV items ++ [.int .i64 (x : Int)])) (hg2 : W1.grownBy W2 v.ownBlock) (hat : v'.ownBlock = v.ownBlock ∨ ∃ b, v'.ownBlock = some b ∧ W1.heap.size ≤ b) : WkRun w (W2.setCell ⟨wb, 0, none⟩ v') wb mb v0 v' (items ++ [x]) (p + 1) := by
 obtain ⟨b1, q1⟩ := h.turn hwb hg
 have hv : some mb ≠ v.ownBlock := fun e => by
  obtain ⟨f, ⟨D, ⟨es, clock, hm, _⟩, _⟩, _⟩ := h.map
  obtain ⟨_, cells, hc⟩ := q_typed h.q mb e.symm
  rw [hm] at hc
  cases hc
 have hw : some wb ≠ v.ownBlock := fun e => by
  obtain ⟨_, cells, hc⟩ := q_typed h.q wb e.symm
  rw [h.box] at hc
  injection hc with hc
  injection hc with _ hc _
  exact absurd hc (by decide)
 have hw' : v'.ownBlock ≠ some wb := fun e => by
  obtain ⟨_, cells, hc⟩ := q_typed hq wb e
  rw [blk_grown b1 hg2 hw] at hc
  injection hc with hc
  injection hc with _ hc _
  exact absurd hc (by decide)
 have hsz : w.heap.size ≤ W1.heap.size := Nat.le_trans h.size hg.size
 have hbe : Below wb w W2 := (h.bel.grown hg (Nat.le_trans (Nat.le_of_lt hwb) h.size) fun k hk => by rw [← Option.some.inj hk]; exact Nat.le_of_lt h.lt).grown hg2 (Nat.le_trans (Nat.le_of_lt hwb) hsz) fun k hk => (q_typed h.q k hk).1
 refine ⟨blk_put (blk_grown b1 hg2 hw) 0 v' rfl, ?_, ⟨f, (hM.kept hg2 hv).setCell (fun e => absurd e (Nat.ne_of_gt h.lt)) _, hf⟩, h.lt, hbe.setCell (Nat.le_refl _) _, by simp; exact Nat.le_trans hsz hg2.size, fun b hb h1 h2 h3 => ?_, ?_⟩
 ·rw [nodesV, List.map_append, List.length_append]
  exact q_move hq fun k hk => Below.heap_setCell _ _ _ _ fun e => hw' (by rw [hk]; exact congrArg some e)
 ·rw [Below.heap_setCell _ _ _ _ h1, hg2.block b (Nat.lt_of_lt_of_le hb hsz), hg.block b (Nat.lt_of_lt_of_le hb h.size), h.same b hb h1 h2 h3]
  ·exact fun e => h2 (Option.some.inj e)
  rcases h.own with e | ⟨b', e, e2⟩
  ·rw [e]; exact h3
  rw [e]; intro e3; have := Option.some.inj e3; omega
 rcases hat with e | ⟨b', e, e2⟩
 ·rw [e]; exact h.own
 exact .inr ⟨b', e, by omega⟩
theorem WkRun.st {w W : World} {wb mb : Nat} {v0 v : Value} {items : List Nat} {p : Nat} (h : WkRun w W wb mb v0 v items p) : WkSt W wb v (.map (some mb)) items p := by
 obtain ⟨f, h1, h2⟩ := h.map
 exact ⟨h.box, h.q, .inr ⟨mb, f, rfl, h.lt, h1, h2⟩⟩
theorem WkRun.mono {w W : World} {wb mb : Nat} {v0 v : Value} {items : List Nat} {p p' : Nat} (h : WkRun w W wb mb v0 v items p) (hp : p ≤ p') : WkRun w W wb mb v0 v items p' := by
 obtain ⟨f, h1, h2⟩ := h.map
 exact ⟨h.box, h.q, ⟨f, h1.mono hp, h2⟩, h.lt, h.bel, h.size, h.same, h.own⟩
theorem WkRun.apart {w W W1 : World} {wb mb : Nat} {v0 v : Value} {items : List Nat} {p : Nat} (h : WkRun w W wb mb v0 v items p) (hwb : wb < w.heap.size) (hg : W.grownBy W1 (some mb)) : some wb ≠ v.ownBlock := fun e => by
 obtain ⟨_, cells, hc⟩ := q_typed h.q wb e.symm
 rw [h.box] at hc
 injection hc with hc
 injection hc with _ hc _
 exact absurd hc (by decide)
end Go.Proofs.Ytdiilocgjnlmiaa.Tre
end
