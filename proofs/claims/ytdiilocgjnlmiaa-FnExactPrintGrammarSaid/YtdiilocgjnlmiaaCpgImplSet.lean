import Derived.Test.YtdiilocgjnlmiaaCpgWork
import Derived.Test.YtdiilocgjnlmiaaCpgBuilt
namespace Go.Proofs.Ytdiilocgjnlmiaa.Tre
open Go.RowKit Go.Proofs.YtdiilocgjnlmiaaW.PrintWords Go.Proofs.YtdiilocgjnlmiaaW.PrintLast Go.Proofs.YtdiilocgjnlmiaaW.PrintMore
open Go.Proofs.Ytdiilocgjnlmiaa.PAll
set_option linter.unusedVariables false
set_option linter.unusedSimpArgs false
set_option maxRecDepth 100000 in
set_option maxHeartbeats 16000000 in
theorem iset_in (s : List Int) (hs : okS s) (A : Option Addr) (c : Nat) (hc : s.length ≤ c) (w : World) (hC : Kd.C (Kd.int .i64) w A s.length s) : Calls Try.prog 139 #[.slice A s.length c] w (StrPost w (stF s)) := by
 obtain ⟨M, hM⟩ := hs.ev
 have HM := Aside0.mk hM
 have HS := Aside0.mk hs
 have HC := Aside0.mk hC
 by_cases hn : s.length = 2
 rotate_left
 ·have HROW : Aside0 (stF s = (⟨#[91]⟩ ++ rgF s) ++ ⟨#[93]⟩) := ⟨stF_row s (fun h => hn h.1) (fun h => hn h.1)⟩
  have b1 : ((s.length : Int) == 2) = false := beq_eq_false_iff_ne.mpr (by omega)
  clear hs hC hM hn
  go_enter Try.func139, Try.ntmps139
  go_wp2_with (go_at_call 167; refine (sb_byte (w0 := w) (b := w.heap.size) 91 (by decide) (by decide) (SB.newAt (w := w) ?h1 ?h2) (by decide)).mono ?_; (case h1 => repeat (first | exact Below.refl _ _ | apply pw_below_drewN | apply Below.drew)); (case h2 => first | rfl | simp); go_must (rintro e W0 ⟨rfl, hb⟩; have HB0 := Aside0.mk hb; clear hb))
  (try repeat (go_quiet (fail); try go_wp2_with (go_at_call 167; refine (sb_byte (w0 := w) (b := w.heap.size) 91 (by decide) (by decide) (SB.newAt (w := w) ?h1 ?h2) (by decide)).mono ?_; (case h1 => repeat (first | exact Below.refl _ _ | apply pw_below_drewN | apply Below.drew)); (case h2 => first | rfl | simp); go_must (rintro e W0 ⟨rfl, hb⟩; have HB0 := Aside0.mk hb; clear hb))))
  go_loopg [4] M (fun kq v4 w' => ∃ (acc : ByteArray) (i : Nat), v4 = .int .i64 (i : Int) ∧ Aside0 (i + 2 * kq = s.length) ∧ Aside0 (acc ++ rgF (s.drop i) = ⟨#[91]⟩ ++ rgF s) ∧ Aside0 (acc.size ≤ 1 + 9 * i) ∧ Aside0 (SB w w' w.heap.size acc))
  case atStart => exact ⟨_, 0, rfl, ⟨by have := HM.out; omega⟩, ⟨by rw [List.drop_zero]; rfl⟩, ⟨by exact (by decide : (ByteArray.empty ++ oneB 91).size ≤ 1 + 9 * 0)⟩, HB0⟩
  case round =>
   obtain ⟨acc, i, rfl, I1, I2, I3, I4⟩ := hrel
   have hsz := HS.out.sz
   have i1 := I1.out
   have i3 := I3.out
   have lb : w.heap.size < wr.heap.size := by
    rcases I4.out.is with h | h <;> exact h.lt
   cases gk with
   | zero =>
    have d : decide ((i : Int) < (s.length : Int)) = false := decide_eq_false (by omega)
    have d' : decide (i < s.length) = false := decide_eq_false (by omega)
    have HE : Aside0 (stF s = acc ++ oneB 93) := ⟨by
     have h := I2.out
     rw [rg_end (by omega), ByteArray.append_empty] at h
     rw [HROW.out, h]
     rfl⟩
    have z0 : acc.size ≤ 99999999 := by omega
    clear i1 i3 hsz
    go_wp2_with (first
     | (go_at_call 93; refine (sb_end HB9.out).mono ?_; go_must (rintro e W2 ⟨rfl, hb⟩; have HB10 := Aside0.mk hb; clear hb))
     | (go_at_call 167; refine (sb_byte 93 (by decide) (by decide) I4.out (by omega)).mono ?_; go_must (rintro e W9 ⟨rfl, hb⟩; have HB9 := Aside0.mk hb; clear hb)))
    go_ret
    rw [HE.out]
    exact ⟨rfl, HB10.out⟩
   | succ k1 =>
    obtain ⟨q, hq⟩ : ∃ q : Nat, q = i + 1 := ⟨_, rfl⟩
    have d : decide ((i : Int) < (s.length : Int)) = true := decide_eq_true (by omega)
    have d' : decide (i < s.length) = true := decide_eq_true (by omega)
    have ew : IntKind.i64.wrap ((i : Int) + 1) = (q : Int) := (i64_w _).trans (by rw [wid (by omega) (by omega)]; omega)
    have ew2 : IntKind.i64.wrap ((i : Int) + 2) = ((i + 2 : Nat) : Int) := (i64_w _).trans (by rw [wid (by omega) (by omega)]; omega)
    have hr := rg_rd s i (by omega)
    rw [← hq] at hr
    obtain ⟨ad, e, x0⟩ := cell_s HC.out i (by omega)
    first | (injection e with e; subst e) | subst e
    obtain ⟨ad2, e, x1⟩ := cell_s HC.out q (by omega)
    (injection e with e; subst e)
    obtain ⟨p0, p1⟩ := HS.out.by_ i
    obtain ⟨q0, q1⟩ := HS.out.by_ q
    generalize rd s (i : Int) = lo at *
    generalize rd s (q : Int) = hi at *
    obtain ⟨lo1, hlo1⟩ : ∃ lo1 : Int, lo1 = lo + 1 := ⟨_, rfl⟩
    have el : IntKind.i64.wrap (lo + 1) = lo1 := (i64_w _).trans (by rw [wid (by omega) (by omega)]; omega)
    replace x0 := pw_cell_below I4.out.bel x0
    replace x1 := pw_cell_below I4.out.bel x1
    have lx := World.block_lt_of_cell? _ _ x0
    have e1 : (0 ≤ (i : Int)) = True := eq_true (by omega)
    have e2 : ((i : Int) < (s.length : Int)) = True := eq_true (by omega)
    have e3 : (0 ≤ (q : Int)) = True := eq_true (by omega)
    have e4 : ((q : Int) < (s.length : Int)) = True := eq_true (by omega)
    have s1 := size_btF lo
    have s2 := size_btF hi
    have Y0 : Aside0 (acc.size + (btF lo).size ≤ 1099511627776) := ⟨by omega⟩
    have Y1 : Aside0 ((acc ++ btF lo).size + 1 ≤ 1099511627776) := ⟨by rw [ByteArray.size_append]; omega⟩
    have Y2 : Aside0 ((acc ++ btF lo).size + (btF hi).size ≤ 1099511627776) := ⟨by rw [ByteArray.size_append]; omega⟩
    have Y3 : Aside0 (((acc ++ btF lo) ++ oneB 45).size + (btF hi).size ≤ 1099511627776) := ⟨by rw [ByteArray.size_append, ByteArray.size_append, size_oneB]; omega⟩
    obtain ⟨j, hj⟩ : ∃ j : Nat, j = i + 2 := ⟨_, rfl⟩
    rw [← hj] at hr ew2
    have HJ := Aside0.mk hj
    have hg := I2.out
    rw [hr] at hg
    clear I2 hr
    rcases (by omega : hi > lo + 1 ∨ (¬ hi > lo + 1 ∧ hi > lo) ∨ (¬ hi > lo + 1 ∧ ¬ hi > lo)) with g | ⟨g, g'⟩ | ⟨g, g'⟩
    ·rw [if_pos g, if_pos (by omega)] at hg
     have t1 : decide (hi > lo1) = true := decide_eq_true (by omega)
     have t2 : decide (hi > lo) = true := decide_eq_true (by omega)
     have HG := Aside0.mk hg
     have Z3 : Aside0 ((((acc ++ btF lo) ++ oneB 45) ++ btF hi : ByteArray).size ≤ 1 + 9 * j) := ⟨by (try simp only [ByteArray.size_append, size_oneB]); omega⟩
     clear hg g hlo1 hj i1 i3 hsz hq
     (try clear g')
     go_wp2_with fail
     go_quiet (fail)
     go_upto_region 14 with (first
      | (go_at_call 167; refine (sb_byte 45 (by decide) (by decide) HB2.out (Y1.out)).mono ?_; go_must (rintro e W3 ⟨rfl, hb⟩; have HB3 := Aside0.mk hb; clear hb))
      | (go_at_call 91; refine (sb_str (btF lo) HB1.out (Y0.out)).mono ?_; go_must (rintro e W2 ⟨rfl, hb⟩; have HB2 := Aside0.mk hb; clear hb))
      | (go_at_call 166; refine (ibyte_in lo p0 p1 _).mono ?_; go_must (rintro e W1 ⟨rfl, hb⟩; have HB1 : Aside0 (SB w W1 w.heap.size (acc)) := ⟨I4.out.below (below_then (by repeat (first | exact Below.refl _ _ | apply pw_below_drewN | apply Below.drew)) (by first | exact Nat.le_refl _ | simp) hb)⟩; clear hb))
      | fail)
     go_wp2_with (first
      | (go_at_call 91; refine (sb_str (btF hi) HB4.out (Y3.out)).mono ?_; go_must (rintro e W5 ⟨rfl, hb⟩; have HB5 := Aside0.mk hb; clear hb))
      | (go_at_call 166; refine (ibyte_in hi q0 q1 _).mono ?_; go_must (rintro e W4 ⟨rfl, hb⟩; have HB4 : Aside0 (SB w W4 w.heap.size ((acc ++ btF lo) ++ oneB 45)) := ⟨HB3.out.below (below_then (by repeat (first | exact Below.refl _ _ | apply pw_below_drewN | apply Below.drew)) (by first | exact Nat.le_refl _ | simp) hb)⟩; clear hb))
      | fail)
     go_roundg k1
     case measure => omega
     case rel => exact ⟨_, j, rfl, ⟨by have := I1.out; have := HJ.out; omega⟩, ⟨by rw [← HG.out]; simp only [ByteArray.append_assoc, ByteArray.append_empty, ByteArray.empty_append]; try rfl⟩, Z3, HB5⟩
    ·rw [if_neg g, if_pos g'] at hg
     have t1 : decide (hi > lo1) = false := decide_eq_false (by omega)
     have t2 : decide (hi > lo) = true := decide_eq_true (by omega)
     have HG := Aside0.mk hg
     have Z3 : Aside0 (((acc ++ btF lo) ++ btF hi : ByteArray).size ≤ 1 + 9 * j) := ⟨by (try simp only [ByteArray.size_append, size_oneB]); omega⟩
     clear hg g hlo1 hj i1 i3 hsz hq
     (try clear g')
     go_wp2_with fail
     go_quiet (fail)
     go_upto_region 14 with (first
      | (go_at_call 91; refine (sb_str (btF lo) HB1.out (Y0.out)).mono ?_; go_must (rintro e W2 ⟨rfl, hb⟩; have HB2 := Aside0.mk hb; clear hb))
      | (go_at_call 166; refine (ibyte_in lo p0 p1 _).mono ?_; go_must (rintro e W1 ⟨rfl, hb⟩; have HB1 : Aside0 (SB w W1 w.heap.size (acc)) := ⟨I4.out.below (below_then (by repeat (first | exact Below.refl _ _ | apply pw_below_drewN | apply Below.drew)) (by first | exact Nat.le_refl _ | simp) hb)⟩; clear hb))
      | fail)
     go_wp2_with (first
      | (go_at_call 91; refine (sb_str (btF hi) HB4.out (Y2.out)).mono ?_; go_must (rintro e W5 ⟨rfl, hb⟩; have HB5 := Aside0.mk hb; clear hb))
      | (go_at_call 166; refine (ibyte_in hi q0 q1 _).mono ?_; go_must (rintro e W4 ⟨rfl, hb⟩; have HB4 : Aside0 (SB w W4 w.heap.size (acc ++ btF lo)) := ⟨HB2.out.below (below_then (by repeat (first | exact Below.refl _ _ | apply pw_below_drewN | apply Below.drew)) (by first | exact Nat.le_refl _ | simp) hb)⟩; clear hb))
      | fail)
     go_roundg k1
     case measure => omega
     case rel => exact ⟨_, j, rfl, ⟨by have := I1.out; have := HJ.out; omega⟩, ⟨by rw [← HG.out]; simp only [ByteArray.append_assoc, ByteArray.append_empty, ByteArray.empty_append]; try rfl⟩, Z3, HB5⟩
    rw [if_neg g, if_neg g'] at hg
    have t1 : decide (hi > lo1) = false := decide_eq_false (by omega)
    have t2 : decide (hi > lo) = false := decide_eq_false (by omega)
    have HG := Aside0.mk hg
    have Z3 : Aside0 ((acc ++ btF lo : ByteArray).size ≤ 1 + 9 * j) := ⟨by (try simp only [ByteArray.size_append, size_oneB]); omega⟩
    clear hg g hlo1 hj i1 i3 hsz hq
    (try clear g')
    go_wp2_with fail
    go_quiet (fail)
    go_upto_region 14 with (first
     | (go_at_call 91; refine (sb_str (btF lo) HB1.out (Y0.out)).mono ?_; go_must (rintro e W2 ⟨rfl, hb⟩; have HB2 := Aside0.mk hb; clear hb))
     | (go_at_call 166; refine (ibyte_in lo p0 p1 _).mono ?_; go_must (rintro e W1 ⟨rfl, hb⟩; have HB1 : Aside0 (SB w W1 w.heap.size (acc)) := ⟨I4.out.below (below_then (by repeat (first | exact Below.refl _ _ | apply pw_below_drewN | apply Below.drew)) (by first | exact Nat.le_refl _ | simp) hb)⟩; clear hb))
     | fail)
    go_wp2_with fail
    go_roundg k1
    case measure => omega
    case rel => exact ⟨_, j, rfl, ⟨by have := I1.out; have := HJ.out; omega⟩, ⟨by rw [← HG.out]; simp only [ByteArray.append_assoc, ByteArray.append_empty, ByteArray.empty_append]; try rfl⟩, Z3, HB2⟩
 have hb0 := hs.by_ 0
 have hb1 := hs.by_ 1
 obtain ⟨ad0, hA, g0⟩ := cell_s hC 0 (by omega)
 obtain ⟨ad1, hA1, g1⟩ := cell_s hC 1 (by omega)
 subst hA
 obtain rfl : ad0 = ad1 := by injection hA1
 have h2 := two_of hn
 have k0 : s[0]? = some (rd s ((0 : Nat) : Int)) := by rw [h2]; rfl
 have k1 : s[1]? = some (rd s ((1 : Nat) : Int)) := by rw [h2]; rfl
 generalize rd s ((0 : Nat) : Int) = l0 at *
 generalize rd s ((1 : Nat) : Int) = l1 at *
 have ga : ad0.add 0 = ad0 := by first | rfl | simp | (cases ad0; simp [Addr.add])
 rw [ga] at g0
 clear ga
 have g2 := g1
 simp only [Addr.add, Nat.one_ne_zero, if_false] at g2
 have lg := World.block_lt_of_cell? _ _ g0
 have b1 : ((s.length : Int) == 2) = true := beq_iff_eq.mpr (by omega)
 have f0 : (0 < (s.length : Int)) = True := eq_true (by omega)
 have f1 : (1 < (s.length : Int)) = True := eq_true (by omega)
 have f2 : (0 < s.length) = True := eq_true (by omega)
 have f3 : (1 < s.length) = True := eq_true (by omega)
 by_cases c1 : l0 = 0 ∧ l1 = 255
 ·have HE : Aside0 (stF s = ⟨#[46]⟩) := ⟨by rw [h2]; exact if_pos c1⟩
  obtain ⟨rfl, rfl⟩ := c1
  clear hs hC hM hn h2 k0 k1 hb0 hb1
  go_enter Try.func139, Try.ntmps139
  go_wp2_with fail
  (try repeat (go_quiet (fail); try go_wp2_with fail))
  go_ret
  rw [HE.out]
  exact ⟨rfl, by repeat (first | exact Below.refl _ _ | apply pw_below_drewN | apply Below.drew)⟩
 by_cases c2 : l0 = l1
 ·have HE : Aside0 (stF s = (⟨#[34]⟩ ++ btF l0) ++ ⟨#[34]⟩) := ⟨by rw [h2]; show (if l0 = 0 ∧ l1 = 255 then _ else if l0 = l1 then _ else _) = _; rw [if_neg c1, if_pos c2]⟩
  subst c2
  have hbb := hb0
  obtain ⟨p0, p1⟩ := hbb
  have s1 := size_btF l0
  have z1 : (⟨#[34]⟩ ++ btF l0 : ByteArray).size ≤ 5 := by rw [ByteArray.size_append]; show 1 + _ ≤ _; omega
  have b4 : (l0 == l0) = true := beq_self_eq_true _
  by_cases c3 : l0 = 0
  ·subst c3
   clear hs hC hM hn h2 k0 k1 hb0 hb1 c1
   go_enter Try.func139, Try.ntmps139
   go_wp2_with fail
   repeat (go_quiet (fail); try go_wp2_with ((go_at_call 166; refine (ibyte_in _ p0 p1 _).mono ?_; go_must (rintro e W1 ⟨rfl, hb⟩; have HB1 : Aside0 (Below w.heap.size w W1) := ⟨below_then (by repeat (first | exact Below.refl _ _ | apply pw_below_drewN | apply Below.drew)) (by first | exact Nat.le_refl _ | simp) hb⟩; clear hb))))
   go_ret
   rw [HE.out]
   exact ⟨rfl, HB1.out⟩
  have b3 : (l0 == 0) = false := beq_eq_false_iff_ne.mpr c3
  clear hs hC hM hn h2 k0 k1 hb0 hb1 c1 c3
  go_enter Try.func139, Try.ntmps139
  go_wp2_with fail
  repeat (go_quiet (fail); try go_wp2_with ((go_at_call 166; refine (ibyte_in _ p0 p1 _).mono ?_; go_must (rintro e W1 ⟨rfl, hb⟩; have HB1 : Aside0 (Below w.heap.size w W1) := ⟨below_then (by repeat (first | exact Below.refl _ _ | apply pw_below_drewN | apply Below.drew)) (by first | exact Nat.le_refl _ | simp) hb⟩; clear hb))))
  go_ret
  rw [HE.out]
  exact ⟨rfl, HB1.out⟩
 have HROW : Aside0 (stF s = (⟨#[91]⟩ ++ rgF s) ++ ⟨#[93]⟩) := ⟨stF_row s (fun h => c1 ⟨by have := k0.symm.trans h.2.1; injection this, by have := k1.symm.trans h.2.2; injection this⟩) (fun h => c2 (by have := h.2; rw [k0, k1] at this; injection this))⟩
 have b4 : (l0 == l1) = false := beq_eq_false_iff_ne.mpr c2
 have hgo : (l0 = 0 ∧ (l1 == 255) = false) ∨ (l0 == 0) = false := by
  by_cases h : l0 = 0
  ·exact .inl ⟨h, beq_eq_false_iff_ne.mpr fun h' => c1 ⟨h, h'⟩⟩
  exact .inr (beq_eq_false_iff_ne.mpr h)
 clear hs hC hM hn h2 k0 k1 hb0 hb1 c1 c2
 rcases hgo with ⟨rfl, b3⟩ | b3
 ·go_enter Try.func139, Try.ntmps139
  go_wp2_with (go_at_call 167; refine (sb_byte (w0 := w) (b := w.heap.size) 91 (by decide) (by decide) (SB.newAt (w := w) ?h1 ?h2) (by decide)).mono ?_; (case h1 => repeat (first | exact Below.refl _ _ | apply pw_below_drewN | apply Below.drew)); (case h2 => first | rfl | simp); go_must (rintro e W0 ⟨rfl, hb⟩; have HB0 := Aside0.mk hb; clear hb))
  (try repeat (go_quiet (fail); try go_wp2_with (go_at_call 167; refine (sb_byte (w0 := w) (b := w.heap.size) 91 (by decide) (by decide) (SB.newAt (w := w) ?h1 ?h2) (by decide)).mono ?_; (case h1 => repeat (first | exact Below.refl _ _ | apply pw_below_drewN | apply Below.drew)); (case h2 => first | rfl | simp); go_must (rintro e W0 ⟨rfl, hb⟩; have HB0 := Aside0.mk hb; clear hb))))
  go_loopg [4] M (fun kq v4 w' => ∃ (acc : ByteArray) (i : Nat), v4 = .int .i64 (i : Int) ∧ Aside0 (i + 2 * kq = s.length) ∧ Aside0 (acc ++ rgF (s.drop i) = ⟨#[91]⟩ ++ rgF s) ∧ Aside0 (acc.size ≤ 1 + 9 * i) ∧ Aside0 (SB w w' w.heap.size acc))
  case atStart => exact ⟨_, 0, rfl, ⟨by have := HM.out; omega⟩, ⟨by rw [List.drop_zero]; rfl⟩, ⟨by exact (by decide : (ByteArray.empty ++ oneB 91).size ≤ 1 + 9 * 0)⟩, HB0⟩
  case round =>
   obtain ⟨acc, i, rfl, I1, I2, I3, I4⟩ := hrel
   have hsz := HS.out.sz
   have i1 := I1.out
   have i3 := I3.out
   have lb : w.heap.size < wr.heap.size := by
    rcases I4.out.is with h | h <;> exact h.lt
   cases gk with
   | zero =>
    have d : decide ((i : Int) < (s.length : Int)) = false := decide_eq_false (by omega)
    have d' : decide (i < s.length) = false := decide_eq_false (by omega)
    have HE : Aside0 (stF s = acc ++ oneB 93) := ⟨by
     have h := I2.out
     rw [rg_end (by omega), ByteArray.append_empty] at h
     rw [HROW.out, h]
     rfl⟩
    have z0 : acc.size ≤ 99999999 := by omega
    clear i1 i3 hsz
    go_wp2_with (first
     | (go_at_call 93; refine (sb_end HB9.out).mono ?_; go_must (rintro e W2 ⟨rfl, hb⟩; have HB10 := Aside0.mk hb; clear hb))
     | (go_at_call 167; refine (sb_byte 93 (by decide) (by decide) I4.out (by omega)).mono ?_; go_must (rintro e W9 ⟨rfl, hb⟩; have HB9 := Aside0.mk hb; clear hb)))
    go_ret
    rw [HE.out]
    exact ⟨rfl, HB10.out⟩
   | succ k1 =>
    obtain ⟨q, hq⟩ : ∃ q : Nat, q = i + 1 := ⟨_, rfl⟩
    have d : decide ((i : Int) < (s.length : Int)) = true := decide_eq_true (by omega)
    have d' : decide (i < s.length) = true := decide_eq_true (by omega)
    have ew : IntKind.i64.wrap ((i : Int) + 1) = (q : Int) := (i64_w _).trans (by rw [wid (by omega) (by omega)]; omega)
    have ew2 : IntKind.i64.wrap ((i : Int) + 2) = ((i + 2 : Nat) : Int) := (i64_w _).trans (by rw [wid (by omega) (by omega)]; omega)
    have hr := rg_rd s i (by omega)
    rw [← hq] at hr
    obtain ⟨ad, e, x0⟩ := cell_s HC.out i (by omega)
    first | (injection e with e; subst e) | subst e
    obtain ⟨ad2, e, x1⟩ := cell_s HC.out q (by omega)
    (injection e with e; subst e)
    obtain ⟨p0, p1⟩ := HS.out.by_ i
    obtain ⟨q0, q1⟩ := HS.out.by_ q
    generalize rd s (i : Int) = lo at *
    generalize rd s (q : Int) = hi at *
    obtain ⟨lo1, hlo1⟩ : ∃ lo1 : Int, lo1 = lo + 1 := ⟨_, rfl⟩
    have el : IntKind.i64.wrap (lo + 1) = lo1 := (i64_w _).trans (by rw [wid (by omega) (by omega)]; omega)
    replace x0 := pw_cell_below I4.out.bel x0
    replace x1 := pw_cell_below I4.out.bel x1
    have lx := World.block_lt_of_cell? _ _ x0
    have e1 : (0 ≤ (i : Int)) = True := eq_true (by omega)
    have e2 : ((i : Int) < (s.length : Int)) = True := eq_true (by omega)
    have e3 : (0 ≤ (q : Int)) = True := eq_true (by omega)
    have e4 : ((q : Int) < (s.length : Int)) = True := eq_true (by omega)
    have s1 := size_btF lo
    have s2 := size_btF hi
    have Y0 : Aside0 (acc.size + (btF lo).size ≤ 1099511627776) := ⟨by omega⟩
    have Y1 : Aside0 ((acc ++ btF lo).size + 1 ≤ 1099511627776) := ⟨by rw [ByteArray.size_append]; omega⟩
    have Y2 : Aside0 ((acc ++ btF lo).size + (btF hi).size ≤ 1099511627776) := ⟨by rw [ByteArray.size_append]; omega⟩
    have Y3 : Aside0 (((acc ++ btF lo) ++ oneB 45).size + (btF hi).size ≤ 1099511627776) := ⟨by rw [ByteArray.size_append, ByteArray.size_append, size_oneB]; omega⟩
    obtain ⟨j, hj⟩ : ∃ j : Nat, j = i + 2 := ⟨_, rfl⟩
    rw [← hj] at hr ew2
    have HJ := Aside0.mk hj
    have hg := I2.out
    rw [hr] at hg
    clear I2 hr
    rcases (by omega : hi > lo + 1 ∨ (¬ hi > lo + 1 ∧ hi > lo) ∨ (¬ hi > lo + 1 ∧ ¬ hi > lo)) with g | ⟨g, g'⟩ | ⟨g, g'⟩
    ·rw [if_pos g, if_pos (by omega)] at hg
     have t1 : decide (hi > lo1) = true := decide_eq_true (by omega)
     have t2 : decide (hi > lo) = true := decide_eq_true (by omega)
     have HG := Aside0.mk hg
     have Z3 : Aside0 ((((acc ++ btF lo) ++ oneB 45) ++ btF hi : ByteArray).size ≤ 1 + 9 * j) := ⟨by (try simp only [ByteArray.size_append, size_oneB]); omega⟩
     clear hg g hlo1 hj i1 i3 hsz hq
     (try clear g')
     go_wp2_with fail
     go_quiet (fail)
     go_upto_region 14 with (first
      | (go_at_call 167; refine (sb_byte 45 (by decide) (by decide) HB2.out (Y1.out)).mono ?_; go_must (rintro e W3 ⟨rfl, hb⟩; have HB3 := Aside0.mk hb; clear hb))
      | (go_at_call 91; refine (sb_str (btF lo) HB1.out (Y0.out)).mono ?_; go_must (rintro e W2 ⟨rfl, hb⟩; have HB2 := Aside0.mk hb; clear hb))
      | (go_at_call 166; refine (ibyte_in lo p0 p1 _).mono ?_; go_must (rintro e W1 ⟨rfl, hb⟩; have HB1 : Aside0 (SB w W1 w.heap.size (acc)) := ⟨I4.out.below (below_then (by repeat (first | exact Below.refl _ _ | apply pw_below_drewN | apply Below.drew)) (by first | exact Nat.le_refl _ | simp) hb)⟩; clear hb))
      | fail)
     go_wp2_with (first
      | (go_at_call 91; refine (sb_str (btF hi) HB4.out (Y3.out)).mono ?_; go_must (rintro e W5 ⟨rfl, hb⟩; have HB5 := Aside0.mk hb; clear hb))
      | (go_at_call 166; refine (ibyte_in hi q0 q1 _).mono ?_; go_must (rintro e W4 ⟨rfl, hb⟩; have HB4 : Aside0 (SB w W4 w.heap.size ((acc ++ btF lo) ++ oneB 45)) := ⟨HB3.out.below (below_then (by repeat (first | exact Below.refl _ _ | apply pw_below_drewN | apply Below.drew)) (by first | exact Nat.le_refl _ | simp) hb)⟩; clear hb))
      | fail)
     go_roundg k1
     case measure => omega
     case rel => exact ⟨_, j, rfl, ⟨by have := I1.out; have := HJ.out; omega⟩, ⟨by rw [← HG.out]; simp only [ByteArray.append_assoc, ByteArray.append_empty, ByteArray.empty_append]; try rfl⟩, Z3, HB5⟩
    ·rw [if_neg g, if_pos g'] at hg
     have t1 : decide (hi > lo1) = false := decide_eq_false (by omega)
     have t2 : decide (hi > lo) = true := decide_eq_true (by omega)
     have HG := Aside0.mk hg
     have Z3 : Aside0 (((acc ++ btF lo) ++ btF hi : ByteArray).size ≤ 1 + 9 * j) := ⟨by (try simp only [ByteArray.size_append, size_oneB]); omega⟩
     clear hg g hlo1 hj i1 i3 hsz hq
     (try clear g')
     go_wp2_with fail
     go_quiet (fail)
     go_upto_region 14 with (first
      | (go_at_call 91; refine (sb_str (btF lo) HB1.out (Y0.out)).mono ?_; go_must (rintro e W2 ⟨rfl, hb⟩; have HB2 := Aside0.mk hb; clear hb))
      | (go_at_call 166; refine (ibyte_in lo p0 p1 _).mono ?_; go_must (rintro e W1 ⟨rfl, hb⟩; have HB1 : Aside0 (SB w W1 w.heap.size (acc)) := ⟨I4.out.below (below_then (by repeat (first | exact Below.refl _ _ | apply pw_below_drewN | apply Below.drew)) (by first | exact Nat.le_refl _ | simp) hb)⟩; clear hb))
      | fail)
     go_wp2_with (first
      | (go_at_call 91; refine (sb_str (btF hi) HB4.out (Y2.out)).mono ?_; go_must (rintro e W5 ⟨rfl, hb⟩; have HB5 := Aside0.mk hb; clear hb))
      | (go_at_call 166; refine (ibyte_in hi q0 q1 _).mono ?_; go_must (rintro e W4 ⟨rfl, hb⟩; have HB4 : Aside0 (SB w W4 w.heap.size (acc ++ btF lo)) := ⟨HB2.out.below (below_then (by repeat (first | exact Below.refl _ _ | apply pw_below_drewN | apply Below.drew)) (by first | exact Nat.le_refl _ | simp) hb)⟩; clear hb))
      | fail)
     go_roundg k1
     case measure => omega
     case rel => exact ⟨_, j, rfl, ⟨by have := I1.out; have := HJ.out; omega⟩, ⟨by rw [← HG.out]; simp only [ByteArray.append_assoc, ByteArray.append_empty, ByteArray.empty_append]; try rfl⟩, Z3, HB5⟩
    rw [if_neg g, if_neg g'] at hg
    have t1 : decide (hi > lo1) = false := decide_eq_false (by omega)
    have t2 : decide (hi > lo) = false := decide_eq_false (by omega)
    have HG := Aside0.mk hg
    have Z3 : Aside0 ((acc ++ btF lo : ByteArray).size ≤ 1 + 9 * j) := ⟨by (try simp only [ByteArray.size_append, size_oneB]); omega⟩
    clear hg g hlo1 hj i1 i3 hsz hq
    (try clear g')
    go_wp2_with fail
    go_quiet (fail)
    go_upto_region 14 with (first
     | (go_at_call 91; refine (sb_str (btF lo) HB1.out (Y0.out)).mono ?_; go_must (rintro e W2 ⟨rfl, hb⟩; have HB2 := Aside0.mk hb; clear hb))
     | (go_at_call 166; refine (ibyte_in lo p0 p1 _).mono ?_; go_must (rintro e W1 ⟨rfl, hb⟩; have HB1 : Aside0 (SB w W1 w.heap.size (acc)) := ⟨I4.out.below (below_then (by repeat (first | exact Below.refl _ _ | apply pw_below_drewN | apply Below.drew)) (by first | exact Nat.le_refl _ | simp) hb)⟩; clear hb))
     | fail)
    go_wp2_with fail
    go_roundg k1
    case measure => omega
    case rel => exact ⟨_, j, rfl, ⟨by have := I1.out; have := HJ.out; omega⟩, ⟨by rw [← HG.out]; simp only [ByteArray.append_assoc, ByteArray.append_empty, ByteArray.empty_append]; try rfl⟩, Z3, HB2⟩
 go_enter Try.func139, Try.ntmps139
 go_wp2_with (go_at_call 167; refine (sb_byte (w0 := w) (b := w.heap.size) 91 (by decide) (by decide) (SB.newAt (w := w) ?h1 ?h2) (by decide)).mono ?_; (case h1 => repeat (first | exact Below.refl _ _ | apply pw_below_drewN | apply Below.drew)); (case h2 => first | rfl | simp); go_must (rintro e W0 ⟨rfl, hb⟩; have HB0 := Aside0.mk hb; clear hb))
 (try repeat (go_quiet (fail); try go_wp2_with (go_at_call 167; refine (sb_byte (w0 := w) (b := w.heap.size) 91 (by decide) (by decide) (SB.newAt (w := w) ?h1 ?h2) (by decide)).mono ?_; (case h1 => repeat (first | exact Below.refl _ _ | apply pw_below_drewN | apply Below.drew)); (case h2 => first | rfl | simp); go_must (rintro e W0 ⟨rfl, hb⟩; have HB0 := Aside0.mk hb; clear hb))))
 go_loopg [4] M (fun kq v4 w' => ∃ (acc : ByteArray) (i : Nat), v4 = .int .i64 (i : Int) ∧ Aside0 (i + 2 * kq = s.length) ∧ Aside0 (acc ++ rgF (s.drop i) = ⟨#[91]⟩ ++ rgF s) ∧ Aside0 (acc.size ≤ 1 + 9 * i) ∧ Aside0 (SB w w' w.heap.size acc))
 case atStart => exact ⟨_, 0, rfl, ⟨by have := HM.out; omega⟩, ⟨by rw [List.drop_zero]; rfl⟩, ⟨by exact (by decide : (ByteArray.empty ++ oneB 91).size ≤ 1 + 9 * 0)⟩, HB0⟩
 case round =>
  obtain ⟨acc, i, rfl, I1, I2, I3, I4⟩ := hrel
  have hsz := HS.out.sz
  have i1 := I1.out
  have i3 := I3.out
  have lb : w.heap.size < wr.heap.size := by
   rcases I4.out.is with h | h <;> exact h.lt
  cases gk with
  | zero =>
   have d : decide ((i : Int) < (s.length : Int)) = false := decide_eq_false (by omega)
   have d' : decide (i < s.length) = false := decide_eq_false (by omega)
   have HE : Aside0 (stF s = acc ++ oneB 93) := ⟨by
    have h := I2.out
    rw [rg_end (by omega), ByteArray.append_empty] at h
    rw [HROW.out, h]
    rfl⟩
   have z0 : acc.size ≤ 99999999 := by omega
   clear i1 i3 hsz
   go_wp2_with (first
    | (go_at_call 93; refine (sb_end HB9.out).mono ?_; go_must (rintro e W2 ⟨rfl, hb⟩; have HB10 := Aside0.mk hb; clear hb))
    | (go_at_call 167; refine (sb_byte 93 (by decide) (by decide) I4.out (by omega)).mono ?_; go_must (rintro e W9 ⟨rfl, hb⟩; have HB9 := Aside0.mk hb; clear hb)))
   go_ret
   rw [HE.out]
   exact ⟨rfl, HB10.out⟩
  | succ k1 =>
   obtain ⟨q, hq⟩ : ∃ q : Nat, q = i + 1 := ⟨_, rfl⟩
   have d : decide ((i : Int) < (s.length : Int)) = true := decide_eq_true (by omega)
   have d' : decide (i < s.length) = true := decide_eq_true (by omega)
   have ew : IntKind.i64.wrap ((i : Int) + 1) = (q : Int) := (i64_w _).trans (by rw [wid (by omega) (by omega)]; omega)
   have ew2 : IntKind.i64.wrap ((i : Int) + 2) = ((i + 2 : Nat) : Int) := (i64_w _).trans (by rw [wid (by omega) (by omega)]; omega)
   have hr := rg_rd s i (by omega)
   rw [← hq] at hr
   obtain ⟨ad, e, x0⟩ := cell_s HC.out i (by omega)
   first | (injection e with e; subst e) | subst e
   obtain ⟨ad2, e, x1⟩ := cell_s HC.out q (by omega)
   (injection e with e; subst e)
   obtain ⟨p0, p1⟩ := HS.out.by_ i
   obtain ⟨q0, q1⟩ := HS.out.by_ q
   generalize rd s (i : Int) = lo at *
   generalize rd s (q : Int) = hi at *
   obtain ⟨lo1, hlo1⟩ : ∃ lo1 : Int, lo1 = lo + 1 := ⟨_, rfl⟩
   have el : IntKind.i64.wrap (lo + 1) = lo1 := (i64_w _).trans (by rw [wid (by omega) (by omega)]; omega)
   replace x0 := pw_cell_below I4.out.bel x0
   replace x1 := pw_cell_below I4.out.bel x1
   have lx := World.block_lt_of_cell? _ _ x0
   have e1 : (0 ≤ (i : Int)) = True := eq_true (by omega)
   have e2 : ((i : Int) < (s.length : Int)) = True := eq_true (by omega)
   have e3 : (0 ≤ (q : Int)) = True := eq_true (by omega)
   have e4 : ((q : Int) < (s.length : Int)) = True := eq_true (by omega)
   have s1 := size_btF lo
   have s2 := size_btF hi
   have Y0 : Aside0 (acc.size + (btF lo).size ≤ 1099511627776) := ⟨by omega⟩
   have Y1 : Aside0 ((acc ++ btF lo).size + 1 ≤ 1099511627776) := ⟨by rw [ByteArray.size_append]; omega⟩
   have Y2 : Aside0 ((acc ++ btF lo).size + (btF hi).size ≤ 1099511627776) := ⟨by rw [ByteArray.size_append]; omega⟩
   have Y3 : Aside0 (((acc ++ btF lo) ++ oneB 45).size + (btF hi).size ≤ 1099511627776) := ⟨by rw [ByteArray.size_append, ByteArray.size_append, size_oneB]; omega⟩
   obtain ⟨j, hj⟩ : ∃ j : Nat, j = i + 2 := ⟨_, rfl⟩
   rw [← hj] at hr ew2
   have HJ := Aside0.mk hj
   have hg := I2.out
   rw [hr] at hg
   clear I2 hr
   rcases (by omega : hi > lo + 1 ∨ (¬ hi > lo + 1 ∧ hi > lo) ∨ (¬ hi > lo + 1 ∧ ¬ hi > lo)) with g | ⟨g, g'⟩ | ⟨g, g'⟩
   ·rw [if_pos g, if_pos (by omega)] at hg
    have t1 : decide (hi > lo1) = true := decide_eq_true (by omega)
    have t2 : decide (hi > lo) = true := decide_eq_true (by omega)
    have HG := Aside0.mk hg
    have Z3 : Aside0 ((((acc ++ btF lo) ++ oneB 45) ++ btF hi : ByteArray).size ≤ 1 + 9 * j) := ⟨by (try simp only [ByteArray.size_append, size_oneB]); omega⟩
    clear hg g hlo1 hj i1 i3 hsz hq
    (try clear g')
    go_wp2_with fail
    go_quiet (fail)
    go_upto_region 14 with (first
     | (go_at_call 167; refine (sb_byte 45 (by decide) (by decide) HB2.out (Y1.out)).mono ?_; go_must (rintro e W3 ⟨rfl, hb⟩; have HB3 := Aside0.mk hb; clear hb))
     | (go_at_call 91; refine (sb_str (btF lo) HB1.out (Y0.out)).mono ?_; go_must (rintro e W2 ⟨rfl, hb⟩; have HB2 := Aside0.mk hb; clear hb))
     | (go_at_call 166; refine (ibyte_in lo p0 p1 _).mono ?_; go_must (rintro e W1 ⟨rfl, hb⟩; have HB1 : Aside0 (SB w W1 w.heap.size (acc)) := ⟨I4.out.below (below_then (by repeat (first | exact Below.refl _ _ | apply pw_below_drewN | apply Below.drew)) (by first | exact Nat.le_refl _ | simp) hb)⟩; clear hb))
     | fail)
    go_wp2_with (first
     | (go_at_call 91; refine (sb_str (btF hi) HB4.out (Y3.out)).mono ?_; go_must (rintro e W5 ⟨rfl, hb⟩; have HB5 := Aside0.mk hb; clear hb))
     | (go_at_call 166; refine (ibyte_in hi q0 q1 _).mono ?_; go_must (rintro e W4 ⟨rfl, hb⟩; have HB4 : Aside0 (SB w W4 w.heap.size ((acc ++ btF lo) ++ oneB 45)) := ⟨HB3.out.below (below_then (by repeat (first | exact Below.refl _ _ | apply pw_below_drewN | apply Below.drew)) (by first | exact Nat.le_refl _ | simp) hb)⟩; clear hb))
     | fail)
    go_roundg k1
    case measure => omega
    case rel => exact ⟨_, j, rfl, ⟨by have := I1.out; have := HJ.out; omega⟩, ⟨by rw [← HG.out]; simp only [ByteArray.append_assoc, ByteArray.append_empty, ByteArray.empty_append]; try rfl⟩, Z3, HB5⟩
   ·rw [if_neg g, if_pos g'] at hg
    have t1 : decide (hi > lo1) = false := decide_eq_false (by omega)
    have t2 : decide (hi > lo) = true := decide_eq_true (by omega)
    have HG := Aside0.mk hg
    have Z3 : Aside0 (((acc ++ btF lo) ++ btF hi : ByteArray).size ≤ 1 + 9 * j) := ⟨by (try simp only [ByteArray.size_append, size_oneB]); omega⟩
    clear hg g hlo1 hj i1 i3 hsz hq
    (try clear g')
    go_wp2_with fail
    go_quiet (fail)
    go_upto_region 14 with (first
     | (go_at_call 91; refine (sb_str (btF lo) HB1.out (Y0.out)).mono ?_; go_must (rintro e W2 ⟨rfl, hb⟩; have HB2 := Aside0.mk hb; clear hb))
     | (go_at_call 166; refine (ibyte_in lo p0 p1 _).mono ?_; go_must (rintro e W1 ⟨rfl, hb⟩; have HB1 : Aside0 (SB w W1 w.heap.size (acc)) := ⟨I4.out.below (below_then (by repeat (first | exact Below.refl _ _ | apply pw_below_drewN | apply Below.drew)) (by first | exact Nat.le_refl _ | simp) hb)⟩; clear hb))
     | fail)
    go_wp2_with (first
     | (go_at_call 91; refine (sb_str (btF hi) HB4.out (Y2.out)).mono ?_; go_must (rintro e W5 ⟨rfl, hb⟩; have HB5 := Aside0.mk hb; clear hb))
     | (go_at_call 166; refine (ibyte_in hi q0 q1 _).mono ?_; go_must (rintro e W4 ⟨rfl, hb⟩; have HB4 : Aside0 (SB w W4 w.heap.size (acc ++ btF lo)) := ⟨HB2.out.below (below_then (by repeat (first | exact Below.refl _ _ | apply pw_below_drewN | apply Below.drew)) (by first | exact Nat.le_refl _ | simp) hb)⟩; clear hb))
     | fail)
    go_roundg k1
    case measure => omega
    case rel => exact ⟨_, j, rfl, ⟨by have := I1.out; have := HJ.out; omega⟩, ⟨by rw [← HG.out]; simp only [ByteArray.append_assoc, ByteArray.append_empty, ByteArray.empty_append]; try rfl⟩, Z3, HB5⟩
   rw [if_neg g, if_neg g'] at hg
   have t1 : decide (hi > lo1) = false := decide_eq_false (by omega)
   have t2 : decide (hi > lo) = false := decide_eq_false (by omega)
   have HG := Aside0.mk hg
   have Z3 : Aside0 ((acc ++ btF lo : ByteArray).size ≤ 1 + 9 * j) := ⟨by (try simp only [ByteArray.size_append, size_oneB]); omega⟩
   clear hg g hlo1 hj i1 i3 hsz hq
   (try clear g')
   go_wp2_with fail
   go_quiet (fail)
   go_upto_region 14 with (first
    | (go_at_call 91; refine (sb_str (btF lo) HB1.out (Y0.out)).mono ?_; go_must (rintro e W2 ⟨rfl, hb⟩; have HB2 := Aside0.mk hb; clear hb))
    | (go_at_call 166; refine (ibyte_in lo p0 p1 _).mono ?_; go_must (rintro e W1 ⟨rfl, hb⟩; have HB1 : Aside0 (SB w W1 w.heap.size (acc)) := ⟨I4.out.below (below_then (by repeat (first | exact Below.refl _ _ | apply pw_below_drewN | apply Below.drew)) (by first | exact Nat.le_refl _ | simp) hb)⟩; clear hb))
    | fail)
   go_wp2_with fail
   go_roundg k1
   case measure => omega
   case rel => exact ⟨_, j, rfl, ⟨by have := I1.out; have := HJ.out; omega⟩, ⟨by rw [← HG.out]; simp only [ByteArray.append_assoc, ByteArray.append_empty, ByteArray.empty_append]; try rfl⟩, Z3, HB2⟩
end Go.Proofs.Ytdiilocgjnlmiaa.Tre
