/- Lemmas of the proof, and the walks of functions that it stands on. -/
import Derived.Test.YtdiilocgjnlmiaaCchFlat
import Derived.Test.YtdiilocgjnlmiaaCchNullables
import Derived.Test.YtdiilocgjnlmiaaCchVImpl
import Derived.Test.YtdiilocgjnlmiaaCchVSpec
import Derived.Test.YtdiilocgjnlmiaaCchGoodBody
import Derived.Test.YtdiilocgjnlmiaaCchCompare
section
-- Printed by a program of this session (printall.sh, over the kit's print.py).
namespace Go.Proofs.Ytdiilocgjnlmiaa.PAll
open Go.RowKit Go.Proofs.YtdiilocgjnlmiaaW.PrintWords Go.Proofs.YtdiilocgjnlmiaaW.PrintLast Go.Proofs.YtdiilocgjnlmiaaW.PrintMore
attribute [local go_sem] max2_int min2_int max_two min_two max_three min_three max_four min_four   -- for this text's walks alone
set_option linter.unusedVariables false
set_option linter.unusedSimpArgs false
def laws_eqBoolS.l0 : Nat → List Bool → List Bool → Int → Option (Bool)
 | 0, _, _, _ => none
 | k + 1, x0, x1, x5 => if x5 < (x0.length : Int) then (if 0 ≤ x5 then (if x5 < (x1.length : Int) then (if ((rdOf false x0 x5) != (rdOf false x1 x5)) = true then (some false) else (laws_eqBoolS.l0 k x0 x1 (wrap64 (x5 + 1)))) else (none)) else (none)) else (some true)
def laws_eqBoolS.f (k : Nat) (l0 : List Bool) (l1 : List Bool) : Option (Bool) := if (l0.length : Int) = (l1.length : Int) then (laws_eqBoolS.l0 k l0 l1 0) else (some false)
theorem laws_eqBoolS.mono_l : ∀ k, (∀ y0 y1 y2, LeO (laws_eqBoolS.l0 k y0 y1 y2) (laws_eqBoolS.l0 (k + 1) y0 y1 y2))
 | 0 => fun _ _ _ r h => by simp [laws_eqBoolS.l0] at h
 | k + 1 => by
  have ih0 := laws_eqBoolS.mono_l k
  intro y0 y1 y2
  unfold laws_eqBoolS.l0
  repeat' first | (with_reducible exact ih0 _ _ _) | (with_reducible exact LeO.refl _) | (with_reducible refine LeO.ite ?_ ?_)
theorem laws_eqBoolS.mono : ∀ a0 a1 k, LeO (laws_eqBoolS.f k a0 a1) (laws_eqBoolS.f (k + 1) a0 a1) := by
 intro a0 a1 k
 have ih0 := laws_eqBoolS.mono_l k
 unfold laws_eqBoolS.f
 repeat' first | (with_reducible exact ih0 _ _ _) | (with_reducible exact LeO.refl _) | (with_reducible refine LeO.ite ?_ ?_)
def laws_markBoolS.l0 : Nat → List Bool → Int → Int → Option (Int × List Bool)
 | 0, _, _, _ => none
 | k + 1, x0, x1, x5 => if x5 < (x0.length : Int) then (if 0 ≤ x5 then (laws_markBoolS.l0 k (x0.set (x5 : Int).toNat ((Int.tmod x1 3) == 0)) (wrap64 (x1 + 1)) (wrap64 (x5 + 1))) else (none)) else (some (x1, x0))
def laws_markBoolS.f (k : Nat) (l0 : List Bool) (a1 : Int) : Option (Int × List Bool) := laws_markBoolS.l0 k l0 a1 0
theorem laws_markBoolS.mono_l : ∀ k, (∀ y0 y1 y2, LeO (laws_markBoolS.l0 k y0 y1 y2) (laws_markBoolS.l0 (k + 1) y0 y1 y2))
 | 0 => fun _ _ _ r h => by simp [laws_markBoolS.l0] at h
 | k + 1 => by
  have ih0 := laws_markBoolS.mono_l k
  intro y0 y1 y2
  unfold laws_markBoolS.l0
  repeat' first | (with_reducible exact ih0 _ _ _) | (with_reducible exact LeO.refl _) | (with_reducible refine LeO.ite ?_ ?_)
theorem laws_markBoolS.mono : ∀ a0 a1 k, LeO (laws_markBoolS.f k a0 a1) (laws_markBoolS.f (k + 1) a0 a1) := by
 intro a0 a1 k
 have ih0 := laws_markBoolS.mono_l k
 unfold laws_markBoolS.f
 repeat' first | (with_reducible exact ih0 _ _ _)
def laws_heldBoolS.l0 : Nat → List Bool → Int → Int → Option (Int)
 | 0, _, _, _ => none
 | k + 1, x0, x1, x5 => if x5 < (x0.length : Int) then (if 0 ≤ x5 then (if ((rdOf false x0 x5) != ((Int.tmod x1 3) == 0)) = true then (some (-1)) else (laws_heldBoolS.l0 k x0 (wrap64 (x1 + 1)) (wrap64 (x5 + 1)))) else (none)) else (some x1)
def laws_heldBoolS.f (k : Nat) (l0 : List Bool) (a1 : Int) : Option (Int) := laws_heldBoolS.l0 k l0 a1 0
theorem laws_heldBoolS.mono_l : ∀ k, (∀ y0 y1 y2, LeO (laws_heldBoolS.l0 k y0 y1 y2) (laws_heldBoolS.l0 (k + 1) y0 y1 y2))
 | 0 => fun _ _ _ r h => by simp [laws_heldBoolS.l0] at h
 | k + 1 => by
  have ih0 := laws_heldBoolS.mono_l k
  intro y0 y1 y2
  unfold laws_heldBoolS.l0
  repeat' first | (with_reducible exact ih0 _ _ _) | (with_reducible exact LeO.refl _) | (with_reducible refine LeO.ite ?_ ?_)
theorem laws_heldBoolS.mono : ∀ a0 a1 k, LeO (laws_heldBoolS.f k a0 a1) (laws_heldBoolS.f (k + 1) a0 a1) := by
 intro a0 a1 k
 have ih0 := laws_heldBoolS.mono_l k
 unfold laws_heldBoolS.f
 repeat' first | (with_reducible exact ih0 _ _ _)
-- NOT PRINTED: function 86 (impl_graph_leftRecursive)
-- NOT PRINTED: function 87 (impl_graph_loops)
end Go.Proofs.Ytdiilocgjnlmiaa.PAll
end
section
namespace Go.Proofs.Ytdiilocgjnlmiaa.Tre
open Go.RowKit Go.Proofs.YtdiilocgjnlmiaaW.PrintWords Go.Proofs.YtdiilocgjnlmiaaW.PrintLast Go.Proofs.YtdiilocgjnlmiaaW.PrintMore
open Go.Proofs.Ytdiilocgjnlmiaa.PAll
set_option linter.unusedVariables false
set_option linter.unusedSimpArgs false
theorem Nice.ok {Rs : List Ru} {Ls : List La} (h : Nice Rs Ls) : ∀ i, i < (trees Rs Ls).length → okO Rs.length Ls.length (tr (trees Rs Ls) i) := fun i hi t ht => by
 rw [len_trees] at hi
 rcases h.body i hi with ⟨_, h2⟩ | ⟨x, h1, _, h3, _⟩
 ·rw [h2] at ht; cases ht
 rw [h1] at ht; cases ht; exact h3
theorem Nice.one {Rs : List Ru} {Ls : List La} (h : Nice Rs Ls) : ∀ i, i < (trees Rs Ls).length → (occO Rs.length (tr (trees Rs Ls) i)).length ≤ 1000000 := fun i hi => by
 rw [len_trees] at hi
 rcases h.body i hi with ⟨_, h2⟩ | ⟨x, h1, _, _, h4⟩
 ·rw [h2]; exact Nat.zero_le _
 rw [h1]; exact Nat.le_trans (occ_len x) (by omega)
theorem Nice.sum {Rs : List Ru} {Ls : List La} (h : Nice Rs Ls) : ∀ i, i ≤ (trees Rs Ls).length → occSum Rs.length (trees Rs Ls) i ≤ 1000000 := fun i hi => by
 rw [len_trees] at hi
 have h1 := h.occ_sum i hi
 have h2 := h.r
 have h3 := h.l
 omega
end Go.Proofs.Ytdiilocgjnlmiaa.Tre
end
section
namespace Go.Proofs.Ytdiilocgjnlmiaa.Tre
open Go.RowKit Go.Proofs.YtdiilocgjnlmiaaW.PrintWords Go.Proofs.YtdiilocgjnlmiaaW.PrintLast Go.Proofs.YtdiilocgjnlmiaaW.PrintMore
open Go.Proofs.Ytdiilocgjnlmiaa.PAll
set_option linter.unusedVariables false
set_option linter.unusedSimpArgs false
def lefts (Rs : List Ru) (Ls : List La) (i : Nat) : Bool := lrec (edges Rs.length (trees Rs Ls) (nullF Rs.length (trees Rs Ls))) (Rs.length + Ls.length) i
def loopy (Rs : List Ru) (Ls : List La) (i : Nat) : Bool := loopsO Rs.length (nullF Rs.length (trees Rs Ls)) (tr (trees Rs Ls) i)
noncomputable def chkF (Rs : List Ru) (Ls : List La) : Int × Int := if validB Rs Ls = true then chkR (lefts Rs Ls) (loopy Rs Ls) (Rs.length + Ls.length) else (4, 0)
def ChkPost (w : World) (a : Int × Int) (e : Ending) (w' : World) : Prop := e = .returned (.tuple #[.int .i64 a.1, .int .i64 a.2]) ∧ Below w.heap.size w w'
theorem mkV_own {B : Nat} {W : World} {A : Option Addr} {n c : Nat} {m : List Bool} (h : W.ownsRow B 4 1 (.slice A n c) m.length (boolsV m)) : MkV W A c m := by
 obtain ⟨h1, h2, h3⟩ := Kd.R_reads' (Kd.R_of_own (ok := fun _ => True) (enc := Value.bool) (h1 := fun _ => rfl) h fun _ _ => trivial)
 exact ⟨h3, by omega⟩
theorem fst_some {P : Nat → Bool} {n i : Nat} (h : fstI P n 0 = fstI P (n - i) i) (hi : i < n) (hp : P i = true) : fstI P n 0 = some i := by
 rw [h, show n - i = (n - i - 1) + 1 by omega, fstI, if_pos hp]
theorem fst_next {P : Nat → Bool} {n i : Nat} (h : fstI P n 0 = fstI P (n - i) i) (hi : i < n) (hp : P i = false) : fstI P n 0 = fstI P (n - (i + 1)) (i + 1) := by
 rw [h, show n - i = (n - (i + 1)) + 1 by omega, fstI, if_neg (by rw [hp]; simp)]
theorem fst_none {P : Nat → Bool} {n : Nat} (h : fstI P n 0 = fstI P (n - n) n) : fstI P n 0 = none := by
 rw [h, Nat.sub_self, fstI]
theorem chk_left {P Q : Nat → Bool} {n i : Nat} (h : fstI P n 0 = some i) : chkR P Q n = (8, (i : Int)) := by unfold chkR; rw [h]
theorem chk_loop {P Q : Nat → Bool} {n i : Nat} (h : fstI P n 0 = none) (k : fstI Q n 0 = some i) : chkR P Q n = (9, (i : Int)) := by unfold chkR; rw [h, k]
theorem chk_ok {P Q : Nat → Bool} {n : Nat} (h : fstI P n 0 = none) (k : fstI Q n 0 = none) : chkR P Q n = (0, 0) := by unfold chkR; rw [h, k]
set_option maxRecDepth 100000 in
set_option maxHeartbeats 8000000 in
theorem check_in (w : World) (A0 A1 : Option Addr) (c0 c1 : Nat) (Rs : List Ru) (Ls : List La) (hr0 : Kd.C k68 w A0 Rs.length Rs) (hc0 : Rs.length ≤ c0) (hr1 : Kd.C k72 w A1 Ls.length Ls) (hc1 : Ls.length ≤ c1) (hok : okG Rs Ls = true) :
 Calls Try.prog 37 #[.agg #[.slice A0 Rs.length c0, .slice A1 Ls.length c1]] w (ChkPost w (chkF Rs Ls)) := by
 have hb1 : Below w.heap.size w (w.alloc (Obj.cells #[.slice A0 Rs.length c0, .slice A1 Ls.length c1] 31)) := below_alloc (Below.refl _ _) _
 have HR0 := Aside0.mk (Kd.C_below hr0 hb1)
 have HL0 := Aside0.mk (Kd.C_below hr1 hb1)
 have HB1 := Aside0.mk hb1
 have HBG := Aside0.mk (blk_new w (Obj.cells #[.slice A0 Rs.length c0, .slice A1 Ls.length c1] 31))
 have HOK := Aside0.mk hok
 clear hr0 hr1 hb1 hok
 cases hvb : validB Rs Ls with
 | false =>
  have HVB := Lib.hid hvb
  have HG : Aside0 (chkF Rs Ls = (4, 0)) := ⟨by unfold chkF; rw [hvb]; rfl⟩
  clear hvb
  go_enter Try.func37, Try.ntmps37
  go_wp2_with (go_at_call 13; refine (valid_in _ A0 A1 c0 c1 Rs Ls HR0.out hc0 HL0.out hc1 HOK.out).mono ?_; go_must (rintro e W1 ⟨rfl, hb⟩; rw [HVB.out]; have HB := Aside0.mk hb; clear hb))
  go_ret2
  rw [HG.out]
  exact ⟨rfl, below_then HB1.out HB1.out.size HB.out⟩
 | true =>
  have hv := validB_iff.1 hvb
  have HN := Aside0.mk hv.nice
  have HGO := Aside0.mk hv.gok
  have HVB := Lib.hid hvb
  have hr2 := hv.r2
  have hl2 := hv.l2
  obtain ⟨P, hP⟩ : ∃ P, P = lefts Rs Ls := ⟨_, rfl⟩
  obtain ⟨Q, hQ⟩ : ∃ Q, Q = loopy Rs Ls := ⟨_, rfl⟩
  have HG : Aside0 (chkF Rs Ls = chkR P Q (trees Rs Ls).length) := ⟨by unfold chkF; rw [hvb, hP, hQ, len_trees]; rfl⟩
  have HLT : Aside0 ((trees Rs Ls).length = Rs.length + Ls.length) := ⟨len_trees Rs Ls⟩
  have HML : Aside0 ((nullF Rs.length (trees Rs Ls)).length = Rs.length + Ls.length) := ⟨by rw [nullF_len, len_trees]⟩
  have HMT : Aside0 ((trees Rs Ls).length = (nullF Rs.length (trees Rs Ls)).length) := ⟨by rw [nullF_len]⟩
  have HPI : Aside0 (∀ i, lrec (edges Rs.length (trees Rs Ls) (nullF Rs.length (trees Rs Ls))) (trees Rs Ls).length i = P i) := ⟨fun i => by rw [hP, lefts, len_trees]⟩
  have HQI : Aside0 (∀ i, loopsO Rs.length (nullF Rs.length (trees Rs Ls)) (tr (trees Rs Ls) i) = Q i) := ⟨fun i => by rw [hQ, loopy]⟩
  have HOKS := Aside0.mk HN.out.ok
  have HOTS := Aside0.mk HN.out.okTs
  have HSUM := Aside0.mk HN.out.sum
  have HONE := Aside0.mk HN.out.one
  have hlt : (trees Rs Ls).length ≤ 200 := by rw [len_trees]; omega
  clear hvb hv hP hQ
  generalize hm : nullF Rs.length (trees Rs Ls) = m at *
  generalize hts : trees Rs Ls = Ts at *
  have HM := Aside0.mk hm
  have HTS := Aside0.mk hts
  clear hm hts
  go_enter Try.func37, Try.ntmps37
  go_wp2_with (first
   | (go_at_call 13; refine (valid_in _ A0 A1 c0 c1 Rs Ls HR0.out hc0 HL0.out hc1 HOK.out).mono ?_; go_must (rintro e W1 ⟨rfl, hb⟩; rw [HVB.out]; have HB := Aside0.mk hb; have g0 := blk_cell (blk_below HBG.out hb) 0; have g1 := blk_cell (blk_below HBG.out hb) 1; clear hb))
   | (go_at_call 80; refine (graphOf_in W1 A0 A1 c0 c1 Rs Ls (Kd.C_below HR0.out HB.out) hc0 (Kd.C_below HL0.out HB.out) hc1 HOK.out hr2 hl2 HGO.out).mono ?_; go_must (rw [HTS.out]; rintro e W2 ⟨Ag, cg, rfl, hT, hb⟩; have hbx : Below W2.heap.size W2 (W2.alloc (Obj.cells #[.slice Ag Ts.length cg, .int .i64 (Rs.length : Int)] 116)) := below_alloc (Below.refl _ _) _; have HT := Aside0.mk (hT.below hbx); have HB2 := Aside0.mk (below_then hb hb.size hbx); have HBX := Aside0.mk (blk_new W2 (Obj.cells #[.slice Ag Ts.length cg, .int .i64 (Rs.length : Int)] 116)); clear hT hb hbx))
   | (go_at_call 81; refine (nullables_in _ Ag cg Rs.length Ls.length Ts HT.out HLT hr2 hl2 HOKS.out HOTS.out HSUM.out HONE.out).mono ?_; go_must (rintro e W3 ⟨v, rfl, ho, hb⟩; rw [HM.out] at ho; obtain ⟨Am, cm, hvf⟩ := own_form1 ho; rw [hvf] at ho; rw [show v = Value.slice Am m.length cm by rw [hvf, HMT.out]]; have HMK := Aside0.mk (mkV_own (by rw [← HMT.out]; exact ho)); have HB3 := Aside0.mk hb; have HT3 := Aside0.mk (HT.out.below hb); have HBX3 := Aside0.mk (blk_below HBX.out hb); have b0 := blk_cell HBX3.out 0; have b1 := blk_cell HBX3.out 1; clear ho hb hvf)))
  have HBW : Aside0 (Below w.heap.size w W3) := ⟨below_then (below_then (below_then HB1.out HB1.out.size HB.out) (Nat.le_trans HB1.out.size HB.out.size) HB2.out) (Nat.le_trans (Nat.le_trans HB1.out.size HB.out.size) HB2.out.size) HB3.out⟩
  go_loopg [19] (Ts.length + 1) (fun kq v19 W' => ∃ (i : Nat), v19 = .int .i64 (i : Int) ∧ Aside0 (i ≤ Ts.length ∧ Ts.length < i + kq) ∧ Aside0 (fstI P Ts.length 0 = fstI P (Ts.length - i) i) ∧ Aside0 (Below W3.heap.size W3 W'))
  case atStart => exact ⟨0, rfl, ⟨by omega, by omega⟩, ⟨rfl⟩, ⟨Below.refl _ _⟩⟩
  case round =>
   clear b0 b1
   obtain ⟨i, rfl, HI, HF, HW⟩ := hrel
   obtain ⟨i1, i2⟩ := HI.out
   clear HI
   have b0 := blk_cell (blk_below HBX3.out HW.out) 0
   have b1 := blk_cell (blk_below HBX3.out HW.out) 1
   cases gk with
   | zero => omega
   | succ k1 =>
    by_cases hi : i < Ts.length
    ·have d1 : decide ((i : Int) < (Ts.length : Int)) = true := decide_eq_true (by omega)
     cases hpi : P i with
     | true =>
      have HX := Aside0.mk (chk_left (Q := Q) (fst_some HF.out hi hpi))
      have HPE := Lib.hid hpi
      clear hpi
      go_wp2_with (go_at_call 86; refine (leftRec_in wr Ag cg Rs.length Ls.length m Am cm Ts i (HT3.out.below HW.out) HLT.out hr2 hl2 HML.out (HMK.out.below HW.out) HOKS.out hi).mono ?_; go_must (rintro e W4 ⟨rfl, hb⟩; rw [HPI.out, HPE.out]; have HB4 := Aside0.mk hb; have b0 := blk_cell (blk_below (blk_below HBX3.out HW.out) hb) 0; have b1 := blk_cell (blk_below (blk_below HBX3.out HW.out) hb) 1; clear hb))
      go_ret2
      rw [HG.out, HX.out]
      exact ⟨rfl, below_then (below_then HBW.out HBW.out.size HW.out) (Nat.le_trans HBW.out.size HW.out.size) HB4.out⟩
     | false =>
      have HX := Aside0.mk (fst_next HF.out hi hpi)
      have HPE := Lib.hid hpi
      clear hpi
      go_wp2_with (go_at_call 86; refine (leftRec_in wr Ag cg Rs.length Ls.length m Am cm Ts i (HT3.out.below HW.out) HLT.out hr2 hl2 HML.out (HMK.out.below HW.out) HOKS.out hi).mono ?_; go_must (rintro e W4 ⟨rfl, hb⟩; rw [HPI.out, HPE.out]; have HB4 := Aside0.mk hb; have b0 := blk_cell (blk_below (blk_below HBX3.out HW.out) hb) 0; have b1 := blk_cell (blk_below (blk_below HBX3.out HW.out) hb) 1; clear hb))
      go_roundg k1
      case measure => omega
      case rel => exact ⟨i + 1, by first | rfl, ⟨by omega, by omega⟩, HX, ⟨below_then HW.out HW.out.size HB4.out⟩⟩
    have d1 : decide ((i : Int) < (Ts.length : Int)) = false := decide_eq_false (by omega)
    obtain rfl : i = Ts.length := by omega
    have HNO := Aside0.mk (fst_none HF.out)
    clear HF i1 i2 hi
    go_wp2_with fail
    go_loopg [31] (Ts.length + 1) (fun kq v31 W' => ∃ (j : Nat), v31 = .int .i64 (j : Int) ∧ Aside0 (j ≤ Ts.length ∧ Ts.length < j + kq) ∧ Aside0 (fstI Q Ts.length 0 = fstI Q (Ts.length - j) j) ∧ Aside0 (Below wr.heap.size wr W'))
    case atStart => exact ⟨0, rfl, ⟨by omega, by omega⟩, ⟨rfl⟩, ⟨Below.refl _ _⟩⟩
    case round =>
     clear b0 b1 d1
     obtain ⟨j, rfl, HJ, HF, HW2⟩ := hrel
     obtain ⟨j1, j2⟩ := HJ.out
     clear HJ
     have b0 := blk_cell (blk_below (blk_below HBX3.out HW.out) HW2.out) 0
     have b1 := blk_cell (blk_below (blk_below HBX3.out HW.out) HW2.out) 1
     cases gk with
     | zero => omega
     | succ k2 =>
      by_cases hj : j < Ts.length
      rotate_left
      ·have d2 : decide ((j : Int) < (Ts.length : Int)) = false := decide_eq_false (by omega)
       obtain rfl : j = Ts.length := by omega
       have HX := Aside0.mk (chk_ok HNO.out (fst_none HF.out))
       clear hj
       go_wp2_with fail
       go_ret2
       rw [HG.out, HX.out]
       exact ⟨rfl, below_then (below_then HBW.out HBW.out.size HW.out) (Nat.le_trans HBW.out.size HW.out.size) HW2.out⟩
      have d2 : decide ((j : Int) < (Ts.length : Int)) = true := decide_eq_true (by omega)
      obtain ⟨ad, u, rfl, x0, hu⟩ := HT3.out.get j hj
      replace x0 := pw_cell_below HW2.out (pw_cell_below HW.out x0)
      have lx := World.block_lt_of_cell? _ _ x0
      have e2 : (0 ≤ (j : Int)) = True := eq_true (by omega)
      have e3 : ((j : Int) < (Ts.length : Int)) = True := eq_true (by omega)
      have HU := Aside0.mk hu
      clear hu
      cases hqj : Q j with
      | true =>
       have HX := Aside0.mk (chk_loop HNO.out (fst_some HF.out hj hqj))
       have HQE := Lib.hid hqj
       clear hqj
       go_wp2_with (go_at_call 87; refine (loopsO_in HML hr2 hl2 (some ad) Ts.length cg (HU.out.below (below_then HW.out HW.out.size HW2.out)) (HOKS.out j hj) (HMK.out.below (below_then HW.out HW.out.size HW2.out))).mono ?_; go_must (rintro e W5 ⟨rfl, hb⟩; rw [HQI.out, HQE.out]; have HB5 := Aside0.mk hb; clear hb))
       go_ret2
       rw [HG.out, HX.out]
       exact ⟨rfl, below_then (below_then (below_then HBW.out HBW.out.size HW.out) (Nat.le_trans HBW.out.size HW.out.size) HW2.out) (Nat.le_trans (Nat.le_trans HBW.out.size HW.out.size) HW2.out.size) HB5.out⟩
      | false =>
       have HX := Aside0.mk (fst_next HF.out hj hqj)
       have HQE := Lib.hid hqj
       clear hqj
       go_wp2_with (go_at_call 87; refine (loopsO_in HML hr2 hl2 (some ad) Ts.length cg (HU.out.below (below_then HW.out HW.out.size HW2.out)) (HOKS.out j hj) (HMK.out.below (below_then HW.out HW.out.size HW2.out))).mono ?_; go_must (rintro e W5 ⟨rfl, hb⟩; rw [HQI.out, HQE.out]; have HB5 := Aside0.mk hb; clear hb))
       go_roundg k2
       case measure => omega
       case rel => exact ⟨j + 1, by first | rfl, ⟨by omega, by omega⟩, HX, ⟨below_then HW2.out HW2.out.size HB5.out⟩⟩
end Go.Proofs.Ytdiilocgjnlmiaa.Tre
end
