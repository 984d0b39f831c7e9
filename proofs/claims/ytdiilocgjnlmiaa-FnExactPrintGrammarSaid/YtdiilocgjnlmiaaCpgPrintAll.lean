/- Lemmas of the proof, and the walks of functions that it stands on. -/
import Derived.Test.YtdiilocgjnlmiaaCpgSPrint
import Derived.Test.YtdiilocgjnlmiaaCpgVImpl
import Derived.Test.YtdiilocgjnlmiaaCpgByteText
import Derived.Deep.RegionHeld3
import Derived.Outline
section
namespace Go.Proofs.Ytdiilocgjnlmiaa.Tre
open Go.RowKit Go.Proofs.YtdiilocgjnlmiaaW.PrintWords Go.Proofs.YtdiilocgjnlmiaaW.PrintLast Go.Proofs.YtdiilocgjnlmiaaW.PrintMore
open Go.Proofs.Ytdiilocgjnlmiaa.PAll Go.Proofs.Ytdiilocgjnlmiaa.OwnM
set_option linter.unusedVariables false
set_option linter.unusedSimpArgs false
def LinePost (w0 : World) (b : Nat) (s : ByteArray) (e : Ending) (w' : World) : Prop := e = .returned (.tuple #[]) ∧ SB w0 w' b s
set_option maxRecDepth 100000 in
set_option maxHeartbeats 8000000 in
theorem line_in (U w0 W : World) (A0 A1 : Option Addr) (c0 c1 : Nat) (Rs : List Ru) (Ls : List La) (gb b : Nat) (s NM : ByteArray) (A : Option Addr) (c : Nat) (bd : List Op) (x : Tr) (X : ByteArray) (hS : SB w0 W b s) (hgb : w0.heap[gb]? = some (Obj.cells #[.slice A0 Rs.length c0, .slice A1 Ls.length c1] 31 (0, 0))) (hUw : Below U.heap.size U w0)
 (hC : Kd.C k79 U A bd.length bd) (hc : bd.length ≤ c) (hbl : bd.length ≤ 2000) (htf : treeF bd = some x) (HTX : Aside0 (∀ w' v, Below U.heap.size U w' → TrV U x v → Calls Try.prog 92 #[.agg #[.slice A0 Rs.length c0, .slice A1 Ls.length c1], v] w' (StrPost w' X))) (hX : X.size ≤ 6000000) (hNM : NM.size ≤ 100) (hs : s.size ≤ 9999999999) :
 Calls Try.prog 89 #[.string NM, .slice A bd.length c, .pointer (some ⟨b, 0, none⟩), .pointer (some ⟨gb, 0, none⟩)] W (LinePost w0 b (s ++ lineB NM X)) := by
 have hlb : lineB NM X = ((NM ++ ⟨#[32, 61, 32]⟩) ++ X) ++ ⟨#[32, 59, 10]⟩ := rfl
 have hls := size_line NM X
 rw [hlb] at hls ⊢
 have s1 := cap_app NM ⟨#[32, 61, 32]⟩ _ 3 hNM (Nat.le_refl _) 103 (by decide)
 have s2 := cap_app _ X _ _ s1 hX 6000103 (by decide)
 have HLS := Aside0.mk hls
 have HS := Aside0.mk hS
 have HGB := Aside0.mk hgb
 have HU := Aside0.mk (below_then hUw hUw.size (⟨hS.bel.os, hS.bel.tape, hS.bel.output, hS.bel.size, hS.bel.block⟩ : Below w0.heap.size w0 W))
 have HC := Aside0.mk hC
 have HTF := Aside0.mk htf
 have hlg := blk_lt hgb
 clear hS hgb hUw hC htf hls hlb
 go_enter Try.func89, Try.ntmps89
 go_wp2_with (first
  | (go_at_call 91; refine (sb_str _ HS3.out (by have h := HLS.out; omega)).mono ?_; go_must (rintro e W4 ⟨rfl, hS⟩; have HS4 := Aside0.mk hS; clear hS))
  | (go_at_call 92; refine (HTX.out _ _ HU2.out HTV.out).mono ?_; go_must (rintro e W3 ⟨rfl, hb⟩; have HS3 := Aside0.mk (HS2.out.below hb); clear hb))
  | (go_at_call 90; refine (tree_at U _ HU A c bd HC.out hc (by omega)).mono ?_; go_must (rintro e W2 hp; obtain ⟨u, b2, rfl, hu, hb⟩ := ov_of_post hp; rw [HTF.out] at hu; obtain ⟨T, uu, rfl⟩ := TrV.iface hu; have HTV := Aside0.mk hu; have hS2 := HS.out.below hb; have HS2 := Aside0.mk hS2; have HU2 := Aside0.mk (below_then HU.out HU.out.size hb); have hg2 := (hS2.bel.block gb hlg).trans HGB.out; have z0 := blk_cell hg2 0; have z1 := blk_cell hg2 1; have lz := blk_lt hg2; clear hp hu hb hS2 hg2)))
 go_end0
 exact ⟨rfl, HS4.out⟩
set_option maxRecDepth 100000 in
set_option maxHeartbeats 16000000 in
theorem print_in (w : World) (A0 A1 : Option Addr) (c0 c1 : Nat) (Rs : List Ru) (Ls : List La) (hr0 : Kd.C k68 w A0 Rs.length Rs) (hc0 : Rs.length ≤ c0) (hr1 : Kd.C k72 w A1 Ls.length Ls) (hc1 : Ls.length ≤ c1) (hok : okG Rs Ls = true) :
 Calls Try.prog 39 #[.agg #[.slice A0 Rs.length c0, .slice A1 Ls.length c1]] w (BytesPost w (prF Rs Ls)) := by
 have hb1 : Below w.heap.size w (w.alloc (Obj.cells #[.slice A0 Rs.length c0, .slice A1 Ls.length c1] 31)) := below_alloc (Below.refl _ _) _
 have HR0 := Aside0.mk (Kd.C_below hr0 hb1)
 have HL0 := Aside0.mk (Kd.C_below hr1 hb1)
 have HG := Aside0.mk (GrC.mk hr0 hc0 hr1 hc1)
 have HB1 := Aside0.mk hb1
 have HBG := Aside0.mk (blk_new w (Obj.cells #[.slice A0 Rs.length c0, .slice A1 Ls.length c1] 31))
 have HOK := Aside0.mk hok
 clear hr0 hr1 hb1 hok
 cases hvb : validB Rs Ls with
 | false =>
  have HVB := Lib.hid hvb
  have HE : Aside0 (prF Rs Ls = ByteArray.empty) := ⟨by unfold prF; rw [hvb]; rfl⟩
  clear hvb
  go_enter Try.func39, Try.ntmps39
  go_wp2_with (go_at_call 13; refine (valid_in _ A0 A1 c0 c1 Rs Ls HR0.out hc0 HL0.out hc1 HOK.out).mono ?_; go_must (rintro e W1 ⟨rfl, hb⟩; rw [HVB.out]; have HB := Aside0.mk (below_then HB1.out HB1.out.size hb); clear hb))
  go_ret
  rw [HE.out]
  exact ⟨_, rfl, OwY.nil _ _, HB.out⟩
 | true =>
  have hv := validB_iff.1 hvb
  have HP := Aside0.mk hv.prints
  have HGO := Aside0.mk hv.gok
  have HVB := Lib.hid hvb
  have hr2 := hv.r2
  have hl2 := hv.l2
  have HE : Aside0 (prF Rs Ls = prL Rs Ls Ls.length) := ⟨by unfold prF; rw [hvb]; rfl⟩
  have HTX : Aside0 (∀ (x : Tr), okT Rs.length Ls.length x → okSt x → smT x → ndT x ≤ 10000 → ∀ w' v, Below w.heap.size w w' → TrV w x v → Calls Try.prog 92 #[.agg #[.slice A0 Rs.length c0, .slice A1 Ls.length c1], v] w' (StrPost w' (txT (rnR Rs) (lnL Ls) x))) := ⟨fun x h1 h2 h3 h4 w' v hb hx => text_in w A0 A1 c0 c1 Rs Ls HG (by omega) (by omega) ⟨fun n => Nat.le_trans (HP.out.rn n) (by omega)⟩ ⟨fun n => Nat.le_trans (HP.out.ln n) (by omega)⟩ x w' v hx ⟨hb⟩ h1 h2 h3 h4⟩
  clear hvb hv
  go_enter Try.func39, Try.ntmps39
  go_wp2_with (go_at_call 13; refine (valid_in _ A0 A1 c0 c1 Rs Ls HR0.out hc0 HL0.out hc1 HOK.out).mono ?_; go_must (rintro e W1 ⟨rfl, hb⟩; rw [HVB.out]; have HB := Aside0.mk (below_then HB1.out HB1.out.size hb); have hg1 := blk_below HBG.out hb; have HGB := Aside0.mk hg1; have lg1 := blk_lt hg1; have hg2 := blk_alloc hg1 (Obj.cells #[.pointer none, .slice none 0 0] 132); have z0 := blk_cell hg2 0; have z1 := blk_cell hg2 1; have HS0 := Aside0.mk (SB.newAt (Below.refl W1.heap.size W1) rfl); clear hb hg1 hg2))
  clear HR0 HL0 HB1 HBG HOK
  generalize hW2 : W1.alloc (Obj.cells #[.pointer none, .slice none 0 0] 132) = W2 at *
  clear hW2
  generalize hb0 : W1.heap.size = b at *
  have HB0 := Aside0.mk hb0
  clear hb0
  go_loopg [16] (Rs.length + 1) (fun kq v16 W' => ∃ (i : Nat), v16 = .int .i64 (i : Int) ∧ Aside0 (i ≤ Rs.length ∧ Rs.length < i + kq) ∧ Aside0 (SB W1 W' b (prR Rs Ls i)))
  case atStart => exact ⟨0, rfl, ⟨by omega, by omega⟩, HS0⟩
  case round =>
   clear HS0 z0 z1
   obtain ⟨i, rfl, HI, HS⟩ := hrel
   obtain ⟨i1, i2⟩ := HI.out
   clear HI
   cases gk with
   | zero => omega
   | succ k1 =>
    by_cases hi : i < Rs.length
    ·have d1 : decide ((i : Int) < (Rs.length : Int)) = true := decide_eq_true (by omega)
     have d1n : decide (i < Rs.length) = true := decide_eq_true hi
     obtain ⟨x, ht⟩ := HGO.out.rt i hi
     have hT := tr_ru (Ls := Ls) hi ht
     obtain ⟨b1, b2, b3, b4, b5, b6⟩ := HP.out.body i x (by omega) hT
     rw [bodyN_ru hi] at b1
     have hnm := HP.out.rn i
     have hacc := size_prR HP.out i (by omega)
     have HSN : Aside0 (prR Rs Ls (i + 1) = prR Rs Ls i ++ lineB (rnR Rs i) (txT (rnR Rs) (lnL Ls) x)) := ⟨by rw [prR, hT]; rfl⟩
     have HTX2 : Aside0 (∀ w' v, Below w.heap.size w w' → TrV w x v → Calls Try.prog 92 #[.agg #[.slice A0 Rs.length c0, .slice A1 Ls.length c1], v] w' (StrPost w' (txT (rnR Rs) (lnL Ls) x))) := ⟨HTX.out x b2 b3 b4 (by omega)⟩
     have hfl := nd_flat x
     generalize txT (rnR Rs) (lnL Ls) x = X at *
     generalize hP : prR Rs Ls i = P at *
     have hP2 := Aside0.mk hP
     have hacc2 : P.size ≤ 9999999999 := by omega
     clear hP hacc
     have hWw : Below w.heap.size w wr := below_then HB.out HB.out.size ⟨HS.out.bel.os, HS.out.bel.tape, HS.out.bel.output, HS.out.bel.size, HS.out.bel.block⟩
     obtain ⟨ad, AN, cN, AB, cB, hA, x0, x1, y1, y2, y3, y4⟩ := at_T68 HG.out.r (i : Int) (by omega) (by omega)
     rw [Int.toNat_natCast] at x0 x1
     replace x0 := pw_cell_below hWw x0
     replace x1 := pw_cell_below hWw x1
     have lx := World.block_lt_of_cell? _ _ x0
     have e2 : (0 ≤ (i : Int)) = True := eq_true (by omega)
     have e3 : ((i : Int) < (Rs.length : Int)) = True := eq_true (by omega)
     change treeF (rd_T68 Rs (i : Int)).f1 = some x at ht
     change (rd_T68 Rs (i : Int)).f1 = flat x at b1
     have hbl : (rd_T68 Rs (i : Int)).f1.length ≤ 2000 := by rw [b1]; omega
     rw [rnR] at hnm HSN
     generalize rd_T68 Rs (i : Int) = r at *
     obtain ⟨nm, bd⟩ := r
     simp only at x0 x1 y1 y2 y3 y4 ht hnm HSN hbl
     have hbx : Below wr.heap.size wr (wr.alloc (Obj.cells #[.slice AN nm.length cN, .slice AB bd.length cB] 68)) := below_alloc (Below.refl _ _) _
     have hcv := Kd.C_string (P := Try.prog) (dst := 9) (c := cN) Try.underlying36 Try.underlying5 Try.underlying9 (Kd.C_below (Kd.C_below y2 hWw) hbx)
     have HS4 := Aside0.mk (HS.out.below hbx)
     have HC := Aside0.mk y4
     have HTF := Aside0.mk ht
     subst hA
     clear ht hT b1 b2 b3 b4 b5 y1 y2 y4 hbx hfl hWw
     go_wp2_with (go_at_call 89; refine (line_in w W1 _ _ A1 c0 c1 Rs Ls w.heap.size b P (strOfNums nm) AB cB bd x X HS4.out HGB.out HB.out HC.out y3 hbl HTF.out HTX2 b6 (by omega) hacc2).mono ?_; go_must (rintro e W5 ⟨rfl, hS⟩; have HS5 := Aside0.mk hS; clear hS))
     go_roundg k1
     case measure => omega
     case rel => exact ⟨i + 1, by first | rfl | (rw [wid (by omega) (by omega)]; simp), ⟨by omega, by omega⟩, ⟨by rw [HSN.out]; exact HS5.out⟩⟩
    have d1 : decide ((i : Int) < (Rs.length : Int)) = false := decide_eq_false (by omega)
    have d1n : decide (i < Rs.length) = false := decide_eq_false hi
    obtain rfl : i = Rs.length := by omega
    have hg3 := (HS.out.bel.block w.heap.size (by rw [HB0.out]; exact lg1)).trans HGB.out
    have z0 := blk_cell hg3 0
    have z1 := blk_cell hg3 1
    clear hg3 i1 i2 hi
    go_wp2_with fail
    go_loopg [31] (Ls.length + 1) (fun kq v31 W' => ∃ (j : Nat), v31 = .int .i64 (j : Int) ∧ Aside0 (j ≤ Ls.length ∧ Ls.length < j + kq) ∧ Aside0 (SB W1 W' b (prL Rs Ls j)))
    case atStart => exact ⟨0, rfl, ⟨by omega, by omega⟩, HS⟩
    case round =>
     clear HS z0 z1 d1 d1n
     obtain ⟨j, rfl, HI, HS⟩ := hrel
     obtain ⟨j1, j2⟩ := HI.out
     clear HI
     cases gk with
     | zero => omega
     | succ k2 =>
      by_cases hj : j < Ls.length
      rotate_left
      ·have d1 : decide ((j : Int) < (Ls.length : Int)) = false := decide_eq_false (by omega)
       have d1n : decide (j < Ls.length) = false := decide_eq_false hj
       obtain rfl : j = Ls.length := by omega
       have hsz := size_prL HP.out Ls.length (Nat.le_refl _)
       clear j1 j2 hj
       go_wp2_with (first
        | ((with_reducible refine gate_dst (N := 47) rfl ?_); go_must (refine conv_y w _ HB6.out rfl (.tmp 46) rfl (prL Rs Ls Ls.length) rfl (by omega) ?_; intro v7 W7 hO7 hB7; have HO7 := Aside0.mk hO7; have HB7 := Aside0.mk hB7; clear hO7 hB7))
        | (go_at_call 93; refine (sb_end HS.out).mono ?_; go_must (rintro e W6 ⟨rfl, hb⟩; have HB6 := Aside0.mk (below_then HB.out HB.out.size ⟨hb.os, hb.tape, hb.output, hb.size, hb.block⟩); clear hb)))
       go_ret
       rw [HE.out]
       exact ⟨_, rfl, HO7.out, HB7.out⟩
      have d1 : decide ((j : Int) < (Ls.length : Int)) = true := decide_eq_true (by omega)
      have d1n : decide (j < Ls.length) = true := decide_eq_true hj
      have hT := tr_la (Rs := Rs) (Ls := Ls) hj
      have ht1 := HGO.out.lt j hj
      have hWw : Below w.heap.size w wr := below_then HB.out HB.out.size ⟨HS.out.bel.os, HS.out.bel.tape, HS.out.bel.output, HS.out.bel.size, HS.out.bel.block⟩
      obtain ⟨ad, AN, cN, AB, cB, hA, x0, x1, x2, y1, y2, y3, y4⟩ := at_T72 HG.out.l (j : Int) (by omega) (by omega)
      rw [Int.toNat_natCast] at x0 x1 x2
      replace x0 := pw_cell_below hWw x0
      replace x1 := pw_cell_below hWw x1
      replace x2 := pw_cell_below hWw x2
      have lx := World.block_lt_of_cell? _ _ x0
      have e2 : (0 ≤ (j : Int)) = True := eq_true (by omega)
      have e3 : ((j : Int) < (Ls.length : Int)) = True := eq_true (by omega)
      change (rd_T72 Ls (j : Int)).f1 = true → ∃ t, treeF (rd_T72 Ls (j : Int)).f2 = some t at ht1
      change tr (trees Rs Ls) (Rs.length + j) = treeF (rd_T72 Ls (j : Int)).f2 at hT
      subst hA
      cases hh : (rd_T72 Ls (j : Int)).f1 with
      | false =>
       have HSN : Aside0 (prL Rs Ls (j + 1) = prL Rs Ls j) := ⟨by rw [prL, hh]; rfl⟩
       rw [hh] at x1
       generalize rd_T72 Ls (j : Int) = r at *
       obtain ⟨nm, ha, bd⟩ := r
       simp only at x0 x1 x2 y1 y2 y3 y4
       have HS4 := Aside0.mk (HS.out.below (below_alloc (Below.refl _ _) (Obj.cells #[.slice AN nm.length cN, .bool false, .slice AB bd.length cB] 72)))
       clear hh ht1 hT y1 y2 y3 y4 hWw
       go_wp2_with fail
       go_roundg k2
       case measure => omega
       case rel => exact ⟨j + 1, by first | rfl | (rw [wid (by omega) (by omega)]; simp), ⟨by omega, by omega⟩, ⟨by rw [HSN.out]; exact HS4.out⟩⟩
      | true =>
       obtain ⟨x, ht⟩ := ht1 hh
       rw [ht] at hT
       rw [hh] at x1
       obtain ⟨b1, b2, b3, b4, b5, b6⟩ := HP.out.body (Rs.length + j) x (by omega) hT
       rw [bodyN_la hj] at b1
       have hnm := HP.out.ln j
       have hacc := size_prL HP.out j (by omega)
       have HSN : Aside0 (prL Rs Ls (j + 1) = prL Rs Ls j ++ lineB (⟨#[94]⟩ ++ lnL Ls j) (txT (rnR Rs) (lnL Ls) x)) := ⟨by rw [prL, hh, hT]; rfl⟩
       have HTX2 : Aside0 (∀ w' v, Below w.heap.size w w' → TrV w x v → Calls Try.prog 92 #[.agg #[.slice A0 Rs.length c0, .slice (some ad) Ls.length c1], v] w' (StrPost w' (txT (rnR Rs) (lnL Ls) x))) := ⟨HTX.out x b2 b3 b4 (by omega)⟩
       have hfl := nd_flat x
       generalize txT (rnR Rs) (lnL Ls) x = X at *
       generalize hP : prL Rs Ls j = P at *
       have hP2 := Aside0.mk hP
       have hacc2 : P.size ≤ 9999999999 := by omega
       clear hP hacc hh
       change (rd_T72 Ls (j : Int)).f2 = flat x at b1
       have hbl : (rd_T72 Ls (j : Int)).f2.length ≤ 2000 := by rw [b1]; omega
       rw [lnL] at hnm HSN
       generalize rd_T72 Ls (j : Int) = r at *
       obtain ⟨nm, ha, bd⟩ := r
       simp only at x0 x1 x2 y1 y2 y3 y4 ht hnm HSN hbl
       have hbx : Below wr.heap.size wr (wr.alloc (Obj.cells #[.slice AN nm.length cN, .bool true, .slice AB bd.length cB] 72)) := below_alloc (Below.refl _ _) _
       have hcv := Kd.C_string (P := Try.prog) (dst := 9) (c := cN) Try.underlying36 Try.underlying5 Try.underlying9 (Kd.C_below (Kd.C_below y2 hWw) hbx)
       have HS4 := Aside0.mk (HS.out.below hbx)
       have HC := Aside0.mk y4
       have HTF := Aside0.mk ht
       generalize strOfNums nm = NM at *
       have HNS : Aside0 ((⟨#[94]⟩ ++ NM : ByteArray).size ≤ 100) := ⟨by rw [ByteArray.size_append]; show 1 + _ ≤ 100; omega⟩
       have f0 := eq_false (show ¬ (9223372036854775807 < 1 + NM.size) by omega)
       have HQ9 := Aside0.mk (And.intro hacc2 (And.intro hbl (And.intro b6 y3)))
       clear ht hT b1 b2 b3 b4 b5 b6 y1 y2 y3 y4 hbx hfl hWw ht1 hbl hacc2 hnm
       have HQ := fun W' h => line_in w W1 W' A0 _ c0 c1 Rs Ls w.heap.size b P (⟨#[94]⟩ ++ NM) AB cB bd x X h HGB.out HB.out HC.out HQ9.out.2.2.2 HQ9.out.2.1 HTF.out HTX2 HQ9.out.2.2.1 HNS.out HQ9.out.1
       have HQA := Aside0.mk HQ
       clear HQ HTX2 HC HTF HNS HQ9
       go_wp2_with (go_at_call 89; refine (HQA.out _ HS4.out).mono ?_; go_must (rintro e W5 ⟨rfl, hS⟩; have HS5 := Aside0.mk hS; clear hS HS4 hcv f0 x0 x1 x2 lx e2 e3))
       go_roundg k2
       case measure => omega
       case rel => exact ⟨j + 1, by first | rfl | (rw [wid (by omega) (by omega)]; simp), ⟨by omega, by omega⟩, ⟨by rw [HSN.out]; exact HS5.out⟩⟩
end Go.Proofs.Ytdiilocgjnlmiaa.Tre
end
section
namespace Go.Proofs.Ytdiilocgjnlmiaa.Tre
open Go.RowKit Go.Proofs.YtdiilocgjnlmiaaW.PrintWords Go.Proofs.YtdiilocgjnlmiaaW.PrintLast Go.Proofs.YtdiilocgjnlmiaaW.PrintMore
open Go.Proofs.Ytdiilocgjnlmiaa.PAll Go.Proofs.Ytdiilocgjnlmiaa.OwnM
set_option linter.unusedVariables false
set_option linter.unusedSimpArgs false
theorem pmark_x {U0 W4 W8 W9 : World} {G : Gr} (hW : WGr W4 (fun b => U0.heap.size ≤ b) G) (h8 : Below U0.heap.size U0 W8) (hE : Evo (grX G) W8 W9) : Below U0.heap.size U0 W9 ∧ ∀ b, W4.heap.size ≤ b → b < W8.heap.size → W9.heap[b]? = W8.heap[b]? :=
 ⟨h8.trans (hE.below h8.size fun k hk => (grX_in hW hk).1), fun b hb hl => hE.same b hl fun hx => absurd (grX_in hW hx).2 (by omega)⟩
theorem pwgr_below {W W' : World} {X : Nat → Prop} {G : Gr} (h : WGr W X G) (hb : Below W.heap.size W W') : WGr W' X G := WGr.evo h (Evo.of_below (X := fun _ => False) hb)
theorem OwY.lower {B B' : Nat} {W : World} {v : Value} {xs : List Int} (h : OwY B W v xs) (hB : B' ≤ B) : OwY B' W v xs := by
 refine ⟨h.1, ?_⟩
 rcases h.2 with hn | ⟨g, cap, cur, fz, e, hb, rest⟩
 ·exact .inl hn
 exact .inr ⟨g, cap, cur, fz, e, Nat.le_trans hB hb, rest⟩
theorem prF_len (Rs : List Ru) (Ls : List La) : (nB (prF Rs Ls)).length ≤ 2000000000 := by
 rw [nB_len]
 unfold prF
 split
 ·next h =>
  have hv := validB_iff.1 h
  have h1 := size_prL hv.prints Ls.length (Nat.le_refl _)
  have h2 := hv.r2
  have h3 := hv.l2
  omega
 exact Nat.zero_le _
set_option maxRecDepth 100000 in
set_option maxHeartbeats 8000000 in
theorem law_print_in (w : World) (A0 A1 : Option Addr) (c0 c1 : Nat) (Rs : List LRu) (Ls : List LLa) (hr0 : Kd.C k153 w A0 Rs.length Rs) (hc0 : Rs.length ≤ c0) (hr1 : Kd.C k156 w A1 Ls.length Ls) (hc1 : Ls.length ≤ c1) (hR : inR Rs) (hL : inL Ls) :
 Calls Try.prog 8 #[.agg #[.slice A0 Rs.length c0, .slice A1 Ls.length c1]] w (TruePost w) := by
 obtain ⟨r, hr, hr2⟩ := szGrammar_f Rs Ls hR hL 3200001 (by omega)
 have HR0 := Aside0.mk hr0
 have HL0 := Aside0.mk hr1
 have HRR := Aside0.mk hr
 have HB0 : Aside0 (Below w.heap.size w (w.alloc (Obj.cells #[.slice A0 Rs.length c0, .slice A1 Ls.length c1] 25))) := ⟨below_alloc (Below.refl _ _) _⟩
 have HX0 := Aside0.mk (blk_new w (Obj.cells #[.slice A0 Rs.length c0, .slice A1 Ls.length c1] 25))
 clear hr hr0 hr1 hR hL
 rcases hr2 with hneg | ⟨hpos, sm1, sm2⟩
 ·have d1 : decide (r < 0) = true := decide_eq_true hneg
  go_enter Try.func8, Try.ntmps8
  go_wp2_with (first
   | (go_at_call 10; refine (laws_szGrammar.calls 3200001 A0 c0 Rs A1 c1 Ls 1048576 r _ (Kd.C_below HR0.out HB0.out) hc0 (Kd.C_below HL0.out HB0.out) hc1 HRR.out).mono ?_; go_must (rintro e W1 ⟨rfl, hb⟩; have HB1 := Aside0.mk (below_then HB0.out HB0.out.size hb); clear hb)))
  go_ret
  exact ⟨rfl, HB1.out⟩
 have d1 : decide (r < 0) = false := decide_eq_false (by omega)
 have hss := ssRs_of sm1
 have hsl := ssLs_of sm2
 have hto := toGrammar_f Rs Ls sm1 sm2 3200001 (by omega)
 have hok := okG_of hss hsl
 generalize hxr : Rs.map cvR = Xr at *
 generalize hxl : Ls.map cvL = Xl at *
 have hm := prF_len Xr Xl
 generalize hM : nB (prF Xr Xl) = M at hm
 have HTO := Aside0.mk hto
 have HOK := Aside0.mk hok
 have HSS := Aside0.mk hss
 have HSL := Aside0.mk hsl
 have HMM := Aside0.mk hM
 clear hto hok hss hsl hM hxr hxl sm1 sm2
 go_enter Try.func8, Try.ntmps8
 go_wp2_with (first
  | (go_at_call 10; refine (laws_szGrammar.calls 3200001 A0 c0 Rs A1 c1 Ls 1048576 r _ (Kd.C_below HR0.out HB0.out) hc0 (Kd.C_below HL0.out HB0.out) hc1 HRR.out).mono ?_; go_must (rintro e W1 ⟨rfl, hb⟩; have HB1 := Aside0.mk (below_then HB0.out HB0.out.size hb); have HX1 := Aside0.mk (blk_below HX0.out hb); have p0 := blk_cell HX1.out 0; have p1 := blk_cell HX1.out 1; clear hb))
  | (go_at_call 12; refine (laws_toGrammar.calls 3200001 A0 c0 Rs A1 c1 Ls Xr Xl _ (Kd.C_below HR0.out HB1.out) hc0 (Kd.C_below HL0.out HB1.out) hc1 HTO.out).mono ?_; go_must (rintro e W2 ⟨v0, v1, rfl, h0, h1, hb⟩; obtain ⟨a0, b0, a1, b1, rfl, rfl, hg⟩ := grc_of_R h0 h1; have HG2 := Aside0.mk hg; have HB2 := Aside0.mk (below_then HB1.out HB1.out.size hb); have HX2 := Aside0.mk (blk_below HX1.out hb); clear hb h0 h1 hg))
  | (go_at_call 38; refine (sprint_in W2 a0 a1 b0 b1 Xr Xl HG2.out.r HG2.out.rc HG2.out.l HG2.out.lc HOK.out).mono ?_; go_must (rintro e W3 ⟨v, rfl, hv, hb⟩; rw [HMM.out] at hv; obtain ⟨aw, cw, rfl⟩ := OwY.form hv; have HW3 := Aside0.mk (OwY.C hv); have HB3 := Aside0.mk (below_then HB2.out HB2.out.size hb); have HX3 := Aside0.mk (blk_below HX2.out hb); have px0 := blk_cell HX3.out 0; have px1 := blk_cell HX3.out 1; clear hb hv))
  | (go_at_call 12; refine (laws_toGrammar.calls 3200001 A0 c0 Rs A1 c1 Ls Xr Xl W3 (Kd.C_below HR0.out HB3.out) hc0 (Kd.C_below HL0.out HB3.out) hc1 HTO.out).mono ?_; go_must (rintro e W4 ⟨v0, v1, rfl, h0, h1, hb⟩; obtain ⟨G, hG, hWG, hGc⟩ := wgr_of_R h0 h1 HSS.out HSL.out; obtain ⟨a4, b4, a5, b5, rfl, rfl, hg⟩ := grc_of_R h0 h1; have HWG := Aside0.mk hWG; have HGE := Aside0.mk hG; have HGC := Aside0.mk hGc; have HU4 := Aside0.mk (below_alloc hb (Obj.cells #[.slice a4 Xr.length b4, .slice a5 Xl.length b5] 31)); have HG4 := Aside0.mk (hg.below (below_alloc (Below.refl _ _) (Obj.cells #[.slice a4 Xr.length b4, .slice a5 Xl.length b5] 31))); have HZ4 := Aside0.mk (blk_new W4 (Obj.cells #[.slice a4 Xr.length b4, .slice a5 Xl.length b5] 31)); clear hb h0 h1 hg hG hWG hGc))
  | (go_at_call 39; refine (print_in _ a4 a5 b4 b5 Xr Xl HG4.out.r HG4.out.rc HG4.out.l HG4.out.lc HOK.out).mono ?_; go_must (rintro e W5 ⟨v, rfl, ho, hb⟩; rw [HMM.out] at ho; obtain ⟨ag, cg, rfl⟩ := OwY.form ho; have HO5 : Aside0 (OwY _ W5 _ M) := Aside0.mk ho; have HV5 := Aside0.mk hb; have HZ5 := Aside0.mk (blk_below HZ4.out hb); have HU5 := Aside0.mk (below_then HU4.out HU4.out.size hb); have HX5 := Aside0.mk (blk_below HX3.out HU5.out); have pz0 := blk_cell HZ5.out 0; have pz1 := blk_cell HZ5.out 1; clear hb ho))
  | (go_at_call 22; refine (eqY_in rfl rfl HO5.out.C ⟨Kd.C_below HW3.out.1 HU5.out, HW3.out.2⟩ (by omega)).mono ?_; go_must (rintro e W6 ⟨rfl, hb⟩; have HU6 := Aside0.mk (below_then HU5.out HU5.out.size hb); have HV6 := Aside0.mk (below_then HV5.out HV5.out.size hb); have HX6 := Aside0.mk (blk_below HX5.out hb); have HZ6 := Aside0.mk (blk_below HZ5.out hb); have HO6 := Aside0.mk (HO5.out.below hb); have qx0 := blk_cell HX6.out 0; have qx1 := blk_cell HX6.out 1; have qz0 := blk_cell HZ6.out 0; have qz1 := blk_cell HZ6.out 1; clear hb)))
 have hbz : Aside0 (Below W6.heap.size W6 W6) := ⟨Below.refl _ _⟩
 go_region_held3 (fun W' => W'.cell? ⟨W4.heap.size, 0, none⟩ = some (.slice a4 Xr.length b4) ∧ W'.cell? ⟨W4.heap.size, 1, none⟩ = some (.slice a5 Xl.length b5) ∧ W'.cell? ⟨w.heap.size, 0, none⟩ = some (.slice A0 Rs.length c0) ∧ W'.cell? ⟨w.heap.size, 1, none⟩ = some (.slice A1 Ls.length c1) ∧ Aside0 (Below W6.heap.size W6 W'))
  (first | exact ⟨qz0, qz1, qx0, qx1, ⟨Below.refl _ _⟩⟩ | (go_split_ands; exact four_step (by first | (with_reducible exact pw_below_drewN (Below.refl _ _) _) | (with_reducible exact below_drew1 (Below.refl _ _)) | (with_reducible assumption)) ⟨by assumption, by assumption, by assumption, by assumption, by assumption⟩))
  (first
   | (go_at_call 12; go_split_ands; go_must (refine (laws_toGrammar.calls 3200001 A0 c0 Rs A1 c1 Ls Xr Xl _ (Kd.C_below HR0.out (below_then HB3.out HB3.out.size (below_then HU6.out HU6.out.size (Aside0.out (by assumption))))) hc0 (Kd.C_below HL0.out (below_then HB3.out HB3.out.size (below_then HU6.out HU6.out.size (Aside0.out (by assumption))))) hc1 HTO.out).mono ?_); rintro e W7 ⟨v0, v1, rfl, h0, h1, hb⟩; obtain ⟨a7, b7, a8, b8, rfl, rfl, hg⟩ := grc_of_R h0 h1; have HG7 := Aside0.mk hg; clear h0 h1 hg)
   | (go_at_call 14; go_split_ands; go_must (refine (eq_in (HG4.out.below (below_then HV6.out HV6.out.size (Aside0.out (by assumption)))) (HG7.out.below (by repeat (first | exact Below.refl _ _ | apply Below.drew))) HSS.out HSL.out).mono ?_); rintro e W8 ⟨rfl, hb⟩; have HB68 : Aside0 (Below W6.heap.size W6 W8) := ⟨have hq : Below W6.heap.size W6 _ := Aside0.out (by assumption); below_then hq hq.size hb⟩))
 have HU8 := Aside0.mk (below_then HU6.out HU6.out.size HB68.out)
 have HO8 := Aside0.mk (HO6.out.below HB68.out)
 have rz0 := pw_cell_below HB68.out qz0
 have rz1 := pw_cell_below HB68.out qz1
 have HV8 := Aside0.mk (below_then HV6.out HV6.out.size HB68.out)
 have HL4 : Aside0 (W4.heap.size ≤ (W4.alloc (Obj.cells #[.slice a4 Xr.length b4, .slice a5 Xl.length b5] 31)).heap.size) := ⟨by simp⟩
 have HL3 : Aside0 (W3.heap.size ≤ (W4.alloc (Obj.cells #[.slice a4 Xr.length b4, .slice a5 Xl.length b5] 31)).heap.size) := ⟨HU4.out.size⟩
 have HW48 : Aside0 (Below W4.heap.size W4 W8) := ⟨below_then (below_alloc (Below.refl _ _) _) HL4.out HV8.out⟩
 have d2 : decide (1 + (cntG G : Int) < 0) = false := decide_eq_false (by omega)
 have d3 : decide (1 + (M.length : Int) < 0) = false := decide_eq_false (by omega)
 clear qx0 qx1 qz0 qz1
 go_wp2_with (first
  | (go_at_call 40; refine (heldY_in rfl HO15.out.C (by omega)).mono ?_; go_must (rintro e W16 ⟨rfl, hb⟩; have HU16 := Aside0.mk (below_then HU15.out HU15.out.size hb); clear hb))
  | (go_at_call 22; refine (eqY_in rfl rfl HH14.out.C ⟨Kd.C_below HW3.out.1 HU14.out, HW3.out.2⟩ (by omega)).mono ?_; go_must (rintro e W15 ⟨rfl, hb⟩; have HU15 := Aside0.mk (below_then HU14.out HU14.out.size hb); have HO15 := Aside0.mk (HO14.out.below hb); clear hb))
  | (go_at_call 39; refine (print_in W13 a9 a10 b9 b10 Xr Xl HG13.out.r HG13.out.rc HG13.out.l HG13.out.lc HOK.out).mono ?_; go_must (rintro e W14 ⟨v, rfl, ho, hb⟩; rw [HMM.out] at ho; obtain ⟨ah, ch, rfl⟩ := OwY.form ho; have HH14 : Aside0 (OwY _ W14 _ M) := Aside0.mk ho; have HO14 := Aside0.mk (HO13.out.below hb); have HU14 := Aside0.mk (below_then HU13.out HU13.out.size hb); clear hb ho))
  | (go_at_call 12; refine (laws_toGrammar.calls 3200001 A0 c0 Rs A1 c1 Ls Xr Xl W12 (Kd.C_below HR0.out (below_then HB3.out HB3.out.size HU12.out)) hc0 (Kd.C_below HL0.out (below_then HB3.out HB3.out.size HU12.out)) hc1 HTO.out).mono ?_; go_must (rintro e W13 ⟨v0, v1, rfl, h0, h1, hb⟩; obtain ⟨a9, b9, a10, b10, rfl, rfl, hg⟩ := grc_of_R h0 h1; have HG13 := Aside0.mk hg; have HU13 := Aside0.mk (below_then HU12.out HU12.out.size hb); have HO13 := Aside0.mk (HO12.out.below hb); clear hb h0 h1 hg))
  | (go_at_call 40; refine (heldY_in rfl HO11.out.C (by omega)).mono ?_; go_must (rintro e W12 ⟨rfl, hb⟩; have HU12 := Aside0.mk (below_then HU11.out HU11.out.size hb); have HO12 := Aside0.mk (HO11.out.below hb); have HX12 := Aside0.mk (blk_below HX3.out HU12.out); have ux0 := blk_cell HX12.out 0; have ux1 := blk_cell HX12.out 1; clear hb))
  | (go_at_call 24; refine (markY_in (w0 := W3) HU10.out (OwY.lower HO10.out HL3.out) (by omega)).mono ?_; go_must (rintro e W11 ⟨rfl, ho, hb⟩; have ho := ho; rw [show Value.slice ag M.length cg = Value.slice ag (mkB 1 M.length).length cg by rw [mkB_len]] at ho; have HO11 := Aside0.mk ho; have HU11 := Aside0.mk hb; clear hb ho))
  | (go_at_call 22; refine (eqY_in rfl rfl HO9.out.C ⟨Kd.C_below HW3.out.1 HU9.out, HW3.out.2⟩ (by omega)).mono ?_; go_must (rintro e W10 ⟨rfl, hb⟩; have HU10 := Aside0.mk (below_then HU9.out HU9.out.size hb); have HO10 := Aside0.mk (HO9.out.below hb); clear hb))
  | (go_at_call 29; rw [← HGE.out]; refine (markGram_in W8 _ G 1 (pwgr_below HWG.out HW48.out) (by omega) (by have := HGC.out; omega)).mono ?_; go_must (rintro e W9 ⟨rfl, hE, _⟩; obtain ⟨hU9, hs9⟩ := pmark_x HWG.out HU8.out hE; have HU9 := Aside0.mk hU9; have HO9 : Aside0 (OwY _ W9 _ M) := Aside0.mk (Owns.keepB HO8.out fun b hb hl => hs9 b (Nat.le_trans HL4.out hb) hl); clear hE hU9 hs9)))
 go_ret
 exact ⟨rfl, below_then HB3.out HB3.out.size HU16.out⟩
end Go.Proofs.Ytdiilocgjnlmiaa.Tre
end
