import Derived.Test.YtdiilocgjnlmiaaCchPAllx15
import Derived.Test.YtdiilocgjnlmiaaCchSCheck
import Derived.Deep.RegionHeld3
import Derived.Outline
namespace Go.Proofs.Ytdiilocgjnlmiaa.Tre
open Go.RowKit Go.Proofs.YtdiilocgjnlmiaaW.PrintWords Go.Proofs.YtdiilocgjnlmiaaW.PrintLast Go.Proofs.YtdiilocgjnlmiaaW.PrintMore
open Go.Proofs.Ytdiilocgjnlmiaa.PAll
set_option linter.unusedVariables false
set_option linter.unusedSimpArgs false
set_option maxRecDepth 100000 in
set_option maxHeartbeats 8000000 in
theorem law_check_in (w : World) (A0 A1 : Option Addr) (c0 c1 : Nat) (Rs : List LRu) (Ls : List LLa) (hr0 : Kd.C k153 w A0 Rs.length Rs) (hc0 : Rs.length ≤ c0) (hr1 : Kd.C k156 w A1 Ls.length Ls) (hc1 : Ls.length ≤ c1) (hR : inR Rs) (hL : inL Ls) :
 Calls Try.prog 7 #[.agg #[.slice A0 Rs.length c0, .slice A1 Ls.length c1]] w (TruePost w) := by
 obtain ⟨r, hr, hr2⟩ := szGrammar_f Rs Ls hR hL 3200001 (by omega)
 have HR0 := Aside0.mk hr0
 have HL0 := Aside0.mk hr1
 have HRR := Aside0.mk hr
 have HB0 : Aside0 (Below w.heap.size w (w.alloc (Obj.cells #[.slice A0 Rs.length c0, .slice A1 Ls.length c1] 25))) := ⟨below_alloc (Below.refl _ _) _⟩
 have HX0 := Aside0.mk (blk_new w (Obj.cells #[.slice A0 Rs.length c0, .slice A1 Ls.length c1] 25))
 clear hr hr0 hr1 hR hL
 rcases hr2 with hneg | ⟨hpos, sm1, sm2⟩
 ·have d1 : decide (r < 0) = true := decide_eq_true hneg
  go_enter Try.func7, Try.ntmps7
  go_wp2_with (first
   | (go_at_call 10; refine (laws_szGrammar.calls 3200001 A0 c0 Rs A1 c1 Ls 1048576 r _ (Kd.C_below HR0.out HB0.out) hc0 (Kd.C_below HL0.out HB0.out) hc1 HRR.out).mono ?_; go_must (rintro e W1 ⟨rfl, hb⟩; have HB1 := Aside0.mk (below_then HB0.out HB0.out.size hb); clear hb)))
  go_ret
  exact ⟨rfl, HB1.out⟩
 have d1 : decide (r < 0) = false := decide_eq_false (by omega)
 have hss := ssRs_of sm1
 have hsl := ssLs_of sm2
 have hto := toGrammar_f Rs Ls sm1 sm2 3200001 (by omega)
 have hok := okG_of hss hsl
 generalize hxr : Rs.map cvR = Xr at *
 generalize hxl : Ls.map cvL = Xl at *
 generalize hch : chkF Xr Xl = pq
 obtain ⟨p, q⟩ := pq
 have HCH := Aside0.mk hch
 have HTO := Aside0.mk hto
 have HOK := Aside0.mk hok
 have HSS := Aside0.mk hss
 have HSL := Aside0.mk hsl
 clear hto hok hss hsl hch hxr hxl sm1 sm2
 go_enter Try.func7, Try.ntmps7
 go_wp2_with (first
  | (go_at_call 10; refine (laws_szGrammar.calls 3200001 A0 c0 Rs A1 c1 Ls 1048576 r _ (Kd.C_below HR0.out HB0.out) hc0 (Kd.C_below HL0.out HB0.out) hc1 HRR.out).mono ?_; go_must (rintro e W1 ⟨rfl, hb⟩; have HB1 := Aside0.mk (below_then HB0.out HB0.out.size hb); have HX1 := Aside0.mk (blk_below HX0.out hb); have p0 := blk_cell HX1.out 0; have p1 := blk_cell HX1.out 1; clear hb))
  | (go_at_call 12; refine (laws_toGrammar.calls 3200001 A0 c0 Rs A1 c1 Ls Xr Xl _ (Kd.C_below HR0.out HB1.out) hc0 (Kd.C_below HL0.out HB1.out) hc1 HTO.out).mono ?_; go_must (rintro e W2 ⟨v0, v1, rfl, h0, h1, hb⟩; obtain ⟨a0, b0, a1, b1, rfl, rfl, hg⟩ := grc_of_R h0 h1; have HG2 := Aside0.mk hg; have HB2 := Aside0.mk (below_then HB1.out HB1.out.size hb); have HX2 := Aside0.mk (blk_below HX1.out hb); clear hb h0 h1 hg))
  | (go_at_call 36; refine (scheck_in W2 a0 a1 b0 b1 Xr Xl HG2.out.r HG2.out.rc HG2.out.l HG2.out.lc HOK.out).mono ?_; go_must (rw [HCH.out]; rintro e W3 ⟨rfl, hb⟩; have HB3 := Aside0.mk (below_then HB2.out HB2.out.size hb); have HX3 := Aside0.mk (blk_below HX2.out hb); have px0 := blk_cell HX3.out 0; have px1 := blk_cell HX3.out 1; clear hb))
  | (go_at_call 12; refine (laws_toGrammar.calls 3200001 A0 c0 Rs A1 c1 Ls Xr Xl W3 (Kd.C_below HR0.out HB3.out) hc0 (Kd.C_below HL0.out HB3.out) hc1 HTO.out).mono ?_; go_must (rintro e W4 ⟨v0, v1, rfl, h0, h1, hb⟩; obtain ⟨a4, b4, a5, b5, rfl, rfl, hg⟩ := grc_of_R h0 h1; have HU4 := Aside0.mk (below_alloc hb (Obj.cells #[.slice a4 Xr.length b4, .slice a5 Xl.length b5] 31)); have HG4 := Aside0.mk (hg.below (below_alloc (Below.refl _ _) (Obj.cells #[.slice a4 Xr.length b4, .slice a5 Xl.length b5] 31))); have HZ4 := Aside0.mk (blk_new W4 (Obj.cells #[.slice a4 Xr.length b4, .slice a5 Xl.length b5] 31)); clear hb h0 h1 hg))
  | (go_at_call 37; refine (check_in _ a4 a5 b4 b5 Xr Xl HG4.out.r HG4.out.rc HG4.out.l HG4.out.lc HOK.out).mono ?_; go_must (rw [HCH.out]; rintro e W6 ⟨rfl, hb⟩; have HV6 := Aside0.mk hb; have HZ6 := Aside0.mk (blk_below HZ4.out hb); have HU6 := Aside0.mk (below_then HU4.out HU4.out.size hb); have HX6 := Aside0.mk (blk_below HX3.out HU6.out); have qx0 := blk_cell HX6.out 0; have qx1 := blk_cell HX6.out 1; have qz0 := blk_cell HZ6.out 0; have qz1 := blk_cell HZ6.out 1; clear hb)))
 have hbz : Aside0 (Below W6.heap.size W6 W6) := ⟨Below.refl _ _⟩
 go_region_held3 (fun W' => W'.cell? ⟨W4.heap.size, 0, none⟩ = some (.slice a4 Xr.length b4) ∧ W'.cell? ⟨W4.heap.size, 1, none⟩ = some (.slice a5 Xl.length b5) ∧ W'.cell? ⟨w.heap.size, 0, none⟩ = some (.slice A0 Rs.length c0) ∧ W'.cell? ⟨w.heap.size, 1, none⟩ = some (.slice A1 Ls.length c1) ∧ Aside0 (Below W6.heap.size W6 W'))
  ((go_split_ands; exact four_step (by first | (with_reducible exact below_drew1 (Below.refl _ _)) | (with_reducible assumption)) ⟨by assumption, by assumption, by assumption, by assumption, by assumption⟩))
  (first
   | (go_at_call 12; go_split_ands; go_must (refine (laws_toGrammar.calls 3200001 A0 c0 Rs A1 c1 Ls Xr Xl _ (Kd.C_below HR0.out (below_then HB3.out HB3.out.size (below_then HU6.out HU6.out.size (Aside0.out (by assumption))))) hc0 (Kd.C_below HL0.out (below_then HB3.out HB3.out.size (below_then HU6.out HU6.out.size (Aside0.out (by assumption))))) hc1 HTO.out).mono ?_); rintro e W7 ⟨v0, v1, rfl, h0, h1, hb⟩; obtain ⟨a7, b7, a8, b8, rfl, rfl, hg⟩ := grc_of_R h0 h1; have HG7 := Aside0.mk hg; clear h0 h1 hg)
   | (go_at_call 14; go_split_ands; go_must (refine (eq_in (HG4.out.below (below_then HV6.out HV6.out.size (Aside0.out (by assumption)))) (HG7.out.below (by repeat (exact Below.refl _ _))) HSS.out HSL.out).mono ?_); rintro e W8 ⟨rfl, hb⟩; have HB68 : Aside0 (Below W6.heap.size W6 W8) := ⟨have hq : Below W6.heap.size W6 _ := Aside0.out (by assumption); below_then hq hq.size hb⟩))
 go_wp2_with fail
 go_ret
 exact ⟨rfl, below_then HB3.out HB3.out.size (below_then HU6.out HU6.out.size HB68.out)⟩
end Go.Proofs.Ytdiilocgjnlmiaa.Tre
