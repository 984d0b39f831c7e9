/- Lemmas of the proof, and the walks of functions that it stands on. -/
import Derived.Test.YtdiilocgjnlmiaaCcoEraseSteps
import Derived.Test.YtdiilocgjnlmiaaCcoPAllx14
import Derived.Deep.RegionHeld3
import Derived.Outline
section
namespace Go.Proofs.Ytdiilocgjnlmiaa.Tre
open Go.RowKit Go.Proofs.YtdiilocgjnlmiaaW.PrintWords Go.Proofs.YtdiilocgjnlmiaaW.PrintLast Go.Proofs.YtdiilocgjnlmiaaW.PrintMore
open Go.Proofs.Ytdiilocgjnlmiaa.PAll
set_option linter.unusedVariables false
set_option linter.unusedSimpArgs false
def smI (l : List In) : Prop := l.length ≤ 1048576 ∧ ∀ x ∈ l, x.f3.length ≤ 1048576
theorem rd_In {l : List In} {i : Nat} (h : i < l.length) : rd_T88 l (i : Int) = l[i] := inn_get h
theorem eqInsS_l0 (l : List In) (hs : smI l) : ∀ (k : Nat) (i : Nat), i ≤ l.length → l.length - i + 1048577 < k → laws_eqInsS.l0 k l l (i : Int) = some true
 | 0, _, _, h => by omega
 | k + 1, i, hi, hk => by
  have hm := hs.1
  rw [laws_eqInsS.l0]
  by_cases c : i < l.length
  ·have hsm := hs.2 _ (List.getElem_mem c)
   rw [if_pos (by omega), if_pos (by omega), if_pos (by omega), rd_In c]
   rw [laws_eqIns.f, if_pos rfl, if_pos rfl, if_pos rfl, eqIntS_f _ hsm k (by omega), Option.bind_some, if_pos rfl]
   rw [Option.bind_some, if_pos rfl, wid (x := (i : Int) + 1) (by omega) (by omega)]
   exact eqInsS_l0 l hs k (i + 1) (by omega) (by omega)
  rw [if_neg (by omega)]
theorem eqInsS_f (l : List In) (hs : smI l) (k : Nat) (hk : 1048576 + 1048577 < k) : laws_eqInsS.f k l l = some true := by
 have := hs.1
 rw [laws_eqInsS.f, if_pos rfl]; exact eqInsS_l0 l hs k 0 (by omega) (by omega)
def InC (W : World) (A : Option Addr) (c : Nat) (l : List In) : Prop := k88.C W A l.length l ∧ l.length ≤ c
theorem InC.below {W W' : World} {A : Option Addr} {c : Nat} {l : List In} (h : InC W A c l) (hb : Below W.heap.size W W') : InC W' A c l := ⟨Kd.C_below h.1 hb, h.2⟩
theorem InSt.inC {W : World} {B n c : Nat} {A : Option Addr} {sv : Nat → Value} {l : List In} (h : InSt W B (.slice A n c) sv l) (hs : smI l) : InC W A c l := by
 obtain ⟨A', c', e, hc, hC⟩ := h.C hs.1 hs.2
 injection e with e1 e2 e3
 subst e1 e3
 exact ⟨hC, hc⟩
theorem eqIns_in {W : World} {A0 A1 : Option Addr} {c0 c1 n0 n1 : Nat} {l : List In} (e0 : n0 = l.length) (e1 : n1 = l.length) (h0 : InC W A0 c0 l) (h1 : InC W A1 c1 l) (hs : smI l) :
 Calls Try.prog 21 #[.slice A0 n0 c0, .slice A1 n1 c1] W (TruePost W) := by
 subst e0
 rw [e1]
 exact (laws_eqInsS.calls 2200000 A0 c0 l A1 c1 l true W h0.1 h0.2 h1.1 h1.2 (eqInsS_f l hs _ (by omega))).mono fun e w' h => h
def cnI (l : List In) : Nat := cntN (fun q => (inn l q).f3.length) l.length
theorem inn_small {l : List In} (hs : smI l) (q : Nat) : (inn l q).f3.length ≤ 1048576 := by
 by_cases hq : q < l.length
 ·rw [inn_get hq]; exact hs.2 _ (List.getElem_mem hq)
 simp [inn, rd_T88, List.getD_eq_getElem?_getD, List.getElem?_eq_none (by omega : l.length ≤ q), z88]
theorem cnI_le {l : List In} (hs : smI l) : cnI l ≤ 4398046511104 := by
 have h := cntN_le (fun q => inn_small hs q) l.length
 have h1 := hs.1
 have : l.length * (3 + 1048576) ≤ 1048576 * (3 + 1048576) := Nat.mul_le_mul_right _ h1
 unfold cnI
 omega
def mkC (l : List In) : List In := mkNs 1 (fun q => (inn l q).f3.length) l.length
theorem mkC_len (l : List In) : (mkC l).length = l.length := mkNs_len _ _ _
theorem markI_in {w0 W : World} {B n c : Nat} {A : Option Addr} {sv : Nat → Value} {l : List In} (hB : Below w0.heap.size w0 W) (hI : InSt W B (.slice A n c) sv l) (hlo : w0.heap.size ≤ B) (hs : smI l) :
 Calls Try.prog 23 #[.slice A n c, .int .i64 1] W fun e w' => e = .returned (.int .i64 (1 + (cnI l : Int))) ∧ InC w' A c (mkC l) ∧ Below w0.heap.size w0 w' := by
 obtain rfl := hI.len
 have hW := hI.w hs.1 hs.2
 have hc := cnI_le hs
 refine (markIns_in W _ A l.length c sv (fun q => (inn l q).f3.length) 1 hW (by have := hs.1; omega) (by omega) (by unfold cnI at hc; omega)).mono ?_
 rintro e w' ⟨he, hE, hM⟩
 refine ⟨he, ?_, ?_⟩
 ·obtain ⟨A', c', e, hc', hC⟩ := ins_marked (W := w') (k := 1) (hW.evo hE) fun g c e q hq => hM hI.apart g (by injection e) q hq
  injection e with e1 e2 e3
  subst e1 e3
  have hl := mkC_len l
  exact ⟨by rw [hl]; exact hC, by rw [hl]; exact hc'⟩
 refine hB.trans (hE.below hB.size fun b hb => ?_)
 rcases hb with hb | ⟨i, hi, hb⟩
 ·exact Nat.le_trans hlo (hI.row.lt b (ownV_slice.2 hb)).1
 exact Nat.le_trans hlo ((hI.sets i hi).lt b hb).1
theorem heldI_in {W : World} {n c : Nat} {A : Option Addr} {l : List In} (e0 : n = l.length) (h : InC W A c (mkC l)) (hs : smI l) :
 Calls Try.prog 43 #[.slice A n c, .int .i64 1] W fun e w' => e = .returned (.int .i64 (1 + (cnI l : Int))) ∧ Below W.heap.size W w' := by
 have hc := cnI_le hs
 have hl := mkC_len l
 have := laws_heldInsS.calls 2200000 A c (mkC l) 1 (1 + (cnI l : Int)) W h.1 h.2 (heldInsS_f 1 (fun q => (inn l q).f3.length) l.length 2200000 (fun q => inn_small hs q) (by omega) (by unfold cnI at hc; omega) hs.1 (by omega))
 rw [hl] at this
 rw [e0]
 exact this.mono fun e w' h => ⟨h.1, h.2.below⟩
theorem aim_f3 (pr pt : Int → Int) (x : In) : (aim pr pt x).f3 = x.f3 := by
 unfold aim
 split
 ·rfl
 split <;> rfl
theorem comp_small {Rs : List Ru} {Ls : List La} (hsR : ssRs Rs) (hsL : ssLs Ls) : smI (compF Rs Ls).1 := by
 unfold compF
 by_cases hvb : validB Rs Ls = true
 rotate_left
 ·rw [if_neg hvb]
  exact ⟨by simp, fun x hx => by cases hx⟩
 rw [if_pos hvb]
 have hv := validB_iff.1 hvb
 have hr2 := hv.r2
 have hl2 := hv.l2
 refine ⟨?_, fun x hx => ?_⟩
 ·show (compI Rs Ls).length ≤ 1048576
  rw [compI, progN_len]
  have := begN_le hv.nice (Rs.length + Ls.length) (Nat.le_refl _)
  omega
 change x ∈ compI Rs Ls at hx
 rw [compI, ← aim_progN] at hx
 obtain ⟨y, hy, rfl⟩ := List.mem_map.1 hx
 rw [aim_f3]
 have hsm : ∀ i x, tr (trees Rs Ls) i = some x → smT x := fun i x hx => by
  by_cases hi : i < Rs.length + Ls.length
  rotate_left
  ·rw [tr, List.getD_eq_getElem?_getD, List.getElem?_eq_none (by rw [len_trees]; omega)] at hx
   cases hx
  rcases hv.nice.body i hi with ⟨_, e2⟩ | ⟨y, e1, e2, _, _⟩
  ·rw [e2] at hx; cases hx
  rw [e1] at hx
  injection hx with hx
  subst hx
  refine smT_flat _ ?_
  rw [← e2]
  by_cases hlt : i < Rs.length
  ·rw [bodyN_ru hlt]
   exact (hsR.2 _ (ru_mem hlt)).2.2
  obtain ⟨j, rfl⟩ : ∃ j, i = Rs.length + j := ⟨i - Rs.length, by omega⟩
  rw [bodyN_la (by omega)]
  exact (hsL.2 _ (la_mem (by omega))).2.2
 have hok : ∀ i, okO Rs.length Ls.length (tr (trees Rs Ls) i) := fun i => by
  by_cases hi : i < Rs.length + Ls.length
  ·rcases hv.nice.body i hi with ⟨_, e2⟩ | ⟨y, e1, _, e3, _⟩
   ·rw [e2]; intro t ht; cases ht
   rw [e1]; intro t ht; injection ht with ht; rw [← ht]; exact e3
  intro t ht
  rw [tr, List.getD_eq_getElem?_getD, List.getElem?_eq_none (by rw [len_trees]; omega)] at ht
  cases ht
 exact (okI_progN (by have := hv.r1; omega) hok hsm _ y hy).2.2
end Go.Proofs.Ytdiilocgjnlmiaa.Tre
end
section
namespace Go.Proofs.Ytdiilocgjnlmiaa.Tre
open Go.RowKit Go.Proofs.YtdiilocgjnlmiaaW.PrintWords Go.Proofs.YtdiilocgjnlmiaaW.PrintLast Go.Proofs.YtdiilocgjnlmiaaW.PrintMore
open Go.Proofs.Ytdiilocgjnlmiaa.PAll
set_option linter.unusedVariables false
set_option linter.unusedSimpArgs false
theorem nmark_x {U0 W4 W8 W9 : World} {G : Gr} (hW : WGr W4 (fun b => U0.heap.size ≤ b) G) (h8 : Below U0.heap.size U0 W8) (hE : Evo (grX G) W8 W9) : Below U0.heap.size U0 W9 ∧ ∀ b, W4.heap.size ≤ b → b < W8.heap.size → W9.heap[b]? = W8.heap[b]? :=
 ⟨h8.trans (hE.below h8.size fun k hk => (grX_in hW hk).1), fun b hb hl => hE.same b hl fun hx => absurd (grX_in hW hx).2 (by omega)⟩
theorem nwgr_below {W W' : World} {X : Nat → Prop} {G : Gr} (h : WGr W X G) (hb : Below W.heap.size W W') : WGr W' X G := WGr.evo h (Evo.of_below (X := fun _ => False) hb)
set_option maxRecDepth 100000 in
set_option maxHeartbeats 8000000 in
theorem law_compile_in (w : World) (A0 A1 : Option Addr) (c0 c1 : Nat) (Rs : List LRu) (Ls : List LLa) (hr0 : Kd.C k153 w A0 Rs.length Rs) (hc0 : Rs.length ≤ c0) (hr1 : Kd.C k156 w A1 Ls.length Ls) (hc1 : Ls.length ≤ c1) (hR : inR Rs) (hL : inL Ls) :
 Calls Try.prog 9 #[.agg #[.slice A0 Rs.length c0, .slice A1 Ls.length c1]] w (TruePost w) := by
 obtain ⟨r, hr, hr2⟩ := szGrammar_f Rs Ls hR hL 3200001 (by omega)
 have HR0 := Aside0.mk hr0
 have HL0 := Aside0.mk hr1
 have HRR := Aside0.mk hr
 have HB0 : Aside0 (Below w.heap.size w (w.alloc (Obj.cells #[.slice A0 Rs.length c0, .slice A1 Ls.length c1] 25))) := ⟨below_alloc (Below.refl _ _) _⟩
 have HX0 := Aside0.mk (blk_new w (Obj.cells #[.slice A0 Rs.length c0, .slice A1 Ls.length c1] 25))
 clear hr hr0 hr1 hR hL
 rcases hr2 with hneg | ⟨hpos, sm1, sm2⟩
 ·have d1 : decide (r < 0) = true := decide_eq_true hneg
  go_enter Try.func9, Try.ntmps9
  go_wp2_with (first
   | (go_at_call 10; refine (laws_szGrammar.calls 3200001 A0 c0 Rs A1 c1 Ls 1048576 r _ (Kd.C_below HR0.out HB0.out) hc0 (Kd.C_below HL0.out HB0.out) hc1 HRR.out).mono ?_; go_must (rintro e W1 ⟨rfl, hb⟩; have HB1 := Aside0.mk (below_then HB0.out HB0.out.size hb); clear hb)))
  go_ret
  exact ⟨rfl, HB1.out⟩
 have d1 : decide (r < 0) = false := decide_eq_false (by omega)
 have hss := ssRs_of sm1
 have hsl := ssLs_of sm2
 have hto := toGrammar_f Rs Ls sm1 sm2 3200001 (by omega)
 have hok := okG_of hss hsl
 generalize hxr : Rs.map cvR = Xr at *
 generalize hxl : Ls.map cvL = Xl at *
 have hcs := comp_small hss hsl
 generalize hcf : compF Xr Xl = pq at hcs
 obtain ⟨M, kc⟩ := pq
 have hmn : M.length ≤ 1048576 := hcs.1
 obtain ⟨cn, hcn⟩ : ∃ cn : Nat, cn = cnI M := ⟨_, rfl⟩
 have hcb : cn ≤ 4398046511104 := by rw [hcn]; exact cnI_le hcs
 obtain ⟨mn, hmn2⟩ : ∃ mn : Nat, mn = M.length := ⟨_, rfl⟩
 have HMN := Aside0.mk hmn2
 have HCN := Aside0.mk hcn
 have HCF := Aside0.mk hcf
 have HSI : Aside0 (smI M) := ⟨hcs⟩
 have HTO := Aside0.mk hto
 have HOK := Aside0.mk hok
 have HSS := Aside0.mk hss
 have HSL := Aside0.mk hsl
 clear hto hok hss hsl hcf hxr hxl sm1 sm2 hcs hmn hcn hmn2
 go_enter Try.func9, Try.ntmps9
 go_wp2_with (first
  | (go_at_call 10; refine (laws_szGrammar.calls 3200001 A0 c0 Rs A1 c1 Ls 1048576 r _ (Kd.C_below HR0.out HB0.out) hc0 (Kd.C_below HL0.out HB0.out) hc1 HRR.out).mono ?_; go_must (rintro e W1 ⟨rfl, hb⟩; have HB1 := Aside0.mk (below_then HB0.out HB0.out.size hb); have HX1 := Aside0.mk (blk_below HX0.out hb); have p0 := blk_cell HX1.out 0; have p1 := blk_cell HX1.out 1; clear hb))
  | (go_at_call 12; refine (laws_toGrammar.calls 3200001 A0 c0 Rs A1 c1 Ls Xr Xl _ (Kd.C_below HR0.out HB1.out) hc0 (Kd.C_below HL0.out HB1.out) hc1 HTO.out).mono ?_; go_must (rintro e W2 ⟨v0, v1, rfl, h0, h1, hb⟩; obtain ⟨a0, b0, a1, b1, rfl, rfl, hg⟩ := grc_of_R h0 h1; have HG2 := Aside0.mk hg; have HB2 := Aside0.mk (below_then HB1.out HB1.out.size hb); have HX2 := Aside0.mk (blk_below HX1.out hb); clear hb h0 h1 hg))
  | (go_at_call 41; refine (scompile_in W2 a0 a1 b0 b1 Xr Xl HG2.out.r HG2.out.rc HG2.out.l HG2.out.lc HOK.out HSS.out HSL.out).mono ?_; go_must (rw [HCF.out]; rintro e W3 ⟨v, svw, rfl, hI, hb⟩; obtain ⟨aw, cw, rfl⟩ := hI.form; have HW3 := Aside0.mk (hI.inC HSI.out); rw [← HMN.out]; have HB3 := Aside0.mk (below_then HB2.out HB2.out.size hb); have HX3 := Aside0.mk (blk_below HX2.out hb); have px0 := blk_cell HX3.out 0; have px1 := blk_cell HX3.out 1; clear hb hI))
  | (go_at_call 12; refine (laws_toGrammar.calls 3200001 A0 c0 Rs A1 c1 Ls Xr Xl W3 (Kd.C_below HR0.out HB3.out) hc0 (Kd.C_below HL0.out HB3.out) hc1 HTO.out).mono ?_; go_must (rintro e W4 ⟨v0, v1, rfl, h0, h1, hb⟩; obtain ⟨G, hG, hWG, hGc⟩ := wgr_of_R h0 h1 HSS.out HSL.out; obtain ⟨a4, b4, a5, b5, rfl, rfl, hg⟩ := grc_of_R h0 h1; have HWG := Aside0.mk hWG; have HGE := Aside0.mk hG; have HGC := Aside0.mk hGc; have HU4 := Aside0.mk (below_alloc hb (Obj.cells #[.slice a4 Xr.length b4, .slice a5 Xl.length b5] 31)); have HG4 := Aside0.mk (hg.below (below_alloc (Below.refl _ _) (Obj.cells #[.slice a4 Xr.length b4, .slice a5 Xl.length b5] 31))); have HZ4 := Aside0.mk (blk_new W4 (Obj.cells #[.slice a4 Xr.length b4, .slice a5 Xl.length b5] 31)); clear hb h0 h1 hg hG hWG hGc))
  | (go_at_call 42; refine (compile_in _ a4 a5 b4 b5 Xr Xl HG4.out.r HG4.out.rc HG4.out.l HG4.out.lc HOK.out HSS.out HSL.out).mono ?_; go_must (rw [HCF.out]; rintro e W5 ⟨v, svg, rfl, hI, hb⟩; obtain ⟨ag, cg, rfl⟩ := hI.form; have hI := hI; rw [← HMN.out] at hI ⊢; have HO5 := Aside0.mk hI; have HV5 := Aside0.mk hb; have HZ5 := Aside0.mk (blk_below HZ4.out hb); have HU5 := Aside0.mk (below_then HU4.out HU4.out.size hb); have HX5 := Aside0.mk (blk_below HX3.out HU5.out); have pz0 := blk_cell HZ5.out 0; have pz1 := blk_cell HZ5.out 1; clear hb hI))
  | (go_at_call 21; refine (eqIns_in HMN.out HMN.out (HO5.out.inC HSI.out) (HW3.out.below HU5.out) HSI.out).mono ?_; go_must (rintro e W6 ⟨rfl, hb⟩; have HU6 := Aside0.mk (below_then HU5.out HU5.out.size hb); have HV6 := Aside0.mk (below_then HV5.out HV5.out.size hb); have HX6 := Aside0.mk (blk_below HX5.out hb); have HZ6 := Aside0.mk (blk_below HZ5.out hb); have HO6 := Aside0.mk (HO5.out.below hb); have qx0 := blk_cell HX6.out 0; have qx1 := blk_cell HX6.out 1; have qz0 := blk_cell HZ6.out 0; have qz1 := blk_cell HZ6.out 1; clear hb)))
 have hbz : Aside0 (Below W6.heap.size W6 W6) := ⟨Below.refl _ _⟩
 go_region_held3 (fun W' => W'.cell? ⟨W4.heap.size, 0, none⟩ = some (.slice a4 Xr.length b4) ∧ W'.cell? ⟨W4.heap.size, 1, none⟩ = some (.slice a5 Xl.length b5) ∧ W'.cell? ⟨w.heap.size, 0, none⟩ = some (.slice A0 Rs.length c0) ∧ W'.cell? ⟨w.heap.size, 1, none⟩ = some (.slice A1 Ls.length c1) ∧ Aside0 (Below W6.heap.size W6 W'))
  (first | exact ⟨qz0, qz1, qx0, qx1, ⟨Below.refl _ _⟩⟩ | (go_split_ands; exact four_step (by first | (with_reducible exact pw_below_drewN (Below.refl _ _) _) | (with_reducible exact below_drew1 (Below.refl _ _)) | (with_reducible assumption)) ⟨by assumption, by assumption, by assumption, by assumption, by assumption⟩))
  (first
   | (go_at_call 12; go_split_ands; go_must (refine (laws_toGrammar.calls 3200001 A0 c0 Rs A1 c1 Ls Xr Xl _ (Kd.C_below HR0.out (below_then HB3.out HB3.out.size (below_then HU6.out HU6.out.size (Aside0.out (by assumption))))) hc0 (Kd.C_below HL0.out (below_then HB3.out HB3.out.size (below_then HU6.out HU6.out.size (Aside0.out (by assumption))))) hc1 HTO.out).mono ?_); rintro e W7 ⟨v0, v1, rfl, h0, h1, hb⟩; obtain ⟨a7, b7, a8, b8, rfl, rfl, hg⟩ := grc_of_R h0 h1; have HG7 := Aside0.mk hg; clear h0 h1 hg)
   | (go_at_call 14; go_split_ands; go_must (refine (eq_in (HG4.out.below (below_then HV6.out HV6.out.size (Aside0.out (by assumption)))) (HG7.out.below (by repeat (first | exact Below.refl _ _ | apply Below.drew))) HSS.out HSL.out).mono ?_); rintro e W8 ⟨rfl, hb⟩; have HB68 : Aside0 (Below W6.heap.size W6 W8) := ⟨have hq : Below W6.heap.size W6 _ := Aside0.out (by assumption); below_then hq hq.size hb⟩))
 have HU8 := Aside0.mk (below_then HU6.out HU6.out.size HB68.out)
 have HO8 := Aside0.mk (HO6.out.below HB68.out)
 have rz0 := pw_cell_below HB68.out qz0
 have rz1 := pw_cell_below HB68.out qz1
 have HV8 := Aside0.mk (below_then HV6.out HV6.out.size HB68.out)
 have HL4 : Aside0 (W4.heap.size ≤ (W4.alloc (Obj.cells #[.slice a4 Xr.length b4, .slice a5 Xl.length b5] 31)).heap.size) := ⟨by simp⟩
 have HL3 : Aside0 (W3.heap.size ≤ (W4.alloc (Obj.cells #[.slice a4 Xr.length b4, .slice a5 Xl.length b5] 31)).heap.size) := ⟨HU4.out.size⟩
 have HW48 : Aside0 (Below W4.heap.size W4 W8) := ⟨below_then (below_alloc (Below.refl _ _) _) HL4.out HV8.out⟩
 have d2 : decide (1 + (cntG G : Int) < 0) = false := decide_eq_false (by omega)
 have d3 : decide (1 + (cn : Int) < 0) = false := decide_eq_false (by omega)
 clear qx0 qx1 qz0 qz1
 go_wp2_with (first
  | (go_at_call 43; refine (heldI_in HMN.out HO15.out HSI.out).mono ?_; go_must (rw [← HCN.out]; rintro e W16 ⟨rfl, hb⟩; have HU16 := Aside0.mk (below_then HU15.out HU15.out.size hb); clear hb))
  | (go_at_call 21; refine (eqIns_in HMN.out HMN.out (HH14.out.inC HSI.out) (HW3.out.below HU14.out) HSI.out).mono ?_; go_must (rintro e W15 ⟨rfl, hb⟩; have HU15 := Aside0.mk (below_then HU14.out HU14.out.size hb); have HO15 := Aside0.mk (HO14.out.below hb); clear hb))
  | (go_at_call 42; refine (compile_in W13 a9 a10 b9 b10 Xr Xl HG13.out.r HG13.out.rc HG13.out.l HG13.out.lc HOK.out HSS.out HSL.out).mono ?_; go_must (rw [HCF.out]; rintro e W14 ⟨v, svh, rfl, hI, hb⟩; obtain ⟨ah, ch, rfl⟩ := hI.form; have hI := hI; rw [← HMN.out] at hI ⊢; have HH14 := Aside0.mk hI; have HO14 := Aside0.mk (HO13.out.below hb); have HU14 := Aside0.mk (below_then HU13.out HU13.out.size hb); clear hb hI))
  | (go_at_call 12; refine (laws_toGrammar.calls 3200001 A0 c0 Rs A1 c1 Ls Xr Xl W12 (Kd.C_below HR0.out (below_then HB3.out HB3.out.size HU12.out)) hc0 (Kd.C_below HL0.out (below_then HB3.out HB3.out.size HU12.out)) hc1 HTO.out).mono ?_; go_must (rintro e W13 ⟨v0, v1, rfl, h0, h1, hb⟩; obtain ⟨a9, b9, a10, b10, rfl, rfl, hg⟩ := grc_of_R h0 h1; have HG13 := Aside0.mk hg; have HU13 := Aside0.mk (below_then HU12.out HU12.out.size hb); have HO13 := Aside0.mk (HO12.out.below hb); clear hb h0 h1 hg))
  | (go_at_call 43; refine (heldI_in HMN.out HO11.out HSI.out).mono ?_; go_must (rw [← HCN.out]; rintro e W12 ⟨rfl, hb⟩; have HU12 := Aside0.mk (below_then HU11.out HU11.out.size hb); have HO12 := Aside0.mk (HO11.out.below hb); have HX12 := Aside0.mk (blk_below HX3.out HU12.out); have ux0 := blk_cell HX12.out 0; have ux1 := blk_cell HX12.out 1; clear hb))
  | (go_at_call 23; refine (markI_in (w0 := W3) HU10.out HO10.out HL3.out HSI.out).mono ?_; go_must (rw [← HCN.out]; rintro e W11 ⟨rfl, ho, hb⟩; have HO11 := Aside0.mk ho; have HU11 := Aside0.mk hb; clear hb ho))
  | (go_at_call 21; refine (eqIns_in HMN.out HMN.out (HO9.out.inC HSI.out) (HW3.out.below HU9.out) HSI.out).mono ?_; go_must (rintro e W10 ⟨rfl, hb⟩; have HU10 := Aside0.mk (below_then HU9.out HU9.out.size hb); have HO10 := Aside0.mk (HO9.out.below hb); clear hb))
  | (go_at_call 29; rw [← HGE.out]; refine (markGram_in W8 _ G 1 (nwgr_below HWG.out HW48.out) (by omega) (by have := HGC.out; omega)).mono ?_; go_must (rintro e W9 ⟨rfl, hE, _⟩; obtain ⟨hU9, hs9⟩ := nmark_x HWG.out HU8.out hE; have HU9 := Aside0.mk hU9; have HO9 := Aside0.mk (HO8.out.same fun b hb hl => hs9 b (Nat.le_trans HL4.out hb) hl); clear hE hU9 hs9)))
 go_ret
 exact ⟨rfl, below_then HB3.out HB3.out.size HU16.out⟩
end Go.Proofs.Ytdiilocgjnlmiaa.Tre
end
