/- Lemmas of the proof, and the walks of functions that it stands on. -/
import Derived.Test.YtdiilocgjnlmiaaCerEraseWalk
import Derived.Test.YtdiilocgjnlmiaaCerMarkedC
import Derived.Test.YtdiilocgjnlmiaaCerPAllx27
import Derived.Test.YtdiilocgjnlmiaaCerPAllx16
import Derived.Test.YtdiilocgjnlmiaaCerPAllx1
import Derived.Test.YtdiilocgjnlmiaaCerPAllx6
import Derived.Test.YtdiilocgjnlmiaaCerPAllx9
import Derived.Deep.RegionHeld3
import Derived.Outline
section
namespace Go.Proofs.Ytdiilocgjnlmiaa.Tre
open Go.RowKit Go.Proofs.YtdiilocgjnlmiaaW.PrintWords Go.Proofs.YtdiilocgjnlmiaaW.PrintLast Go.Proofs.YtdiilocgjnlmiaaW.PrintMore
open Go.Proofs.Ytdiilocgjnlmiaa.PAll
set_option linter.unusedVariables false
set_option linter.unusedSimpArgs false
theorem l2copy_l0 (l : List Op) (hm : l.length ≤ 1048576) (hs : ∀ a ∈ l, ssO a) : ∀ (k : Nat) (i : Nat), i ≤ l.length → l.length - i < k → spec_l2copy.l0 k l (l.take i) (i : Int) = some l
  | 0, _, _, h => by omega
  | k + 1, i, hi, hk => by
    rw [spec_l2copy.l0]
    by_cases c : i < l.length
    · have hlt : (l.take i).length = i := by rw [List.length_take]; omega
      have h1 : l[i].f1.length ≤ 1048576 := hs _ (List.getElem_mem c)
      rw [if_pos (by omega), if_pos (by omega), rd_Op c, if_pos (by simp only [List.length_nil]; omega), hlt, if_pos (by omega), wid (x := (i : Int) + 1) (by omega) (by omega), List.nil_append]
      have e : l.take i ++ [(⟨l[i].f0, l[i].f1, l[i].f2⟩ : Op)] = l.take (i + 1) := by rw [List.take_succ_eq_append_getElem c]
      rw [e]
      exact l2copy_l0 l hm hs k (i + 1) (by omega) (by omega)
    · rw [if_neg (by omega), List.take_of_length_le (by omega)]
theorem l2copy_f (l : List Op) (h : ssOs l) (k : Nat) (hk : 1048577 < k) : spec_l2copy.f k l = some l := by
  have := l2copy_l0 l h.1 h.2 k 0 (by omega) (by have := h.1; omega)
  rw [spec_l2copy.f]
  simpa using this
/-- a body whose first i operations are erased -/
def mixO (l : List Op) (i : Nat) : List Op := (l.take i).map erO ++ l.drop i
theorem mixO_len (l : List Op) (i : Nat) (h : i ≤ l.length) : (mixO l i).length = l.length := by simp [mixO]; omega
theorem mixO_rd {l : List Op} {i : Nat} (h : i < l.length) : rd_T79 (mixO l i) (i : Int) = l[i] := by
  rw [rd_Op (by rw [mixO_len l i (by omega)]; exact h)]
  simp only [mixO]
  rw [List.getElem_append_right (by simp; omega)]
  simp
  congr 1
  omega
theorem mixO_drop {l : List Op} {i : Nat} (h : i < l.length) : mixO l i = (l.take i).map erO ++ l[i] :: l.drop (i + 1) := by rw [mixO, List.drop_eq_getElem_cons h]
theorem mixO_next {l : List Op} {i : Nat} (h : i < l.length) : mixO l (i + 1) = (l.take i).map erO ++ erO l[i] :: l.drop (i + 1) := by
  rw [mixO, List.take_succ_eq_append_getElem h, List.map_append, List.append_assoc]; rfl
theorem mixO_set {l : List Op} {i : Nat} (h : i < l.length) (x : Op) : (mixO l i).set i x = (l.take i).map erO ++ x :: l.drop (i + 1) := by
  have hl : ((l.take i).map erO).length = i := by simp; omega
  rw [mixO_drop h, List.set_append_right _ _ (by omega), hl, Nat.sub_self, List.set_cons_zero]
theorem erase_l1 (Rs : List Ru) (Ls : List La) (l : List Op) (hm : l.length ≤ 1048576) (hR : Rs.length ≤ 1048576) (j : Nat) (hj : j < Rs.length) (hn : Rs[j].f0.length ≤ 1048576) (acc : List Ru) (ha : acc.length ≤ 1048576) (k : Nat) : ∀ (d i : Nat), l.length = i + d → spec_Erase.l1 (k + d + 1) (j : Int) (mixO l i) (i : Int) Rs Ls acc = spec_Erase.l0 k (((j + 1 : Nat) : Int)) Rs Ls (acc ++ [(⟨Rs[j].f0, l.map erO⟩ : Ru)])
  | 0, i, hi => by
    rw [spec_Erase.l1, mixO_len l i (by omega), if_neg (by omega), Option.bind_some, if_pos (by omega), if_pos (by omega), rd_Ru hj, if_pos (by simp only [List.length_nil]; omega), if_pos (by omega), wid (x := (j : Int) + 1) (by omega) (by omega), List.nil_append]
    have e : mixO l i = l.map erO := by rw [mixO, List.take_of_length_le (by omega), List.drop_of_length_le (by omega), List.append_nil]
    rw [e]
    rfl
  | d + 1, i, hi => by
    have c : i < l.length := by omega
    have ih := erase_l1 Rs Ls l hm hR j hj hn acc ha k d (i + 1) (by omega)
    have hl := mixO_len l i (by omega)
    rw [show k + (d + 1) + 1 = (k + d + 1) + 1 by omega, spec_Erase.l1, hl, if_pos (by omega), if_pos (by omega), mixO_rd c, wid (x := (i : Int) + 1) (by omega) (by omega), show (i : Int) + 1 = ((i + 1 : Nat) : Int) by omega]
    by_cases h3 : l[i].f0 = 3
    · have e : (mixO l i).set (i : Int).toNat (⟨1, ([] : List Int), 0⟩ : Op) = mixO l (i + 1) := by
        rw [Int.toNat_natCast, mixO_set c, mixO_next c, erO, if_pos h3]
      rw [if_pos h3, e]
      exact ih
    · have e : mixO l i = mixO l (i + 1) := by rw [mixO_drop c, mixO_next c, erO, if_neg h3]
      rw [if_neg h3, e]
      exact ih
theorem erase_l0 (Rs : List Ru) (Ls : List La) (hs : ssRs Rs) : ∀ (d i : Nat), Rs.length = i + d → ∃ k, 1048577 < k ∧ spec_Erase.l0 k (i : Int) Rs Ls ((Rs.take i).map erR) = some (Rs.map erR, ([] : List La))
  | 0, i, hi => ⟨1048579, by omega, by rw [spec_Erase.l0, if_neg (by omega), List.take_of_length_le (by omega)]⟩
  | d + 1, i, hi => by
    have c : i < Rs.length := by omega
    obtain ⟨k, hk, ih⟩ := erase_l0 Rs Ls hs d (i + 1) (by omega)
    have h1 := hs.1
    obtain ⟨hn, hb⟩ := hs.2 _ (List.getElem_mem c)
    have hl := erase_l1 Rs Ls Rs[i].f1 hb.1 h1 i c hn ((Rs.take i).map erR) (by simp; omega) k Rs[i].f1.length 0 (by omega)
    refine ⟨k + Rs[i].f1.length + 1 + 1, by omega, ?_⟩
    rw [spec_Erase.l0, if_pos (by omega), if_pos (by omega), rd_Ru c, l2copy_f _ hb _ (by omega), Option.bind_some]
    have e0 : mixO Rs[i].f1 0 = Rs[i].f1 := by simp [mixO]
    rw [e0] at hl
    have e1 : (Rs.take i).map erR ++ [(⟨Rs[i].f0, Rs[i].f1.map erO⟩ : Ru)] = (Rs.take (i + 1)).map erR := by
      rw [List.take_succ_eq_append_getElem c, List.map_append]; rfl
    rw [e1] at hl
    exact hl.trans ih
theorem erase_f (Rs : List Ru) (Ls : List La) (hR : ssRs Rs) (hL : ssLs Ls) : ∃ k, spec_Erase.f k Rs Ls = some (erG Rs Ls, ([] : List La)) := by
  obtain ⟨k, _, hk⟩ := erase_l0 Rs Ls hR Rs.length 0 (by omega)
  refine ⟨k, ?_⟩
  rw [spec_Erase.f, spec_ValidGrammar.f, if_pos (okG_of hR hL), Option.bind_some, erG]
  cases validB Rs Ls
  · rfl
  · rw [if_pos rfl, if_pos rfl]
    simpa using hk
theorem erG_ss {Rs : List Ru} {Ls : List La} (hR : ssRs Rs) : ssRs (erG Rs Ls) := by
  unfold erG
  split
  · refine ⟨by rw [List.length_map]; exact hR.1, fun a ha => ?_⟩
    obtain ⟨r, hr, rfl⟩ := List.mem_map.1 ha
    obtain ⟨h1, h2, h3⟩ := hR.2 r hr
    refine ⟨h1, by simp only [erR, List.length_map]; exact h2, fun o ho => ?_⟩
    obtain ⟨o', ho', rfl⟩ := List.mem_map.1 ho
    unfold erO
    split
    · simp [ssO]
    · exact h3 o' ho'
  · exact ⟨by simp, fun a ha => by cases ha⟩
end Go.Proofs.Ytdiilocgjnlmiaa.Tre
end
section
namespace Go.Proofs.Ytdiilocgjnlmiaa.Tre
open Go.RowKit Go.Proofs.YtdiilocgjnlmiaaW.PrintWords Go.Proofs.YtdiilocgjnlmiaaW.PrintLast Go.Proofs.YtdiilocgjnlmiaaW.PrintMore
open Go.Proofs.Ytdiilocgjnlmiaa.PAll
set_option linter.unusedVariables false
set_option linter.unusedSimpArgs false
/-- a grammar in memory, as lists -/
structure GrC (W : World) (A0 : Option Addr) (c0 : Nat) (A1 : Option Addr) (c1 : Nat) (Rs : List Ru) (Ls : List La) : Prop where
  r : Kd.C k68 W A0 Rs.length Rs
  rc : Rs.length ≤ c0
  l : Kd.C k72 W A1 Ls.length Ls
  lc : Ls.length ≤ c1
theorem GrC.below {W W' : World} {A0 A1 : Option Addr} {c0 c1 : Nat} {Rs : List Ru} {Ls : List La} (h : GrC W A0 c0 A1 c1 Rs Ls) (hb : Below W.heap.size W W') : GrC W' A0 c0 A1 c1 Rs Ls := ⟨Kd.C_below h.r hb, h.rc, Kd.C_below h.l hb, h.lc⟩
theorem grc_of_R {W : World} {B : Nat} {ok ok' : Nat → Prop} {v0 v1 : Value} {Rs : List Ru} {Ls : List La} (h0 : Kd.R k68 68 W B ok v0 Rs) (h1 : Kd.R k72 72 W B ok' v1 Ls) : ∃ A0 c0 A1 c1, v0 = .slice A0 Rs.length c0 ∧ v1 = .slice A1 Ls.length c1 ∧ GrC W A0 c0 A1 c1 Rs Ls := by
  obtain ⟨A0, c0, e0, l0, r0⟩ := Kd.R_reads h0
  obtain ⟨A1, c1, e1, l1, r1⟩ := Kd.R_reads h1
  exact ⟨A0, c0, A1, c1, e0, e1, ⟨r0, l0, r1, l1⟩⟩
theorem grc_of_rl {W : World} {B : Nat} {v : Value} {its : Nat → It} {Rs : List Ru} (h : RlSt W B v its Rs) (hs : ssRs Rs) : ∃ A c, v = .slice A Rs.length c ∧ GrC W A c none 0 Rs [] := by
  obtain ⟨A, c, e, hc, hC⟩ := own_C_rules h hs
  exact ⟨A, c, e, ⟨hC, hc, Kd.C_nil _ _, Nat.le_refl _⟩⟩
def TruePost (w : World) (e : Ending) (w' : World) : Prop := e = .returned (.bool true) ∧ Below w.heap.size w w'
theorem eq_in {W : World} {A0 A1 B0 B1 : Option Addr} {c0 c1 d0 d1 : Nat} {Rs : List Ru} {Ls : List La} (h : GrC W A0 c0 A1 c1 Rs Ls) (g : GrC W B0 d0 B1 d1 Rs Ls) (hR : ssRs Rs) (hL : ssLs Ls) :
    Calls Try.prog 14 #[.agg #[.slice A0 Rs.length c0, .slice A1 Ls.length c1], .agg #[.slice B0 Rs.length d0, .slice B1 Ls.length d1]] W (TruePost W) :=
  (laws_eqGrammar.calls 3200001 A0 c0 Rs A1 c1 Ls B0 d0 Rs B1 d1 Ls true W h.r h.rc h.l h.lc g.r g.rc g.l g.lc (eqGrammar_f Rs Ls hR hL _ (by omega))).mono fun e w' h => h
/-- what markGrammar left is held -/
theorem held_in {W : World} {X : Nat → Prop} {G : Gr} (h : WGr W X G) (hM : GrMarked W G 1) (hn : G.n1 = 0) (h0 : G.n0 ≤ 1048576) (hs : ∀ q, q < G.n0 → ItSm (G.its q)) (hc : 1 + cntG G ≤ 4611686018427387904) :
    Calls Try.prog 30 #[grV G, .int .i64 1] W fun e w' => e = .returned (.int .i64 (1 + (cntG G : Int))) ∧ Below W.heap.size W w' := by
  obtain ⟨A, c, e, hc0, hC⟩ := rules_marked h.1 hM.rules
  injection e with e1 e2 e3
  subst e1 e3
  have hl := mkRs_len 1 G.its G.n0
  obtain ⟨A', c', e', hc', _⟩ := id h.2
  injection e' with e1' e2' e3'
  have hf : laws_heldGrammar.f 3145741 (mkRs 1 G.its G.n0) [] 1 = some (1 + (cntG G : Int)) := by
    have := heldGrammar_f 1 G.its G.itl G.n0 0 3145741 hs (fun q hq => absurd hq (Nat.not_lt_zero _)) (by omega) (by
      rw [cntG, hn] at hc
      omega) h0 (by omega) (by omega)
    rw [cntG, hn]
    exact this
  have hk := laws_heldGrammar.calls 3145741 G.A0 G.c0 (mkRs 1 G.its G.n0) G.A1 G.c1 [] 1 (1 + (cntG G : Int)) W (by rw [hl]; exact hC) (by rw [hl]; exact hc0) ⟨rfl, by simp, fun h => absurd h (Nat.lt_irrefl 0)⟩ (by simp) hf
  rw [hl] at hk
  rw [grV, hn]
  exact hk
/-- marks on one grammar: what lies elsewhere is as it was -/
theorem grX_in {W : World} {X : Nat → Prop} {G : Gr} (h : WGr W X G) {b : Nat} (hb : grX G b) : X b ∧ b < W.heap.size := by
  rcases hb with ⟨j, hj, hb⟩ | hb | ⟨j, hj, hb⟩
  · obtain ⟨h1, h2, _⟩ := (WRules.it h.1 j hj).types hb
    exact ⟨h1, h2⟩
  · obtain ⟨hX, cur, hc⟩ := WRow.block h.2 (ownV_slice.2 hb)
    exact ⟨hX, (Array.getElem?_eq_some_iff.1 hc).1⟩
  · obtain ⟨h1, h2, _⟩ := (WLabels.it h.2 j hj).types hb
    exact ⟨h1, h2⟩
end Go.Proofs.Ytdiilocgjnlmiaa.Tre
end
section
namespace Go.Proofs.Ytdiilocgjnlmiaa.Tre
open Go.RowKit Go.Proofs.YtdiilocgjnlmiaaW.PrintWords Go.Proofs.YtdiilocgjnlmiaaW.PrintLast Go.Proofs.YtdiilocgjnlmiaaW.PrintMore
open Go.Proofs.Ytdiilocgjnlmiaa.PAll
set_option linter.unusedVariables false
set_option linter.unusedSimpArgs false
theorem mark_x {U0 W4 W8 W9 : World} {G : Gr} (hW : WGr W4 (fun b => U0.heap.size ≤ b) G) (h8 : Below U0.heap.size U0 W8) (hE : Evo (grX G) W8 W9) : Below U0.heap.size U0 W9 ∧ ∀ b, W4.heap.size ≤ b → b < W8.heap.size → W9.heap[b]? = W8.heap[b]? :=
  ⟨h8.trans (hE.below h8.size fun k hk => (grX_in hW hk).1), fun b hb hl => hE.same b hl fun hx => absurd (grX_in hW hx).2 (by omega)⟩
theorem mark_g {U0 V W5 W10 W11 : World} {G : Gr} (hW : WGr W5 (fun b => V.heap.size ≤ b) G) (hUV : U0.heap.size ≤ V.heap.size) (h8 : Below U0.heap.size U0 W10) (hE : Evo (grX G) W10 W11) : Below U0.heap.size U0 W11 ∧ ∀ b, W5.heap.size ≤ b → b < W10.heap.size → W11.heap[b]? = W10.heap[b]? :=
  ⟨h8.trans (hE.below h8.size fun k hk => Nat.le_trans hUV (grX_in hW hk).1), fun b hb hl => hE.same b hl fun hx => absurd (grX_in hW hx).2 (by omega)⟩
theorem GrMarked.below {W W' : World} {X : Nat → Prop} {G : Gr} {k : Int} (hW : WGr W X G) (h : GrMarked W G k) (hn : G.n1 = 0) (hb : Below W.heap.size W W') : GrMarked W' G k :=
  ⟨fun j hj => (h.rules j hj).keep fun b hx q => hb.cell ((WRules.it hW.1 j hj).types hx).2.1, fun g _ j hj => absurd hj (by rw [hn]; exact Nat.not_lt_zero _)⟩
theorem WGr.below {W W' : World} {X : Nat → Prop} {G : Gr} (h : WGr W X G) (hb : Below W.heap.size W W') : WGr W' X G := WGr.evo h (Evo.of_below (X := fun _ => False) hb)
theorem ssL_nil : ssLs ([] : List La) := ⟨by simp, fun a h => by cases h⟩
set_option maxRecDepth 100000 in
set_option maxHeartbeats 8000000 in
theorem law_erase_in (w : World) (A0 A1 : Option Addr) (c0 c1 : Nat) (Rs : List LRu) (Ls : List LLa) (hr0 : Kd.C k153 w A0 Rs.length Rs) (hc0 : Rs.length ≤ c0) (hr1 : Kd.C k156 w A1 Ls.length Ls) (hc1 : Ls.length ≤ c1) (hR : inR Rs) (hL : inL Ls) :
    Calls Try.prog 5 #[.agg #[.slice A0 Rs.length c0, .slice A1 Ls.length c1]] w (TruePost w) := by
  obtain ⟨r, hr, hr2⟩ := szGrammar_f Rs Ls hR hL 3200001 (by omega)
  have HR0 := Aside0.mk hr0
  have HL0 := Aside0.mk hr1
  have HRR := Aside0.mk hr
  have HB0 : Aside0 (Below w.heap.size w (w.alloc (Obj.cells #[.slice A0 Rs.length c0, .slice A1 Ls.length c1] 25))) := ⟨below_alloc (Below.refl _ _) _⟩
  have HX0 := Aside0.mk (blk_new w (Obj.cells #[.slice A0 Rs.length c0, .slice A1 Ls.length c1] 25))
  clear hr hr0 hr1 hR hL
  rcases hr2 with hneg | ⟨hpos, sm1, sm2⟩
  · have d1 : decide (r < 0) = true := decide_eq_true hneg
    go_enter Try.func5, Try.ntmps5
    go_wp2_with (first
      | (go_at_call 10; refine (laws_szGrammar.calls 3200001 A0 c0 Rs A1 c1 Ls 1048576 r _ (Kd.C_below HR0.out HB0.out) hc0 (Kd.C_below HL0.out HB0.out) hc1 HRR.out).mono ?_; go_must (rintro e W1 ⟨rfl, hb⟩; have HB1 := Aside0.mk (below_then HB0.out HB0.out.size hb); clear hb)))
    go_ret
    exact ⟨rfl, HB1.out⟩
  · have d1 : decide (r < 0) = false := decide_eq_false (by omega)
    have hss := ssRs_of sm1
    have hsl := ssLs_of sm2
    have hto := toGrammar_f Rs Ls sm1 sm2 3200001 (by omega)
    have hok := okG_of hss hsl
    obtain ⟨ke, hke⟩ := erase_f _ _ hss hsl
    have hse : ssRs (erG (Rs.map cvR) (Ls.map cvL)) := erG_ss hss
    generalize hE : erG (Rs.map cvR) (Ls.map cvL) = Es at *
    generalize hxr : Rs.map cvR = Xr at *
    generalize hxl : Ls.map cvL = Xl at *
    have HTO := Aside0.mk hto
    have HKE := Aside0.mk hke
    have HOK := Aside0.mk hok
    have HSS := Aside0.mk hss
    have HSL := Aside0.mk hsl
    have HSE := Aside0.mk hse
    have HEE := Aside0.mk hE
    clear hto hke hok hss hsl hse hE hxr hxl sm1 sm2
    go_enter Try.func5, Try.ntmps5
    go_wp2_with (first
      | (go_at_call 10; refine (laws_szGrammar.calls 3200001 A0 c0 Rs A1 c1 Ls 1048576 r _ (Kd.C_below HR0.out HB0.out) hc0 (Kd.C_below HL0.out HB0.out) hc1 HRR.out).mono ?_; go_must (rintro e W1 ⟨rfl, hb⟩; have HB1 := Aside0.mk (below_then HB0.out HB0.out.size hb); have HX1 := Aside0.mk (blk_below HX0.out hb); have p0 := blk_cell HX1.out 0; have p1 := blk_cell HX1.out 1; clear hb))
      | (go_at_call 12; refine (laws_toGrammar.calls 3200001 A0 c0 Rs A1 c1 Ls Xr Xl _ (Kd.C_below HR0.out HB1.out) hc0 (Kd.C_below HL0.out HB1.out) hc1 HTO.out).mono ?_; go_must (rintro e W2 ⟨v0, v1, rfl, h0, h1, hb⟩; obtain ⟨a0, b0, a1, b1, rfl, rfl, hg⟩ := grc_of_R h0 h1; have HG2 := Aside0.mk hg; have HB2 := Aside0.mk (below_then HB1.out HB1.out.size hb); have HX2 := Aside0.mk (blk_below HX1.out hb); clear hb h0 h1 hg))
      | (go_at_call 27; refine (spec_Erase.calls ke a0 b0 Xr a1 b1 Xl Es [] _ HG2.out.r HG2.out.rc HG2.out.l HG2.out.lc HKE.out).mono ?_; go_must (rintro e W3 ⟨v0, v1, rfl, h0, h1, hb⟩; obtain ⟨a2, b2, a3, b3, rfl, rfl, hg⟩ := grc_of_R h0 h1; have HG3 := Aside0.mk (hg.below (below_alloc (Below.refl _ _) (Obj.cells #[.slice a2 Es.length b2, .slice a3 0 b3] 31))); have HB3 := Aside0.mk (below_alloc (below_then HB2.out HB2.out.size hb) (Obj.cells #[.slice a2 Es.length b2, .slice a3 0 b3] 31)); have HX3 := Aside0.mk (blk_alloc (blk_below HX2.out hb) (Obj.cells #[.slice a2 Es.length b2, .slice a3 0 b3] 31)); have HY3 := Aside0.mk (blk_new W3 (Obj.cells #[.slice a2 Es.length b2, .slice a3 0 b3] 31)); have px0 := blk_cell HX3.out 0; have px1 := blk_cell HX3.out 1; clear hb h0 h1 hg))
      | (go_at_call 12; refine (laws_toGrammar.calls 3200001 A0 c0 Rs A1 c1 Ls Xr Xl _ (Kd.C_below HR0.out HB3.out) hc0 (Kd.C_below HL0.out HB3.out) hc1 HTO.out).mono ?_; go_must (rintro e W4 ⟨v0, v1, rfl, h0, h1, hb⟩; obtain ⟨G, hG, hWG, hGc⟩ := wgr_of_R h0 h1 HSS.out HSL.out; obtain ⟨a4, b4, a5, b5, rfl, rfl, hg⟩ := grc_of_R h0 h1; have HWG := Aside0.mk hWG; have HGE := Aside0.mk hG; have HGC := Aside0.mk hGc; have HU4 := Aside0.mk (below_alloc hb (Obj.cells #[.slice a4 Xr.length b4, .slice a5 Xl.length b5] 31)); have HG4 := Aside0.mk (hg.below (below_alloc (Below.refl _ _) (Obj.cells #[.slice a4 Xr.length b4, .slice a5 Xl.length b5] 31))); have HZ4 := Aside0.mk (blk_new W4 (Obj.cells #[.slice a4 Xr.length b4, .slice a5 Xl.length b5] 31)); clear hb h0 h1 hg hG hWG hGc))
      | (go_at_call 28; refine (erase_in _ a4 a5 b4 b5 Xr Xl HG4.out.r HG4.out.rc HG4.out.l HG4.out.lc HOK.out).mono ?_; go_must (rw [HEE.out]; rintro e W5 ⟨v, its, rfl, hrl, hb⟩; have HVS := Aside0.mk hb; obtain ⟨Gg, hGg⟩ := wgr_of_rl hrl HSE.out; have HGg := Aside0.mk hGg; clear hGg; obtain ⟨a6, b6, rfl, hg⟩ := grc_of_rl hrl HSE.out; have HRL5 := Aside0.mk (hrl.below (below_alloc (Below.refl _ _) (Obj.cells #[.slice a6 Es.length b6, .slice none 0 0] 31))); have HV5 := Aside0.mk (below_alloc hb (Obj.cells #[.slice a6 Es.length b6, .slice none 0 0] 31)); have HG5 := Aside0.mk (hg.below (below_alloc (Below.refl _ _) (Obj.cells #[.slice a6 Es.length b6, .slice none 0 0] 31))); have HZ5 := Aside0.mk (blk_below HZ4.out (below_alloc hb (Obj.cells #[.slice a6 Es.length b6, .slice none 0 0] 31))); have HT5 := Aside0.mk (blk_new W5 (Obj.cells #[.slice a6 Es.length b6, .slice none 0 0] 31)); have HU5 := Aside0.mk (below_then HU4.out HU4.out.size HV5.out); have HY5 := Aside0.mk (blk_below HY3.out HU5.out); have HX5 := Aside0.mk (blk_below HX3.out HU5.out); have py0 := blk_cell HY5.out 0; have py1 := blk_cell HY5.out 1; have pz0 := blk_cell HZ5.out 0; have pz1 := blk_cell HZ5.out 1; have pt0 := blk_cell HT5.out 0; have pt1 := blk_cell HT5.out 1; clear hb hrl hg))
      | (go_at_call 14; refine (eq_in HG5.out (HG3.out.below HU5.out) HSE.out ssL_nil).mono ?_; go_must (rintro e W6 ⟨rfl, hb⟩; have HB56 := Aside0.mk hb; have HU6 := Aside0.mk (below_then HU5.out HU5.out.size hb); have HV6 := Aside0.mk (below_then HV5.out HV5.out.size hb); have HX6 := Aside0.mk (blk_below HX5.out hb); have HY6 := Aside0.mk (blk_below HY5.out hb); have HZ6 := Aside0.mk (blk_below HZ5.out hb); have HT6 := Aside0.mk (blk_below HT5.out hb); have HRL6 := Aside0.mk (HRL5.out.below hb); have qx0 := blk_cell HX6.out 0; have qx1 := blk_cell HX6.out 1; have qz0 := blk_cell HZ6.out 0; have qz1 := blk_cell HZ6.out 1; clear hb)))
    have hbz : Aside0 (Below W6.heap.size W6 W6) := ⟨Below.refl _ _⟩
    go_region_held3 (fun W' => W'.cell? ⟨W4.heap.size, 0, none⟩ = some (.slice a4 Xr.length b4) ∧ W'.cell? ⟨W4.heap.size, 1, none⟩ = some (.slice a5 Xl.length b5) ∧ W'.cell? ⟨w.heap.size, 0, none⟩ = some (.slice A0 Rs.length c0) ∧ W'.cell? ⟨w.heap.size, 1, none⟩ = some (.slice A1 Ls.length c1) ∧ Aside0 (Below W6.heap.size W6 W'))
      (first | exact ⟨qz0, qz1, qx0, qx1, ⟨Below.refl _ _⟩⟩ | (go_split_ands; exact four_step (by first | (with_reducible exact pw_below_drewN (Below.refl _ _) _) | (with_reducible exact below_drew1 (Below.refl _ _)) | (with_reducible assumption)) ⟨by assumption, by assumption, by assumption, by assumption, by assumption⟩))
      (first
        | (go_at_call 12; go_split_ands; go_must (refine (laws_toGrammar.calls 3200001 A0 c0 Rs A1 c1 Ls Xr Xl _ (Kd.C_below HR0.out (below_then HB3.out HB3.out.size (below_then HU6.out HU6.out.size (Aside0.out (by assumption))))) hc0 (Kd.C_below HL0.out (below_then HB3.out HB3.out.size (below_then HU6.out HU6.out.size (Aside0.out (by assumption))))) hc1 HTO.out).mono ?_); rintro e W7 ⟨v0, v1, rfl, h0, h1, hb⟩; obtain ⟨a7, b7, a8, b8, rfl, rfl, hg⟩ := grc_of_R h0 h1; have HG7 := Aside0.mk hg; clear h0 h1 hg)
        | (go_at_call 14; go_split_ands; go_must (refine (eq_in (HG4.out.below (below_then HV6.out HV6.out.size (Aside0.out (by assumption)))) (HG7.out.below (by repeat (first | exact Below.refl _ _ | apply Below.drew))) HSS.out HSL.out).mono ?_); rintro e W8 ⟨rfl, hb⟩; have HB68 : Aside0 (Below W6.heap.size W6 W8) := ⟨have hq : Below W6.heap.size W6 _ := Aside0.out (by assumption); below_then hq hq.size hb⟩))
    have HU8 := Aside0.mk (below_then HU6.out HU6.out.size HB68.out)
    have HV8 := Aside0.mk (below_then HV6.out HV6.out.size HB68.out)
    have HT8 := Aside0.mk (blk_below HT6.out HB68.out)
    have HRL8 := Aside0.mk (HRL6.out.below HB68.out)
    have HWG8 := Aside0.mk (WGr.below HGg.out.2.1 (below_then (below_alloc (Below.refl W5.heap.size W5) (Obj.cells #[.slice a6 Es.length b6, .slice none 0 0] 31)) (by simp) (below_then HB56.out HB56.out.size HB68.out)))
    have rz0 := pw_cell_below HB68.out qz0
    have rz1 := pw_cell_below HB68.out qz1
    have HL4 : Aside0 (W4.heap.size ≤ (W4.alloc (Obj.cells #[.slice a4 Xr.length b4, .slice a5 Xl.length b5] 31)).heap.size) := ⟨by simp⟩
    have HL45 : Aside0 (W4.heap.size ≤ W5.heap.size) := ⟨Nat.le_trans HL4.out HVS.out.size⟩
    have HW48 : Aside0 (Below W4.heap.size W4 W8) := ⟨below_then (below_alloc (Below.refl _ _) _) HL4.out HV8.out⟩
    have d2 : decide (1 + (cntG G : Int) < 0) = false := decide_eq_false (by omega)
    have d3 : decide (1 + (cntG Gg : Int) < 0) = false := decide_eq_false (by omega)
    clear qx0 qx1 qz0 qz1
    go_wp2_with (first
      | (go_at_call 30; rw [← HGg.out.1]; refine (held_in HWG15.out HM15.out HGg.out.2.2.2.2.2.1 HGg.out.2.2.2.2.1 HGg.out.2.2.2.2.2.2 HGg.out.2.2.2.1).mono ?_; go_must (rintro e W16 ⟨rfl, hb⟩; have HU16 := Aside0.mk (below_then HU15.out HU15.out.size hb); clear hb))
      | (go_at_call 14; refine (eq_in HG14.out (HG3.out.below HU14.out) HSE.out ssL_nil).mono ?_; go_must (rintro e W15 ⟨rfl, hb⟩; have HU15 := Aside0.mk (below_then HU14.out HU14.out.size hb); have HT15 := Aside0.mk (blk_below HT14.out hb); have HX15 := Aside0.mk (blk_below HX14.out hb); have HY15 := Aside0.mk (blk_below HY14.out hb); have HM15 := Aside0.mk (GrMarked.below HWG14.out HM14.out HGg.out.2.2.2.2.2.1 hb); have HWG15 := Aside0.mk (WGr.below HWG14.out hb); have zx0 := blk_cell HX15.out 0; have zx1 := blk_cell HX15.out 1; have zy0 := blk_cell HY15.out 0; have zy1 := blk_cell HY15.out 1; have zt0 := blk_cell HT15.out 0; have zt1 := blk_cell HT15.out 1; clear hb))
      | (go_at_call 28; refine (erase_in W13 a9 a10 b9 b10 Xr Xl HG13.out.r HG13.out.rc HG13.out.l HG13.out.lc HOK.out).mono ?_; go_must (rw [HEE.out]; rintro e W14 ⟨v, its2, rfl, hrl, hb0⟩; obtain ⟨a16, b16, rfl, hg⟩ := grc_of_rl hrl HSE.out; have hb := below_alloc hb0 (Obj.cells #[.slice a16 Es.length b16, .slice none 0 0] 31); have HG14 := Aside0.mk (hg.below (below_alloc (Below.refl _ _) (Obj.cells #[.slice a16 Es.length b16, .slice none 0 0] 31))); have HH14 := Aside0.mk (blk_new W14 (Obj.cells #[.slice a16 Es.length b16, .slice none 0 0] 31)); have HU14 := Aside0.mk (below_then HU13.out HU13.out.size hb); have HT14 := Aside0.mk (blk_below HT13.out hb); have HX14 := Aside0.mk (blk_below HX13.out hb); have HY14 := Aside0.mk (blk_below HY13.out hb); have HM14 := Aside0.mk (GrMarked.below HWG13.out HM13.out HGg.out.2.2.2.2.2.1 hb); have HWG14 := Aside0.mk (WGr.below HWG13.out hb); have wx0 := blk_cell HX14.out 0; have wx1 := blk_cell HX14.out 1; have wy0 := blk_cell HY14.out 0; have wy1 := blk_cell HY14.out 1; have wt0 := blk_cell HT14.out 0; have wt1 := blk_cell HT14.out 1; have wh0 := blk_cell HH14.out 0; have wh1 := blk_cell HH14.out 1; clear hb hb0 hrl hg))
      | (go_at_call 12; refine (laws_toGrammar.calls 3200001 A0 c0 Rs A1 c1 Ls Xr Xl W12 (Kd.C_below HR0.out (below_then HB3.out HB3.out.size HU12.out)) hc0 (Kd.C_below HL0.out (below_then HB3.out HB3.out.size HU12.out)) hc1 HTO.out).mono ?_; go_must (rintro e W13 ⟨v0, v1, rfl, h0, h1, hb⟩; obtain ⟨a9, b9, a10, b10, rfl, rfl, hg⟩ := grc_of_R h0 h1; have HG13 := Aside0.mk hg; have HU13 := Aside0.mk (below_then HU12.out HU12.out.size hb); have HT13 := Aside0.mk (blk_below HT12.out hb); have HX13 := Aside0.mk (blk_below HX12.out hb); have HY13 := Aside0.mk (blk_below HY12.out hb); have HM13 := Aside0.mk (GrMarked.below HWG12.out HM12.out HGg.out.2.2.2.2.2.1 hb); have HWG13 := Aside0.mk (WGr.below HWG12.out hb); clear hb h0 h1 hg))
      | (go_at_call 30; rw [← HGg.out.1]; refine (held_in HWG11.out HM11.out HGg.out.2.2.2.2.2.1 HGg.out.2.2.2.2.1 HGg.out.2.2.2.2.2.2 HGg.out.2.2.2.1).mono ?_; go_must (rintro e W12 ⟨rfl, hb⟩; have HU12 := Aside0.mk (below_then HU11.out HU11.out.size hb); have HT12 := Aside0.mk (blk_below HT11.out hb); have HX12 := Aside0.mk (blk_below HX11.out hb); have HY12 := Aside0.mk (blk_below HY11.out hb); have HM12 := Aside0.mk (GrMarked.below HWG11.out HM11.out HGg.out.2.2.2.2.2.1 hb); have HWG12 := Aside0.mk (WGr.below HWG11.out hb); have ux0 := blk_cell HX12.out 0; have ux1 := blk_cell HX12.out 1; have uy0 := blk_cell HY12.out 0; have uy1 := blk_cell HY12.out 1; have ut0 := blk_cell HT12.out 0; have ut1 := blk_cell HT12.out 1; clear hb))
      | (go_at_call 29; rw [← HGg.out.1]; refine (markGram_in W10 _ Gg 1 HWG10.out (by omega) (by have := HGg.out.2.2.2.1; omega)).mono ?_; go_must (rintro e W11 ⟨rfl, hE, hM⟩; obtain ⟨hU11, hs11⟩ := mark_g HGg.out.2.1 HU4.out.size HU10.out hE; have HU11 := Aside0.mk hU11; have HWG11 := Aside0.mk (WGr.evo HWG10.out hE); have HM11 := Aside0.mk (hM HGg.out.2.2.1); have HT11 := Aside0.mk ((hs11 W5.heap.size (Nat.le_refl _) (blk_lt HT10.out)).trans HT10.out); have HX11 := Aside0.mk (blk_below HX3.out hU11); have HY11 := Aside0.mk (blk_below HY3.out hU11); have sx0 := blk_cell HX11.out 0; have sx1 := blk_cell HX11.out 1; have sy0 := blk_cell HY11.out 0; have sy1 := blk_cell HY11.out 1; have st0 := blk_cell HT11.out 0; have st1 := blk_cell HT11.out 1; clear hE hU11 hs11 hM))
      | (go_at_call 14; refine (eq_in (HGC9.out) (HG3.out.below HU9.out) HSE.out ssL_nil).mono ?_; go_must (rintro e W10 ⟨rfl, hb⟩; have HU10 := Aside0.mk (below_then HU9.out HU9.out.size hb); have HT10 := Aside0.mk (blk_below HT9.out hb); have HX10 := Aside0.mk (blk_below HX9.out hb); have HY10 := Aside0.mk (blk_below HY9.out hb); have HWG10 := Aside0.mk (WGr.below HWG9.out hb); have rt0' := blk_cell HT10.out 0; have rt1' := blk_cell HT10.out 1; clear hb))
      | (go_at_call 29; rw [← HGE.out]; refine (markGram_in W8 _ G 1 (WGr.below HWG.out HW48.out) (by omega) (by have := HGC.out; omega)).mono ?_; go_must (rintro e W9 ⟨rfl, hE, _⟩; obtain ⟨hU9, hs9⟩ := mark_x HWG.out HU8.out hE; have HU9 := Aside0.mk hU9; have HRL9 := Aside0.mk (HRL8.out.same fun b hb hl => hs9 b (Nat.le_trans HL4.out hb) hl); have HWG9 := Aside0.mk (WGr.evo HWG8.out hE); obtain ⟨a', b', e', hg'⟩ := grc_of_rl HRL9.out HSE.out; injection e' with e1' e2' e3'; subst e1' e3'; have HGC9 := Aside0.mk hg'; clear hg'; have HT9 := Aside0.mk ((hs9 W5.heap.size HL45.out (blk_lt HT8.out)).trans HT8.out); have HX9 := Aside0.mk (blk_below HX3.out hU9); have HY9 := Aside0.mk (blk_below HY3.out hU9); have ry0 := blk_cell HY9.out 0; have ry1 := blk_cell HY9.out 1; have rt0 := blk_cell HT9.out 0; have rt1 := blk_cell HT9.out 1; clear hE hU9 hs9)))
    trace_state
    go_ret
    exact ⟨rfl, below_then HB3.out HB3.out.size HU16.out⟩
end Go.Proofs.Ytdiilocgjnlmiaa.Tre
end
