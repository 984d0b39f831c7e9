/- Lemmas of the proof, and the walks of functions that it stands on. -/
import Derived.Test.YtdiilocgjnlmiaaCcoCompare
import Derived.Test.YtdiilocgjnlmiaaCcoCompImpl
import Derived.Test.YtdiilocgjnlmiaaCcoVSpec
import Derived.Test.YtdiilocgjnlmiaaCcoPAllx16
import Derived.Test.YtdiilocgjnlmiaaCcoInsSt
import Derived.Test.YtdiilocgjnlmiaaCcoPAllx20
import Derived.Test.YtdiilocgjnlmiaaCcoVImpl
import Derived.Deep.RegionHeld3
import Derived.Outline
import Derived.Test.YtdiilocgjnlmiaaCcoFlat
import Derived.Test.YtdiilocgjnlmiaaCcoPAllx15
import Derived.Test.YtdiilocgjnlmiaaCcoSBegins
import Derived.Test.YtdiilocgjnlmiaaCcoPAllx1
import Derived.Test.YtdiilocgjnlmiaaCcoPAllx6
import Derived.Test.YtdiilocgjnlmiaaCcoPAllx9
section
namespace Go.Proofs.Ytdiilocgjnlmiaa.Tre
open Go.RowKit Go.Proofs.YtdiilocgjnlmiaaW.PrintWords Go.Proofs.YtdiilocgjnlmiaaW.PrintLast Go.Proofs.YtdiilocgjnlmiaaW.PrintMore
open Go.Proofs.Ytdiilocgjnlmiaa.PAll
set_option linter.unusedVariables false
set_option linter.unusedSimpArgs false
theorem InSt.len {W : World} {B n c : Nat} {A : Option Addr} {sv : Nat → Value} {l : List In} (h : InSt W B (.slice A n c) sv l) : n = l.length := by
 obtain ⟨A', c', e⟩ := h.form
 injection e
theorem InSt.two {W : World} {B : Nat} (hB : B ≤ W.heap.size) (k a y k2 a2 y2 : Int) : InSt (W.alloc (Obj.cells #[.int .i64 k, .int .i64 a, .int .i64 y, .slice none 0 0, .int .i64 k2, .int .i64 a2, .int .i64 y2, .slice none 0 0] 88)) B (.slice (some ⟨W.heap.size, 0, none⟩) 2 2) (fun _ => .slice none 0 0) [⟨k, a, y, []⟩, ⟨k2, a2, y2, []⟩] := by
 have e0 : inn [(⟨k, a, y, []⟩ : In), ⟨k2, a2, y2, []⟩] 0 = ⟨k, a, y, []⟩ := rfl
 have e1 : inn [(⟨k, a, y, []⟩ : In), ⟨k2, a2, y2, []⟩] 1 = ⟨k2, a2, y2, []⟩ := rfl
 refine ⟨?_, fun q hq => ?_, fun i j hi hj hne b hb => ?_⟩
 ·have := World.ownsRow_lit (base := B) (e := 88) (size := 4) W #[.int .i64 k, .int .i64 a, .int .i64 y, .slice none 0 0, .int .i64 k2, .int .i64 a2, .int .i64 y2, .slice none 0 0] 2 hB (by unfold maxLen; omega) (by simp)
  simpa [lineC, inCell, e0, e1] using this
 ·have : q = 0 ∨ q = 1 := by simp at hq; omega
  rcases this with rfl | rfl
  ·rw [e0]; exact own_nil _ _ _ _
  rw [e1]; exact own_nil _ _ _ _
 simp [ownV, Value.ownBlock] at hb
set_option maxRecDepth 100000 in
set_option maxHeartbeats 16000000 in
theorem l4compile_in (w : World) (A0 A1 : Option Addr) (c0 c1 : Nat) (Rs : List Ru) (Ls : List La) (hG : GrC w A0 c0 A1 c1 Rs Ls) (hN : Nice Rs Ls) (hr1 : 1 ≤ Rs.length) (hs0 : (tr (trees Rs Ls) 0).isSome = true) (hsm : ∀ i x, i < Rs.length + Ls.length → tr (trees Rs Ls) i = some x → smT x) :
 Calls Try.prog 94 #[.agg #[.slice A0 Rs.length c0, .slice A1 Ls.length c1]] w (InsPost w (compI Rs Ls)) := by
 have hr2 := hN.r
 have hl2 := hN.l
 have hb1 : Below w.heap.size w ((w.alloc (Obj.cells #[.slice A0 Rs.length c0, .slice A1 Ls.length c1] 31)).alloc (Obj.cells #[.int .i64 6, .int .i64 0, .int .i64 2, .slice none 0 0, .int .i64 12, .int .i64 0, .int .i64 0, .slice none 0 0] 88)) := below_alloc (below_alloc (Below.refl _ _) _) _
 have e1s : (w.alloc (Obj.cells #[.slice A0 Rs.length c0, .slice A1 Ls.length c1] 31)).heap.size = w.heap.size + 1 := by simp
 have hi0 := InSt.two (W := w.alloc (Obj.cells #[.slice A0 Rs.length c0, .slice A1 Ls.length c1] 31)) (B := w.heap.size) (by omega) 6 0 2 12 0 0
 rw [e1s] at hi0
 have hg0 := blk_alloc (blk_new w (Obj.cells #[.slice A0 Rs.length c0, .slice A1 Ls.length c1] 31)) (Obj.cells #[.int .i64 6, .int .i64 0, .int .i64 2, .slice none 0 0, .int .i64 12, .int .i64 0, .int .i64 0, .slice none 0 0] 88)
 obtain ⟨Ts, hTs⟩ : ∃ Ts, Ts = trees Rs Ls := ⟨_, rfl⟩
 obtain ⟨pr, hpr⟩ : ∃ pr : Int → Int, pr = fun n => plc (trees Rs Ls) n.toNat := ⟨_, rfl⟩
 obtain ⟨pt, hpt⟩ : ∃ pt : Int → Int, pt = fun n => plc (trees Rs Ls) (Rs.length + n.toNat) := ⟨_, rfl⟩
 obtain ⟨n, hn⟩ : ∃ n, n = Rs.length + Ls.length := ⟨_, rfl⟩
 have e0 : [(⟨6, 0, 2, []⟩ : In), ⟨12, 0, 0, []⟩] = progN pr pt Rs.length Ts 0 := by
  have : pr 0 = 2 := by
   rw [hpr]
   show plc (trees Rs Ls) 0 = 2
   rw [plc, if_pos hs0]
   rfl
  rw [progN, this]
 rw [e0] at hi0
 have HEX : Aside0 (∀ (x : Tr), okT Rs.length Ls.length x → smT x → (flat x).length ≤ 2000 → ∀ (w' : World) (A : Option Addr) (c at_ : Nat), Below w.heap.size w w' → Kd.C k79 w A (flat x).length (flat x) → (flat x).length ≤ c → at_ + szT x ≤ 1000000 →
  Calls Try.prog 140 #[.agg #[.slice A0 Rs.length c0, .slice A1 Ls.length c1], .slice A (flat x).length c, .int .i64 (at_ : Int)] w' (InsPost w' (exT pr pt x at_))) := ⟨sexpr_in w A0 A1 c0 c1 Rs Ls hG hN pr pt (fun n => by rw [hpr]; rfl) (fun n => by rw [hpt]; rfl)⟩
 have HND : Aside0 (spec_l3nodes.f Rs Ls = some (n : Int)) := ⟨by rw [hn]; exact nodes_f hN⟩
 have HBL : Aside0 (∀ i, i ≤ n → begN Ts i ≤ 2 + 4003 * i) := ⟨by rw [hn, hTs]; exact begN_le hN⟩
 have HSM : Aside0 (∀ i x, i < n → tr Ts i = some x → smT x) := ⟨by rw [hn, hTs]; exact hsm⟩
 have HBD : Aside0 (∀ i, i < n → (bodyN Rs Ls i = [] ∧ tr Ts i = none) ∨ ∃ x, tr Ts i = some x ∧ bodyN Rs Ls i = flat x ∧ okT Rs.length Ls.length x ∧ (flat x).length ≤ 2000) := ⟨by rw [hn, hTs]; exact hN.body⟩
 have HBO : Aside0 (∀ i, i < n → ∀ w', Below w.heap.size w w' → Calls Try.prog 84 #[.agg #[.slice A0 Rs.length c0, .slice A1 Ls.length c1], .int .i64 (i : Int)] w' (BodyPost w w' (bodyN Rs Ls i))) := ⟨fun i hi w' hb => sbody_in hG.r hG.l hr2 hl2 i (by rw [← hn]; exact hi) w' hb⟩
 have HCI : Aside0 (compI Rs Ls = progN pr pt Rs.length Ts n) := ⟨by rw [hn, hTs, hpr, hpt]; rfl⟩
 have HI0 := Aside0.mk hi0
 have HB0 := Aside0.mk hb1
 have HG0 := Aside0.mk hg0
 have HG := Aside0.mk hG
 have hn2 : n ≤ 200 := by omega
 have hnR : Rs.length ≤ n := by omega
 clear hi0 hb1 hg0 hG hN hs0 hsm hTs hpr hpt hn e0 e1s
 go_enter Try.func94, Try.ntmps94
 go_wp2_with fail
 generalize (w.alloc (Obj.cells #[.slice A0 Rs.length c0, .slice A1 Ls.length c1] 31)).alloc (Obj.cells #[.int .i64 6, .int .i64 0, .int .i64 2, .slice none 0 0, .int .i64 12, .int .i64 0, .int .i64 0, .slice none 0 0] 88) = W0 at *
 go_loopg [3, 4] (n + 1) (fun kq v3 v4 W' => ∃ (i : Nat) (A : Option Addr) (m c : Nat) (sv : Nat → Value), v3 = .slice A m c ∧ v4 = .int .i64 (i : Int) ∧ Aside0 (i ≤ n ∧ n < i + kq) ∧ Aside0 (InSt W' w.heap.size (.slice A m c) sv (progN pr pt Rs.length Ts i)) ∧ Aside0 (Below w.heap.size w W') ∧ Aside0 (W'.heap[w.heap.size]? = some (.cells #[.slice A0 Rs.length c0, .slice A1 Ls.length c1] 31 (0, 0))))
 case atStart => exact ⟨0, _, _, _, _, rfl, rfl, ⟨by omega, by omega⟩, HI0, HB0, HG0⟩
 case round =>
  clear HI0 HB0 HG0
  obtain ⟨i, A, m, c, sv, rfl, rfl, HI, HS, HB, HGX⟩ := hrel
  obtain ⟨i1, i2⟩ := HI.out
  clear HI
  have z0 := blk_cell HGX.out 0
  have z1 := blk_cell HGX.out 1
  have lz := blk_lt HGX.out
  cases gk with
  | zero => omega
  | succ k1 =>
   by_cases hi : i < n
   rotate_left
   ·have d1 : decide ((i : Int) < (n : Int)) = false := decide_eq_false (by omega)
    obtain rfl : n = i := by omega
    clear i1 i2 hi
    go_wp2_with (first
     | (go_at_call 82; refine (spec_l3nodes.calls A0 c0 Rs A1 c1 Ls (n : Int) _ (Kd.C_below HG.out.r HB.out) HG.out.rc (Kd.C_below HG.out.l HB.out) HG.out.lc HND.out).mono ?_; go_must (rintro e W3 ⟨rfl, hb⟩; have HS3 := Aside0.mk (HS.out.below hb); have HB3 := Aside0.mk (below_then HB.out HB.out.size hb); have HG3 := Aside0.mk (blk_below HGX.out hb); have y0 := blk_cell HG3.out 0; have y1 := blk_cell HG3.out 1; have ly := blk_lt HG3.out; clear hb)))
    go_ret
    exact ⟨_, _, rfl, by rw [HCI.out]; exact HS3.out, HB3.out⟩
   have d1 : decide ((i : Int) < (n : Int)) = true := decide_eq_true (by omega)
   rcases HBD.out i hi with ⟨eb, et⟩ | ⟨x, et, eb, ho, hl⟩
   ·have HEB := Aside0.mk eb
    have HET := Aside0.mk et
    clear eb et
    go_wp2_with (first
     | (go_at_call 84; refine (HBO.out i hi _ HB3.out).mono ?_; go_must (rw [HEB.out]; rintro e W4 ⟨A5, c5, rfl, _, _, hb⟩; have HS4 := Aside0.mk (HS3.out.below hb); have HB4 := Aside0.mk (below_then HB3.out HB3.out.size hb); have HG4 := Aside0.mk (blk_below HG3.out hb); clear hb))
     | (go_at_call 82; refine (spec_l3nodes.calls A0 c0 Rs A1 c1 Ls (n : Int) _ (Kd.C_below HG.out.r HB.out) HG.out.rc (Kd.C_below HG.out.l HB.out) HG.out.lc HND.out).mono ?_; go_must (rintro e W3 ⟨rfl, hb⟩; have HS3 := Aside0.mk (HS.out.below hb); have HB3 := Aside0.mk (below_then HB.out HB.out.size hb); have HG3 := Aside0.mk (blk_below HGX.out hb); have y0 := blk_cell HG3.out 0; have y1 := blk_cell HG3.out 1; have ly := blk_lt HG3.out; clear hb)))
    go_roundg k1
    case measure => omega
    case rel => exact ⟨i + 1, _, _, _, _, rfl, by first | rfl | (rw [wid (by omega) (by omega)]; simp), ⟨by omega, by omega⟩, ⟨by rw [progN, ndI, HET.out, List.append_nil]; exact HS4.out⟩, HB4, HG4⟩
   have HEB := Aside0.mk eb
   have HET := Aside0.mk et
   have HSX := Aside0.mk (HSM.out i x hi et)
   have HOX := Aside0.mk ho
   have hbg := HBL.out (i + 1) (by omega)
   have hbi := HBL.out i (by omega)
   have hl0 := flat_pos x
   have elen : ((flat x).length == 0) = false := by rw [beq_eq_false_iff_ne]; omega
   have elenI : (((flat x).length : Int) == 0) = false := by rw [beq_eq_false_iff_ne]; omega
   clear eb et ho
   obtain ⟨nb, hnb⟩ : ∃ nb, nb = begN Ts i := ⟨_, rfl⟩
   have hsz : nb + szT x + 3 ≤ 900000 := by
    rw [begN, HET.out, ← hnb] at hbg
    simp only [szO] at hbg
    omega
   have HNB := Aside0.mk hnb
   clear hbg hbi hnb
   by_cases hr : i < Rs.length
   ·have d2 : decide ((i : Int) ≥ (Rs.length : Int)) = false := decide_eq_false (by omega)
    have hr' : ¬ Rs.length ≤ i := by omega
    go_upto_region 10 with (first
     | (go_at_call 84; refine (HBO.out i hi _ HB3.out).mono ?_; go_must (rw [HEB.out]; rintro e W5 ⟨A5, c5, rfl, hC, hcc, hb⟩; have HC5 := Aside0.mk (And.intro hC hcc); have HS5 := Aside0.mk (HS3.out.below hb); have HB5 := Aside0.mk (below_then HB3.out HB3.out.size hb); have HG5 := Aside0.mk (blk_below HG3.out hb); have x0 := blk_cell HG5.out 0; have x1 := blk_cell HG5.out 1; have lx := blk_lt HG5.out; clear hb hC hcc))
     | (go_at_call 82; refine (spec_l3nodes.calls A0 c0 Rs A1 c1 Ls (n : Int) _ (Kd.C_below HG.out.r HB.out) HG.out.rc (Kd.C_below HG.out.l HB.out) HG.out.lc HND.out).mono ?_; go_must (rintro e W3 ⟨rfl, hb⟩; have HS3 := Aside0.mk (HS.out.below hb); have HB3 := Aside0.mk (below_then HB.out HB.out.size hb); have HG3 := Aside0.mk (blk_below HGX.out hb); have y0 := blk_cell HG3.out 0; have y1 := blk_cell HG3.out 1; have ly := blk_lt HG3.out; clear hb)))
    have hb6 : Below W5.heap.size W5 (W5.alloc (Obj.cells #[.int .i64 9, .int .i64 (i : Int), .int .i64 0, .slice none 0 0] 88)) := below_alloc (Below.refl _ _) _
    have hf6 := blk_new W5 (Obj.cells #[.int .i64 9, .int .i64 (i : Int), .int .i64 0, .slice none 0 0] 88)
    have HS6 := Aside0.mk (HS5.out.below hb6)
    have HB6 := Aside0.mk (below_then HB5.out HB5.out.size hb6)
    have HG6 := Aside0.mk (blk_below HG5.out hb6)
    have f0 := blk_cell hf6 0
    have f1 := blk_cell hf6 1
    have f2 := blk_cell hf6 2
    have f3 := blk_cell hf6 3
    have lf := blk_lt hf6
    have g0 := blk_cell HG6.out 0
    have g1 := blk_cell HG6.out 1
    have lg := blk_lt HG6.out
    clear hb6 hf6
    generalize W5.alloc (Obj.cells #[.int .i64 9, .int .i64 (i : Int), .int .i64 0, .slice none 0 0] 88) = W6 at *
    go_wp2_with (first
     | ((with_reducible refine gate_dst (N := 53) rfl ?_); go_must (refine ins_append HS10.out HB10.out.size (below_alloc (Below.refl _ _) (Obj.cells #[.int .i64 7, .int .i64 0, .int .i64 0, .slice none 0 0] 88)) (InSt.one (Nat.le_refl _) (s := .slice none 0 0) (x := ⟨7, 0, 0, []⟩) (own_nil _ _ _ _) (fun _ => .slice none 0 0) rfl) (by have h1 := HNB.out; simp only [List.length_append, List.length_singleton, progN_len, exT_len]; omega) rfl _ _ rfl rfl rfl ?_; intro A11 n11 c11 W11 HS11 hg; have HB11 := Aside0.mk (HS10.out.bel (below_alloc HB10.out (Obj.cells #[.int .i64 7, .int .i64 0, .int .i64 0, .slice none 0 0] 88)) hg.out); have HG11 := Aside0.mk (HS10.out.boxKept (below_alloc (Below.refl _ _) (Obj.cells #[.int .i64 7, .int .i64 0, .int .i64 0, .slice none 0 0] 88)) hg.out (blk_below HG10.out (below_alloc (Below.refl _ _) (Obj.cells #[.int .i64 7, .int .i64 0, .int .i64 0, .slice none 0 0] 88))) (by decide)); clear hg))
     | ((with_reducible refine gate_dst (N := 49) rfl ?_); go_must (refine ins_append HS9.out HB9.out.size (below_alloc (Below.refl _ _) (Obj.cells #[.int .i64 11, .int .i64 0, .int .i64 0, .slice none 0 0] 88)) (InSt.one (Nat.le_refl _) (s := .slice none 0 0) (x := ⟨11, 0, 0, []⟩) (own_nil _ _ _ _) (fun _ => .slice none 0 0) rfl) (by have h1 := HNB.out; simp only [List.length_append, List.length_singleton, progN_len, exT_len]; omega) rfl _ _ rfl rfl rfl ?_; intro A10 n10 c10 W10 HS10 hg; have HB10 := Aside0.mk (HS9.out.bel (below_alloc HB9.out (Obj.cells #[.int .i64 11, .int .i64 0, .int .i64 0, .slice none 0 0] 88)) hg.out); have HG10 := Aside0.mk (HS9.out.boxKept (below_alloc (Below.refl _ _) (Obj.cells #[.int .i64 11, .int .i64 0, .int .i64 0, .slice none 0 0] 88)) hg.out (blk_below HG9.out (below_alloc (Below.refl _ _) (Obj.cells #[.int .i64 11, .int .i64 0, .int .i64 0, .slice none 0 0] 88))) (by decide)); clear hg))
     | ((with_reducible refine gate_dst (N := 45) rfl ?_); go_must (refine ins_append HS7.out HB7.out.size HB78.out HI8.out (by have h1 := HNB.out; simp only [List.length_append, List.length_singleton, progN_len, exT_len]; omega) rfl _ _ rfl rfl rfl ?_; intro A9 n9 c9 W9 HS9 hg; have HB9 := Aside0.mk (HS7.out.bel (below_then HB7.out HB7.out.size HB78.out) hg.out); have HG9 := Aside0.mk (HS7.out.boxKept HB78.out hg.out (blk_below HG7.out HB78.out) (by decide)); clear hg))
     | (go_at_call 140; refine (HEX.out x HOX.out HSX.out hl _ A5 c5 n7 HB7.out HC5.out.1 HC5.out.2 (by have h1 := HN7.out; have h2 := HNB.out; omega)).mono ?_; go_must (rintro e W8 ⟨v8, sv8, rfl, hI, hb⟩; have HI8 := Aside0.mk hI; have HB78 := Aside0.mk hb; clear hI hb))
     | ((with_reducible refine gate_dst (N := 38) rfl ?_); go_must (refine ins_append HS6.out HB6.out.size (below_alloc (Below.refl _ _) (Obj.cells #[.int .i64 9, .int .i64 (i : Int), .int .i64 0, .slice none 0 0] 88)) (InSt.one (Nat.le_refl _) (s := .slice none 0 0) (x := ⟨9, (i : Int), 0, []⟩) (own_nil _ _ _ _) (fun _ => .slice none 0 0) rfl) (by have h1 := HNB.out; simp only [List.length_append, List.length_singleton, progN_len, exT_len]; omega) rfl _ _ rfl rfl rfl ?_; intro A7 n7 c7 W7 HS7 hg; have HB7 := Aside0.mk (HS6.out.bel (below_alloc HB6.out (Obj.cells #[.int .i64 9, .int .i64 (i : Int), .int .i64 0, .slice none 0 0] 88)) hg.out); have HG7 := Aside0.mk (HS6.out.boxKept (below_alloc (Below.refl _ _) (Obj.cells #[.int .i64 9, .int .i64 (i : Int), .int .i64 0, .slice none 0 0] 88)) hg.out (blk_below HG6.out (below_alloc (Below.refl _ _) (Obj.cells #[.int .i64 9, .int .i64 (i : Int), .int .i64 0, .slice none 0 0] 88))) (by decide)); have w0 := blk_cell HG7.out 0; have w1 := blk_cell HG7.out 1; have lw := blk_lt HG7.out; have HN7 : Aside0 (n7 = begN Ts i + 1) := ⟨by rw [HS7.out.len, List.length_append, progN_len]; rfl⟩; clear hg)))
    go_roundg k1
    case measure => omega
    case rel => exact ⟨i + 1, _, _, _, _, rfl, by first | rfl | (rw [wid (by omega) (by omega)]; simp), ⟨by omega, by omega⟩, ⟨by
     have h := HS11.out
     rw [HN7.out] at h
     rw [progN, ndI, HET.out, ndK, ndA, if_pos hr, if_pos hr]
     simp only [rtI, List.append_assoc] at h ⊢
     exact h⟩, HB11, HG11⟩
   have d2 : decide ((i : Int) ≥ (Rs.length : Int)) = true := decide_eq_true (by omega)
   have hr' : Rs.length ≤ i := by omega
   obtain ⟨j, hj⟩ : ∃ j : Nat, j = i - Rs.length := ⟨_, rfl⟩
   have ewj : IntKind.i64.wrap ((i : Int) - (Rs.length : Int)) = (j : Int) := (i64_w _).trans (by rw [wid (by omega) (by omega)]; omega)
   have HJ := Aside0.mk hj
   clear hj
   go_upto_region 10 with (first
    | (go_at_call 84; refine (HBO.out i hi _ HB3.out).mono ?_; go_must (rw [HEB.out]; rintro e W5 ⟨A5, c5, rfl, hC, hcc, hb⟩; have HC5 := Aside0.mk (And.intro hC hcc); have HS5 := Aside0.mk (HS3.out.below hb); have HB5 := Aside0.mk (below_then HB3.out HB3.out.size hb); have HG5 := Aside0.mk (blk_below HG3.out hb); have x0 := blk_cell HG5.out 0; have x1 := blk_cell HG5.out 1; have lx := blk_lt HG5.out; clear hb hC hcc))
    | (go_at_call 82; refine (spec_l3nodes.calls A0 c0 Rs A1 c1 Ls (n : Int) _ (Kd.C_below HG.out.r HB.out) HG.out.rc (Kd.C_below HG.out.l HB.out) HG.out.lc HND.out).mono ?_; go_must (rintro e W3 ⟨rfl, hb⟩; have HS3 := Aside0.mk (HS.out.below hb); have HB3 := Aside0.mk (below_then HB.out HB.out.size hb); have HG3 := Aside0.mk (blk_below HGX.out hb); have y0 := blk_cell HG3.out 0; have y1 := blk_cell HG3.out 1; have ly := blk_lt HG3.out; clear hb)))
   have hb6 : Below W5.heap.size W5 (W5.alloc (Obj.cells #[.int .i64 10, .int .i64 (j : Int), .int .i64 0, .slice none 0 0] 88)) := below_alloc (Below.refl _ _) _
   have hf6 := blk_new W5 (Obj.cells #[.int .i64 10, .int .i64 (j : Int), .int .i64 0, .slice none 0 0] 88)
   have HS6 := Aside0.mk (HS5.out.below hb6)
   have HB6 := Aside0.mk (below_then HB5.out HB5.out.size hb6)
   have HG6 := Aside0.mk (blk_below HG5.out hb6)
   have f0 := blk_cell hf6 0
   have f1 := blk_cell hf6 1
   have f2 := blk_cell hf6 2
   have f3 := blk_cell hf6 3
   have lf := blk_lt hf6
   have g0 := blk_cell HG6.out 0
   have g1 := blk_cell HG6.out 1
   have lg := blk_lt HG6.out
   clear hb6 hf6
   generalize W5.alloc (Obj.cells #[.int .i64 10, .int .i64 (j : Int), .int .i64 0, .slice none 0 0] 88) = W6 at *
   go_wp2_with (first
    | ((with_reducible refine gate_dst (N := 53) rfl ?_); go_must (refine ins_append HS10.out HB10.out.size (below_alloc (Below.refl _ _) (Obj.cells #[.int .i64 7, .int .i64 0, .int .i64 0, .slice none 0 0] 88)) (InSt.one (Nat.le_refl _) (s := .slice none 0 0) (x := ⟨7, 0, 0, []⟩) (own_nil _ _ _ _) (fun _ => .slice none 0 0) rfl) (by have h1 := HNB.out; simp only [List.length_append, List.length_singleton, progN_len, exT_len]; omega) rfl _ _ rfl rfl rfl ?_; intro A11 n11 c11 W11 HS11 hg; have HB11 := Aside0.mk (HS10.out.bel (below_alloc HB10.out (Obj.cells #[.int .i64 7, .int .i64 0, .int .i64 0, .slice none 0 0] 88)) hg.out); have HG11 := Aside0.mk (HS10.out.boxKept (below_alloc (Below.refl _ _) (Obj.cells #[.int .i64 7, .int .i64 0, .int .i64 0, .slice none 0 0] 88)) hg.out (blk_below HG10.out (below_alloc (Below.refl _ _) (Obj.cells #[.int .i64 7, .int .i64 0, .int .i64 0, .slice none 0 0] 88))) (by decide)); clear hg))
    | ((with_reducible refine gate_dst (N := 49) rfl ?_); go_must (refine ins_append HS9.out HB9.out.size (below_alloc (Below.refl _ _) (Obj.cells #[.int .i64 11, .int .i64 0, .int .i64 0, .slice none 0 0] 88)) (InSt.one (Nat.le_refl _) (s := .slice none 0 0) (x := ⟨11, 0, 0, []⟩) (own_nil _ _ _ _) (fun _ => .slice none 0 0) rfl) (by have h1 := HNB.out; simp only [List.length_append, List.length_singleton, progN_len, exT_len]; omega) rfl _ _ rfl rfl rfl ?_; intro A10 n10 c10 W10 HS10 hg; have HB10 := Aside0.mk (HS9.out.bel (below_alloc HB9.out (Obj.cells #[.int .i64 11, .int .i64 0, .int .i64 0, .slice none 0 0] 88)) hg.out); have HG10 := Aside0.mk (HS9.out.boxKept (below_alloc (Below.refl _ _) (Obj.cells #[.int .i64 11, .int .i64 0, .int .i64 0, .slice none 0 0] 88)) hg.out (blk_below HG9.out (below_alloc (Below.refl _ _) (Obj.cells #[.int .i64 11, .int .i64 0, .int .i64 0, .slice none 0 0] 88))) (by decide)); clear hg))
    | ((with_reducible refine gate_dst (N := 45) rfl ?_); go_must (refine ins_append HS7.out HB7.out.size HB78.out HI8.out (by have h1 := HNB.out; simp only [List.length_append, List.length_singleton, progN_len, exT_len]; omega) rfl _ _ rfl rfl rfl ?_; intro A9 n9 c9 W9 HS9 hg; have HB9 := Aside0.mk (HS7.out.bel (below_then HB7.out HB7.out.size HB78.out) hg.out); have HG9 := Aside0.mk (HS7.out.boxKept HB78.out hg.out (blk_below HG7.out HB78.out) (by decide)); clear hg))
    | (go_at_call 140; refine (HEX.out x HOX.out HSX.out hl _ A5 c5 n7 HB7.out HC5.out.1 HC5.out.2 (by have h1 := HN7.out; have h2 := HNB.out; omega)).mono ?_; go_must (rintro e W8 ⟨v8, sv8, rfl, hI, hb⟩; have HI8 := Aside0.mk hI; have HB78 := Aside0.mk hb; clear hI hb))
    | ((with_reducible refine gate_dst (N := 38) rfl ?_); go_must (refine ins_append HS6.out HB6.out.size (below_alloc (Below.refl _ _) (Obj.cells #[.int .i64 10, .int .i64 (j : Int), .int .i64 0, .slice none 0 0] 88)) (InSt.one (Nat.le_refl _) (s := .slice none 0 0) (x := ⟨10, (j : Int), 0, []⟩) (own_nil _ _ _ _) (fun _ => .slice none 0 0) rfl) (by have h1 := HNB.out; simp only [List.length_append, List.length_singleton, progN_len, exT_len]; omega) rfl _ _ rfl rfl rfl ?_; intro A7 n7 c7 W7 HS7 hg; have HB7 := Aside0.mk (HS6.out.bel (below_alloc HB6.out (Obj.cells #[.int .i64 10, .int .i64 (j : Int), .int .i64 0, .slice none 0 0] 88)) hg.out); have HG7 := Aside0.mk (HS6.out.boxKept (below_alloc (Below.refl _ _) (Obj.cells #[.int .i64 10, .int .i64 (j : Int), .int .i64 0, .slice none 0 0] 88)) hg.out (blk_below HG6.out (below_alloc (Below.refl _ _) (Obj.cells #[.int .i64 10, .int .i64 (j : Int), .int .i64 0, .slice none 0 0] 88))) (by decide)); have w0 := blk_cell HG7.out 0; have w1 := blk_cell HG7.out 1; have lw := blk_lt HG7.out; have HN7 : Aside0 (n7 = begN Ts i + 1) := ⟨by rw [HS7.out.len, List.length_append, progN_len]; rfl⟩; clear hg)))
   go_roundg k1
   case measure => omega
   case rel => exact ⟨i + 1, _, _, _, _, rfl, by first | rfl | (rw [wid (by omega) (by omega)]; simp), ⟨by omega, by omega⟩, ⟨by
    have h := HS11.out
    rw [HN7.out] at h
    rw [progN, ndI, HET.out, ndK, ndA, if_neg hr, if_neg hr, ← HJ.out]
    simp only [rtI, List.append_assoc] at h ⊢
    exact h⟩, HB11, HG11⟩
set_option maxRecDepth 100000 in
set_option maxHeartbeats 8000000 in
theorem scompile_in (w : World) (A0 A1 : Option Addr) (c0 c1 : Nat) (Rs : List Ru) (Ls : List La) (hr0 : Kd.C k68 w A0 Rs.length Rs) (hc0 : Rs.length ≤ c0) (hr1 : Kd.C k72 w A1 Ls.length Ls) (hc1 : Ls.length ≤ c1) (hok : okG Rs Ls = true) (hsR : ssRs Rs) (hsL : ssLs Ls) :
 Calls Try.prog 41 #[.agg #[.slice A0 Rs.length c0, .slice A1 Ls.length c1]] w (CompPost w (compF Rs Ls).1 (compF Rs Ls).2) := by
 have hb1 : Below w.heap.size w (w.alloc (Obj.cells #[.slice A0 Rs.length c0, .slice A1 Ls.length c1] 31)) := below_alloc (Below.refl _ _) _
 have HR0 := Aside0.mk (Kd.C_below hr0 hb1)
 have HL0 := Aside0.mk (Kd.C_below hr1 hb1)
 have HB1 := Aside0.mk hb1
 have HBG := Aside0.mk (blk_new w (Obj.cells #[.slice A0 Rs.length c0, .slice A1 Ls.length c1] 31))
 have HVF : Aside0 (spec_ValidGrammar.f Rs Ls = some (validB Rs Ls)) := ⟨by unfold spec_ValidGrammar.f; rw [if_pos hok]⟩
 cases hvb : validB Rs Ls with
 | false =>
  have HVB := Lib.hid hvb
  have HG : Aside0 (compF Rs Ls = ([], 4)) := ⟨by unfold compF; rw [hvb]; rfl⟩
  clear hvb hr0 hr1 hb1
  go_enter Try.func41, Try.ntmps41
  go_wp2_with (go_at_call 11; refine (spec_ValidGrammar.calls A0 c0 Rs A1 c1 Ls _ _ HR0.out hc0 HL0.out hc1 HVF.out).mono ?_; go_must (rintro e W1 ⟨rfl, hb⟩; rw [HVB.out]; have HB := Aside0.mk hb; clear hb))
  go_ret2
  rw [HG.out]
  exact ⟨_, fun _ => undef, rfl, InSt.nil _ _ _, below_then HB1.out HB1.out.size HB.out⟩
 | true =>
  have hv := validB_iff.1 hvb
  have HVB := Lib.hid hvb
  have HG : Aside0 (compF Rs Ls = (compI Rs Ls, 0)) := ⟨by unfold compF; rw [hvb]; rfl⟩
  have HLC : Aside0 (∀ W1, GrC W1 A0 c0 A1 c1 Rs Ls → Calls Try.prog 94 #[.agg #[.slice A0 Rs.length c0, .slice A1 Ls.length c1]] W1 (InsPost W1 (compI Rs Ls))) := ⟨fun W1 hg => by
   refine l4compile_in W1 A0 A1 c0 c1 Rs Ls hg hv.nice hv.r1 ?_ fun i x hi hx => ?_
   ·obtain ⟨x, hx⟩ := hv.gok.rt 0 (by have := hv.r1; omega)
    have := tr_ru (Ls := Ls) (show 0 < Rs.length by have := hv.r1; omega) hx
    rw [this]
    rfl
   rcases hv.nice.body i hi with ⟨_, e2⟩ | ⟨y, e1, e2, _, _⟩
   ·rw [e2] at hx; cases hx
   rw [e1] at hx
   injection hx with hx
   subst hx
   refine smT_flat _ ?_
   rw [← e2]
   by_cases hlt : i < Rs.length
   ·rw [bodyN_ru hlt]
    exact (hsR.2 _ (ru_mem hlt)).2.2
   obtain ⟨j, rfl⟩ : ∃ j, i = Rs.length + j := ⟨i - Rs.length, by omega⟩
   rw [bodyN_la (by omega)]
   exact (hsL.2 _ (la_mem (by omega))).2.2⟩
  clear hvb hv hr0 hr1 hb1 hok hsR hsL
  go_enter Try.func41, Try.ntmps41
  go_wp2_with (first
   | (go_at_call 94; refine (HLC.out W1 ⟨HR1.out, hc0, HL1.out, hc1⟩).mono ?_; go_must (rintro e W2 hp; obtain ⟨v2, sv2, rfl, hI, hb⟩ := hp.later HB2.out; have HI2 := Aside0.mk hI; have HB3 := Aside0.mk hb; clear hp hI hb))
   | (go_at_call 11; refine (spec_ValidGrammar.calls A0 c0 Rs A1 c1 Ls _ _ HR0.out hc0 HL0.out hc1 HVF.out).mono ?_; go_must (rintro e W1 ⟨rfl, hb⟩; rw [HVB.out]; have HB2 := Aside0.mk (below_then HB1.out HB1.out.size hb); have HR1 := Aside0.mk (Kd.C_below HR0.out hb); have HL1 := Aside0.mk (Kd.C_below HL0.out hb); have hg1 := blk_below HBG.out hb; have z0 := blk_cell hg1 0; have z1 := blk_cell hg1 1; clear hb hg1)))
  go_ret2
  rw [HG.out]
  exact ⟨_, _, rfl, HI2.out, HB3.out⟩
end Go.Proofs.Ytdiilocgjnlmiaa.Tre
end
section
namespace Go.Proofs.Ytdiilocgjnlmiaa.Tre
open Go.RowKit Go.Proofs.YtdiilocgjnlmiaaW.PrintWords Go.Proofs.YtdiilocgjnlmiaaW.PrintLast Go.Proofs.YtdiilocgjnlmiaaW.PrintMore
open Go.Proofs.Ytdiilocgjnlmiaa.PAll
set_option linter.unusedVariables false
set_option linter.unusedSimpArgs false
def cntN (m : Nat → Nat) : Nat → Nat
 | 0 => 0
 | n + 1 => cntN m n + (3 + m n)
theorem cntN_mono (m : Nat → Nat) {i n : Nat} (h : i ≤ n) : cntN m i ≤ cntN m n := by
 induction n with
 | zero => obtain rfl : i = 0 := by omega
           exact Nat.le_refl _
 | succ n ih =>
  rcases (by omega : i ≤ n ∨ i = n + 1) with h' | rfl
  ·have := ih h'
   rw [cntN]; omega
  exact Nat.le_refl _
theorem cntN_le {m : Nat → Nat} {B : Nat} (h : ∀ i, m i ≤ B) (n : Nat) : cntN m n ≤ n * (3 + B) := by
 induction n with
 | zero => simp [cntN]
 | succ n ih =>
  have := h n
  rw [cntN, Nat.succ_mul]
  omega
def pIn (W : World) (X : Nat → Prop) (sv : Nat → Value) (m : Nat → Nat) (i : Nat) (cs : List Value) : Prop := ∃ x y z, cs = [.int .i64 x, .int .i64 y, .int .i64 z, sv i] ∧ WInts W X 3 .i64 (sv i) (m i)
abbrev WIns (W : World) (X : Nat → Prop) (v : Value) (n : Nat) (sv : Nat → Value) (m : Nat → Nat) : Prop := WRow W X 88 4 (pIn W X sv m) v n
theorem four_like {cs cs' : List Value} {x y z u : Value} (h : cs = [x, y, z, u]) (hl : cs'.length = cs.length) (hh : ∀ (j : Nat) (u : Value), cs[j]? = some u → ∃ u' : Value, cs'[j]? = some u' ∧ Like u u') : ∃ x' y' z' u', cs' = [x', y', z', u'] ∧ Like x x' ∧ Like y y' ∧ Like z z' ∧ Like u u' := by
 subst h
 obtain ⟨x', h1, g1⟩ := hh 0 x rfl
 obtain ⟨y', h2, g2⟩ := hh 1 y rfl
 obtain ⟨z', h3, g3⟩ := hh 2 z rfl
 obtain ⟨u', h4, g4⟩ := hh 3 u rfl
 match cs', hl, h1, h2, h3, h4 with
 | [a, b, c, d], _, h1, h2, h3, h4 => cases h1; cases h2; cases h3; cases h4; exact ⟨_, _, _, _, rfl, g1, g2, g3, g4⟩
theorem WIns.evo {W W' : World} {X Y : Nat → Prop} {v : Value} {n : Nat} {sv : Nat → Value} {m : Nat → Nat} (h : WIns W X v n sv m) (he : Evo Y W W') : WIns W' X v n sv m :=
 WRow.evo h he fun i cs cs' ⟨x, y, z, e, hi⟩ hl hh => by
  obtain ⟨x', y', z', s', rfl, g1, g2, g3, g4⟩ := four_like e hl hh
  obtain ⟨a, rfl⟩ := g1.int
  obtain ⟨b, rfl⟩ := g2.int
  obtain ⟨d, rfl⟩ := g3.int
  obtain ⟨A, c, hs, _⟩ := id hi
  rw [hs] at g4
  rw [g4.slice, ← hs]
  exact ⟨a, b, d, rfl, hi.evo he⟩
theorem WIns.at {W : World} {X : Nat → Prop} {A : Option Addr} {c n i : Nat} {sv : Nat → Value} {m : Nat → Nat} (h : WIns W X (.slice A n c) n sv m) (hi : i < n) : ∃ (g : Nat) (cur : Array Value) (x y z : Int), A = some ⟨g, 0, none⟩ ∧ X g ∧ W.heap[g]? = some (Obj.cells cur 88 (0, 0)) ∧ cur[i * 4]? = some (.int .i64 x) ∧ cur[i * 4 + 1]? = some (.int .i64 y) ∧ cur[i * 4 + 2]? = some (.int .i64 z) ∧ cur[i * 4 + 3]? = some (sv i) ∧ WInts W X 3 .i64 (sv i) (m i) := by
 obtain ⟨A', c', e, hc, hn, h⟩ := h
 cases e
 rcases h with h | ⟨g, cur, rfl, hX, hg, h⟩
 ·omega
 obtain ⟨cs, _, h2, ⟨x, y, z, rfl, hw⟩⟩ := h i hi
 exact ⟨g, cur, x, y, z, rfl, hX, hg, h2 0 _ rfl, h2 1 _ rfl, h2 2 _ rfl, h2 3 _ rfl, hw⟩
structure InMarked (W : World) (g j : Nat) (s : Value) (m : Nat) (k : Int) : Prop where
 f0 : W.cell? ⟨g, j * 4, none⟩ = some (.int .i64 k)
 f1 : W.cell? ⟨g, j * 4 + 1, none⟩ = some (.int .i64 (k + 1))
 f2 : W.cell? ⟨g, j * 4 + 2, none⟩ = some (.int .i64 (k + 2))
 f3 : ∀ gs c, s = .slice (some ⟨gs, 0, none⟩) m c → ∀ q, q < m → W.cell? ⟨gs, q, none⟩ = some (.int .i64 (k + 3 + q))
theorem InMarked.keep {W W' : World} {g j : Nat} {s : Value} {m : Nat} {k : Int} (h : InMarked W g j s m k) (h0 : ∀ o, j * 4 ≤ o → o < j * 4 + 4 → W'.cell? ⟨g, o, none⟩ = W.cell? ⟨g, o, none⟩) (hs : ∀ gs, ownV s gs → ∀ q, W'.cell? ⟨gs, q, none⟩ = W.cell? ⟨gs, q, none⟩) : InMarked W' g j s m k :=
 ⟨(h0 _ (by omega) (by omega)).trans h.f0, (h0 _ (by omega) (by omega)).trans h.f1, (h0 _ (by omega) (by omega)).trans h.f2, fun gs c e q hq => (hs gs (by rw [e]; rfl) q).trans (h.f3 gs c e q hq)⟩
structure InsM (W W' : World) (A : Option Addr) (n : Nat) (sv : Nat → Value) (m : Nat → Nat) (k : Int) (i : Nat) : Prop where
 evo : Evo (opsX A n sv) W W'
 cont : Apart n sv → ∀ g, A = some ⟨g, 0, none⟩ → ∀ j, j < i → InMarked W' g j (sv j) (m j) (k + cntN m j)
def InsMPost (W : World) (A : Option Addr) (n : Nat) (sv : Nat → Value) (m : Nat → Nat) (k : Int) (e : Ending) (W' : World) : Prop := e = .returned (.int .i64 (k + cntN m n)) ∧ InsM W W' A n sv m k n
theorem InsM.start (W : World) (A : Option Addr) (n : Nat) (sv : Nat → Value) (m : Nat → Nat) (k : Int) : InsM W W A n sv m k 0 := ⟨Evo.refl _ _, fun _ g hg j hj => absurd hj (Nat.not_lt_zero _)⟩
def put3 (W : World) (g i : Nat) (k : Int) : World := ((W.setCell ⟨g, i * 4, none⟩ (.int .i64 k)).setCell ⟨g, i * 4 + 1, none⟩ (.int .i64 (k + 1))).setCell ⟨g, i * 4 + 2, none⟩ (.int .i64 (k + 2))
theorem put3_evo {W : World} {X : Nat → Prop} {g i : Nat} {k : Int} {cur : Array Value} {fz : Nat × Nat} {x y z : Int} (hg : W.heap[g]? = some (Obj.cells cur 88 fz)) (h0 : cur[i * 4]? = some (.int .i64 x)) (h1 : cur[i * 4 + 1]? = some (.int .i64 y)) (h2 : cur[i * 4 + 2]? = some (.int .i64 z)) (hX : X g) : Evo X W (put3 W g i k) := by
 have E1 : Evo X W (W.setCell ⟨g, i * 4, none⟩ (.int .i64 k)) := Evo.set hg h0 hX (.inr (.inl ⟨_, _, _, rfl, rfl⟩))
 have g1 := setRow_heap W g cur (cur.setIfInBounds (i * 4) (.int .i64 k)) 88 fz hg
 rw [← setCell_eq_setRow W g (i * 4) cur _ fz _ hg] at g1
 have E2 : Evo X (W.setCell ⟨g, i * 4, none⟩ (.int .i64 k)) _ := Evo.set (v := .int .i64 y) (u := .int .i64 (k + 1)) (j := i * 4 + 1) g1 (by rw [Array.getElem?_setIfInBounds_ne (by omega)]; exact h1) hX (.inr (.inl ⟨_, _, _, rfl, rfl⟩))
 have g2 := setRow_heap _ g _ ((cur.setIfInBounds (i * 4) (.int .i64 k)).setIfInBounds (i * 4 + 1) (.int .i64 (k + 1))) 88 fz g1
 rw [← setCell_eq_setRow _ g (i * 4 + 1) _ _ fz _ g1] at g2
 have E3 : Evo X _ (put3 W g i k) := Evo.set (v := .int .i64 z) (u := .int .i64 (k + 2)) (j := i * 4 + 2) g2 (by rw [Array.getElem?_setIfInBounds_ne (by omega), Array.getElem?_setIfInBounds_ne (by omega)]; exact h2) hX (.inr (.inl ⟨_, _, _, rfl, rfl⟩))
 exact (E1.trans E2).trans E3
theorem put3_far (W : World) (g i : Nat) (k : Int) {b q : Nat} (h : b ≠ g) : (put3 W g i k).cell? ⟨b, q, none⟩ = W.cell? ⟨b, q, none⟩ := by
 unfold put3
 rw [World.cell?_setCell_far _ _ _ _ (by exact fun e => h e.symm), World.cell?_setCell_far _ _ _ _ (by exact fun e => h e.symm), World.cell?_setCell_far _ _ _ _ (by exact fun e => h e.symm)]
theorem put3_other (W : World) (g i : Nat) (k : Int) {o : Nat} (h0 : o ≠ i * 4) (h1 : o ≠ i * 4 + 1) (h2 : o ≠ i * 4 + 2) : (put3 W g i k).cell? ⟨g, o, none⟩ = W.cell? ⟨g, o, none⟩ := by
 unfold put3
 rw [cell_other _ _ _ _ _ (fun e => h2 e.symm), cell_other _ _ _ _ _ (fun e => h1 e.symm), cell_other _ _ _ _ _ (fun e => h0 e.symm)]
theorem put3_at {W : World} {g i : Nat} (k : Int) {x y z : Value} (h0 : W.cell? ⟨g, i * 4, none⟩ = some x) (h1 : W.cell? ⟨g, i * 4 + 1, none⟩ = some y) (h2 : W.cell? ⟨g, i * 4 + 2, none⟩ = some z) : (put3 W g i k).cell? ⟨g, i * 4, none⟩ = some (.int .i64 k) ∧ (put3 W g i k).cell? ⟨g, i * 4 + 1, none⟩ = some (.int .i64 (k + 1)) ∧ (put3 W g i k).cell? ⟨g, i * 4 + 2, none⟩ = some (.int .i64 (k + 2)) := by
 unfold put3
 refine ⟨?_, ?_, ?_⟩
 ·rw [cell_other _ _ _ _ _ (by omega), cell_other _ _ _ _ _ (by omega)]
  exact cell_same _ _ _ _ _ h0
 ·rw [cell_other _ _ _ _ _ (by omega)]
  exact cell_same _ _ _ _ y (by rw [cell_other _ _ _ _ _ (by omega)]; exact h1)
 exact cell_same _ _ _ _ z (by rw [cell_other _ _ _ _ _ (by omega), cell_other _ _ _ _ _ (by omega)]; exact h2)
theorem InsM.next {W W' W2 : World} {X : Nat → Prop} {g n c i : Nat} {sv : Nat → Value} {m : Nat → Nat} {k : Int} {As : Option Addr} {cs : Nat} (hV : WIns W X (.slice (some ⟨g, 0, none⟩) n c) n sv m) (h : InsM W W' (some ⟨g, 0, none⟩) n sv m k i) (hi : i < n) (hs : sv i = .slice As (m i) cs)
 (h2 : FlatSt (put3 W' g i (k + cntN m i)) W2 As (m i) (fun j => .int .i64 (k + cntN m i + 3 + (j : Int)))) :
 InsM W W2 (some ⟨g, 0, none⟩) n sv m k (i + 1) := by
 have hV1 := WIns.evo hV h.evo
 obtain ⟨g', cur, x, y, z, e, hX, hg, c0, c1, c2, c3, hw⟩ := WIns.at hV1 hi
 cases e
 have hlt : g < W'.heap.size := (Array.getElem?_eq_some_iff.1 hg).1
 have hown : ∀ b, ownX As b → ownV (sv i) b := fun b hb => by rw [hs]; exact ownV_slice.2 hb
 have hne : ∀ j, j < n → ∀ b, ownV (sv j) b → b ≠ g ∧ b < W'.heap.size := by
  intro j hj b hb
  obtain ⟨_, _, _, _, _, e', _, _, _, _, _, _, hwj⟩ := WIns.at hV1 hj
  obtain ⟨_, cu, hcu⟩ := WRow.block hwj hb
  refine ⟨fun e => ?_, (Array.getElem?_eq_some_iff.1 hcu).1⟩
  subst e
  rw [hg] at hcu
  simp only [Option.some.injEq, Obj.cells.injEq] at hcu
  exact absurd hcu.2.1 (by decide)
 have E1 : Evo (opsX (some ⟨g, 0, none⟩) n sv) W' (put3 W' g i (k + cntN m i)) := put3_evo hg c0 c1 c2 (.inl ⟨_, rfl, rfl⟩)
 have E2 : Evo (opsX (some ⟨g, 0, none⟩) n sv) _ W2 := h2.evo.mono fun b hb => .inr ⟨i, hi, hown b hb⟩
 have hsz : g < (put3 W' g i (k + cntN m i)).heap.size := by unfold put3; simpa using hlt
 have r2 : ∀ o, W2.cell? ⟨g, o, none⟩ = (put3 W' g i (k + cntN m i)).cell? ⟨g, o, none⟩ := fun o =>
  World.cell?_of_block (h2.evo.same g hsz fun hx => (hne i hi g (hown g hx)).1 rfl)
 refine ⟨(h.evo.trans E1).trans E2, fun hA g' e j hj => ?_⟩
 cases e
 rcases (by omega : j < i ∨ j = i) with hji | rfl
 ·refine InMarked.keep (h.cont hA g rfl j hji) (fun o ho1 ho2 => ?_) (fun gs hgs q => ?_)
  ·rw [r2 o, put3_other _ _ _ _ (by omega) (by omega) (by omega)]
  obtain ⟨hn1, hn2⟩ := hne j (by omega) gs hgs
  rw [World.cell?_of_block (h2.evo.same gs (by unfold put3; simpa using hn2) fun hx => hA i j hi (by omega) (by omega) gs (hown gs hx) hgs), put3_far _ _ _ _ hn1]
 obtain ⟨p0, p1, p2⟩ := put3_at (k + (cntN m j : Int)) (show W'.cell? ⟨g, j * 4, none⟩ = some (.int .i64 x) by rw [cell_of_row _ _ _ _ _ _ hg]; exact c0) (show W'.cell? ⟨g, j * 4 + 1, none⟩ = some (.int .i64 y) by rw [cell_of_row _ _ _ _ _ _ hg]; exact c1) (show W'.cell? ⟨g, j * 4 + 2, none⟩ = some (.int .i64 z) by rw [cell_of_row _ _ _ _ _ _ hg]; exact c2)
 refine ⟨(r2 _).trans p0, (r2 _).trans p1, (r2 _).trans p2, fun gs c' e q hq => ?_⟩
 rw [hs] at e
 cases e
 exact h2.cont gs rfl q hq
set_option maxRecDepth 100000 in
set_option maxHeartbeats 4000000 in
theorem markIns_in (W : World) (X : Nat → Prop) (A : Option Addr) (n c : Nat) (sv : Nat → Value) (m : Nat → Nat) (k : Int) (hV : WIns W X (.slice A n c) n sv m) (hn : n ≤ 1099511627776) (h0 : 0 ≤ k) (h1 : k + cntN m n ≤ 4611686018427387904) :
 Calls Try.prog 23 #[.slice A n c, .int .i64 k] W (InsMPost W A n sv m k) := by
 have HV := Aside0.mk hV
 clear hV
 go_enter Try.func23, Try.ntmps23
 go_wp2
 go_loopg [1, 5] (n + 1) (fun kq v1 v5 W' => ∃ (i : Nat), v1 = .int .i64 (k + (cntN m i : Int)) ∧ v5 = .int .i64 (i : Int) ∧ Aside0 (i ≤ n ∧ n < i + kq) ∧ InsM W W' A n sv m k i)
 case atStart => exact ⟨0, by simp [cntN], rfl, ⟨by omega, by omega⟩, InsM.start _ _ _ _ _ _⟩
 case round =>
  obtain ⟨i, rfl, rfl, HI, hS⟩ := hrel
  obtain ⟨i1, i2⟩ := HI.out
  clear HI
  cases gk with
  | zero => omega
  | succ k1 =>
   by_cases hi : i < n
   rotate_left
   ·have d1 : decide ((i : Int) < (n : Int)) = false := decide_eq_false (by omega)
    have e : i = n := by omega
    subst e
    go_wp2
    go_ret
    exact ⟨rfl, hS⟩
   have d1 : decide ((i : Int) < (n : Int)) = true := decide_eq_true (by omega)
   have d1n : decide (i < n) = true := decide_eq_true hi
   obtain ⟨g, cur, x, y, z, rfl, hX, hg, c0, c1, c2, c3, hw⟩ := WIns.at (WIns.evo HV.out hS.evo) hi
   obtain ⟨As, cs, hs, _, hmi, _⟩ := id hw
   have b0 := cntN_mono m (i := i + 1) (n := n) (by omega)
   rw [cntN] at b0
   have q0 : wr.cell? ⟨g, i * 4, none⟩ = some (.int .i64 x) := by rw [cell_of_row _ _ _ _ _ _ hg]; exact c0
   have q1 : wr.cell? ⟨g, i * 4 + 1, none⟩ = some (.int .i64 y) := by rw [cell_of_row _ _ _ _ _ _ hg]; exact c1
   have q2 : wr.cell? ⟨g, i * 4 + 2, none⟩ = some (.int .i64 z) := by rw [cell_of_row _ _ _ _ _ _ hg]; exact c2
   have q3 : wr.cell? ⟨g, i * 4 + 3, none⟩ = some (.slice As (m i) cs) := by rw [cell_of_row _ _ _ _ _ _ hg, c3, hs]
   have f0 : ∀ o, wr.frozen? ⟨g, o, none⟩ = false := fun o => by simp [World.frozen?, hg]
   have e2 : (0 ≤ (i : Int)) = True := eq_true (by omega)
   have e3 : ((i : Int) < (n : Int)) = True := eq_true (by omega)
   have hw1 := WInts.evo hw (put3_evo (k := k + (cntN m i : Int)) hg c0 c1 c2 hX)
   rw [hs] at hw1
   have HW1 := Aside0.mk hw1
   have HS := Lib.hid hs
   have HC := Aside0.mk (show cntN m (i + 1) = cntN m i + (3 + m i) from rfl)
   have hkb : k + (cntN m i : Int) + 3 + (m i : Int) ≤ 4611686018427387904 := by omega
   have hkc : 0 ≤ k + (cntN m i : Int) := by omega
   have HP : Aside0 (put3 wr g i (k + (cntN m i : Int)) = ((wr.setCell ⟨g, i * 4, none⟩ (.int .i64 (k + (cntN m i : Int)))).setCell ⟨g, i * 4 + 1, none⟩ (.int .i64 (k + (cntN m i : Int) + 1))).setCell ⟨g, i * 4 + 2, none⟩ (.int .i64 (k + (cntN m i : Int) + 2))) := ⟨rfl⟩
   clear hg c0 c1 c2 c3 hw hw1 hs
   generalize hK : k + (cntN m i : Int) = K at *
   have hk1 : IntKind.i64.wrap (K + 1) = K + 1 := (i64_w _).trans (wid (by omega) (by omega))
   have hk2 : IntKind.i64.wrap (K + 1 + 1) = K + 2 := (i64_w _).trans (by rw [wid (by omega) (by omega)]; omega)
   have hk3 : IntKind.i64.wrap (K + 2 + 1) = K + 3 := (i64_w _).trans (by rw [wid (by omega) (by omega)]; omega)
   have HK := Aside0.mk hK
   clear hK
   go_wp2_with (first
    | (go_at_call 68; rw [← HP.out]; go_must (refine (markInt_in _ _ As (m i) cs (K + 3) HW1.out hmi (by omega) (by omega)).mono ?_; rintro e W2 ⟨rfl, hF⟩; have HN := Aside0.mk (InsM.next HV.out hS hi HS.out (by rw [HK.out]; exact hF)); clear hF)))
   go_roundg k1
   case measure => omega
   case rel => exact ⟨i + 1, by rw [HC.out, ← HK.out]; simp; omega, by first | rfl | (simp; done) | (rw [wid (by omega) (by omega)]; simp), ⟨by omega, by omega⟩, HN.out⟩
def mkN (k : Int) (m : Nat) : In := ⟨k, k + 1, k + 2, mkI (k + 3) m⟩
def mkNs (k : Int) (m : Nat → Nat) (n : Nat) : List In := (List.range n).map fun (q : Nat) => mkN (k + cntN m q) (m q)
theorem mkNs_len (k : Int) (m : Nat → Nat) (n : Nat) : (mkNs k m n).length = n := by simp [mkNs]
theorem rd_mkNs {k : Int} {m : Nat → Nat} {n i : Nat} (h : i < n) : rd_T88 (mkNs k m n) (i : Int) = mkN (k + cntN m i) (m i) := by simp [rd_T88, mkNs, List.getD_eq_getElem?_getD, h]
theorem heldInsS_l0 (a : Int) (m : Nat → Nat) (n : Nat) (hm : ∀ q, m q ≤ 1048576) (ha : 0 ≤ a) (hb : a + cntN m n ≤ 4611686018427387904) (hn : n ≤ 1048576) : ∀ (k : Nat) (i : Nat), i ≤ n → n - i + 1048577 < k → laws_heldInsS.l0 k (mkNs a m n) (a + cntN m i) (i : Int) = some (a + cntN m n)
 | 0, _, _, h => by omega
 | k + 1, i, hi, hk => by
  rw [laws_heldInsS.l0, mkNs_len]
  by_cases c : i < n
  rotate_left
  ·rw [if_neg (by omega), show i = n by omega]
  have hmi := hm i
  have hc : cntN m (i + 1) = cntN m i + (3 + m i) := rfl
  have hle := cntN_mono m (i := i + 1) (n := n) (by omega)
  have w1 : Aside0 (wrap64 (a + (cntN m i : Int) + 1) = a + (cntN m i : Int) + 1) := ⟨wid (by omega) (by omega)⟩
  have w2 : Aside0 (wrap64 (a + (cntN m i : Int) + 1 + 1) = a + (cntN m i : Int) + 2) := ⟨by rw [wid (by omega) (by omega)]; omega⟩
  have w3 : Aside0 (wrap64 (a + (cntN m i : Int) + 2 + 1) = a + (cntN m i : Int) + 3) := ⟨by rw [wid (by omega) (by omega)]; omega⟩
  rw [if_pos (by omega), if_pos (by omega), rd_mkNs c, mkN]
  simp only [w1.out, w2.out, w3.out]
  rw [if_pos trivial, if_pos trivial, if_pos trivial, heldIntS_f _ _ k (by omega) (by omega) (by omega), Option.bind_some, if_neg (by omega), wid (x := (i : Int) + 1) (by omega) (by omega)]
  have h := heldInsS_l0 a m n hm ha hb hn k (i + 1) (by omega) (by omega)
  rw [show a + (cntN m i : Int) + 3 + (m i : Int) = a + ((cntN m (i + 1) : Nat) : Int) by rw [hc]; omega, show (i : Int) + 1 = ((i + 1 : Nat) : Int) by omega]
  exact h
theorem heldInsS_f (a : Int) (m : Nat → Nat) (n k : Nat) (hm : ∀ q, m q ≤ 1048576) (ha : 0 ≤ a) (hb : a + cntN m n ≤ 4611686018427387904) (hn : n ≤ 1048576) (hk : 2097153 < k) : laws_heldInsS.f k (mkNs a m n) a = some (a + cntN m n) := by
 have h := heldInsS_l0 a m n hm ha hb hn k 0 (by omega) (by omega)
 rw [laws_heldInsS.f]
 simpa [cntN] using h
theorem ins_marked {W : World} {X : Nat → Prop} {v : Value} {n : Nat} {sv : Nat → Value} {m : Nat → Nat} {k : Int} (h : WIns W X v n sv m) (hm : ∀ g c, v = .slice (some ⟨g, 0, none⟩) n c → ∀ q, q < n → InMarked W g q (sv q) (m q) (k + cntN m q)) : ∃ A c, v = .slice A n c ∧ n ≤ c ∧ k88.C W A n (mkNs k m n) := by
 refine C_of_W k88 h rfl (mkNs_len _ _ _) fun i x g c cs hi hx e hcs hcell hp => ?_
 obtain ⟨a, b, d, rfl, hw⟩ := hp
 have hM := hm g c e i hi
 obtain rfl := get_range hx
 obtain ⟨A1, c1, es, hc1, hC⟩ := ints_marked (xs := mkI (k + cntN m i + 3) (m i)) hw (mkI_len _ _) fun gs c' e' q hq => by rw [getD_mkI hq]; exact hM.f3 gs c' e' q hq
 have h0 := hcell 0 _ rfl
 have h1 := hcell 1 _ rfl
 have h2 := hcell 2 _ rfl
 rw [Nat.add_zero, hM.f0] at h0
 rw [hM.f1] at h1
 rw [hM.f2] at h2
 have e0 : a = k + cntN m i := by injection h0 with h0; injection h0 with _ h0; exact h0.symm
 have e1 : b = k + cntN m i + 1 := by injection h1 with h1; injection h1 with _ h1; exact h1.symm
 have e2 : d = k + cntN m i + 2 := by injection h2 with h2; injection h2 with _ h2; exact h2.symm
 rw [e0, e1, e2, es]
 have hl := mkI_len (k + cntN m i + 3) (m i)
 have := k88_mk W (mkN (k + cntN m i) (m i)) (A3 := A1) (c3 := c1) (by rw [mkN]; simp only; rw [hl]; exact hc1) (by rw [mkN]; simp only; rw [hl]; exact hC)
 rw [mkN] at this
 simp only [hl] at this
 exact this
theorem InSt.w {W : World} {B : Nat} {v : Value} {sv : Nat → Value} {l : List In} (h : InSt W B v sv l) (hn : l.length ≤ 1048576) (hs : ∀ x ∈ l, x.f3.length ≤ 1048576) : WIns W (fun b => B ≤ b) v l.length sv (fun q => (inn l q).f3.length) := by
 refine WRow.of_own h.row (by omega) fun i hi => ?_
 refine ⟨(inn l i).f0, (inn l i).f1, (inn l i).f2, lineC_at (cell := inCell sv l) (sz := 4) (fun j => rfl) l.length i hi, ?_⟩
 have := h.sets i hi
 refine WRow.of_own this ?_ fun q hq => ?_
 ·have h1 : (inn l i).f3.length ≤ 1048576 := hs (inn l i) (by rw [inn_get hi]; exact List.getElem_mem hi)
  exact Nat.le_trans h1 (by omega)
 exact ⟨(inn l i).f3[q], nums1 hq⟩
end Go.Proofs.Ytdiilocgjnlmiaa.Tre
end
section
namespace Go.Proofs.Ytdiilocgjnlmiaa.Tre
open Go.RowKit Go.Proofs.YtdiilocgjnlmiaaW.PrintWords Go.Proofs.YtdiilocgjnlmiaaW.PrintLast Go.Proofs.YtdiilocgjnlmiaaW.PrintMore
open Go.Proofs.Ytdiilocgjnlmiaa.PAll
set_option linter.unusedVariables false
set_option linter.unusedSimpArgs false
end Go.Proofs.Ytdiilocgjnlmiaa.Tre
end
section
namespace Go.Proofs.Ytdiilocgjnlmiaa.PAll
open Go.RowKit Go.Proofs.YtdiilocgjnlmiaaW.PrintWords Go.Proofs.YtdiilocgjnlmiaaW.PrintLast Go.Proofs.YtdiilocgjnlmiaaW.PrintMore
attribute [local go_sem] max2_int min2_int max_two min_two max_three min_three max_four min_four   -- for this text's walks alone
set_option linter.unusedVariables false
set_option linter.unusedSimpArgs false
mutual
noncomputable def spec_Erase.l0 : Nat → Int → List (S68) → List (S72) → List (S68) → Option ((List (S68)) × (List (S72)))
 | 0, _, _, _, _ => none
 | k + 1, x4, x1061000, x1061001, x1064000 => if x4 < (x1061000.length : Int) then (if 0 ≤ x4 then ((spec_l2copy.f k ((rd_T68 x1061000 x4).f1)).bind fun t1065 => (spec_Erase.l1 k x4 t1065 0 x1061000 x1061001 x1064000)) else (none)) else (some (x1064000, ([] : List (S72))))
noncomputable def spec_Erase.l1 : Nat → Int → List (S79) → Int → List (S68) → List (S72) → List (S68) → Option ((List (S68)) × (List (S72)))
 | 0, _, _, _, _, _, _ => none
 | k + 1, x4, x5, x6, x1061000, x1061001, x1064000 => if x6 < (x5.length : Int) then (if 0 ≤ x6 then (if ((rd_T79 x5 x6).f0) = 3 then (spec_Erase.l1 k x4 (x5.set (x6 : Int).toNat (⟨1, ([] : List Int), 0⟩ : S79)) (wrap64 (x6 + 1)) x1061000 x1061001 x1064000) else (spec_Erase.l1 k x4 x5 (wrap64 (x6 + 1)) x1061000 x1061001 x1064000)) else (none)) else ((some (([] : List Int) : List Int)).bind fun y1070 => (if 0 ≤ x4 then (if x4 < (x1061000.length : Int) then (if y1070.length + ((rd_T68 x1061000 x4).f0).length < 140737488355328 then (if x1064000.length < 2932031007402 then (spec_Erase.l0 k (wrap64 (x4 + 1)) x1061000 x1061001 (x1064000 ++ [(⟨(y1070 ++ ((rd_T68 x1061000 x4).f0)), x5⟩ : S68)])) else (none)) else (none)) else (none)) else (none)))
end
noncomputable def spec_Erase.f (k : Nat) (l0_0 : List (S68)) (l0_1 : List (S72)) : Option ((List (S68)) × (List (S72))) := (spec_ValidGrammar.f l0_0 l0_1).bind fun t1062 => (if t1062 = true then (spec_Erase.l0 k 0 l0_0 l0_1 ([] : List (S68))) else (some (([] : List (S68)), ([] : List (S72)))))
theorem spec_Erase.mono_l : ∀ k, (∀ y0 y1 y2 y3, LeO (spec_Erase.l0 k y0 y1 y2 y3) (spec_Erase.l0 (k + 1) y0 y1 y2 y3)) ∧ (∀ y0 y1 y2 y3 y4 y5, LeO (spec_Erase.l1 k y0 y1 y2 y3 y4 y5) (spec_Erase.l1 (k + 1) y0 y1 y2 y3 y4 y5))
 | 0 => ⟨fun _ _ _ _ r h => by simp [spec_Erase.l0] at h, fun _ _ _ _ _ _ r h => by simp [spec_Erase.l1] at h⟩
 | k + 1 => by
  obtain ⟨ih0, ih1⟩ := spec_Erase.mono_l k
  refine ⟨?_, ?_⟩
  ·intro y0 y1 y2 y3
   unfold spec_Erase.l0
   repeat' first
   | (with_reducible exact ih0 _ _ _ _)
   | (with_reducible exact ih1 _ _ _ _ _ _)
   | (with_reducible exact spec_l2copy.mono _ _)
   | (with_reducible exact LeO.refl _)
   | (with_reducible exact LeO.none _)
   | (with_reducible refine LeO.ite ?_ ?_)
   | (with_reducible refine LeO.bind ?_ (fun _ => ?_))
   | exact ih0 _ _ _ _
   | exact ih1 _ _ _ _ _ _
   | exact spec_l2copy.mono _ _
   | exact LeO.none _
   | refine LeO.ite ?_ ?_
   | refine LeO.bind ?_ (fun _ => ?_)
  intro y0 y1 y2 y3 y4 y5
  unfold spec_Erase.l1
  repeat' first
  | (with_reducible exact ih0 _ _ _ _)
  | (with_reducible exact ih1 _ _ _ _ _ _)
  | (with_reducible exact spec_l2copy.mono _ _)
  | (with_reducible exact LeO.refl _)
  | (with_reducible exact LeO.none _)
  | (with_reducible refine LeO.ite ?_ ?_)
  | (with_reducible refine LeO.bind ?_ (fun _ => ?_))
  | exact ih0 _ _ _ _
  | exact ih1 _ _ _ _ _ _
  | exact spec_l2copy.mono _ _
  | exact LeO.none _
  | refine LeO.ite ?_ ?_
  | refine LeO.bind ?_ (fun _ => ?_)
theorem spec_Erase.mono : ∀ a0 a1 k, LeO (spec_Erase.f k a0 a1) (spec_Erase.f (k + 1) a0 a1) := by
 intro a0 a1 k
 obtain ⟨ih0, ih1⟩ := spec_Erase.mono_l k
 unfold spec_Erase.f
 repeat' first
  | (with_reducible exact ih0 _ _ _ _)
  | (with_reducible exact ih1 _ _ _ _ _ _)
  | (with_reducible exact spec_l2copy.mono _ _)
  | (with_reducible exact LeO.refl _)
  | (with_reducible exact LeO.none _)
  | (with_reducible refine LeO.ite ?_ ?_)
  | (with_reducible refine LeO.bind ?_ (fun _ => ?_))
  | exact ih0 _ _ _ _
  | exact ih1 _ _ _ _ _ _
  | exact spec_l2copy.mono _ _
  | exact LeO.none _
  | refine LeO.ite ?_ ?_
  | refine LeO.bind ?_ (fun _ => ?_)
end Go.Proofs.Ytdiilocgjnlmiaa.PAll
end
section
namespace Go.Proofs.Ytdiilocgjnlmiaa.Tre
open Go.RowKit Go.Proofs.YtdiilocgjnlmiaaW.PrintWords Go.Proofs.YtdiilocgjnlmiaaW.PrintLast Go.Proofs.YtdiilocgjnlmiaaW.PrintMore
open Go.Proofs.Ytdiilocgjnlmiaa.PAll
set_option linter.unusedVariables false
set_option linter.unusedSimpArgs false
end Go.Proofs.Ytdiilocgjnlmiaa.Tre
end
section
namespace Go.Proofs.Ytdiilocgjnlmiaa.Tre
open Go.RowKit Go.Proofs.YtdiilocgjnlmiaaW.PrintWords Go.Proofs.YtdiilocgjnlmiaaW.PrintLast Go.Proofs.YtdiilocgjnlmiaaW.PrintMore
open Go.Proofs.Ytdiilocgjnlmiaa.PAll
set_option linter.unusedVariables false
set_option linter.unusedSimpArgs false
theorem grX_in {W : World} {X : Nat → Prop} {G : Gr} (h : WGr W X G) {b : Nat} (hb : grX G b) : X b ∧ b < W.heap.size := by
 rcases hb with ⟨j, hj, hb⟩ | hb | ⟨j, hj, hb⟩
 ·obtain ⟨h1, h2, _⟩ := (WRules.it h.1 j hj).types hb
  exact ⟨h1, h2⟩
 ·obtain ⟨hX, cur, hc⟩ := WRow.block h.2 (ownV_slice.2 hb)
  exact ⟨hX, (Array.getElem?_eq_some_iff.1 hc).1⟩
 obtain ⟨h1, h2, _⟩ := (WLabels.it h.2 j hj).types hb
 exact ⟨h1, h2⟩
end Go.Proofs.Ytdiilocgjnlmiaa.Tre
end
