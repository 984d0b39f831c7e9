import Derived.Test.YtdiilocgjnlmiaaCchLeftRec
import Derived.Test.YtdiilocgjnlmiaaCchCheckImpl
import Derived.Test.YtdiilocgjnlmiaaCchPAllx24
import Derived.Test.YtdiilocgjnlmiaaCchRegKit
namespace Go.Proofs.Ytdiilocgjnlmiaa.Tre
open Go.RowKit Go.Proofs.YtdiilocgjnlmiaaW.PrintWords Go.Proofs.YtdiilocgjnlmiaaW.PrintLast Go.Proofs.YtdiilocgjnlmiaaW.PrintMore
open Go.Proofs.Ytdiilocgjnlmiaa.PAll
set_option linter.unusedVariables false
set_option linter.unusedSimpArgs false
theorem row_cell {W : World} {b : Nat} {l : List Bool} (h : W.heap[b]? = some (.cells (boolsV l).toArray 4 (0, 0))) {j : Nat} (hj : j < l.length) : W.cell? ⟨b, j, none⟩ = some (.bool (mkd l j)) := by
 rw [blk_cell h j]
 simp [boolsV, mkd, List.getD_eq_getElem?_getD, hj]
theorem StM.store {U W : World} {ob n i : Nat} {bs : Nat → Nat} {M : List (List Bool)} (h : StM U W ob n i bs M) {q : Nat} (hq : q < i) {j : Nat} (hj : j < n) : StM U (W.setCell ⟨bs q, j, none⟩ (.bool true)) ob n i bs (M.set q ((M.getD q []).set j true)) := by
 have hr := h.row q hq
 have hw := h.wid q hq
 refine h.put hq (by rw [List.length_set]; exact hw) ?_ (fun k _ hk => Below.heap_setCell _ _ _ _ hk) (h.bel.setCell (h.lo q hq) _)
 have := blk_put hr j (.bool true) rfl
 rw [this]
 congr 2
 simp [boolsV, List.map_set]
theorem infoRow : (Try.prog.info? 55).map (fun i => (i.zero, i.size, i.bytes)) = some (some (.slice none 0 0), 1, 24) := by kernel_rfl
def scF.T : Bool × List (List Nat × List Nat) := (true, [([], []), ([], []), ([], []), ([1, 2], [1, 2]), ([], []), ([], []), ([], []), ([5, 6], [5, 6]), ([7], [7]), ([0, 3, 4, 8, 3], [0, 3, 4, 8])])
def scF.B : List Nat := [0, 0, 0, 6, 0, 0, 0, 96, 224, 511]
theorem scF.tab : rtab .any (opsOf Try.f36 10) = scF.T := by kernel_rfl
theorem scF.bits : waitsOk scF.T.2 scF.B = true := by kernel_rfl
def scL.T : Bool × List (List Nat × List Nat) := (true, [([], []), ([], []), ([], []), ([1, 2], [1, 2]), ([], []), ([0, 3, 4, 3], [0, 3, 4])])
def scL.B : List Nat := [0, 0, 0, 6, 0, 31]
theorem scL.tab : rtab .any (opsOf Try.f36 30) = scL.T := by kernel_rfl
theorem scL.bits : waitsOk scL.T.2 scL.B = true := by kernel_rfl
set_option maxRecDepth 100000 in
set_option maxHeartbeats 8000000 in
theorem scheck_in (w : World) (A0 A1 : Option Addr) (c0 c1 : Nat) (Rs : List Ru) (Ls : List La) (hr0 : Kd.C k68 w A0 Rs.length Rs) (hc0 : Rs.length ≤ c0) (hr1 : Kd.C k72 w A1 Ls.length Ls) (hc1 : Ls.length ≤ c1) (hok : okG Rs Ls = true) :
 Calls Try.prog 36 #[.agg #[.slice A0 Rs.length c0, .slice A1 Ls.length c1]] w (ChkPost w (chkF Rs Ls)) := by
 have hb1 : Below w.heap.size w (w.alloc (Obj.cells #[.slice A0 Rs.length c0, .slice A1 Ls.length c1] 31)) := below_alloc (Below.refl _ _) _
 have HR0 := Aside0.mk (Kd.C_below hr0 hb1)
 have HL0 := Aside0.mk (Kd.C_below hr1 hb1)
 have HB1 := Aside0.mk hb1
 have HBG := Aside0.mk (blk_new w (Obj.cells #[.slice A0 Rs.length c0, .slice A1 Ls.length c1] 31))
 have HVF : Aside0 (spec_ValidGrammar.f Rs Ls = some (validB Rs Ls)) := ⟨by unfold spec_ValidGrammar.f; rw [if_pos hok]⟩
 clear hr0 hr1 hb1 hok
 cases hvb : validB Rs Ls with
 | false =>
  have HVB := Lib.hid hvb
  have HG : Aside0 (chkF Rs Ls = (4, 0)) := ⟨by unfold chkF; rw [hvb]; rfl⟩
  clear hvb
  go_enter Try.func36, Try.ntmps36
  go_wp2_with (go_at_call 11; refine (spec_ValidGrammar.calls A0 c0 Rs A1 c1 Ls _ _ HR0.out hc0 HL0.out hc1 HVF.out).mono ?_; go_must (rintro e W1 ⟨rfl, hb⟩; rw [HVB.out]; have HB := Aside0.mk hb; clear hb))
  go_ret2
  rw [HG.out]
  exact ⟨rfl, below_then HB1.out HB1.out.size HB.out⟩
 | true =>
  have hv := validB_iff.1 hvb
  have HN := Aside0.mk hv.nice
  have HNF := Aside0.mk (nullable_f hv.nice)
  have HVB := Lib.hid hvb
  have hr2 := hv.r2
  have hl2 := hv.l2
  obtain ⟨n, hn⟩ : ∃ n, n = Rs.length + Ls.length := ⟨_, rfl⟩
  have HND : Aside0 (spec_l3nodes.f Rs Ls = some (n : Int)) := ⟨by rw [hn]; exact nodes_f hv.nice⟩
  obtain ⟨P, hP⟩ : ∃ P, P = lefts Rs Ls := ⟨_, rfl⟩
  obtain ⟨Q, hQ⟩ : ∃ Q, Q = loopy Rs Ls := ⟨_, rfl⟩
  have HG : Aside0 (chkF Rs Ls = chkR P Q n) := ⟨by unfold chkF; rw [hvb, hP, hQ, hn]; rfl⟩
  have hn2 : n ≤ 200 := by omega
  have HML : Aside0 ((nullF Rs.length (trees Rs Ls)).length = n) := ⟨by rw [nullF_len, len_trees, hn]⟩
  have HPI : Aside0 (∀ i, i < n → cel (fwN (mat0 Rs.length (trees Rs Ls) (nullF Rs.length (trees Rs Ls)) n) n) i i = P i) := ⟨fun i hi => by
   rw [hP, lefts, ← hn]
   exact (same_left hn (fun j hj => hv.nice.ok j (by rw [len_trees, ← hn]; exact hj)) i hi).symm⟩
  have HQI : Aside0 (∀ i, loopsO Rs.length (nullF Rs.length (trees Rs Ls)) (tr (trees Rs Ls) i) = Q i) := ⟨fun i => by rw [hQ, loopy]⟩
  have HNN := Aside0.mk hn
  obtain ⟨ii, hi, hz, hs1, hby⟩ := info_parts infoRow
  have hmk := make_one (P := Try.prog) 120 55 Try.underlying120 hi hz hs1 rfl n (by rw [hby]; decide) (by omega)
  obtain ⟨ij, hi', hz', hs1', hby'⟩ := info_parts infoBo
  have hmk2 := make_one (P := Try.prog) 55 4 Try.underlying55 hi' hz' hs1' rfl n (by rw [hby']; decide) (by omega)
  clear hvb hv hP hQ hn hi hz hs1 hby hi' hz' hs1' hby'
  generalize hm : nullF Rs.length (trees Rs Ls) = m at *
  have HM := Aside0.mk hm
  clear hm
  go_enter Try.func36, Try.ntmps36
  go_wp2_with (first
   | (go_at_call 11; refine (spec_ValidGrammar.calls A0 c0 Rs A1 c1 Ls _ _ HR0.out hc0 HL0.out hc1 HVF.out).mono ?_; go_must (rintro e W1 ⟨rfl, hb⟩; rw [HVB.out]; have HB := Aside0.mk (below_then HB1.out HB1.out.size hb); have HR1 := Aside0.mk (Kd.C_below HR0.out hb); have HL1 := Aside0.mk (Kd.C_below HL0.out hb); have HG1 := Aside0.mk (blk_below HBG.out hb); have g0 := blk_cell HG1.out 0; have g1 := blk_cell HG1.out 1; clear hb))
   | (go_at_call 82; refine (spec_l3nodes.calls A0 c0 Rs A1 c1 Ls (n : Int) W1 HR1.out hc0 HL1.out hc1 HND.out).mono ?_; go_must (rintro e W2 ⟨rfl, hb⟩; have HB2 := Aside0.mk (below_then HB.out HB.out.size hb); have HR2 := Aside0.mk (Kd.C_below HR1.out hb); have HL2 := Aside0.mk (Kd.C_below HL1.out hb); have HG2 := Aside0.mk (blk_below HG1.out hb); have h0 := blk_cell HG2.out 0; have h1 := blk_cell HG2.out 1; clear hb))
   | (go_at_call 79; refine (spec_l3nullable.calls 60000 A0 c0 Rs A1 c1 Ls m W2 HR2.out hc0 HL2.out hc1 HNF.out).mono ?_; go_must (rintro e W3 ⟨v, rfl, hv, hb⟩; obtain ⟨Am, cm, rfl, hcm, hCm⟩ := Kd.R_reads hv; have HMK : Aside0 (MkV W3 Am cm m) := ⟨⟨hCm, hcm⟩⟩; have HB3 := Aside0.mk (below_then HB2.out HB2.out.size hb); have HR3 := Aside0.mk (Kd.C_below HR2.out hb); have HL3 := Aside0.mk (Kd.C_below HL2.out hb); have HG3 := Aside0.mk (blk_below HG2.out hb); clear hb hv hcm hCm)))
  clear hmk
  go_loopg [7] (n + 1) (fun kq v7 W' => ∃ (i : Nat) (bs : Nat → Nat), v7 = .int .i64 (i : Int) ∧ Aside0 (i ≤ n ∧ n < i + kq) ∧ Aside0 (StM W3 W' W3.heap.size n i bs (rowsN n (edges Rs.length (trees Rs Ls) m) i)))
  case atStart => exact ⟨0, _, rfl, ⟨by omega, by omega⟩, ⟨StM.start⟩⟩
  case round =>
   obtain ⟨i, bs, rfl, HI, HS⟩ := hrel
   obtain ⟨i1, i2⟩ := HI.out
   clear HI
   cases gk with
   | zero => omega
   | succ k1 =>
    by_cases hi : i < n
    ·have d1 : decide ((i : Int) < (n : Int)) = true := decide_eq_true (by omega)
     have hS := HS.out
     obtain ⟨cs, q1, q2, q3, q4⟩ := hS.out
     have y0 := (blk_cell q1 i).trans (q4 i (Nat.le_refl _) hi)
     have y1 := blk_frozen q1 i
     have y2 := blk_lt q1
     have hg := blk_below HG3.out hS.bel
     have g0 := blk_cell hg 0
     have g1 := blk_cell hg 1
     have hP := hS.push' hi
     obtain ⟨cs5, r1, r2, r3, r4⟩ := hP.out
     have z0 := (blk_cell r1 i).trans (r3 i (by omega))
     have hrw := hP.row i (by omega)
     simp only [if_true] at z0 hrw
     have hlo5 : W3.heap.size ≤ wr.heap.size := hS.bel.size
     have hg5 := blk_below HG3.out hP.bel
     have u0 := blk_cell hg5 0
     have u1 := blk_cell hg5 1
     have e2 : (0 ≤ (i : Int)) = True := eq_true (by omega)
     have e3 : ((i : Int) < (n : Int)) = True := eq_true (by omega)
     have HROW : Aside0 (SRow W3 ((wr.setCell ⟨W3.heap.size, i, none⟩ (.slice (some ⟨wr.heap.size, 0, none⟩) n n)).alloc (Obj.cells (Array.replicate n (.bool false)) 4)) wr.heap.size (List.replicate n false)) := ⟨⟨by
      rw [hrw]
      simp [List.getD_eq_getElem?_getD, rowsN_len], hP.bel⟩⟩
     have HP5 := Aside0.mk hP
     have HG5 := Aside0.mk hg5
     have HSG : Aside0 (SG W3 A0 A1 c0 c1 Rs Ls Am cm m wr.heap.size) := ⟨⟨HR3.out, hc0, HL3.out, hc1, HMK.out, by rw [HML.out, HNN.out], hr2, hl2, hlo5⟩⟩
     have HIN : Aside0 (i < Rs.length + Ls.length) := ⟨by rw [← HNN.out]; exact hi⟩
     clear hS q1 q2 q3 q4 hg hP r1 r2 r3 r4 hrw hg5
     go_upto_region 10 with fail
     generalize (wr.setCell ⟨W3.heap.size, i, none⟩ (.slice (some ⟨wr.heap.size, 0, none⟩) n n)).alloc (Obj.cells (Array.replicate n (.bool false)) 4) = W5 at *
     refine start_ (n := 10) (S := fun W' => W'.cell? ⟨w.heap.size, 0, none⟩ = some (.slice A0 Rs.length c0) ∧ W'.cell? ⟨w.heap.size, 1, none⟩ = some (.slice A1 Ls.length c1) ∧ W'.cell? ⟨W3.heap.size, i, none⟩ = some (.slice (some ⟨wr.heap.size, 0, none⟩) n n)) (ds := []) #[false, false, false, false, false, false, false, false, false, false] (by kernel_rfl) rfl rfl (⟨u0, u1, z0⟩) (fun hHeld => ?_); refine with_tabW scF.tab scF.bits (fun HT_ HW_ => ?_)
     refine ta_ 0 32 HT_ HW_ hHeld ?_
     refine ta_ 1 33 HT_ HW_ hHeld ?_
     refine pu_ 2 34 HT_ ?_
     refine pu_ 4 36 HT_ ?_
     refine pu_ 5 37 HT_ ?_
     refine pu_ 6 38 HT_ ?_
     refine pu_ 7 39 HT_ ?_
     refine ta_ 8 40 HT_ HW_ hHeld ?_
     refine one_ (i := 3) (N := (some 35)) #[true, true, true, true, true, true, true, true, true, false] rfl rfl (one_of HT_.out (by kernel_rfl)) (by decide) (fun K hK => ?_)
     refine goes_ Try.func84 (by kernel_rfl) rfl #[.agg #[.slice A0 Rs.length c0, .slice A1 Ls.length c1], .int .i64 (i : Int)] (by rfl) rfl rfl (by (try simp only [List.map_toArray, List.map_cons, List.map_nil]); first | rfl) ?_
     refine (sbody_in HR3.out HL3.out hr2 hl2 i HIN.out _ (below_then HROW.out.bel HROW.out.bel.size (by repeat (first | exact Below.refl _ _ | apply Below.drew)))).mono ?_
     rintro e W6 ⟨Ab, cb, rfl, hC, hcb, hb0⟩
     refine ⟨_, rfl, ?_⟩
     have hb1 : Below W5.heap.size W5 W6 := below_then (by repeat (first | exact Below.refl _ _ | apply Below.drew)) (by simp) hb0
     have a0 := pw_cell_below hb1 u0
     have a1 := pw_cell_below hb1 u1
     have a2 := pw_cell_below hb1 z0
     have HC6 := Aside0.mk (And.intro hC hcb)
     have HB6 := Aside0.mk hb1
     have HROW6 := Aside0.mk (HROW.out.below hb1)
     have HP6 := Aside0.mk (HP5.out.below hb1)
     have HG6 := Aside0.mk (blk_below HG5.out hb1)
     clear hC hcb hb0 hb1
     refine hK.out _ _ (⟨a0, a1, a2⟩) (fun hHeld => ?_)
     clear hK K
     refine norm_ (a' := ?_) ?_ ?_
     rotate_left
     ·show Act.put _ (some 35) _ = _; simp only [Act.put, List.setIfInBounds_toArray, List.set_cons_zero, List.set_cons_succ, i64_w, i32_w]; rfl
     refine one_ (i := 9) (N := (some 41)) #[true, true, true, true, true, true, true, true, true, true] rfl rfl (one_of HT_.out (by kernel_rfl)) (by decide) (fun K hK => ?_)
     refine goes_ Try.func83 (by kernel_rfl) rfl #[.agg #[.slice A0 Rs.length c0, .slice A1 Ls.length c1], .slice Ab (bodyN Rs Ls i).length cb, .slice Am m.length cm, .slice (some ⟨wr.heap.size, 0, none⟩) n n] (by rfl) rfl rfl (by (try simp only [List.map_toArray, List.map_cons, List.map_nil]); first | rfl) ?_
     refine (sbeginsO_in HSG.out HNN HN.out HIN.out HC6.out.1 HC6.out.2 (HROW6.out.below (by repeat (exact Below.refl _ _))) (by simp)).mono ?_
     rintro e W7 hp
     have hp := (SRow.same HROW6.out (by repeat (exact Below.refl _ _))).join hp
     obtain ⟨rfl, hr, hs, hk⟩ := hp
     refine ⟨_, rfl, ?_⟩
     have hS7 := HP6.out.put (q := i) (by omega) (o := setAll (List.replicate n false) (edges Rs.length (trees Rs Ls) m i)) (by rw [setAll_len]; simp) (by simp only [if_true]; exact hr.row) (fun k h1 h2 => hk k h1 (by simp only [if_true] at h2; exact h2)) hr.bel
     rw [rowsN_succ] at hS7
     have hg7 := blk_below HG3.out hr.bel
     obtain ⟨cs7, t1, t2, t3, t4⟩ := hS7.out
     have v0 := blk_cell hg7 0
     have v1 := blk_cell hg7 1
     have v2 := (blk_cell t1 i).trans (t3 i (by omega))
     simp only [if_true] at v2
     have HS7 := Aside0.mk hS7
     clear hr hs hk hS7 hg7 t1 t2 t3 t4
     refine hK.out _ _ (⟨v0, v1, v2⟩) (fun hHeld => ?_)
     clear hK K
     refine norm_ (a' := ?_) ?_ ?_
     rotate_left
     ·show Act.put _ (some 41) _ = _; simp only [Act.put, List.setIfInBounds_toArray, List.set_cons_zero, List.set_cons_succ, i64_w, i32_w]; rfl
     refine done_ (done_of HT_.out (by kernel_rfl)) ?_
     go_wp2_with fail
     go_roundg k1
     case measure => omega
     case rel => exact ⟨i + 1, _, by first | rfl, ⟨by omega, by omega⟩, HS7⟩
    have d1 : decide ((i : Int) < (n : Int)) = false := decide_eq_false (by omega)
    obtain rfl : n = i := by omega
    generalize hM0 : mat0 Rs.length (trees Rs Ls) m n = M0 at *
    have HS0 : Aside0 (StM W3 wr W3.heap.size n n bs M0) := ⟨by rw [← hM0]; exact HS.out⟩
    have HMT : Aside0 (Mat n M0) := ⟨by rw [← hM0]; exact mat0_mat _ _ _ _⟩
    clear HS i1 i2 hi hM0
    go_wp2_with fail
    go_loopg [8] (n + 1) (fun kq v8 W' => ∃ (k : Nat), v8 = .int .i64 (k : Int) ∧ Aside0 (k ≤ n ∧ n < k + kq) ∧ Aside0 (StM W3 W' W3.heap.size n n bs (fwN M0 k)))
    case atStart => exact ⟨0, rfl, ⟨by omega, by omega⟩, HS0⟩
    case round =>
     clear HS0 d1
     obtain ⟨k, rfl, HK, HS⟩ := hrel
     obtain ⟨i1, i2⟩ := HK.out
     clear HK
     cases gk with
     | zero => omega
     | succ k1 =>
      by_cases hk : k < n
      ·have d1 : decide ((k : Int) < (n : Int)) = true := decide_eq_true (by omega)
       have HMk : Aside0 (Mat n (fwN M0 k)) := ⟨fwN_mat HMT.out k (by omega)⟩
       have HNX : Aside0 (fwN M0 (k + 1) = fwK (fwN M0 k) k) := ⟨rfl⟩
       generalize fwN M0 k = Mk at HS HMk HNX
       go_wp2_with fail
       go_loopg [9] (n + 1) (fun kq v9 W' => ∃ (i : Nat), v9 = .int .i64 (i : Int) ∧ Aside0 (i ≤ n ∧ n < i + kq) ∧ Aside0 (StM W3 W' W3.heap.size n n bs (mi Mk k i)))
       case atStart => exact ⟨0, rfl, ⟨by omega, by omega⟩, ⟨by rw [mi_zero]; exact HS.out⟩⟩
       case round =>
        clear HS
        obtain ⟨i, rfl, HI, HS⟩ := hrel
        obtain ⟨i3, i4⟩ := HI.out
        clear HI
        cases gk with
        | zero => omega
        | succ k2 =>
         by_cases hi : i < n
         rotate_left
         ·have d2 : decide ((i : Int) < (n : Int)) = false := decide_eq_false (by omega)
          obtain rfl : n = i := by omega
          have HNP : Aside0 (StM W3 wr W3.heap.size n n bs (fwN M0 (k + 1))) := ⟨by rw [HNX.out, ← mi_end HMk.out.len]; exact HS.out⟩
          go_wp2_with fail
          go_roundg k1
          case measure => omega
          case rel => exact ⟨k + 1, by first | rfl, ⟨by omega, by omega⟩, HNP⟩
         have d2 : decide ((i : Int) < (n : Int)) = true := decide_eq_true (by omega)
         have HWI : Aside0 ((Mk.getD i []).length = (Mk.getD k []).length ∧ (Mk.getD i []).length = n) := ⟨by rw [HMk.out.row i hi, HMk.out.row k hk], HMk.out.row i hi⟩
         go_wp2_with fail
         go_loopg [10] (n + 1) (fun kq v10 W' => ∃ (j : Nat), v10 = .int .i64 (j : Int) ∧ Aside0 (j ≤ n ∧ n < j + kq ∧ (j = 0 ∨ mkd (Mk.getD i []) k = true)) ∧ Aside0 (StM W3 W' W3.heap.size n n bs ((mi Mk k i).set i (pr (Mk.getD i []) (Mk.getD k []) j))))
         case atStart => exact ⟨0, rfl, ⟨by omega, by omega, .inl rfl⟩, ⟨by rw [pr_zero, set_self HMk.out hi]; exact HS.out⟩⟩
         case round =>
          clear HS
          obtain ⟨j, rfl, HJ, HS⟩ := hrel
          obtain ⟨i5, i6, hz⟩ := HJ.out
          have HZ := Aside0.mk hz
          clear HJ hz
          have hb0 : Aside0 (Below w.heap.size w wr) := ⟨below_then HB3.out HB3.out.size HS.out.bel⟩
          cases gk with
          | zero => omega
          | succ k3 =>
           by_cases hj : j < n
           rotate_left
           ·have d3 : decide ((j : Int) < (n : Int)) = false := decide_eq_false (by omega)
            obtain rfl : n = j := by omega
            have HNP : Aside0 (StM W3 wr W3.heap.size n n bs (mi Mk k (i + 1))) := ⟨by
             have h := HS.out
             have hp := pr_end HWI.out.1
             rw [HWI.out.2] at hp
             rw [hp] at h
             rw [← mi_next HMk.out hi]
             rw [show fwRow (Mk.getD i []) (Mk.getD k []) k = orL (Mk.getD i []) (Mk.getD k []) by unfold fwRow; rw [if_pos (by rcases HZ.out with h | h; (omega); exact h)]]
             exact h⟩
            go_wp2_with fail
            go_roundg k2
            case measure => omega
            case rel => exact ⟨i + 1, by first | rfl, ⟨by omega, by omega⟩, HNP⟩
           have d3 : decide ((j : Int) < (n : Int)) = true := decide_eq_true (by omega)
           have e1 : (0 ≤ (i : Int)) = True := eq_true (by omega)
           have e2 : ((i : Int) < (n : Int)) = True := eq_true (by omega)
           have e3 : (0 ≤ (k : Int)) = True := eq_true (by omega)
           have e4 : ((k : Int) < (n : Int)) = True := eq_true (by omega)
           have e5 : (0 ≤ (j : Int)) = True := eq_true (by omega)
           have e6 : ((j : Int) < (n : Int)) = True := eq_true (by omega)
           obtain ⟨cs, q1, q2, q3, q4⟩ := HS.out.out
           have y0 := (blk_cell q1 i).trans (q3 i hi)
           have y1 := (blk_cell q1 k).trans (q3 k hk)
           have hri := HS.out.row i hi
           have hrk := HS.out.row k hk
           rw [set_i HMk.out hi] at hri
           rw [set_k HMk.out hk hi] at hrk
           have hli : (pr (Mk.getD i []) (Mk.getD k []) j).length = n := by rw [pr_len HWI.out.1, HWI.out.2]
           have y2 := row_cell hri (show k < _ by rw [hli]; exact hk)
           have y3 := row_cell hrk (show j < _ by rw [HMk.out.row k hk]; exact hj)
           have y4 := row_cell hri (show j < _ by rw [hli]; exact hj)
           have l0 := blk_lt q1
           have l1 := blk_lt hri
           have l2 := blk_lt hrk
           have f1 := blk_frozen hri j
           rw [mkd_pr HWI.out.1] at y2
           have HRI := Aside0.mk hri
           clear q1 q2 q3 q4 hri hrk hli
           cases hik : mkd (Mk.getD i []) k with
           | true =>
            have hikt : (if k < j then (mkd (Mk.getD i []) k || mkd (Mk.getD k []) k) else mkd (Mk.getD i []) k) = true := by rw [hik]; split <;> rfl
            rw [hikt] at y2
            have HIK := Lib.hid hik
            clear hik hikt
            cases hkj : mkd (Mk.getD k []) j with
            | true =>
             rw [hkj] at y3
             have HNP : Aside0 (StM W3 (wr.setCell ⟨bs i, j, none⟩ (.bool true)) W3.heap.size n n bs ((mi Mk k i).set i (pr (Mk.getD i []) (Mk.getD k []) (j + 1)))) := ⟨by
              have hp := HS.out.store hi hj
              rw [set_i HMk.out hi, pr_true HWI.out.1 (by rw [HWI.out.2]; exact hj) hkj, List.set_set] at hp
              exact hp⟩
             clear hkj
             go_wp2_with fail
             go_roundg k3
             case measure => omega
             case rel => exact ⟨j + 1, by first | rfl, ⟨by omega, by omega, .inr HIK.out⟩, HNP⟩
            | false =>
             rw [hkj] at y3
             have HNP : Aside0 (StM W3 wr W3.heap.size n n bs ((mi Mk k i).set i (pr (Mk.getD i []) (Mk.getD k []) (j + 1)))) := ⟨by rw [← pr_false HWI.out.1 hkj]; exact HS.out⟩
             clear hkj
             go_wp2_with fail
             go_roundg k3
             case measure => omega
             case rel => exact ⟨j + 1, by first | rfl, ⟨by omega, by omega, .inr HIK.out⟩, HNP⟩
           | false =>
            have hj0 : j = 0 := by
             rcases HZ.out with h | h
             ·exact h
             rw [hik] at h; cases h
            have HNP : Aside0 (StM W3 wr W3.heap.size n n bs (mi Mk k (i + 1))) := ⟨by
             have h := HS.out
             rw [hj0, pr_zero] at h
             rw [← mi_next HMk.out hi]
             rw [show fwRow (Mk.getD i []) (Mk.getD k []) k = Mk.getD i [] by unfold fwRow; rw [if_neg (by rw [hik]; simp)]]
             exact h⟩
            have hikf : (if k < j then (mkd (Mk.getD i []) k || mkd (Mk.getD k []) k) else mkd (Mk.getD i []) k) = false := by rw [if_neg (by omega)]; exact hik
            rw [hikf] at y2
            clear hik hikf hj0
            go_wp2_with fail
            go_roundg k2
            case measure => omega
            case rel => exact ⟨i + 1, by first | rfl, ⟨by omega, by omega⟩, HNP⟩
      have d1 : decide ((k : Int) < (n : Int)) = false := decide_eq_false (by omega)
      obtain rfl : n = k := by omega
      have HSN : Aside0 (StM W3 wr W3.heap.size n n bs (fwN M0 n)) := HS
      have HMN : Aside0 (Mat n (fwN M0 n)) := ⟨fwN_mat HMT.out n (Nat.le_refl _)⟩
      clear HS i1 i2 hk
      generalize fwN M0 n = MN at *
      go_wp2_with fail
      go_loopg [11] (n + 1) (fun kq v11 W' => ∃ (i : Nat), v11 = .int .i64 (i : Int) ∧ Aside0 (i ≤ n ∧ n < i + kq) ∧ Aside0 (fstI P n 0 = fstI P (n - i) i) ∧ Aside0 (StM W3 W' W3.heap.size n n bs MN))
      case atStart => exact ⟨0, rfl, ⟨by omega, by omega⟩, ⟨rfl⟩, HSN⟩
      case round =>
       clear HSN d1
       obtain ⟨i, rfl, HI, HF, HS⟩ := hrel
       obtain ⟨i3, i4⟩ := HI.out
       clear HI
       cases gk with
       | zero => omega
       | succ k2 =>
        by_cases hi : i < n
        ·have d1 : decide ((i : Int) < (n : Int)) = true := decide_eq_true (by omega)
         have e1 : (0 ≤ (i : Int)) = True := eq_true (by omega)
         have e2 : ((i : Int) < (n : Int)) = True := eq_true (by omega)
         obtain ⟨cs, q1, q2, q3, q4⟩ := HS.out.out
         have y0 := (blk_cell q1 i).trans (q3 i hi)
         have hri := HS.out.row i hi
         have y2 := row_cell hri (show i < _ by rw [HMN.out.row i hi]; exact hi)
         have l0 := blk_lt q1
         have l1 := blk_lt hri
         rw [show mkd (MN.getD i []) i = P i from HPI.out i hi] at y2
         clear q1 q2 q3 q4 hri
         cases hpi : P i with
         | true =>
          have HX := Aside0.mk (chk_left (Q := Q) (fst_some HF.out hi hpi))
          rw [hpi] at y2
          clear hpi
          go_wp2_with fail
          go_ret2
          rw [HG.out, HX.out]
          exact ⟨rfl, below_then HB3.out HB3.out.size HS.out.bel⟩
         | false =>
          have HX := Aside0.mk (fst_next HF.out hi hpi)
          rw [hpi] at y2
          clear hpi
          go_wp2_with fail
          go_roundg k2
          case measure => omega
          case rel => exact ⟨i + 1, by first | rfl, ⟨by omega, by omega⟩, HX, HS⟩
        have d1 : decide ((i : Int) < (n : Int)) = false := decide_eq_false (by omega)
        obtain rfl : n = i := by omega
        have HNO := Aside0.mk (fst_none HF.out)
        have HBW : Aside0 (Below W3.heap.size W3 wr) := ⟨HS.out.bel⟩
        clear HF HS i3 i4 hi HPI
        go_wp2_with fail
        go_loopg [12] (n + 1) (fun kq v12 W' => ∃ (j : Nat), v12 = .int .i64 (j : Int) ∧ Aside0 (j ≤ n ∧ n < j + kq) ∧ Aside0 (fstI Q n 0 = fstI Q (n - j) j) ∧ Aside0 (Below W3.heap.size W3 W'))
        case atStart => exact ⟨0, rfl, ⟨by omega, by omega⟩, ⟨rfl⟩, HBW⟩
        case round =>
         clear HBW d1
         obtain ⟨j, rfl, HJ, HF, HBW⟩ := hrel
         obtain ⟨j1, j2⟩ := HJ.out
         clear HJ
         cases gk with
         | zero => omega
         | succ k3 =>
          by_cases hj : j < n
          rotate_left
          ·have d1 : decide ((j : Int) < (n : Int)) = false := decide_eq_false (by omega)
           obtain rfl : n = j := by omega
           have HX := Aside0.mk (chk_ok HNO.out (fst_none HF.out))
           clear hj
           go_wp2_with fail
           go_ret2
           rw [HG.out, HX.out]
           exact ⟨rfl, below_then HB3.out HB3.out.size HBW.out⟩
          have d1 : decide ((j : Int) < (n : Int)) = true := decide_eq_true (by omega)
          have hg5 := blk_below HG3.out HBW.out
          have u0 := blk_cell hg5 0
          have u1 := blk_cell hg5 1
          have HIN : Aside0 (j < Rs.length + Ls.length) := ⟨by rw [← HNN.out]; exact hj⟩
          have HLF : Aside0 (spec_l3loops.f 20000 Rs Ls (bodyN Rs Ls j) m = some (loopsO Rs.length m (tr (trees Rs Ls) j))) := ⟨loops_f HN.out (by rw [HML.out, HNN.out]) HIN.out⟩
          clear hg5
          cases hqj : Q j with
          | true =>
           have HX := Aside0.mk (chk_loop HNO.out (fst_some HF.out hj hqj))
           have HQE : Aside0 (loopsO Rs.length m (tr (trees Rs Ls) j) = true) := ⟨by rw [HQI.out, hqj]⟩
           clear hqj
           go_upto_region 30 with fail
           refine start_ (n := 6) (S := fun W' => W'.cell? ⟨w.heap.size, 0, none⟩ = some (.slice A0 Rs.length c0) ∧ W'.cell? ⟨w.heap.size, 1, none⟩ = some (.slice A1 Ls.length c1)) (ds := []) #[false, false, false, false, false, false] (by kernel_rfl) rfl rfl (⟨u0, u1⟩) (fun hHeld => ?_); refine with_tabW scL.tab scL.bits (fun HT_ HW_ => ?_)
           refine ta_ 0 97 HT_ HW_ hHeld ?_
           refine ta_ 1 98 HT_ HW_ hHeld ?_
           refine pu_ 2 99 HT_ ?_
           refine pu_ 4 101 HT_ ?_
           refine one_ (i := 3) (N := (some 100)) #[true, true, true, true, true, false] rfl rfl (one_of HT_.out (by kernel_rfl)) (by decide) (fun K hK => ?_)
           refine goes_ Try.func84 (by kernel_rfl) rfl #[.agg #[.slice A0 Rs.length c0, .slice A1 Ls.length c1], .int .i64 (j : Int)] (by rfl) rfl rfl (by (try simp only [List.map_toArray, List.map_cons, List.map_nil]); first | rfl) ?_
           refine (sbody_in HR3.out HL3.out hr2 hl2 j HIN.out _ (below_then HBW.out HBW.out.size (by repeat (first | exact Below.refl _ _ | apply Below.drew)))).mono ?_
           rintro e W6 ⟨Ab, cb, rfl, hC, hcb, hb0⟩
           refine ⟨_, rfl, ?_⟩
           have hb1 : Below wr.heap.size wr W6 := below_then (by repeat (first | exact Below.refl _ _ | apply Below.drew)) (by simp) hb0
           have a0 := pw_cell_below hb1 u0
           have a1 := pw_cell_below hb1 u1
           have HC6 := Aside0.mk (And.intro hC hcb)
           have HBE6 := Aside0.mk (below_then HBW.out HBW.out.size hb1)
           clear hC hcb hb0 hb1
           refine hK.out _ _ (⟨a0, a1⟩) (fun hHeld => ?_)
           clear hK K
           refine norm_ (a' := ?_) ?_ ?_
           rotate_left
           ·show Act.put _ (some 100) _ = _; simp only [Act.put, List.setIfInBounds_toArray, List.set_cons_zero, List.set_cons_succ, i64_w, i32_w]; rfl
           refine one_ (i := 5) (N := (some 102)) #[true, true, true, true, true, true] rfl rfl (one_of HT_.out (by kernel_rfl)) (by decide) (fun K hK => ?_)
           refine goes_ Try.func85 (by kernel_rfl) rfl #[.agg #[.slice A0 Rs.length c0, .slice A1 Ls.length c1], .slice Ab (bodyN Rs Ls j).length cb, .slice Am m.length cm] (by rfl) rfl rfl (by (try simp only [List.map_toArray, List.map_cons, List.map_nil]); first | rfl) ?_
           have hq : Below W3.heap.size W3 _ := below_then HBE6.out HBE6.out.size (by repeat (exact Below.refl _ _))
           refine (spec_l3loops.calls 20000 A0 c0 Rs A1 c1 Ls Ab cb (bodyN Rs Ls j) Am cm m _ _ (Kd.C_below HR3.out hq) hc0 (Kd.C_below HL3.out hq) hc1 (Kd.C_below HC6.out.1 hq) HC6.out.2 (Kd.C_below HMK.out.cells hq) HMK.out.cap HLF.out).mono ?_
           rintro e W7 ⟨rfl, hb⟩
           have HBE := Aside0.mk (below_then hq hq.size hb)
           rw [HQE.out]
           refine ⟨_, rfl, ?_⟩
           have hg7 := blk_below HG3.out HBE.out
           have v0 := blk_cell hg7 0
           have v1 := blk_cell hg7 1
           clear hb hq hg7
           refine hK.out _ _ (⟨v0, v1⟩) (fun hHeld => ?_)
           clear hK K
           refine norm_ (a' := ?_) ?_ ?_
           rotate_left
           ·show Act.put _ (some 102) _ = _; simp only [Act.put, List.setIfInBounds_toArray, List.set_cons_zero, List.set_cons_succ, i64_w, i32_w]; rfl
           refine done_ (done_of HT_.out (by kernel_rfl)) ?_
           go_wp2_with fail
           go_ret2
           rw [HG.out, HX.out]
           exact ⟨rfl, below_then HB3.out HB3.out.size HBE.out⟩
          | false =>
           have HX := Aside0.mk (fst_next HF.out hj hqj)
           have HQE : Aside0 (loopsO Rs.length m (tr (trees Rs Ls) j) = false) := ⟨by rw [HQI.out, hqj]⟩
           clear hqj
           go_upto_region 30 with fail
           refine start_ (n := 6) (S := fun W' => W'.cell? ⟨w.heap.size, 0, none⟩ = some (.slice A0 Rs.length c0) ∧ W'.cell? ⟨w.heap.size, 1, none⟩ = some (.slice A1 Ls.length c1)) (ds := []) #[false, false, false, false, false, false] (by kernel_rfl) rfl rfl (⟨u0, u1⟩) (fun hHeld => ?_); refine with_tabW scL.tab scL.bits (fun HT_ HW_ => ?_)
           refine ta_ 0 97 HT_ HW_ hHeld ?_
           refine ta_ 1 98 HT_ HW_ hHeld ?_
           refine pu_ 2 99 HT_ ?_
           refine pu_ 4 101 HT_ ?_
           refine one_ (i := 3) (N := (some 100)) #[true, true, true, true, true, false] rfl rfl (one_of HT_.out (by kernel_rfl)) (by decide) (fun K hK => ?_)
           refine goes_ Try.func84 (by kernel_rfl) rfl #[.agg #[.slice A0 Rs.length c0, .slice A1 Ls.length c1], .int .i64 (j : Int)] (by rfl) rfl rfl (by (try simp only [List.map_toArray, List.map_cons, List.map_nil]); first | rfl) ?_
           refine (sbody_in HR3.out HL3.out hr2 hl2 j HIN.out _ (below_then HBW.out HBW.out.size (by repeat (first | exact Below.refl _ _ | apply Below.drew)))).mono ?_
           rintro e W6 ⟨Ab, cb, rfl, hC, hcb, hb0⟩
           refine ⟨_, rfl, ?_⟩
           have hb1 : Below wr.heap.size wr W6 := below_then (by repeat (first | exact Below.refl _ _ | apply Below.drew)) (by simp) hb0
           have a0 := pw_cell_below hb1 u0
           have a1 := pw_cell_below hb1 u1
           have HC6 := Aside0.mk (And.intro hC hcb)
           have HBE6 := Aside0.mk (below_then HBW.out HBW.out.size hb1)
           clear hC hcb hb0 hb1
           refine hK.out _ _ (⟨a0, a1⟩) (fun hHeld => ?_)
           clear hK K
           refine norm_ (a' := ?_) ?_ ?_
           rotate_left
           ·show Act.put _ (some 100) _ = _; simp only [Act.put, List.setIfInBounds_toArray, List.set_cons_zero, List.set_cons_succ, i64_w, i32_w]; rfl
           refine one_ (i := 5) (N := (some 102)) #[true, true, true, true, true, true] rfl rfl (one_of HT_.out (by kernel_rfl)) (by decide) (fun K hK => ?_)
           refine goes_ Try.func85 (by kernel_rfl) rfl #[.agg #[.slice A0 Rs.length c0, .slice A1 Ls.length c1], .slice Ab (bodyN Rs Ls j).length cb, .slice Am m.length cm] (by rfl) rfl rfl (by (try simp only [List.map_toArray, List.map_cons, List.map_nil]); first | rfl) ?_
           have hq : Below W3.heap.size W3 _ := below_then HBE6.out HBE6.out.size (by repeat (exact Below.refl _ _))
           refine (spec_l3loops.calls 20000 A0 c0 Rs A1 c1 Ls Ab cb (bodyN Rs Ls j) Am cm m _ _ (Kd.C_below HR3.out hq) hc0 (Kd.C_below HL3.out hq) hc1 (Kd.C_below HC6.out.1 hq) HC6.out.2 (Kd.C_below HMK.out.cells hq) HMK.out.cap HLF.out).mono ?_
           rintro e W7 ⟨rfl, hb⟩
           have HBE := Aside0.mk (below_then hq hq.size hb)
           rw [HQE.out]
           refine ⟨_, rfl, ?_⟩
           have hg7 := blk_below HG3.out HBE.out
           have v0 := blk_cell hg7 0
           have v1 := blk_cell hg7 1
           clear hb hq hg7
           refine hK.out _ _ (⟨v0, v1⟩) (fun hHeld => ?_)
           clear hK K
           refine norm_ (a' := ?_) ?_ ?_
           rotate_left
           ·show Act.put _ (some 102) _ = _; simp only [Act.put, List.setIfInBounds_toArray, List.set_cons_zero, List.set_cons_succ, i64_w, i32_w]; rfl
           refine done_ (done_of HT_.out (by kernel_rfl)) ?_
           go_wp2_with fail
           go_roundg k3
           case measure => omega
           case rel => exact ⟨j + 1, by first | rfl, ⟨by omega, by omega⟩, HX, HBE⟩
end Go.Proofs.Ytdiilocgjnlmiaa.Tre
