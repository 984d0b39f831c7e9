import Derived.Test.YtdiilocgjnlmiaaCcoAsm
import Derived.Test.YtdiilocgjnlmiaaCcoSBegins
import Derived.Test.YtdiilocgjnlmiaaCcoInsSt
namespace Go.Proofs.Ytdiilocgjnlmiaa.Tre
open Go.RowKit Go.Proofs.YtdiilocgjnlmiaaW.PrintWords Go.Proofs.YtdiilocgjnlmiaaW.PrintLast Go.Proofs.YtdiilocgjnlmiaaW.PrintMore
open Go.Proofs.Ytdiilocgjnlmiaa.PAll
set_option linter.unusedVariables false
set_option linter.unusedSimpArgs false
def smT : Tr → Prop
 | .set s => s.length ≤ 1048576
 | .seq l r => smT l ∧ smT r
 | .alt l r => smT l ∧ smT r
 | .star x => smT x
 | .neg x => smT x
 | _ => True
def AsmPost (w : World) (B b : Nat) (code : List In) (mr ml : Value) (e : Ending) (w' : World) : Prop := e = .returned (.tuple #[]) ∧ Asm w' B b code mr ml ∧ AFr b B w w'
theorem emitN_in {w : World} {B b : Nat} {code : List In} {mr ml : Value} (k a y : Int) (h : Asm w B b code mr ml) (hl : code.length ≤ 1000000) :
 Calls Try.prog 95 #[.pointer (some ⟨b, 0, none⟩), .agg #[.int .i64 k, .int .i64 a, .int .i64 y, .slice none 0 0]] w (EmitPost w B b code ⟨k, a, y, []⟩ mr ml) := by
 obtain ⟨v, sv, h1, h2⟩ := h.ex
 exact emit_in w B b code mr ml v sv ⟨k, a, y, []⟩ none 0 h.lo h1 h2 hl (own_nil _ _ _ _) fun q hq b' _ hb => by simp [ownV, Value.ownBlock] at hb
theorem emitK_in {w : World} {B b : Nat} {code : List In} {mr ml : Value} (k a y : Int) {n : Nat} (hn : n = code.length) (h : Asm w B b code mr ml) (hl : code.length ≤ 1000000) : Calls Try.prog 95 #[.pointer (some ⟨b, 0, none⟩), .agg #[.int .i64 k, .int .i64 a, .int .i64 y, .slice none 0 0]] w (fun e w' => e = .returned (.int .i64 (n : Int)) ∧ Asm w' B b (code ++ [⟨k, a, y, []⟩]) mr ml ∧ AFr b B w w') := by
 subst hn
 exact emitN_in k a y h hl
theorem AFr.low {b B : Nat} {U w w' : World} (h : AFr b B w w') (hU : U.heap.size ≤ B) (hw : Below U.heap.size U w) : Below U.heap.size U w' :=
 hw.trans ⟨h.bel.os, h.bel.tape, h.bel.output, h.bel.size, fun k hk => h.bel.block k (by omega)⟩
theorem set_mid {a r : List In} {x y : In} : (a ++ ([x] ++ r)).set a.length y = a ++ ([y] ++ r) := by simp
theorem inn_mid {a r : List In} {x : In} : inn (a ++ ([x] ++ r)) a.length = x := by
 simp [inn, rd_T88, List.getD_eq_getElem?_getD]
def axA.T : Bool × List (List Nat × List Nat) := (true, [([], []), ([0], [0]), ([1], [1]), ([2], [2]), ([], []), ([], []), ([5], [5]), ([6], [6]), ([7], [7]), ([8], [8]), ([3, 4, 0, 1, 2, 3, 4, 5, 6, 7, 8, 9], [3, 4]), ([10, 0, 1, 2, 3, 4, 5, 6, 7, 8, 9], [10]), ([11, 9, 0, 1, 2, 3, 4, 5, 6, 7, 8, 9], [9, 11])])
def axA.B : List Nat := [0, 1, 3, 7, 0, 0, 32, 96, 224, 480, 1023, 2047, 4095]
theorem axA.tab : rtab .any (opsOf Try.f141 19) = axA.T := by kernel_rfl
theorem axA.bits : waitsOk axA.T.2 axA.B = true := by kernel_rfl
def axB.T : Bool × List (List Nat × List Nat) := (true, [([], []), ([0], [0]), ([1], [1]), ([2], [2]), ([], []), ([], []), ([5], [5]), ([6], [6]), ([7], [7]), ([8], [8]), ([3, 4, 0, 1, 2, 3, 4, 5, 6, 7, 8, 9], [3, 4]), ([10, 0, 1, 2, 3, 4, 5, 6, 7, 8, 9], [10]), ([11, 9, 0, 1, 2, 3, 4, 5, 6, 7, 8, 9], [9, 11])])
def axB.B : List Nat := [0, 1, 3, 7, 0, 0, 32, 96, 224, 480, 1023, 2047, 4095]
theorem axB.tab : rtab .any (opsOf Try.f141 21) = axB.T := by kernel_rfl
theorem axB.bits : waitsOk axB.T.2 axB.B = true := by kernel_rfl
def axC.T : Bool × List (List Nat × List Nat) := (true, [([], []), ([0], [0]), ([1], [1]), ([2], [2]), ([], []), ([], []), ([5], [5]), ([6], [6]), ([7], [7]), ([8], [8]), ([3, 4, 0, 1, 2, 3, 4, 5, 6, 7, 8, 9], [3, 4]), ([10, 0, 1, 2, 3, 4, 5, 6, 7, 8, 9], [10]), ([11, 9, 0, 1, 2, 3, 4, 5, 6, 7, 8, 9], [9, 11])])
def axC.B : List Nat := [0, 1, 3, 7, 0, 0, 32, 96, 224, 480, 1023, 2047, 4095]
theorem axC.tab : rtab .any (opsOf Try.f141 27) = axC.T := by kernel_rfl
theorem axC.bits : waitsOk axC.T.2 axC.B = true := by kernel_rfl
def axD.T : Bool × List (List Nat × List Nat) := (true, [([], []), ([0], [0]), ([1], [1]), ([2], [2]), ([], []), ([], []), ([5], [5]), ([6], [6]), ([7], [7]), ([8], [8]), ([3, 4, 0, 1, 2, 3, 4, 5, 6, 7, 8, 9], [3, 4]), ([10, 0, 1, 2, 3, 4, 5, 6, 7, 8, 9], [10]), ([11, 9, 0, 1, 2, 3, 4, 5, 6, 7, 8, 9], [9, 11])])
def axD.B : List Nat := [0, 1, 3, 7, 0, 0, 32, 96, 224, 480, 1023, 2047, 4095]
theorem axD.tab : rtab .any (opsOf Try.f141 33) = axD.T := by kernel_rfl
theorem axD.bits : waitsOk axD.T.2 axD.B = true := by kernel_rfl
set_option maxRecDepth 100000 in
set_option maxHeartbeats 16000000 in
theorem asm_in (U : World) (B b : Nat) (mr ml : Value) (hU : U.heap.size ≤ B) : ∀ (t : Tr) (w : World) (v : Value) (code : List In), TrV U t v → Aside0 (Below U.heap.size U w) → smT t → Asm w B b code mr ml → code.length + szT t ≤ 900000 →
 Calls Try.prog 141 #[.pointer (some ⟨b, 0, none⟩), v] w (AsmPost w B b (code ++ exT id id t code.length) mr ml) := by
 intro t
 induction t with
 | emp =>
  intro w v code hv hUw hs hA hl
  obtain rfl := hv
  have HA := Aside0.mk hA
  clear hA hl hs
  have a0 := ta_set; have a1 := ta_ref; have a2 := ta_thr; have a3 := ta_seq; have a4 := ta_alt; have a5 := ta_star; have a6 := ta_neg
  go_enter Try.func141, Try.ntmps141
  go_wp2_with fail
  go_end0
  exact ⟨rfl, by rw [exT, List.append_nil]; exact HA.out, AFr.refl _ _ _⟩
 | set s =>
  intro w v code hv hUw hs hA hl
  obtain ⟨A, c, rfl, hc, hC⟩ := hv
  have hbx : Below w.heap.size w (w.alloc (Obj.cells #[.slice A s.length c] 200)) := below_alloc (Below.refl _ _) _
  have HA := Aside0.mk (hA.below hbx)
  have HF0 := Aside0.mk (AFr.of_below (b := b) hA.size hbx)
  have HC := Aside0.mk (Kd.C_below (Kd.C_below hC hUw.out) hbx)
  have hsl : s.length ≤ 1048576 := hs
  have hcl : code.length ≤ 1000000 := by omega
  clear hA hs hC hbx hl
  have a0 := ta_set; have a1 := ta_ref; have a2 := ta_thr; have a3 := ta_seq; have a4 := ta_alt; have a5 := ta_star; have a6 := ta_neg
  go_enter Try.func141, Try.ntmps141
  go_wp2_with (first
   | (go_at_call 95; go_must (obtain ⟨v0, sv0, h1, h2⟩ := HA.out.ex; refine (emit_in W2 B b code mr ml v0 sv0 ⟨0, 0, 0, s⟩ A' c' HA.out.lo (blk_below h1 HCB.out) (h2.below HCB.out) hcl (own_lower' HO2.out HA.out.size) (fun q hq b' hb1 hb2 => by have k1 := ((h2.sets q hq).lt b' hb1).2; have k2 := (HO2.out.lt b' hb2).1; omega)).mono ?_; rintro e W3 ⟨rfl, hA, hF⟩; have HA3 := Aside0.mk hA; have HF3 := Aside0.mk (HF2.out.trans hF); clear hA hF))
   | (go_at_call 73; go_must (refine (cloneI_in _ A c s HC.out (by omega)).mono ?_; rintro e W2 ⟨v', rfl, ho, hb⟩; obtain ⟨A', c', rfl⟩ := own_form1 ho; have HO2 := Aside0.mk ho; have HCB := Aside0.mk hb; have HA2 := Aside0.mk (HA.out.below hb); have HF2 := Aside0.mk (HF0.out.trans (AFr.of_below HA.out.size hb)); clear ho hb)))
  go_end0
  exact ⟨rfl, HA3.out, HF3.out⟩
 | ref n =>
  intro w v code hv hUw hs hA hl
  obtain rfl := hv
  have hbx : Below w.heap.size w (w.alloc (Obj.cells #[.int .i64 n] 202)) := below_alloc (Below.refl _ _) _
  have hne : w.heap.size ≠ b := by
   obtain ⟨_, _, hbb, _⟩ := hA.ex
   have := blk_lt hbb
   omega
  have HA0 := Aside0.mk (hA.below hbx)
  have HF0 := Aside0.mk (AFr.of_below (b := b) hA.size hbx)
  have HX0 := Aside0.mk (blk_new w (Obj.cells #[.int .i64 n] 202))
  have HU0 := hUw
  obtain ⟨n0, hn0⟩ : ∃ n0 : Nat, n0 = code.length := ⟨_, rfl⟩
  have HN0 := Aside0.mk hn0
  have hcl : n0 ≤ 900000 := by omega
  clear hA hbx hn0 hUw
  clear hs hl
  have a0 := ta_set; have a1 := ta_ref; have a2 := ta_thr; have a3 := ta_seq; have a4 := ta_alt; have a5 := ta_star; have a6 := ta_neg
  go_enter Try.func141, Try.ntmps141
  go_wp2_with (first
   | (go_at_call 95; refine (emitK_in 6 0 n (n := n0) (HN0.out) HA0.out (by have h1 := HN0.out; (try simp only [List.length_append, List.length_singleton, exT_len]); omega)).mono ?_; go_must (rintro e W1 ⟨rfl, hA, hF⟩; have HA1 := Aside0.mk hA; have HF1 := Aside0.mk (HF0.out.trans hF); have HX1 := Aside0.mk (hF.blk HX0.out hne (by decide)); have z10 := blk_cell HX1.out 0; clear hA hF)))
  go_end0
  exact ⟨rfl, HA1.out, HF1.out⟩
 | thr n =>
  intro w v code hv hUw hs hA hl
  obtain rfl := hv
  have hbx : Below w.heap.size w (w.alloc (Obj.cells #[.int .i64 n] 204)) := below_alloc (Below.refl _ _) _
  have hne : w.heap.size ≠ b := by
   obtain ⟨_, _, hbb, _⟩ := hA.ex
   have := blk_lt hbb
   omega
  have HA0 := Aside0.mk (hA.below hbx)
  have HF0 := Aside0.mk (AFr.of_below (b := b) hA.size hbx)
  have HX0 := Aside0.mk (blk_new w (Obj.cells #[.int .i64 n] 204))
  have HU0 := hUw
  obtain ⟨n0, hn0⟩ : ∃ n0 : Nat, n0 = code.length := ⟨_, rfl⟩
  have HN0 := Aside0.mk hn0
  have hcl : n0 ≤ 900000 := by omega
  clear hA hbx hn0 hUw
  clear hs hl
  have a0 := ta_set; have a1 := ta_ref; have a2 := ta_thr; have a3 := ta_seq; have a4 := ta_alt; have a5 := ta_star; have a6 := ta_neg
  go_enter Try.func141, Try.ntmps141
  go_wp2_with (first
   | (go_at_call 95; refine (emitK_in 8 n n (n := n0) (HN0.out) HA0.out (by have h1 := HN0.out; (try simp only [List.length_append, List.length_singleton, exT_len]); omega)).mono ?_; go_must (rintro e W1 ⟨rfl, hA, hF⟩; have HA1 := Aside0.mk hA; have HF1 := Aside0.mk (HF0.out.trans hF); have HX1 := Aside0.mk (hF.blk HX0.out hne (by decide)); have z10 := blk_cell HX1.out 0; clear hA hF)))
  go_end0
  exact ⟨rfl, HA1.out, HF1.out⟩
 | seq l r ihl ihr =>
  intro w v code hv hUw hs hA hl
  obtain ⟨va, vb, rfl, h1, h2⟩ := hv
  obtain ⟨T1, u1, rfl⟩ := h1.iface
  obtain ⟨T2, u2, rfl⟩ := h2.iface
  have hl2 : code.length + (szT l + szT r) ≤ 900000 := hl
  clear hl
  have hbx : Below w.heap.size w (w.alloc (Obj.cells #[.iface T1 u1, .iface T2 u2] 189)) := below_alloc (Below.refl _ _) _
  have hne : w.heap.size ≠ b := by
   obtain ⟨_, _, hbb, _⟩ := hA.ex
   have := blk_lt hbb
   omega
  have HA0 := Aside0.mk (hA.below hbx)
  have HF0 := Aside0.mk (AFr.of_below (b := b) hA.size hbx)
  have HX0 := Aside0.mk (blk_new w (Obj.cells #[.iface T1 u1, .iface T2 u2] 189))
  have HU0 := hUw
  obtain ⟨n0, hn0⟩ : ∃ n0 : Nat, n0 = code.length := ⟨_, rfl⟩
  have HN0 := Aside0.mk hn0
  have hcl : n0 ≤ 900000 := by omega
  clear hA hbx hn0 hUw
  have a0 := ta_set; have a1 := ta_ref; have a2 := ta_thr; have a3 := ta_seq; have a4 := ta_alt; have a5 := ta_star; have a6 := ta_neg
  go_enter Try.func141, Try.ntmps141
  go_wp2_with (first
   | (go_at_call 141; refine (ihr _ _ _ h2 ⟨HF1.out.low hU HU0.out⟩ hs.2 HA1.out (by have h1 := HN0.out; (try simp only [List.length_append, List.length_singleton, exT_len]); omega)).mono ?_; go_must (rintro e W2 ⟨rfl, hA, hF⟩; have HA2 := Aside0.mk hA; have HF2 := Aside0.mk (HF1.out.trans hF); have HX2 := Aside0.mk (hF.blk HX1.out hne (by decide)); have z20 := blk_cell HX2.out 0; have z21 := blk_cell HX2.out 1; clear hA hF))
   | (go_at_call 141; refine (ihl _ _ _ h1 ⟨HF0.out.low hU HU0.out⟩ hs.1 HA0.out (by have h1 := HN0.out; (try simp only [List.length_append, List.length_singleton, exT_len]); omega)).mono ?_; go_must (rintro e W1 ⟨rfl, hA, hF⟩; have HA1 := Aside0.mk hA; have HF1 := Aside0.mk (HF0.out.trans hF); have HX1 := Aside0.mk (hF.blk HX0.out hne (by decide)); have z10 := blk_cell HX1.out 0; have z11 := blk_cell HX1.out 1; clear hA hF)))
  go_end0
  refine ⟨rfl, ?_, HF2.out⟩
  have h := HA2.out
  rw [List.append_assoc, List.length_append, exT_len] at h
  exact h
 | alt l r ihl ihr =>
  intro w v code hv hUw hs hA hl
  obtain ⟨va, vb, rfl, h1, h2⟩ := hv
  obtain ⟨T1, u1, rfl⟩ := h1.iface
  obtain ⟨T2, u2, rfl⟩ := h2.iface
  have hl2 : code.length + (szT l + szT r + 2) ≤ 900000 := hl
  clear hl
  have hbx : Below w.heap.size w (w.alloc (Obj.cells #[.iface T1 u1, .iface T2 u2] 190)) := below_alloc (Below.refl _ _) _
  have hne : w.heap.size ≠ b := by
   obtain ⟨_, _, hbb, _⟩ := hA.ex
   have := blk_lt hbb
   omega
  have HA0 := Aside0.mk (hA.below hbx)
  have HF0 := Aside0.mk (AFr.of_below (b := b) hA.size hbx)
  have HX0 := Aside0.mk (blk_new w (Obj.cells #[.iface T1 u1, .iface T2 u2] 190))
  have HU0 := hUw
  obtain ⟨n0, hn0⟩ : ∃ n0 : Nat, n0 = code.length := ⟨_, rfl⟩
  have HN0 := Aside0.mk hn0
  have hcl : n0 ≤ 900000 := by omega
  clear hA hbx hn0 hUw
  obtain ⟨n1, hn1⟩ : ∃ n1 : Nat, n1 = n0 + 1 + szT l := ⟨_, rfl⟩
  have HN1 := Aside0.mk hn1
  have hn1b : n1 ≤ 900000 := by have := HN0.out; omega
  clear hn1
  have a0 := ta_set; have a1 := ta_ref; have a2 := ta_thr; have a3 := ta_seq; have a4 := ta_alt; have a5 := ta_star; have a6 := ta_neg
  go_enter Try.func141, Try.ntmps141
  go_upto_region 19 with (first
   | (go_at_call 95; refine (emitK_in 2 0 0 (n := n1) ((by rw [HN1.out, HN0.out]; simp only [List.length_append, List.length_singleton, exT_len])) HA2.out (by have h1 := HN0.out; (try simp only [List.length_append, List.length_singleton, exT_len]); omega)).mono ?_; go_must (rintro e W3 ⟨rfl, hA, hF⟩; have HA3 := Aside0.mk hA; have HF3 := Aside0.mk (HF2.out.trans hF); have HX3 := Aside0.mk (hF.blk HX2.out hne (by decide)); have z30 := blk_cell HX3.out 0; have z31 := blk_cell HX3.out 1; clear hA hF))
   | (go_at_call 141; refine (ihl _ _ _ h1 ⟨HF1.out.low hU HU0.out⟩ hs.1 HA1.out (by have h1 := HN0.out; (try simp only [List.length_append, List.length_singleton, exT_len]); omega)).mono ?_; go_must (rintro e W2 ⟨rfl, hA, hF⟩; have HA2 := Aside0.mk hA; have HF2 := Aside0.mk (HF1.out.trans hF); have HX2 := Aside0.mk (hF.blk HX1.out hne (by decide)); have z20 := blk_cell HX2.out 0; have z21 := blk_cell HX2.out 1; clear hA hF))
   | (go_at_call 95; refine (emitK_in 1 0 0 (n := n0) (HN0.out) HA0.out (by have h1 := HN0.out; (try simp only [List.length_append, List.length_singleton, exT_len]); omega)).mono ?_; go_must (rintro e W1 ⟨rfl, hA, hF⟩; have HA1 := Aside0.mk hA; have HF1 := Aside0.mk (HF0.out.trans hF); have HX1 := Aside0.mk (hF.blk HX0.out hne (by decide)); have z10 := blk_cell HX1.out 0; have z11 := blk_cell HX1.out 1; clear hA hF)))
  obtain ⟨C3, hC3⟩ : ∃ C : List In, C = code ++ [(⟨1, 0, 0, []⟩ : In)] ++ exT id id l (code ++ [(⟨1, 0, 0, []⟩ : In)]).length ++ [(⟨2, 0, 0, []⟩ : In)] := ⟨_, rfl⟩
  rw [← hC3] at HA3
  have hC3' : C3 = code ++ ([⟨1, 0, 0, []⟩] ++ (exT id id l (code.length + 1) ++ [⟨2, 0, 0, []⟩])) := by rw [hC3]; simp
  have hL3 : C3.length = n0 + szT l + 2 := by rw [hC3', HN0.out]; simp only [List.length_append, List.length_singleton, exT_len]; omega
  have hq3 : n0 < C3.length := by omega
  have hD := HA3.out
  obtain ⟨v9, sv9, p1, p2⟩ := hD.ex
  obtain ⟨Av, cv, rfl⟩ := p2.form
  obtain ⟨_, g, cur, rfl, _, _, hgc, _, y0, y1⟩ := p2.aimAt (q := n0) hq3
  obtain ⟨m4, hm4⟩ : ∃ m : Nat, m = C3.length := ⟨_, rfl⟩
  have hpt := Asm.patch hD.lo p1 p2 (q := n0) hq3 (m4 : Int)
  have q0 := blk_cell p1 0
  rw [← hm4] at q0
  have l0 := blk_lt p1
  have l1 := blk_lt hgc
  have e1 : (0 ≤ (n0 : Int)) = True := eq_true (by omega)
  have e2 : ((n0 : Int) < (m4 : Int)) = True := eq_true (by have := hq3; omega)
  have HP4 := Aside0.mk (And.intro (hpt.1.below (Below.refl _ _).drew) (hpt.2.trans (AFr.of_below hpt.1.size (Below.refl _ _).drew)))
  have HM4 := Aside0.mk hm4
  clear hD p1 p2 hgc hpt hm4
  refine start_ (n := 13) (S := fun W' => W'.cell? ⟨b, 0, none⟩ = some (.slice (some ⟨g, 0, none⟩) m4 cv)) (ds := [12]) #[false, false, false, false, false, false, false, false, false, false, false, false, false] (by kernel_rfl) rfl rfl (q0) (fun hHeld => ?_); refine with_tabW axA.tab axA.bits (fun HT_ HW_ => ?_)
  refine pu_ 0 67 HT_ ?_
  refine pu_ 1 68 HT_ ?_
  refine pu_ 2 69 HT_ ?_
  refine ta_ 3 70 HT_ HW_ hHeld ?_
  refine pu_ 4 71 HT_ ?_
  refine pu_ 5 72 HT_ ?_
  refine pu_ 6 73 HT_ ?_
  refine pu_ 7 74 HT_ ?_
  refine ta_ 8 75 HT_ HW_ hHeld ?_
  refine pu_ 9 76 HT_ ?_
  refine pu_ 10 77 HT_ ?_
  refine pu_ 11 78 HT_ ?_
  refine la_ 12 none HT_ (fun K hK => ?_)
  refine skip_ (w1 := ?_) (by rfl) rfl ?_ ?_
  rotate_left
  ·go_simp; rfl
  refine hK.out _ _ ?_
  clear hK K
  refine done_ (done_of HT_.out (by kernel_rfl)) ?_
  have HX4 := Aside0.mk (HP4.out.2.blk HX3.out hne (by decide))
  have HF4 := Aside0.mk (HF3.out.trans HP4.out.2)
  have z40 := blk_cell HX4.out 0
  have z41 := blk_cell HX4.out 1
  generalize (W3.setCell ⟨g, n0 * 4 + 2, none⟩ (.int .i64 (m4 : Int))).drew = W4 at *
  clear q0 y0 y1 e1 e2 l0 l1
  have HA4 : Aside0 (Asm W4 B b (code ++ ([⟨1, 0, (m4 : Int), []⟩] ++ (exT id id l (code.length + 1) ++ [⟨2, 0, 0, []⟩]))) mr ml) := ⟨by
   have h := HP4.out.1
   rw [hC3', HN0.out, inn_mid, set_mid] at h
   exact h⟩
  have HM4b : Aside0 (m4 = code.length + szT l + 2) := ⟨by rw [HM4.out, hL3, HN0.out]⟩
  clear hC3 hC3' hL3 hq3
  go_upto_region 21 with (first
   | (go_at_call 141; refine (ihr _ _ _ h2 ⟨HF4.out.low hU HU0.out⟩ hs.2 HA4.out (by have h1 := HN0.out; (try simp only [List.length_append, List.length_singleton, exT_len]); omega)).mono ?_; go_must (rintro e W5 ⟨rfl, hA, hF⟩; have HA5 := Aside0.mk hA; have HF5 := Aside0.mk (HF4.out.trans hF); have HX5 := Aside0.mk (hF.blk HX4.out hne (by decide)); have z50 := blk_cell HX5.out 0; have z51 := blk_cell HX5.out 1; clear hA hF)))
  obtain ⟨C5, hC5⟩ : ∃ C : List In, C = code ++ ([(⟨1, 0, (m4 : Int), []⟩ : In)] ++ (exT id id l (code.length + 1) ++ [(⟨2, 0, 0, []⟩ : In)])) ++ exT id id r (code ++ ([(⟨1, 0, (m4 : Int), []⟩ : In)] ++ (exT id id l (code.length + 1) ++ [(⟨2, 0, 0, []⟩ : In)]))).length := ⟨_, rfl⟩
  rw [← hC5] at HA5
  have e5 : (code ++ ([(⟨1, 0, (m4 : Int), []⟩ : In)] ++ (exT id id l (code.length + 1) ++ [(⟨2, 0, 0, []⟩ : In)]))).length = code.length + szT l + 2 := by
   simp only [List.length_append, List.length_singleton, exT_len]
   omega
  rw [e5] at hC5
  have hC5' : C5 = (code ++ ([⟨1, 0, (m4 : Int), []⟩] ++ exT id id l (code.length + 1))) ++ ([⟨2, 0, 0, []⟩] ++ exT id id r (code.length + szT l + 2)) := by rw [hC5]; simp
  have HN1b : Aside0 (n1 = (code ++ ([(⟨1, 0, (m4 : Int), []⟩ : In)] ++ exT id id l (code.length + 1))).length) := ⟨by rw [HN1.out, HN0.out]; simp only [List.length_append, List.length_singleton, exT_len]; omega⟩
  have hL5 : C5.length = code.length + szT (.alt l r) := by rw [hC5']; simp only [List.length_append, List.length_singleton, exT_len, szT]; omega
  have hq5 : n1 < C5.length := by have h1 := HN1.out; have h2 := HN0.out; rw [hL5]; simp only [szT]; omega
  clear hC5 e5
  have hD := HA5.out
  obtain ⟨v9, sv9, p1, p2⟩ := hD.ex
  obtain ⟨Av, cv, rfl⟩ := p2.form
  obtain ⟨_, g, cur, rfl, _, _, hgc, _, y0, y1⟩ := p2.aimAt (q := n1) hq5
  obtain ⟨m6, hm6⟩ : ∃ m : Nat, m = C5.length := ⟨_, rfl⟩
  have hpt := Asm.patch hD.lo p1 p2 (q := n1) hq5 (m6 : Int)
  have q0 := blk_cell p1 0
  rw [← hm6] at q0
  have l0 := blk_lt p1
  have l1 := blk_lt hgc
  have e1 : (0 ≤ (n1 : Int)) = True := eq_true (by omega)
  have e2 : ((n1 : Int) < (m6 : Int)) = True := eq_true (by have := hq5; omega)
  have HP6 := Aside0.mk (And.intro (hpt.1.below (Below.refl _ _).drew) (hpt.2.trans (AFr.of_below hpt.1.size (Below.refl _ _).drew)))
  have HM6 := Aside0.mk hm6
  clear hD p1 p2 hgc hpt hm6
  refine start_ (n := 13) (S := fun W' => W'.cell? ⟨b, 0, none⟩ = some (.slice (some ⟨g, 0, none⟩) m6 cv)) (ds := [12]) #[false, false, false, false, false, false, false, false, false, false, false, false, false] (by kernel_rfl) rfl rfl (q0) (fun hHeld => ?_); refine with_tabW axB.tab axB.bits (fun HT_ HW_ => ?_)
  refine pu_ 0 83 HT_ ?_
  refine pu_ 1 84 HT_ ?_
  refine pu_ 2 85 HT_ ?_
  refine ta_ 3 86 HT_ HW_ hHeld ?_
  refine pu_ 4 87 HT_ ?_
  refine pu_ 5 88 HT_ ?_
  refine pu_ 6 89 HT_ ?_
  refine pu_ 7 90 HT_ ?_
  refine ta_ 8 91 HT_ HW_ hHeld ?_
  refine pu_ 9 92 HT_ ?_
  refine pu_ 10 93 HT_ ?_
  refine pu_ 11 94 HT_ ?_
  refine la_ 12 none HT_ (fun K hK => ?_)
  refine skip_ (w1 := ?_) (by rfl) rfl ?_ ?_
  rotate_left
  ·go_simp; rfl
  refine hK.out _ _ ?_
  clear hK K
  refine done_ (done_of HT_.out (by kernel_rfl)) ?_
  have HX6 := Aside0.mk (HP6.out.2.blk HX5.out hne (by decide))
  have HF6 := Aside0.mk (HF5.out.trans HP6.out.2)
  have z60 := blk_cell HX6.out 0
  have z61 := blk_cell HX6.out 1
  generalize (W5.setCell ⟨g, n1 * 4 + 2, none⟩ (.int .i64 (m6 : Int))).drew = W6 at *
  clear q0 y0 y1 e1 e2 l0 l1
  go_wp2_with fail
  go_end0
  refine ⟨rfl, ?_, HF6.out⟩
  have h := HP6.out.1
  rw [hC5', HN1b.out, inn_mid, set_mid] at h
  rw [HM4b.out, HM6.out, hL5] at h
  simp only [exT, List.append_assoc, List.cons_append, List.nil_append] at h ⊢
  exact h
 | star x ih =>
  intro w v code hv hUw hs hA hl
  obtain ⟨va, rfl, h1⟩ := hv
  obtain ⟨T1, u1, rfl⟩ := h1.iface
  have hl2 : code.length + (szT x + 2) ≤ 900000 := hl
  clear hl
  have hbx : Below w.heap.size w (w.alloc (Obj.cells #[.iface T1 u1] 192)) := below_alloc (Below.refl _ _) _
  have hne : w.heap.size ≠ b := by
   obtain ⟨_, _, hbb, _⟩ := hA.ex
   have := blk_lt hbb
   omega
  have HA0 := Aside0.mk (hA.below hbx)
  have HF0 := Aside0.mk (AFr.of_below (b := b) hA.size hbx)
  have HX0 := Aside0.mk (blk_new w (Obj.cells #[.iface T1 u1] 192))
  have HU0 := hUw
  obtain ⟨n0, hn0⟩ : ∃ n0 : Nat, n0 = code.length := ⟨_, rfl⟩
  have HN0 := Aside0.mk hn0
  have hcl : n0 ≤ 900000 := by omega
  clear hA hbx hn0 hUw
  obtain ⟨n2, hn2⟩ : ∃ n2 : Nat, n2 = n0 + 1 := ⟨_, rfl⟩
  have ea : IntKind.i64.wrap ((n0 : Int) + 1) = (n2 : Int) := (i64_w _).trans (by rw [wid (by omega) (by omega)]; omega)
  have HN2 : Aside0 (n2 = code.length + 1) := ⟨by rw [hn2, HN0.out]⟩
  clear hn2
  have a0 := ta_set; have a1 := ta_ref; have a2 := ta_thr; have a3 := ta_seq; have a4 := ta_alt; have a5 := ta_star; have a6 := ta_neg
  go_enter Try.func141, Try.ntmps141
  go_upto_region 27 with (first
   | (go_at_call 95; refine (emitK_in 3 0 n2 rfl HA2.out (by have h1 := HN0.out; (try simp only [List.length_append, List.length_singleton, exT_len]); omega)).mono ?_; go_must (rintro e W3 ⟨rfl, hA, hF⟩; have HA3 := Aside0.mk hA; have HF3 := Aside0.mk (HF2.out.trans hF); have HX3 := Aside0.mk (hF.blk HX2.out hne (by decide)); have z30 := blk_cell HX3.out 0; clear hA hF))
   | (go_at_call 141; refine (ih _ _ _ h1 ⟨HF1.out.low hU HU0.out⟩ hs HA1.out (by have h1 := HN0.out; (try simp only [List.length_append, List.length_singleton, exT_len]); omega)).mono ?_; go_must (rintro e W2 ⟨rfl, hA, hF⟩; have HA2 := Aside0.mk hA; have HF2 := Aside0.mk (HF1.out.trans hF); have HX2 := Aside0.mk (hF.blk HX1.out hne (by decide)); have z20 := blk_cell HX2.out 0; clear hA hF))
   | (go_at_call 95; refine (emitK_in 1 0 0 (n := n0) (HN0.out) HA0.out (by have h1 := HN0.out; (try simp only [List.length_append, List.length_singleton, exT_len]); omega)).mono ?_; go_must (rintro e W1 ⟨rfl, hA, hF⟩; have HA1 := Aside0.mk hA; have HF1 := Aside0.mk (HF0.out.trans hF); have HX1 := Aside0.mk (hF.blk HX0.out hne (by decide)); have z10 := blk_cell HX1.out 0; clear hA hF)))
  obtain ⟨C3, hC3⟩ : ∃ C : List In, C = code ++ [(⟨1, 0, 0, []⟩ : In)] ++ exT id id x (code ++ [(⟨1, 0, 0, []⟩ : In)]).length ++ [(⟨3, 0, (n2 : Int), []⟩ : In)] := ⟨_, rfl⟩
  rw [← hC3] at HA3
  have hC3' : C3 = code ++ ([⟨1, 0, 0, []⟩] ++ (exT id id x (code.length + 1) ++ [⟨3, 0, (n2 : Int), []⟩])) := by rw [hC3]; simp
  have hL3 : C3.length = code.length + szT (.star x) := by rw [hC3']; simp only [List.length_append, List.length_singleton, exT_len, szT]; omega
  have hq3 : n0 < C3.length := by have h2 := HN0.out; rw [hL3]; simp only [szT]; omega
  have hD := HA3.out
  obtain ⟨v9, sv9, p1, p2⟩ := hD.ex
  obtain ⟨Av, cv, rfl⟩ := p2.form
  obtain ⟨_, g, cur, rfl, _, _, hgc, _, y0, y1⟩ := p2.aimAt (q := n0) hq3
  obtain ⟨m4, hm4⟩ : ∃ m : Nat, m = C3.length := ⟨_, rfl⟩
  have hpt := Asm.patch hD.lo p1 p2 (q := n0) hq3 (m4 : Int)
  have q0 := blk_cell p1 0
  rw [← hm4] at q0
  have l0 := blk_lt p1
  have l1 := blk_lt hgc
  have e1 : (0 ≤ (n0 : Int)) = True := eq_true (by omega)
  have e2 : ((n0 : Int) < (m4 : Int)) = True := eq_true (by have := hq3; omega)
  have HP4 := Aside0.mk (And.intro (hpt.1.below (Below.refl _ _).drew) (hpt.2.trans (AFr.of_below hpt.1.size (Below.refl _ _).drew)))
  have HM4 := Aside0.mk hm4
  clear hD p1 p2 hgc hpt hm4
  refine start_ (n := 13) (S := fun W' => W'.cell? ⟨b, 0, none⟩ = some (.slice (some ⟨g, 0, none⟩) m4 cv)) (ds := [12]) #[false, false, false, false, false, false, false, false, false, false, false, false, false] (by kernel_rfl) rfl rfl (q0) (fun hHeld => ?_); refine with_tabW axC.tab axC.bits (fun HT_ HW_ => ?_)
  refine pu_ 0 110 HT_ ?_
  refine pu_ 1 111 HT_ ?_
  refine pu_ 2 112 HT_ ?_
  refine ta_ 3 113 HT_ HW_ hHeld ?_
  refine pu_ 4 114 HT_ ?_
  refine pu_ 5 115 HT_ ?_
  refine pu_ 6 116 HT_ ?_
  refine pu_ 7 117 HT_ ?_
  refine ta_ 8 118 HT_ HW_ hHeld ?_
  refine pu_ 9 119 HT_ ?_
  refine pu_ 10 120 HT_ ?_
  refine pu_ 11 121 HT_ ?_
  refine la_ 12 none HT_ (fun K hK => ?_)
  refine skip_ (w1 := ?_) (by rfl) rfl ?_ ?_
  rotate_left
  ·go_simp; rfl
  refine hK.out _ _ ?_
  clear hK K
  refine done_ (done_of HT_.out (by kernel_rfl)) ?_
  have HX4 := Aside0.mk (HP4.out.2.blk HX3.out hne (by decide))
  have HF4 := Aside0.mk (HF3.out.trans HP4.out.2)
  have z40 := blk_cell HX4.out 0
  generalize (W3.setCell ⟨g, n0 * 4 + 2, none⟩ (.int .i64 (m4 : Int))).drew = W4 at *
  clear q0 y0 y1 e1 e2 l0 l1
  go_wp2_with fail
  go_end0
  refine ⟨rfl, ?_, HF4.out⟩
  have h := HP4.out.1
  rw [hC3', HN0.out, inn_mid, set_mid] at h
  rw [HM4.out, hL3, HN2.out] at h
  simp only [exT, List.append_assoc, List.cons_append, List.nil_append] at h ⊢
  exact h
 | neg x ih =>
  intro w v code hv hUw hs hA hl
  obtain ⟨va, rfl, h1⟩ := hv
  obtain ⟨T1, u1, rfl⟩ := h1.iface
  have hl2 : code.length + (szT x + 2) ≤ 900000 := hl
  clear hl
  have hbx : Below w.heap.size w (w.alloc (Obj.cells #[.iface T1 u1] 193)) := below_alloc (Below.refl _ _) _
  have hne : w.heap.size ≠ b := by
   obtain ⟨_, _, hbb, _⟩ := hA.ex
   have := blk_lt hbb
   omega
  have HA0 := Aside0.mk (hA.below hbx)
  have HF0 := Aside0.mk (AFr.of_below (b := b) hA.size hbx)
  have HX0 := Aside0.mk (blk_new w (Obj.cells #[.iface T1 u1] 193))
  have HU0 := hUw
  obtain ⟨n0, hn0⟩ : ∃ n0 : Nat, n0 = code.length := ⟨_, rfl⟩
  have HN0 := Aside0.mk hn0
  have hcl : n0 ≤ 900000 := by omega
  clear hA hbx hn0 hUw
  have a0 := ta_set; have a1 := ta_ref; have a2 := ta_thr; have a3 := ta_seq; have a4 := ta_alt; have a5 := ta_star; have a6 := ta_neg
  go_enter Try.func141, Try.ntmps141
  go_upto_region 33 with (first
   | (go_at_call 95; refine (emitK_in 5 0 0 rfl HA2.out (by have h1 := HN0.out; (try simp only [List.length_append, List.length_singleton, exT_len]); omega)).mono ?_; go_must (rintro e W3 ⟨rfl, hA, hF⟩; have HA3 := Aside0.mk hA; have HF3 := Aside0.mk (HF2.out.trans hF); have HX3 := Aside0.mk (hF.blk HX2.out hne (by decide)); have z30 := blk_cell HX3.out 0; clear hA hF))
   | (go_at_call 141; refine (ih _ _ _ h1 ⟨HF1.out.low hU HU0.out⟩ hs HA1.out (by have h1 := HN0.out; (try simp only [List.length_append, List.length_singleton, exT_len]); omega)).mono ?_; go_must (rintro e W2 ⟨rfl, hA, hF⟩; have HA2 := Aside0.mk hA; have HF2 := Aside0.mk (HF1.out.trans hF); have HX2 := Aside0.mk (hF.blk HX1.out hne (by decide)); have z20 := blk_cell HX2.out 0; clear hA hF))
   | (go_at_call 95; refine (emitK_in 4 0 0 (n := n0) (HN0.out) HA0.out (by have h1 := HN0.out; (try simp only [List.length_append, List.length_singleton, exT_len]); omega)).mono ?_; go_must (rintro e W1 ⟨rfl, hA, hF⟩; have HA1 := Aside0.mk hA; have HF1 := Aside0.mk (HF0.out.trans hF); have HX1 := Aside0.mk (hF.blk HX0.out hne (by decide)); have z10 := blk_cell HX1.out 0; clear hA hF)))
  obtain ⟨C3, hC3⟩ : ∃ C : List In, C = code ++ [(⟨4, 0, 0, []⟩ : In)] ++ exT id id x (code ++ [(⟨4, 0, 0, []⟩ : In)]).length ++ [(⟨5, 0, 0, []⟩ : In)] := ⟨_, rfl⟩
  rw [← hC3] at HA3
  have hC3' : C3 = code ++ ([⟨4, 0, 0, []⟩] ++ (exT id id x (code.length + 1) ++ [⟨5, 0, 0, []⟩])) := by rw [hC3]; simp
  have hL3 : C3.length = code.length + szT (.neg x) := by rw [hC3']; simp only [List.length_append, List.length_singleton, exT_len, szT]; omega
  have hq3 : n0 < C3.length := by have h2 := HN0.out; rw [hL3]; simp only [szT]; omega
  have hD := HA3.out
  obtain ⟨v9, sv9, p1, p2⟩ := hD.ex
  obtain ⟨Av, cv, rfl⟩ := p2.form
  obtain ⟨_, g, cur, rfl, _, _, hgc, _, y0, y1⟩ := p2.aimAt (q := n0) hq3
  obtain ⟨m4, hm4⟩ : ∃ m : Nat, m = C3.length := ⟨_, rfl⟩
  have hpt := Asm.patch hD.lo p1 p2 (q := n0) hq3 (m4 : Int)
  have q0 := blk_cell p1 0
  rw [← hm4] at q0
  have l0 := blk_lt p1
  have l1 := blk_lt hgc
  have e1 : (0 ≤ (n0 : Int)) = True := eq_true (by omega)
  have e2 : ((n0 : Int) < (m4 : Int)) = True := eq_true (by have := hq3; omega)
  have HP4 := Aside0.mk (And.intro (hpt.1.below (Below.refl _ _).drew) (hpt.2.trans (AFr.of_below hpt.1.size (Below.refl _ _).drew)))
  have HM4 := Aside0.mk hm4
  clear hD p1 p2 hgc hpt hm4
  refine start_ (n := 13) (S := fun W' => W'.cell? ⟨b, 0, none⟩ = some (.slice (some ⟨g, 0, none⟩) m4 cv)) (ds := [12]) #[false, false, false, false, false, false, false, false, false, false, false, false, false] (by kernel_rfl) rfl rfl (q0) (fun hHeld => ?_); refine with_tabW axD.tab axD.bits (fun HT_ HW_ => ?_)
  refine pu_ 0 135 HT_ ?_
  refine pu_ 1 136 HT_ ?_
  refine pu_ 2 137 HT_ ?_
  refine ta_ 3 138 HT_ HW_ hHeld ?_
  refine pu_ 4 139 HT_ ?_
  refine pu_ 5 140 HT_ ?_
  refine pu_ 6 141 HT_ ?_
  refine pu_ 7 142 HT_ ?_
  refine ta_ 8 143 HT_ HW_ hHeld ?_
  refine pu_ 9 144 HT_ ?_
  refine pu_ 10 145 HT_ ?_
  refine pu_ 11 146 HT_ ?_
  refine la_ 12 none HT_ (fun K hK => ?_)
  refine skip_ (w1 := ?_) (by rfl) rfl ?_ ?_
  rotate_left
  ·go_simp; rfl
  refine hK.out _ _ ?_
  clear hK K
  refine done_ (done_of HT_.out (by kernel_rfl)) ?_
  have HX4 := Aside0.mk (HP4.out.2.blk HX3.out hne (by decide))
  have HF4 := Aside0.mk (HF3.out.trans HP4.out.2)
  have z40 := blk_cell HX4.out 0
  generalize (W3.setCell ⟨g, n0 * 4 + 2, none⟩ (.int .i64 (m4 : Int))).drew = W4 at *
  clear q0 y0 y1 e1 e2 l0 l1
  go_wp2_with fail
  go_end0
  refine ⟨rfl, ?_, HF4.out⟩
  have h := HP4.out.1
  rw [hC3', HN0.out, inn_mid, set_mid] at h
  rw [HM4.out, hL3] at h
  simp only [exT, List.append_assoc, List.cons_append, List.nil_append] at h ⊢
  exact h
end Go.Proofs.Ytdiilocgjnlmiaa.Tre
