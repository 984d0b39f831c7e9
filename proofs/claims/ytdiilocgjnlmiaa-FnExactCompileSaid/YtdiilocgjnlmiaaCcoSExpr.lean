import Derived.Test.YtdiilocgjnlmiaaCcoSBegins
namespace Go.Proofs.Ytdiilocgjnlmiaa.Tre
open Go.RowKit Go.Proofs.YtdiilocgjnlmiaaW.PrintWords Go.Proofs.YtdiilocgjnlmiaaW.PrintLast Go.Proofs.YtdiilocgjnlmiaaW.PrintMore
open Go.Proofs.Ytdiilocgjnlmiaa.PAll
set_option linter.unusedVariables false
set_option linter.unusedSimpArgs false
def InsPost (w : World) (l : List In) (e : Ending) (w' : World) : Prop := ∃ v sv, e = .returned v ∧ InSt w' w.heap.size v sv l ∧ Below w.heap.size w w'
theorem ins_append {ops : Array Oper} {rest : List Oper} {o : Oper} {a : Act} {Q : Exit → Act → World → Prop} {W W1 : World} {B : Nat} {v v2 : Value} {sv sv2 : Nat → Value} {l l2 : List In} (hI : InSt W B v sv l) (hB : B ≤ W.heap.size) (hb : Below W.heap.size W W1) (h2 : InSt W1 W.heap.size v2 sv2 l2) (hl : l.length + l2.length ≤ 2000000)
 (hgd : o.guard = none) (sl x : Operand) (ho : o.op = .call { callee := .builtin .append, args := #[sl, x], argTypes := #[43, 43] }) (hs : a.eval sl = v) (hx : a.eval x = v2)
 (h' : ∀ A' n c' W2, Aside0 (InSt W2 B (.slice A' n c') (joinF sv l.length sv2) (l ++ l2)) → Aside0 (W1.grownBy W2 v.ownBlock) → wpList Try.prog ops Q rest (a.put o.dst (.slice A' n c')) W2) : wpList Try.prog ops Q (o :: rest) a W1 := by
 obtain ⟨ii, hi, hz, hs1, hby⟩ := info_parts info88
 obtain ⟨A2, c2, rfl⟩ := h2.form
 refine app_src W1 B 43 88 ii _ 4 48 Try.underlying43 hi hz hs1 hby rfl (by decide) v l.length _ (hI.below hb).row hgd sl x ho hs A2 l2.length c2 _ hx (lineC_len (sz := 4) (fun i => rfl) _) (h2.src rfl) (h2.line_one _ (Nat.le_refl _)) (by unfold maxLen; omega) (by omega) (by have := hb.size; omega) ?_
 intro v' W2 ho hg
 obtain ⟨A', c', rfl⟩ := own_form1 ho
 have h := hI.app hB hb h2 ho hg
 exact h' A' _ c' W2 ⟨h⟩ ⟨hg⟩
theorem ins_append_step {ops : Array Oper} {o : Oper} {a : Act} {K : Act → World → Prop} {Q : Exit → Act → World → Prop} {E : Prop} {W W1 : World} {B : Nat} {v v2 : Value} {sv sv2 : Nat → Value} {l l2 : List In} (hI : InSt W B v sv l) (hB : B ≤ W.heap.size) (hb : Below W.heap.size W W1) (h2 : InSt W1 W.heap.size v2 sv2 l2) (hl : l.length + l2.length ≤ 2000000)
 (hgd : o.guard = none) (sl x : Operand) (ho : o.op = .call { callee := .builtin .append, args := #[sl, x], argTypes := #[43, 43] }) (hs : a.eval sl = v) (hx : a.eval x = v2)
 (h' : ∀ A' n c' W2, Aside0 (InSt W2 B (.slice A' n c') (joinF sv l.length sv2) (l ++ l2)) → Aside0 (W1.grownBy W2 v.ownBlock) → K (a.put o.dst (.slice A' n c')) W2) : if Region.wanted o (yielded ops a.tmps) = true then Oper.wp Try.prog o a W1 K Q else E := by
 obtain ⟨ii, hi, hz, hs1, hby⟩ := info_parts info88
 obtain ⟨A2, c2, rfl⟩ := h2.form
 refine step_append_src hgd sl x 43 ho B 88 ii _ 4 48 Try.underlying43 hi hz hs1 hby rfl (by decide) v l.length _ (hI.below hb).row hs A2 l2.length c2 _ hx (lineC_len (sz := 4) (fun i => rfl) _) (h2.src rfl) (h2.line_one _ (Nat.le_refl _)) (by unfold maxLen; omega) (by omega) (by have := hb.size; omega) ?_
 intro v' W2 ho hg
 obtain ⟨A', c', rfl⟩ := own_form1 ho
 have h := hI.app hB hb h2 ho hg
 exact h' A' _ c' W2 ⟨h⟩ ⟨hg⟩
theorem InSt.bel {w W W1 W2 : World} {v : Value} {sv : Nat → Value} {l : List In} (h : InSt W w.heap.size v sv l) (hb : Below w.heap.size w W1) (hg : W1.grownBy W2 v.ownBlock) : Below w.heap.size w W2 := hb.grown hg hb.size fun k hk => (h.row.lt k hk).1
theorem InSt.boxKept {W W1 W2 : World} {B k : Nat} {v : Value} {sv : Nat → Value} {l : List In} {cs : Array Value} {ty : TypeId} (h : InSt W B v sv l) (hb : Below W.heap.size W W1) (hg : W1.grownBy W2 v.ownBlock) (hk : W1.heap[k]? = some (.cells cs ty (0, 0))) (hne : 88 ≠ ty) : W2.heap[k]? = some (.cells cs ty (0, 0)) :=
 blk_grown hk hg (own_box (h.below hb).row hk hne)
theorem InsPost.later {w W w' : World} {l : List In} {e : Ending} (h : InsPost W l e w') (hb : Below w.heap.size w W) : InsPost w l e w' := by
 obtain ⟨v, sv, he, hI, hB⟩ := h
 exact ⟨v, sv, he, hI.lower hb.size, below_then hb hb.size hB⟩
def seT.T : Bool × List (List Nat × List Nat) := (true, [([], []), ([0], [0]), ([], []), ([], []), ([], []), ([3, 4], [3, 4]), ([2, 5, 5], [2, 5]), ([1, 6], [1, 6]), ([7], [7]), ([8, 6, 0, 1, 2, 3, 4, 5, 6, 7, 8], [8])])
def seT.B : List Nat := [0, 1, 0, 0, 0, 24, 60, 127, 255, 511]
theorem seT.tab : rtab .any (opsOf Try.f140 12) = seT.T := by kernel_rfl
theorem seT.bits : waitsOk seT.T.2 seT.B = true := by kernel_rfl
def seS.T : Bool × List (List Nat × List Nat) := (true, [([], []), ([], []), ([], []), ([], []), ([], []), ([4], [4]), ([3, 5], [3, 5]), ([1, 2, 6, 5], [1, 2, 6]), ([0, 7, 7], [0, 7]), ([8, 8, 0, 1, 2, 3, 4, 5, 6, 7, 8], [8])])
def seS.B : List Nat := [0, 0, 0, 0, 0, 16, 56, 126, 255, 511]
theorem seS.tab : rtab .any (opsOf Try.f140 29) = seS.T := by kernel_rfl
theorem seS.bits : waitsOk seS.T.2 seS.B = true := by kernel_rfl
set_option maxRecDepth 100000 in
set_option maxHeartbeats 8000000 in
theorem ex_emp (U : World) (A0 A1 : Option Addr) (c0 c1 : Nat) (Rs : List Ru) (Ls : List La) (hG : GrC U A0 c0 A1 c1 Rs Ls) (w : World) (hb : Below U.heap.size U w) (A : Option Addr) (c at_ : Nat) (hat : at_ ≤ 1000000) (N p : Nat) (pre : List Op) (s : List Int) (a2 : Int) (hN : N = p + 1) (hpl : pre.length = p) (hp : p ≤ 2000) (hC : Kd.C k79 U A N (pre ++ [(⟨0, s, a2⟩ : Op)])) (hc : N ≤ c) :
 Calls Try.prog 140 #[.agg #[.slice A0 Rs.length c0, .slice A1 Ls.length c1], .slice A N c, .int .i64 (at_ : Int)] w (InsPost w ([])) := by
 obtain ⟨ad, A5, c5, rfl, x0, x1, x2, y1, y2⟩ := last_op (W := U) (A := A) (pre := pre) (o := ⟨0, s, a2⟩) (by rw [List.length_append, List.length_singleton, hpl, ← hN]; exact hC)
 rw [hpl] at x0 x1 x2
 replace x0 := pw_cell_below hb x0
 replace x1 := pw_cell_below hb x1
 replace x2 := pw_cell_below hb x2
 simp only at x0 x1 x2 y1 y2
 have lx := World.block_lt_of_cell? _ _ x0
 have ew : IntKind.i64.wrap ((N : Int) - 1) = (p : Int) := (i64_w _).trans (by rw [wid (by omega) (by omega)]; omega)
 have e2 : (0 ≤ (p : Int)) = True := eq_true (by omega)
 have e3 : ((p : Int) < (N : Int)) = True := eq_true (by omega)
 have HG := Aside0.mk hG
 have HB := Aside0.mk hb
 have HY := Aside0.mk y2
 have HY1 := Aside0.mk y1
 have HC := Aside0.mk hC
 clear hG hb y2 hC y1 hN hpl
 go_enter Try.func140, Try.ntmps140
 go_wp2_with fail
 go_ret
 exact ⟨_, fun _ => undef, rfl, InSt.nil _ _ _, (below_alloc (below_alloc (Below.refl _ _) (Obj.cells #[.slice A0 Rs.length c0, .slice A1 Ls.length c1] 31)) (Obj.cells #[.int .i64 0, .slice A5 s.length c5, .int .i64 a2] 79))⟩
set_option maxRecDepth 100000 in
set_option maxHeartbeats 8000000 in
theorem ex_set (U : World) (A0 A1 : Option Addr) (c0 c1 : Nat) (Rs : List Ru) (Ls : List La) (hG : GrC U A0 c0 A1 c1 Rs Ls) (w : World) (hb : Below U.heap.size U w) (A : Option Addr) (c at_ : Nat) (hat : at_ ≤ 1000000) (N p : Nat) (pre : List Op) (s : List Int) (a2 : Int) (hs : s.length ≤ 1048576) (hN : N = p + 1) (hpl : pre.length = p) (hp : p ≤ 2000) (hC : Kd.C k79 U A N (pre ++ [(⟨1, s, a2⟩ : Op)])) (hc : N ≤ c) :
 Calls Try.prog 140 #[.agg #[.slice A0 Rs.length c0, .slice A1 Ls.length c1], .slice A N c, .int .i64 (at_ : Int)] w (InsPost w ([⟨0, 0, 0, s⟩])) := by
 obtain ⟨ad, A5, c5, rfl, x0, x1, x2, y1, y2⟩ := last_op (W := U) (A := A) (pre := pre) (o := ⟨1, s, a2⟩) (by rw [List.length_append, List.length_singleton, hpl, ← hN]; exact hC)
 rw [hpl] at x0 x1 x2
 replace x0 := pw_cell_below hb x0
 replace x1 := pw_cell_below hb x1
 replace x2 := pw_cell_below hb x2
 simp only at x0 x1 x2 y1 y2
 have lx := World.block_lt_of_cell? _ _ x0
 have ew : IntKind.i64.wrap ((N : Int) - 1) = (p : Int) := (i64_w _).trans (by rw [wid (by omega) (by omega)]; omega)
 have e2 : (0 ≤ (p : Int)) = True := eq_true (by omega)
 have e3 : ((p : Int) < (N : Int)) = True := eq_true (by omega)
 have hr := Kd.C_below (Kd.C_below y2 hb) (below_alloc (below_alloc (Below.refl _ _) (Obj.cells #[.slice A0 Rs.length c0, .slice A1 Ls.length c1] 31)) (Obj.cells #[.int .i64 1, .slice A5 s.length c5, .int .i64 a2] 79))
 obtain ⟨i0, hi0, hz, hs1, hby⟩ := info_parts infoI
 have HG := Aside0.mk hG
 have HB := Aside0.mk hb
 have HY := Aside0.mk y2
 have HY1 := Aside0.mk y1
 have HC := Aside0.mk hC
 clear hG hb y2 hC y1 hN hpl
 have HR := Aside0.mk hr
 clear hr
 go_enter Try.func140, Try.ntmps140
 go_wp2_with (first
  | ((with_reducible refine gate_dst (N := 37) rfl ?_); go_must (refine app_src _ w.heap.size 38 3 i0 (.int .i64 0) 1 8 Try.underlying38 hi0 hz hs1 hby rfl (by decide) _ 0 [] (own_nil _ _ _ _) rfl _ _ rfl rfl A5 s.length c5 (nums .i64 s) rfl (by simp [nums]) (src_of_C HR.out) (nums_one _ _) (by unfold maxLen; omega) (by omega) (by simp; omega) ?_; intro v' w' ho hg; rw [Nat.zero_add, List.nil_append] at ho; obtain ⟨A', c', rfl⟩ := own_form1 ho; have HO := Aside0.mk ho; have hw' : Below w.heap.size w w' := ((below_alloc (below_alloc (Below.refl _ _) (Obj.cells #[.slice A0 Rs.length c0, .slice A1 Ls.length c1] 31)) (Obj.cells #[.int .i64 1, .slice A5 s.length c5, .int .i64 a2] 79))).grown hg (by simp; omega) (fun k hk => by simp [Value.ownBlock] at hk); have HW := Aside0.mk hw'; clear ho hg hw')))
 go_ret
 exact ⟨_, fun _ => .slice A' s.length c', rfl, InSt.one (x := ⟨0, 0, 0, s⟩) HW.out.size HO.out _ rfl, below_alloc HW.out _⟩
set_option maxRecDepth 100000 in
set_option maxHeartbeats 8000000 in
theorem ex_ref (U : World) (A0 A1 : Option Addr) (c0 c1 : Nat) (Rs : List Ru) (Ls : List La) (hG : GrC U A0 c0 A1 c1 Rs Ls) (w : World) (hb : Below U.heap.size U w) (A : Option Addr) (c at_ : Nat) (hat : at_ ≤ 1000000) (N p : Nat) (pre : List Op) (s : List Int) (q : Nat) (y : Int) (HPL : Aside0 (∀ w', Below U.heap.size U w' → Calls Try.prog 168 #[.agg #[.slice A0 Rs.length c0, .slice A1 Ls.length c1], .int .i64 (q : Int)] w' (fun e w2 => e = .returned (.int .i64 y) ∧ Below w'.heap.size w' w2))) (hN : N = p + 1) (hpl : pre.length = p) (hp : p ≤ 2000) (hC : Kd.C k79 U A N (pre ++ [(⟨2, s, (q : Int)⟩ : Op)])) (hc : N ≤ c) :
 Calls Try.prog 140 #[.agg #[.slice A0 Rs.length c0, .slice A1 Ls.length c1], .slice A N c, .int .i64 (at_ : Int)] w (InsPost w ([⟨6, 0, y, []⟩])) := by
 obtain ⟨ad, A5, c5, rfl, x0, x1, x2, y1, y2⟩ := last_op (W := U) (A := A) (pre := pre) (o := ⟨2, s, (q : Int)⟩) (by rw [List.length_append, List.length_singleton, hpl, ← hN]; exact hC)
 rw [hpl] at x0 x1 x2
 replace x0 := pw_cell_below hb x0
 replace x1 := pw_cell_below hb x1
 replace x2 := pw_cell_below hb x2
 simp only at x0 x1 x2 y1 y2
 have lx := World.block_lt_of_cell? _ _ x0
 have ew : IntKind.i64.wrap ((N : Int) - 1) = (p : Int) := (i64_w _).trans (by rw [wid (by omega) (by omega)]; omega)
 have e2 : (0 ≤ (p : Int)) = True := eq_true (by omega)
 have e3 : ((p : Int) < (N : Int)) = True := eq_true (by omega)
 have hb2 : Below w.heap.size w ((w.alloc (Obj.cells #[.slice A0 Rs.length c0, .slice A1 Ls.length c1] 31)).alloc (Obj.cells #[.int .i64 2, .slice A5 s.length c5, .int .i64 (q : Int)] 79)) := below_alloc (below_alloc (Below.refl _ _) _) _
 have hg := blk_alloc (blk_new w (Obj.cells #[.slice A0 Rs.length c0, .slice A1 Ls.length c1] 31)) (Obj.cells #[.int .i64 2, .slice A5 s.length c5, .int .i64 (q : Int)] 79)
 have hx := blk_new (w.alloc (Obj.cells #[.slice A0 Rs.length c0, .slice A1 Ls.length c1] 31)) (Obj.cells #[.int .i64 2, .slice A5 s.length c5, .int .i64 (q : Int)] 79)
 rw [World.size_alloc] at hx
 have HG0 := Aside0.mk hg
 have HX := Aside0.mk hx
 have HB2 := Aside0.mk hb2
 have HU2 := Aside0.mk (below_then hb hb.size hb2)
 have HSZ2 : Aside0 (((w.alloc (Obj.cells #[.slice A0 Rs.length c0, .slice A1 Ls.length c1] 31)).alloc (Obj.cells #[.int .i64 2, .slice A5 s.length c5, .int .i64 (q : Int)] 79)).heap.size = w.heap.size + 1 + 1) := ⟨by simp⟩
 clear hg hx hb2
 have HG := Aside0.mk hG
 have HB := Aside0.mk hb
 have HY := Aside0.mk y2
 have HY1 := Aside0.mk y1
 have HC := Aside0.mk hC
 clear hG hb y2 hC y1 hN hpl
 go_enter Try.func140, Try.ntmps140
 go_wp2_with (first
  | (go_at_call 168; refine (HPL.out _ HU2.out).mono ?_; go_must (rintro e W2 ⟨rfl, hb⟩; have HW := Aside0.mk (below_then HB2.out HB2.out.size hb); clear hb)))
 go_ret
 exact ⟨_, fun _ => .slice none 0 0, rfl, InSt.one (x := ⟨6, 0, y, []⟩) HW.out.size (own_nil _ _ _ _) _ rfl, below_alloc HW.out _⟩
set_option maxRecDepth 100000 in
set_option maxHeartbeats 8000000 in
theorem ex_thr (U : World) (A0 A1 : Option Addr) (c0 c1 : Nat) (Rs : List Ru) (Ls : List La) (hG : GrC U A0 c0 A1 c1 Rs Ls) (w : World) (hb : Below U.heap.size U w) (A : Option Addr) (c at_ : Nat) (hat : at_ ≤ 1000000) (N p : Nat) (pre : List Op) (s : List Int) (q T : Nat) (y : Int) (HPL : Aside0 (∀ w', Below U.heap.size U w' → Calls Try.prog 168 #[.agg #[.slice A0 Rs.length c0, .slice A1 Ls.length c1], .int .i64 (T : Int)] w' (fun e w2 => e = .returned (.int .i64 y) ∧ Below w'.heap.size w' w2))) (HTG : Aside0 (spec_l3target.f Rs Ls 3 s (q : Int) = some (T : Int))) (hN : N = p + 1) (hpl : pre.length = p) (hp : p ≤ 2000) (hC : Kd.C k79 U A N (pre ++ [(⟨3, s, (q : Int)⟩ : Op)])) (hc : N ≤ c) :
 Calls Try.prog 140 #[.agg #[.slice A0 Rs.length c0, .slice A1 Ls.length c1], .slice A N c, .int .i64 (at_ : Int)] w (InsPost w ([⟨8, (q : Int), y, []⟩])) := by
 obtain ⟨ad, A5, c5, rfl, x0, x1, x2, y1, y2⟩ := last_op (W := U) (A := A) (pre := pre) (o := ⟨3, s, (q : Int)⟩) (by rw [List.length_append, List.length_singleton, hpl, ← hN]; exact hC)
 rw [hpl] at x0 x1 x2
 replace x0 := pw_cell_below hb x0
 replace x1 := pw_cell_below hb x1
 replace x2 := pw_cell_below hb x2
 simp only at x0 x1 x2 y1 y2
 have lx := World.block_lt_of_cell? _ _ x0
 have ew : IntKind.i64.wrap ((N : Int) - 1) = (p : Int) := (i64_w _).trans (by rw [wid (by omega) (by omega)]; omega)
 have e2 : (0 ≤ (p : Int)) = True := eq_true (by omega)
 have e3 : ((p : Int) < (N : Int)) = True := eq_true (by omega)
 have hb2 : Below w.heap.size w ((w.alloc (Obj.cells #[.slice A0 Rs.length c0, .slice A1 Ls.length c1] 31)).alloc (Obj.cells #[.int .i64 3, .slice A5 s.length c5, .int .i64 (q : Int)] 79)) := below_alloc (below_alloc (Below.refl _ _) _) _
 have hg := blk_alloc (blk_new w (Obj.cells #[.slice A0 Rs.length c0, .slice A1 Ls.length c1] 31)) (Obj.cells #[.int .i64 3, .slice A5 s.length c5, .int .i64 (q : Int)] 79)
 have hx := blk_new (w.alloc (Obj.cells #[.slice A0 Rs.length c0, .slice A1 Ls.length c1] 31)) (Obj.cells #[.int .i64 3, .slice A5 s.length c5, .int .i64 (q : Int)] 79)
 rw [World.size_alloc] at hx
 have HG0 := Aside0.mk hg
 have HX := Aside0.mk hx
 have HB2 := Aside0.mk hb2
 have HU2 := Aside0.mk (below_then hb hb.size hb2)
 have HSZ2 : Aside0 (((w.alloc (Obj.cells #[.slice A0 Rs.length c0, .slice A1 Ls.length c1] 31)).alloc (Obj.cells #[.int .i64 3, .slice A5 s.length c5, .int .i64 (q : Int)] 79)).heap.size = w.heap.size + 1 + 1) := ⟨by simp⟩
 have g0 := blk_cell hg 0
 have g1 := blk_cell hg 1
 have z0 := blk_cell hx 0
 have z1 := blk_cell hx 1
 have z2 := blk_cell hx 2
 clear hg hx hb2
 have HG := Aside0.mk hG
 have HB := Aside0.mk hb
 have HY := Aside0.mk y2
 have HY1 := Aside0.mk y1
 have HC := Aside0.mk hC
 clear hG hb y2 hC y1 hN hpl
 go_enter Try.func140, Try.ntmps140
 go_upto_region 12 with fail
 generalize (w.alloc (Obj.cells #[.slice A0 Rs.length c0, .slice A1 Ls.length c1] 31)).alloc (Obj.cells #[.int .i64 3, .slice A5 s.length c5, .int .i64 (q : Int)] 79) = W2 at *
 refine start_ (n := 10) (S := fun W' => W'.cell? ⟨w.heap.size, 0, none⟩ = some (.slice A0 Rs.length c0) ∧ W'.cell? ⟨w.heap.size, 1, none⟩ = some (.slice A1 Ls.length c1) ∧ W'.cell? ⟨w.heap.size + 1, 0, none⟩ = some (.int .i64 3) ∧ W'.cell? ⟨w.heap.size + 1, 1, none⟩ = some (.slice A5 s.length c5) ∧ W'.cell? ⟨w.heap.size + 1, 2, none⟩ = some (.int .i64 (q : Int))) (ds := []) #[false, false, false, false, false, false, false, false, false, false] (by kernel_rfl) rfl rfl (⟨g0, g1, z0, z1, z2⟩) (fun hHeld => ?_); refine with_tabW seT.tab seT.bits (fun HT_ HW_ => ?_)
 refine pu_ 0 53 HT_ ?_
 refine ta_ 1 54 HT_ HW_ hHeld ?_
 refine ta_ 2 55 HT_ HW_ hHeld ?_
 refine ta_ 3 56 HT_ HW_ hHeld ?_
 refine ta_ 4 57 HT_ HW_ hHeld ?_
 refine on_ 5 (some 58) HT_ (fun K hK => ?_)
 refine ge_ Try.func128 #[.agg #[.slice A0 Rs.length c0, .slice A1 Ls.length c1], .agg #[.int .i64 3, .slice A5 s.length c5, .int .i64 (q : Int)]] ?_
 refine (spec_l3target.calls A0 c0 Rs A1 c1 Ls 3 A5 c5 s (q : Int) (T : Int) _ (Kd.C_below HG.out.r (below_then HU2.out HU2.out.size (by repeat (first | exact Below.refl _ _ | apply Below.drew)))) HG.out.rc (Kd.C_below HG.out.l (below_then HU2.out HU2.out.size (by repeat (first | exact Below.refl _ _ | apply Below.drew)))) HG.out.lc (Kd.C_below (Kd.C_below HY.out HB.out) (below_then HB2.out HB2.out.size (by repeat (first | exact Below.refl _ _ | apply Below.drew)))) HY1.out HTG.out).mono ?_
 rintro e W3 ⟨rfl, hb0⟩
 refine ⟨_, rfl, ?_⟩
 have hb1 : Below W2.heap.size W2 W3 := below_then (by repeat (first | exact Below.refl _ _ | apply Below.drew)) (by simp) hb0
 have a0 := pw_cell_below hb1 g0
 have a1 := pw_cell_below hb1 g1
 have a2 := pw_cell_below hb1 z0
 have a3 := pw_cell_below hb1 z1
 have a4 := pw_cell_below hb1 z2
 have HU3 := Aside0.mk (below_then HU2.out HU2.out.size hb1)
 have HB3 := Aside0.mk (below_then HB2.out HB2.out.size hb1)
 clear hb0 hb1
 refine hK.out _ _ (⟨a0, a1, a2, a3, a4⟩) (fun hHeld => ?_)
 clear hK K
 refine no_ (some 58) ?_
 refine on_ 6 (some 59) HT_ (fun K hK => ?_)
 refine ge_ Try.func168 #[.agg #[.slice A0 Rs.length c0, .slice A1 Ls.length c1], .int .i64 (T : Int)] ?_
 refine (HPL.out _ (below_then HU3.out HU3.out.size (by repeat (first | exact Below.refl _ _ | apply Below.drew)))).mono ?_
 rintro e W4 ⟨rfl, hb0⟩
 refine ⟨_, rfl, ?_⟩
 have hb1 : Below W3.heap.size W3 W4 := below_then (by repeat (first | exact Below.refl _ _ | apply Below.drew)) (by simp) hb0
 have b0 := pw_cell_below hb1 a0
 have b1 := pw_cell_below hb1 a1
 have b2 := pw_cell_below hb1 a2
 have b3 := pw_cell_below hb1 a3
 have b4 := pw_cell_below hb1 a4
 have HB4 := Aside0.mk (below_then HB3.out HB3.out.size hb1)
 clear hb0 hb1
 refine hK.out _ _ (⟨b0, b1, b2, b3, b4⟩) (fun hHeld => ?_)
 clear hK K
 refine no_ (some 59) ?_
 refine pu_ 7 60 HT_ ?_
 refine on_ 8 (some 61) HT_ (fun K hK => ?_)
 refine value_ (w1 := ?_) (v := ?_) (by rfl) rfl ?_ ?_
 rotate_left 2
 ·go_simp; constructor <;> rfl
 refine hK.out _ _ (⟨pw_cell_below (below_alloc (Below.refl _ _).drew _) b0, pw_cell_below (below_alloc (Below.refl _ _).drew _) b1, pw_cell_below (below_alloc (Below.refl _ _).drew _) b2, pw_cell_below (below_alloc (Below.refl _ _).drew _) b3, pw_cell_below (below_alloc (Below.refl _ _).drew _) b4⟩) (fun hHeld => ?_)
 clear hK K
 refine no_ (some 61) ?_
 refine pu_ 9 6 HT_ ?_
 refine done_ (done_of HT_.out (by kernel_rfl)) ?_
 go_wp2_with fail
 go_ret
 exact ⟨_, fun _ => .slice none 0 0, rfl, InSt.one (x := ⟨8, (q : Int), y, []⟩) HB4.out.size (own_nil _ _ _ _) _ rfl, below_alloc HB4.out _⟩
set_option maxRecDepth 100000 in
set_option maxHeartbeats 8000000 in
theorem ex_star (U : World) (A0 A1 : Option Addr) (c0 c1 : Nat) (Rs : List Ru) (Ls : List La) (hG : GrC U A0 c0 A1 c1 Rs Ls) (w : World) (hb : Below U.heap.size U w) (A : Option Addr) (c at_ : Nat) (hat : at_ ≤ 1000000) (N p : Nat) (pre : List Op) (s : List Int) (a2 : Int) (z a1 en : Nat) (l2 : List In) (ha1 : a1 = at_ + 1) (hen : en = at_ + z) (hz : z ≤ 10000) (hl2 : l2.length ≤ 10000) (HSZ : Aside0 (∀ w', Below U.heap.size U w' → Calls Try.prog 169 #[.slice A N c] w' (fun e w2 => e = .returned (.int .i64 (z : Int)) ∧ Below w'.heap.size w' w2))) (IH : Aside0 (∀ w', Below U.heap.size U w' → Calls Try.prog 140 #[.agg #[.slice A0 Rs.length c0, .slice A1 Ls.length c1], .slice A p c, .int .i64 (a1 : Int)] w' (InsPost w' l2))) (hN : N = p + 1) (hpl : pre.length = p) (hp : p ≤ 2000) (hC : Kd.C k79 U A N (pre ++ [(⟨6, s, a2⟩ : Op)])) (hc : N ≤ c) :
 Calls Try.prog 140 #[.agg #[.slice A0 Rs.length c0, .slice A1 Ls.length c1], .slice A N c, .int .i64 (at_ : Int)] w (InsPost w ([⟨1, 0, (en : Int), []⟩] ++ l2 ++ [⟨3, 0, (a1 : Int), []⟩])) := by
 obtain ⟨ad, A5, c5, rfl, x0, x1, x2, y1, y2⟩ := last_op (W := U) (A := A) (pre := pre) (o := ⟨6, s, a2⟩) (by rw [List.length_append, List.length_singleton, hpl, ← hN]; exact hC)
 rw [hpl] at x0 x1 x2
 replace x0 := pw_cell_below hb x0
 replace x1 := pw_cell_below hb x1
 replace x2 := pw_cell_below hb x2
 simp only at x0 x1 x2 y1 y2
 have lx := World.block_lt_of_cell? _ _ x0
 have ew : IntKind.i64.wrap ((N : Int) - 1) = (p : Int) := (i64_w _).trans (by rw [wid (by omega) (by omega)]; omega)
 have e2 : (0 ≤ (p : Int)) = True := eq_true (by omega)
 have e3 : ((p : Int) < (N : Int)) = True := eq_true (by omega)
 have hb2 : Below w.heap.size w ((w.alloc (Obj.cells #[.slice A0 Rs.length c0, .slice A1 Ls.length c1] 31)).alloc (Obj.cells #[.int .i64 6, .slice A5 s.length c5, .int .i64 a2] 79)) := below_alloc (below_alloc (Below.refl _ _) _) _
 have hg := blk_alloc (blk_new w (Obj.cells #[.slice A0 Rs.length c0, .slice A1 Ls.length c1] 31)) (Obj.cells #[.int .i64 6, .slice A5 s.length c5, .int .i64 a2] 79)
 have hx := blk_new (w.alloc (Obj.cells #[.slice A0 Rs.length c0, .slice A1 Ls.length c1] 31)) (Obj.cells #[.int .i64 6, .slice A5 s.length c5, .int .i64 a2] 79)
 rw [World.size_alloc] at hx
 have HG0 := Aside0.mk hg
 have HX := Aside0.mk hx
 have HB2 := Aside0.mk hb2
 have HU2 := Aside0.mk (below_then hb hb.size hb2)
 have HSZ2 : Aside0 (((w.alloc (Obj.cells #[.slice A0 Rs.length c0, .slice A1 Ls.length c1] 31)).alloc (Obj.cells #[.int .i64 6, .slice A5 s.length c5, .int .i64 a2] 79)).heap.size = w.heap.size + 1 + 1) := ⟨by simp⟩
 obtain ⟨ii, hi, _, hsz, _⟩ := info_parts info79
 have hcut := cut_to (P := Try.prog) 66 79 .i64 Try.underlying66 hi (some ad) N c (p : Int) (by omega) (by omega) hc
 rw [Int.toNat_natCast] at hcut
 have ea1 : IntKind.i64.wrap ((at_ : Int) + 1) = (a1 : Int) := (i64_w _).trans (by rw [wid (by omega) (by omega)]; omega)
 have een : IntKind.i64.wrap ((at_ : Int) + (z : Int)) = (en : Int) := (i64_w _).trans (by rw [wid (by omega) (by omega)]; omega)
 clear hi hsz hg hx hb2 ha1 hen hz
 have HG := Aside0.mk hG
 have HB := Aside0.mk hb
 have HY := Aside0.mk y2
 have HY1 := Aside0.mk y1
 have HC := Aside0.mk hC
 clear hG hb y2 hC y1 hN hpl
 go_enter Try.func140, Try.ntmps140
 go_upto_region 22 with (go_at_call 169; refine (HSZ.out _ HU2.out).mono ?_; go_must (rintro e W2 ⟨rfl, hb⟩; have hg2 := blk_below HG0.out hb; have hx2 := blk_below HX.out hb; have u0 := blk_cell hg2 0; have u1 := blk_cell hg2 1; have v0 := blk_cell hx2 0; have lg := blk_lt hg2; have lx2 := blk_lt hx2; have HG2 := Aside0.mk hg2; have HU3 := Aside0.mk (below_then HU2.out HU2.out.size hb); have HB3 := Aside0.mk (below_then HB2.out HB2.out.size hb); clear hg2 hx2 hb))
 have e2s : ((W2.alloc (Obj.cells #[.int .i64 1, .int .i64 0, .int .i64 (en : Int), .slice none 0 0] 88)).alloc (Obj.cells #[.int .i64 3, .int .i64 0, .int .i64 (a1 : Int), .slice none 0 0] 88)).heap.size = W2.heap.size + 1 + 1 := by simp
 have e1s : (W2.alloc (Obj.cells #[.int .i64 1, .int .i64 0, .int .i64 (en : Int), .slice none 0 0] 88)).heap.size = W2.heap.size + 1 := by simp
 have hb5 : Below W2.heap.size W2 (((W2.alloc (Obj.cells #[.int .i64 1, .int .i64 0, .int .i64 (en : Int), .slice none 0 0] 88)).alloc (Obj.cells #[.int .i64 3, .int .i64 0, .int .i64 (a1 : Int), .slice none 0 0] 88)).alloc (Obj.cells #[.int .i64 1, .int .i64 0, .int .i64 (en : Int), .slice none 0 0] 88)) := below_alloc (below_alloc (below_alloc (Below.refl _ _) _) _) _
 have hi5 := InSt.one (W := (W2.alloc (Obj.cells #[.int .i64 1, .int .i64 0, .int .i64 (en : Int), .slice none 0 0] 88)).alloc (Obj.cells #[.int .i64 3, .int .i64 0, .int .i64 (a1 : Int), .slice none 0 0] 88)) (B := w.heap.size) (by have := HB3.out.size; omega) (s := .slice none 0 0) (x := ⟨1, 0, (en : Int), []⟩) (own_nil _ _ _ _) (fun _ => .slice none 0 0) rfl
 rw [e2s] at hi5
 have hl5 := blk_alloc (blk_new (W2.alloc (Obj.cells #[.int .i64 1, .int .i64 0, .int .i64 (en : Int), .slice none 0 0] 88)) (Obj.cells #[.int .i64 3, .int .i64 0, .int .i64 (a1 : Int), .slice none 0 0] 88)) (Obj.cells #[.int .i64 1, .int .i64 0, .int .i64 (en : Int), .slice none 0 0] 88)
 rw [e1s] at hl5
 have hg5 := blk_below HG2.out hb5
 have w0 := blk_cell hg5 0
 have w1 := blk_cell hg5 1
 have HG5 := Aside0.mk hg5
 have HI5 := Aside0.mk hi5
 have HL5 := Aside0.mk hl5
 have HU5 := Aside0.mk (below_then HU3.out HU3.out.size hb5)
 have HB5 := Aside0.mk (below_then HB3.out HB3.out.size hb5)
 clear hi5 hl5 hg5 hb5 e1s e2s u0 u1 v0
 generalize ((W2.alloc (Obj.cells #[.int .i64 1, .int .i64 0, .int .i64 (en : Int), .slice none 0 0] 88)).alloc (Obj.cells #[.int .i64 3, .int .i64 0, .int .i64 (a1 : Int), .slice none 0 0] 88)).alloc (Obj.cells #[.int .i64 1, .int .i64 0, .int .i64 (en : Int), .slice none 0 0] 88) = W5 at *
 go_wp2_with (first
  | ((with_reducible refine gate_dst (N := 100) rfl ?_); go_must (refine ins_append HI7.out HB7.out.size (below_alloc (Below.refl _ _) (Obj.cells #[.int .i64 3, .int .i64 0, .int .i64 (a1 : Int), .slice none 0 0] 88)) (InSt.one (Nat.le_refl _) (s := .slice none 0 0) (x := ⟨3, 0, (a1 : Int), []⟩) (own_nil _ _ _ _) (fun _ => .slice none 0 0) rfl) (by simp; omega) rfl _ _ rfl rfl rfl ?_; intro A8 n8 c8 W8 HI8 hg8; have HB8 := Aside0.mk (HI7.out.bel (below_alloc HB7.out (Obj.cells #[.int .i64 3, .int .i64 0, .int .i64 (a1 : Int), .slice none 0 0] 88)) hg8.out); clear hg8))
  | ((with_reducible refine gate_dst (N := 96) rfl ?_); go_must (refine ins_append HI5.out HB5.out.size HB56.out HI6.out (by simp; omega) rfl _ _ rfl rfl rfl ?_; intro A7 n7 c7 W7 HI7 hg7; have HB7 := Aside0.mk (HI5.out.bel (below_then HB5.out HB5.out.size HB56.out) hg7.out); have hl7 := blk_grown (blk_below HL5.out HB56.out) hg7.out (by simp [Value.ownBlock]); have y0 := blk_cell hl7 0; have y1 := blk_cell hl7 1; have y2 := blk_cell hl7 2; have y3 := blk_cell hl7 3; have ly := blk_lt hl7; clear hg7 hl7))
  | (go_at_call 140; refine (IH.out _ HU5.out).mono ?_; go_must (rintro e W6 ⟨v2, sv2, rfl, hI, hb⟩; have HI6 := Aside0.mk hI; have HB56 := Aside0.mk hb; clear hI hb)))
 go_ret
 exact ⟨_, _, rfl, HI8.out, HB8.out⟩
set_option maxRecDepth 100000 in
set_option maxHeartbeats 8000000 in
theorem ex_neg (U : World) (A0 A1 : Option Addr) (c0 c1 : Nat) (Rs : List Ru) (Ls : List La) (hG : GrC U A0 c0 A1 c1 Rs Ls) (w : World) (hb : Below U.heap.size U w) (A : Option Addr) (c at_ : Nat) (hat : at_ ≤ 1000000) (N p : Nat) (pre : List Op) (s : List Int) (a2 : Int) (z a1 en : Nat) (l2 : List In) (ha1 : a1 = at_ + 1) (hen : en = at_ + z) (hz : z ≤ 10000) (hl2 : l2.length ≤ 10000) (HSZ : Aside0 (∀ w', Below U.heap.size U w' → Calls Try.prog 169 #[.slice A N c] w' (fun e w2 => e = .returned (.int .i64 (z : Int)) ∧ Below w'.heap.size w' w2))) (IH : Aside0 (∀ w', Below U.heap.size U w' → Calls Try.prog 140 #[.agg #[.slice A0 Rs.length c0, .slice A1 Ls.length c1], .slice A p c, .int .i64 (a1 : Int)] w' (InsPost w' l2))) (hN : N = p + 1) (hpl : pre.length = p) (hp : p ≤ 2000) (hC : Kd.C k79 U A N (pre ++ [(⟨7, s, a2⟩ : Op)])) (hc : N ≤ c) :
 Calls Try.prog 140 #[.agg #[.slice A0 Rs.length c0, .slice A1 Ls.length c1], .slice A N c, .int .i64 (at_ : Int)] w (InsPost w ([⟨4, 0, (en : Int), []⟩] ++ l2 ++ [⟨5, 0, 0, []⟩])) := by
 obtain ⟨ad, A5, c5, rfl, x0, x1, x2, y1, y2⟩ := last_op (W := U) (A := A) (pre := pre) (o := ⟨7, s, a2⟩) (by rw [List.length_append, List.length_singleton, hpl, ← hN]; exact hC)
 rw [hpl] at x0 x1 x2
 replace x0 := pw_cell_below hb x0
 replace x1 := pw_cell_below hb x1
 replace x2 := pw_cell_below hb x2
 simp only at x0 x1 x2 y1 y2
 have lx := World.block_lt_of_cell? _ _ x0
 have ew : IntKind.i64.wrap ((N : Int) - 1) = (p : Int) := (i64_w _).trans (by rw [wid (by omega) (by omega)]; omega)
 have e2 : (0 ≤ (p : Int)) = True := eq_true (by omega)
 have e3 : ((p : Int) < (N : Int)) = True := eq_true (by omega)
 have hb2 : Below w.heap.size w ((w.alloc (Obj.cells #[.slice A0 Rs.length c0, .slice A1 Ls.length c1] 31)).alloc (Obj.cells #[.int .i64 7, .slice A5 s.length c5, .int .i64 a2] 79)) := below_alloc (below_alloc (Below.refl _ _) _) _
 have hg := blk_alloc (blk_new w (Obj.cells #[.slice A0 Rs.length c0, .slice A1 Ls.length c1] 31)) (Obj.cells #[.int .i64 7, .slice A5 s.length c5, .int .i64 a2] 79)
 have hx := blk_new (w.alloc (Obj.cells #[.slice A0 Rs.length c0, .slice A1 Ls.length c1] 31)) (Obj.cells #[.int .i64 7, .slice A5 s.length c5, .int .i64 a2] 79)
 rw [World.size_alloc] at hx
 have HG0 := Aside0.mk hg
 have HX := Aside0.mk hx
 have HB2 := Aside0.mk hb2
 have HU2 := Aside0.mk (below_then hb hb.size hb2)
 have HSZ2 : Aside0 (((w.alloc (Obj.cells #[.slice A0 Rs.length c0, .slice A1 Ls.length c1] 31)).alloc (Obj.cells #[.int .i64 7, .slice A5 s.length c5, .int .i64 a2] 79)).heap.size = w.heap.size + 1 + 1) := ⟨by simp⟩
 obtain ⟨ii, hi, _, hsz, _⟩ := info_parts info79
 have hcut := cut_to (P := Try.prog) 66 79 .i64 Try.underlying66 hi (some ad) N c (p : Int) (by omega) (by omega) hc
 rw [Int.toNat_natCast] at hcut
 have ea1 : IntKind.i64.wrap ((at_ : Int) + 1) = (a1 : Int) := (i64_w _).trans (by rw [wid (by omega) (by omega)]; omega)
 have een : IntKind.i64.wrap ((at_ : Int) + (z : Int)) = (en : Int) := (i64_w _).trans (by rw [wid (by omega) (by omega)]; omega)
 clear hi hsz hg hx hb2 ha1 hen hz
 have HG := Aside0.mk hG
 have HB := Aside0.mk hb
 have HY := Aside0.mk y2
 have HY1 := Aside0.mk y1
 have HC := Aside0.mk hC
 clear hG hb y2 hC y1 hN hpl
 go_enter Try.func140, Try.ntmps140
 go_upto_region 22 with (go_at_call 169; refine (HSZ.out _ HU2.out).mono ?_; go_must (rintro e W2 ⟨rfl, hb⟩; have hg2 := blk_below HG0.out hb; have hx2 := blk_below HX.out hb; have u0 := blk_cell hg2 0; have u1 := blk_cell hg2 1; have v0 := blk_cell hx2 0; have lg := blk_lt hg2; have lx2 := blk_lt hx2; have HG2 := Aside0.mk hg2; have HU3 := Aside0.mk (below_then HU2.out HU2.out.size hb); have HB3 := Aside0.mk (below_then HB2.out HB2.out.size hb); clear hg2 hx2 hb))
 have e2s : ((W2.alloc (Obj.cells #[.int .i64 4, .int .i64 0, .int .i64 (en : Int), .slice none 0 0] 88)).alloc (Obj.cells #[.int .i64 5, .int .i64 0, .int .i64 0, .slice none 0 0] 88)).heap.size = W2.heap.size + 1 + 1 := by simp
 have e1s : (W2.alloc (Obj.cells #[.int .i64 4, .int .i64 0, .int .i64 (en : Int), .slice none 0 0] 88)).heap.size = W2.heap.size + 1 := by simp
 have hb5 : Below W2.heap.size W2 (((W2.alloc (Obj.cells #[.int .i64 4, .int .i64 0, .int .i64 (en : Int), .slice none 0 0] 88)).alloc (Obj.cells #[.int .i64 5, .int .i64 0, .int .i64 0, .slice none 0 0] 88)).alloc (Obj.cells #[.int .i64 4, .int .i64 0, .int .i64 (en : Int), .slice none 0 0] 88)) := below_alloc (below_alloc (below_alloc (Below.refl _ _) _) _) _
 have hi5 := InSt.one (W := (W2.alloc (Obj.cells #[.int .i64 4, .int .i64 0, .int .i64 (en : Int), .slice none 0 0] 88)).alloc (Obj.cells #[.int .i64 5, .int .i64 0, .int .i64 0, .slice none 0 0] 88)) (B := w.heap.size) (by have := HB3.out.size; omega) (s := .slice none 0 0) (x := ⟨4, 0, (en : Int), []⟩) (own_nil _ _ _ _) (fun _ => .slice none 0 0) rfl
 rw [e2s] at hi5
 have hl5 := blk_alloc (blk_new (W2.alloc (Obj.cells #[.int .i64 4, .int .i64 0, .int .i64 (en : Int), .slice none 0 0] 88)) (Obj.cells #[.int .i64 5, .int .i64 0, .int .i64 0, .slice none 0 0] 88)) (Obj.cells #[.int .i64 4, .int .i64 0, .int .i64 (en : Int), .slice none 0 0] 88)
 rw [e1s] at hl5
 have hg5 := blk_below HG2.out hb5
 have w0 := blk_cell hg5 0
 have w1 := blk_cell hg5 1
 have HG5 := Aside0.mk hg5
 have HI5 := Aside0.mk hi5
 have HL5 := Aside0.mk hl5
 have HU5 := Aside0.mk (below_then HU3.out HU3.out.size hb5)
 have HB5 := Aside0.mk (below_then HB3.out HB3.out.size hb5)
 clear hi5 hl5 hg5 hb5 e1s e2s u0 u1 v0
 generalize ((W2.alloc (Obj.cells #[.int .i64 4, .int .i64 0, .int .i64 (en : Int), .slice none 0 0] 88)).alloc (Obj.cells #[.int .i64 5, .int .i64 0, .int .i64 0, .slice none 0 0] 88)).alloc (Obj.cells #[.int .i64 4, .int .i64 0, .int .i64 (en : Int), .slice none 0 0] 88) = W5 at *
 go_wp2_with (first
  | ((with_reducible refine gate_dst (N := 100) rfl ?_); go_must (refine ins_append HI7.out HB7.out.size (below_alloc (Below.refl _ _) (Obj.cells #[.int .i64 5, .int .i64 0, .int .i64 0, .slice none 0 0] 88)) (InSt.one (Nat.le_refl _) (s := .slice none 0 0) (x := ⟨5, 0, 0, []⟩) (own_nil _ _ _ _) (fun _ => .slice none 0 0) rfl) (by simp; omega) rfl _ _ rfl rfl rfl ?_; intro A8 n8 c8 W8 HI8 hg8; have HB8 := Aside0.mk (HI7.out.bel (below_alloc HB7.out (Obj.cells #[.int .i64 5, .int .i64 0, .int .i64 0, .slice none 0 0] 88)) hg8.out); clear hg8))
  | ((with_reducible refine gate_dst (N := 96) rfl ?_); go_must (refine ins_append HI5.out HB5.out.size HB56.out HI6.out (by simp; omega) rfl _ _ rfl rfl rfl ?_; intro A7 n7 c7 W7 HI7 hg7; have HB7 := Aside0.mk (HI5.out.bel (below_then HB5.out HB5.out.size HB56.out) hg7.out); have hl7 := blk_grown (blk_below HL5.out HB56.out) hg7.out (by simp [Value.ownBlock]); have y0 := blk_cell hl7 0; have y1 := blk_cell hl7 1; have y2 := blk_cell hl7 2; have y3 := blk_cell hl7 3; have ly := blk_lt hl7; clear hg7 hl7))
  | (go_at_call 140; refine (IH.out _ HU5.out).mono ?_; go_must (rintro e W6 ⟨v2, sv2, rfl, hI, hb⟩; have HI6 := Aside0.mk hI; have HB56 := Aside0.mk hb; clear hI hb)))
 go_ret
 exact ⟨_, _, rfl, HI8.out, HB8.out⟩
set_option maxRecDepth 100000 in
set_option maxHeartbeats 8000000 in
theorem ex_seq (U : World) (A0 A1 : Option Addr) (c0 c1 : Nat) (Rs : List Ru) (Ls : List La) (hG : GrC U A0 c0 A1 c1 Rs Ls) (w : World) (hb : Below U.heap.size U w) (A : Option Addr) (c at_ : Nat) (hat : at_ ≤ 1000000) (N p : Nat) (pre : List Op) (s : List Int) (a2 : Int) (a bl cr zx : Nat) (Ar : Option Addr) (l1 l2 : List In) (hap : a ≤ p) (hAr : Ar = if c = a then A else A.map (·.add (a * 3))) (hbl1 : bl = p - a) (hcr : cr = c - a) (hzx : zx ≤ 10000) (hl1 : l1.length ≤ 10000) (hl2 : l2.length ≤ 10000) (HS : Aside0 (∀ w', Below U.heap.size U w' → Calls Try.prog 129 #[.slice A N c, .int .i64 (p : Int)] w' (fun e w2 => e = .returned (.int .i64 (a : Int)) ∧ Below w'.heap.size w' w2))) (HZX : Aside0 (∀ w', Below U.heap.size U w' → Calls Try.prog 169 #[.slice A a c] w' (fun e w2 => e = .returned (.int .i64 (zx : Int)) ∧ Below w'.heap.size w' w2))) (at2 : Nat) (hat2 : at2 = at_ + zx) (IHL : Aside0 (∀ w', Below U.heap.size U w' → Calls Try.prog 140 #[.agg #[.slice A0 Rs.length c0, .slice A1 Ls.length c1], .slice A a c, .int .i64 (at_ : Int)] w' (InsPost w' l1))) (IHR : Aside0 (∀ w', Below U.heap.size U w' → Calls Try.prog 140 #[.agg #[.slice A0 Rs.length c0, .slice A1 Ls.length c1], .slice Ar bl cr, .int .i64 (at2 : Int)] w' (InsPost w' l2))) (hN : N = p + 1) (hpl : pre.length = p) (hp : p ≤ 2000) (hC : Kd.C k79 U A N (pre ++ [(⟨4, s, a2⟩ : Op)])) (hc : N ≤ c) :
 Calls Try.prog 140 #[.agg #[.slice A0 Rs.length c0, .slice A1 Ls.length c1], .slice A N c, .int .i64 (at_ : Int)] w (InsPost w (l1 ++ l2)) := by
 obtain ⟨ad, A5, c5, rfl, x0, x1, x2, y1, y2⟩ := last_op (W := U) (A := A) (pre := pre) (o := ⟨4, s, a2⟩) (by rw [List.length_append, List.length_singleton, hpl, ← hN]; exact hC)
 rw [hpl] at x0 x1 x2
 replace x0 := pw_cell_below hb x0
 replace x1 := pw_cell_below hb x1
 replace x2 := pw_cell_below hb x2
 simp only at x0 x1 x2 y1 y2
 have lx := World.block_lt_of_cell? _ _ x0
 have ew : IntKind.i64.wrap ((N : Int) - 1) = (p : Int) := (i64_w _).trans (by rw [wid (by omega) (by omega)]; omega)
 have e2 : (0 ≤ (p : Int)) = True := eq_true (by omega)
 have e3 : ((p : Int) < (N : Int)) = True := eq_true (by omega)
 have hb2 : Below w.heap.size w ((w.alloc (Obj.cells #[.slice A0 Rs.length c0, .slice A1 Ls.length c1] 31)).alloc (Obj.cells #[.int .i64 4, .slice A5 s.length c5, .int .i64 a2] 79)) := below_alloc (below_alloc (Below.refl _ _) _) _
 have hg := blk_alloc (blk_new w (Obj.cells #[.slice A0 Rs.length c0, .slice A1 Ls.length c1] 31)) (Obj.cells #[.int .i64 4, .slice A5 s.length c5, .int .i64 a2] 79)
 have hx := blk_new (w.alloc (Obj.cells #[.slice A0 Rs.length c0, .slice A1 Ls.length c1] 31)) (Obj.cells #[.int .i64 4, .slice A5 s.length c5, .int .i64 a2] 79)
 rw [World.size_alloc] at hx
 have HG0 := Aside0.mk hg
 have HX := Aside0.mk hx
 have HB2 := Aside0.mk hb2
 have HU2 := Aside0.mk (below_then hb hb.size hb2)
 have HSZ2 : Aside0 (((w.alloc (Obj.cells #[.slice A0 Rs.length c0, .slice A1 Ls.length c1] 31)).alloc (Obj.cells #[.int .i64 4, .slice A5 s.length c5, .int .i64 a2] 79)).heap.size = w.heap.size + 1 + 1) := ⟨by simp⟩
 obtain ⟨ii, hi, _, hsz, _⟩ := info_parts info79
 have hcutA := cut_to (P := Try.prog) 66 79 .i64 Try.underlying66 hi (some ad) N c (a : Int) (by omega) (by omega) hc
 rw [Int.toNat_natCast] at hcutA
 have hcutB := cut_mid (P := Try.prog) 66 79 .i64 .i64 Try.underlying66 hi 3 hsz (some ad) N c (a : Int) (p : Int) (by omega) (by omega) (by omega) hc
 rw [Int.toNat_natCast, Int.toNat_natCast, ← hAr, ← hbl1, ← hcr] at hcutB
 clear hi hsz hg hx hb2 hAr hbl1 hcr
 have e2a : IntKind.i64.wrap ((at_ : Int) + (zx : Int)) = (at2 : Int) := (i64_w _).trans (by rw [wid (by omega) (by omega)]; omega)
 clear hat2
 have HG := Aside0.mk hG
 have HB := Aside0.mk hb
 have HY := Aside0.mk y2
 have HY1 := Aside0.mk y1
 have HC := Aside0.mk hC
 clear hG hb y2 hC y1 hN hpl
 go_enter Try.func140, Try.ntmps140
 go_upto_region 29 with (first
  | (go_at_call 140; refine (IHL.out _ HU3.out).mono ?_; go_must (rintro e W3 ⟨v1, sv1, rfl, hI, hb⟩; have hg3 := blk_below HG2.out hb; have w0 := blk_cell hg3 0; have w1 := blk_cell hg3 1; have HG3 := Aside0.mk hg3; have HU4 := Aside0.mk (below_then HU3.out HU3.out.size hb); have HB4 := Aside0.mk (below_then HB3.out HB3.out.size hb); have HI3 := Aside0.mk (hI.lower HB3.out.size); clear hg3 hI hb))
  | (go_at_call 129; refine (HS.out _ HU2.out).mono ?_; go_must (rintro e W2 ⟨rfl, hb⟩; have hg2 := blk_below HG0.out hb; have hx2 := blk_below HX.out hb; have u0 := blk_cell hg2 0; have u1 := blk_cell hg2 1; have v0 := blk_cell hx2 0; have lg := blk_lt hg2; have lx2 := blk_lt hx2; have HG2 := Aside0.mk hg2; have HU3 := Aside0.mk (below_then HU2.out HU2.out.size hb); have HB3 := Aside0.mk (below_then HB2.out HB2.out.size hb); clear hg2 hx2 hb)))
 obtain ⟨A3, c3, rfl⟩ := HI3.out.form
 refine start_ (n := 10) (S := fun W' => W'.cell? ⟨w.heap.size, 0, none⟩ = some (.slice A0 Rs.length c0) ∧ W'.cell? ⟨w.heap.size, 1, none⟩ = some (.slice A1 Ls.length c1)) (ds := []) #[false, false, false, false, false, false, false, false, false, false] (by kernel_rfl) rfl rfl (⟨w0, w1⟩) (fun hHeld => ?_); refine with_tabW seS.tab seS.bits (fun HT_ HW_ => ?_)
 refine pu_ 0 120 HT_ ?_
 refine ta_ 1 121 HT_ HW_ hHeld ?_
 refine pu_ 2 122 HT_ ?_
 refine pu_ 3 123 HT_ ?_
 refine pu_ 4 124 HT_ ?_
 refine on_ 5 (some 125) HT_ (fun K hK => ?_)
 refine ge_ Try.func169 #[.slice (some ad) a c] ?_
 refine (HZX.out _ (below_then HU4.out HU4.out.size (by repeat (first | exact Below.refl _ _ | apply Below.drew)))).mono ?_
 rintro e W4 ⟨rfl, hb0⟩
 refine ⟨_, rfl, ?_⟩
 have hb1 : Below W3.heap.size W3 W4 := below_then (by repeat (first | exact Below.refl _ _ | apply Below.drew)) (by simp) hb0
 have hg4 := blk_below HG3.out hb1
 have a0 := blk_cell hg4 0
 have a1 := blk_cell hg4 1
 have HG4 := Aside0.mk hg4
 have HU5 := Aside0.mk (below_then HU4.out HU4.out.size hb1)
 have HB34 := Aside0.mk hb1
 clear hb0 hb1 hg4
 refine hK.out _ _ (⟨a0, a1⟩) (fun hHeld => ?_)
 clear hK K
 refine no_ (some 125) ?_
 refine pu_ 6 126 HT_ ?_
 refine on_ 7 (some 127) HT_ (fun K hK => ?_)
 refine ge_ Try.func140 #[.agg #[.slice A0 Rs.length c0, .slice A1 Ls.length c1], .slice Ar bl cr, .int .i64 (at2 : Int)] ?_
 refine (IHR.out _ (below_then HU5.out HU5.out.size (by repeat (first | exact Below.refl _ _ | apply Below.drew)))).mono ?_
 rintro e W5 ⟨v2, sv2, rfl, hI, hb0⟩
 refine ⟨_, rfl, ?_⟩
 have hb1 : Below W4.heap.size W4 W5 := below_then (by repeat (first | exact Below.refl _ _ | apply Below.drew)) (by simp) hb0
 have hg5 := blk_below HG4.out hb1
 have b0 := blk_cell hg5 0
 have b1 := blk_cell hg5 1
 have HG5 := Aside0.mk hg5
 have HI5 := Aside0.mk (hI.lower (B' := W3.heap.size) (by have := HB34.out.size; simp; omega))
 have HB35 := Aside0.mk (below_then HB34.out HB34.out.size hb1)
 clear hb0 hb1 hg5 hI
 refine hK.out _ _ (⟨b0, b1⟩) (fun hHeld => ?_)
 clear hK K
 refine no_ (some 127) ?_
 refine on_ 8 (some 128) HT_ (fun K hK => ?_)
 refine ins_append_step HI3.out HB4.out.size (below_then HB35.out HB35.out.size (by repeat (first | exact Below.refl _ _ | apply Below.drew))) (HI5.out.below (by repeat (first | exact Below.refl _ _ | apply Below.drew))) (by omega) rfl _ _ rfl rfl rfl ?_
 intro A6 n6 c6 W6 HI6 hg6
 have HB6 := Aside0.mk (HI3.out.bel (below_then (below_then HB4.out HB4.out.size HB35.out) (Nat.le_trans HB4.out.size HB35.out.size) (by repeat (first | exact Below.refl _ _ | apply Below.drew))) hg6.out)
 have hg7 := HI3.out.boxKept (below_then HB35.out HB35.out.size (by repeat (first | exact Below.refl _ _ | apply Below.drew))) hg6.out (blk_below HG5.out (by repeat (first | exact Below.refl _ _ | apply Below.drew))) (by decide)
 have d0 := blk_cell hg7 0
 have d1 := blk_cell hg7 1
 clear hg6 hg7
 refine hK.out _ _ (⟨d0, d1⟩) (fun hHeld => ?_)
 clear hK K
 refine no_ (some 128) ?_
 refine pu_ 9 6 HT_ ?_
 refine done_ (done_of HT_.out (by kernel_rfl)) ?_
 go_wp2_with fail
 go_ret
 exact ⟨_, _, rfl, HI6.out, HB6.out⟩
set_option maxRecDepth 100000 in
set_option maxHeartbeats 8000000 in
theorem ex_alt (U : World) (A0 A1 : Option Addr) (c0 c1 : Nat) (Rs : List Ru) (Ls : List La) (hG : GrC U A0 c0 A1 c1 Rs Ls) (w : World) (hb : Below U.heap.size U w) (A : Option Addr) (c at_ : Nat) (hat : at_ ≤ 1000000) (N p : Nat) (pre : List Op) (s : List Int) (a2 : Int) (a bl cr zx : Nat) (Ar : Option Addr) (l1 l2 : List In) (hap : a ≤ p) (hAr : Ar = if c = a then A else A.map (·.add (a * 3))) (hbl1 : bl = p - a) (hcr : cr = c - a) (hzx : zx ≤ 10000) (hl1 : l1.length ≤ 10000) (hl2 : l2.length ≤ 10000) (HS : Aside0 (∀ w', Below U.heap.size U w' → Calls Try.prog 129 #[.slice A N c, .int .i64 (p : Int)] w' (fun e w2 => e = .returned (.int .i64 (a : Int)) ∧ Below w'.heap.size w' w2))) (HZX : Aside0 (∀ w', Below U.heap.size U w' → Calls Try.prog 169 #[.slice A a c] w' (fun e w2 => e = .returned (.int .i64 (zx : Int)) ∧ Below w'.heap.size w' w2))) (a1 zt m1 rt en : Nat) (ha1 : a1 = at_ + 1) (hm1 : m1 = at_ + zx) (hrt : rt = at_ + zx + 2) (hen : en = at_ + zt) (hzt : zt ≤ 10000) (HZT : Aside0 (∀ w', Below U.heap.size U w' → Calls Try.prog 169 #[.slice A N c] w' (fun e w2 => e = .returned (.int .i64 (zt : Int)) ∧ Below w'.heap.size w' w2))) (IHL : Aside0 (∀ w', Below U.heap.size U w' → Calls Try.prog 140 #[.agg #[.slice A0 Rs.length c0, .slice A1 Ls.length c1], .slice A a c, .int .i64 (a1 : Int)] w' (InsPost w' l1))) (IHR : Aside0 (∀ w', Below U.heap.size U w' → Calls Try.prog 140 #[.agg #[.slice A0 Rs.length c0, .slice A1 Ls.length c1], .slice Ar bl cr, .int .i64 (rt : Int)] w' (InsPost w' l2))) (hN : N = p + 1) (hpl : pre.length = p) (hp : p ≤ 2000) (hC : Kd.C k79 U A N (pre ++ [(⟨5, s, a2⟩ : Op)])) (hc : N ≤ c) :
 Calls Try.prog 140 #[.agg #[.slice A0 Rs.length c0, .slice A1 Ls.length c1], .slice A N c, .int .i64 (at_ : Int)] w (InsPost w ([⟨1, 0, (rt : Int), []⟩] ++ l1 ++ [⟨2, 0, (en : Int), []⟩] ++ l2)) := by
 obtain ⟨ad, A5, c5, rfl, x0, x1, x2, y1, y2⟩ := last_op (W := U) (A := A) (pre := pre) (o := ⟨5, s, a2⟩) (by rw [List.length_append, List.length_singleton, hpl, ← hN]; exact hC)
 rw [hpl] at x0 x1 x2
 replace x0 := pw_cell_below hb x0
 replace x1 := pw_cell_below hb x1
 replace x2 := pw_cell_below hb x2
 simp only at x0 x1 x2 y1 y2
 have lx := World.block_lt_of_cell? _ _ x0
 have ew : IntKind.i64.wrap ((N : Int) - 1) = (p : Int) := (i64_w _).trans (by rw [wid (by omega) (by omega)]; omega)
 have e2 : (0 ≤ (p : Int)) = True := eq_true (by omega)
 have e3 : ((p : Int) < (N : Int)) = True := eq_true (by omega)
 have hb2 : Below w.heap.size w ((w.alloc (Obj.cells #[.slice A0 Rs.length c0, .slice A1 Ls.length c1] 31)).alloc (Obj.cells #[.int .i64 5, .slice A5 s.length c5, .int .i64 a2] 79)) := below_alloc (below_alloc (Below.refl _ _) _) _
 have hg := blk_alloc (blk_new w (Obj.cells #[.slice A0 Rs.length c0, .slice A1 Ls.length c1] 31)) (Obj.cells #[.int .i64 5, .slice A5 s.length c5, .int .i64 a2] 79)
 have hx := blk_new (w.alloc (Obj.cells #[.slice A0 Rs.length c0, .slice A1 Ls.length c1] 31)) (Obj.cells #[.int .i64 5, .slice A5 s.length c5, .int .i64 a2] 79)
 rw [World.size_alloc] at hx
 have HG0 := Aside0.mk hg
 have HX := Aside0.mk hx
 have HB2 := Aside0.mk hb2
 have HU2 := Aside0.mk (below_then hb hb.size hb2)
 have HSZ2 : Aside0 (((w.alloc (Obj.cells #[.slice A0 Rs.length c0, .slice A1 Ls.length c1] 31)).alloc (Obj.cells #[.int .i64 5, .slice A5 s.length c5, .int .i64 a2] 79)).heap.size = w.heap.size + 1 + 1) := ⟨by simp⟩
 obtain ⟨ii, hi, _, hsz, _⟩ := info_parts info79
 have hcutA := cut_to (P := Try.prog) 66 79 .i64 Try.underlying66 hi (some ad) N c (a : Int) (by omega) (by omega) hc
 rw [Int.toNat_natCast] at hcutA
 have hcutB := cut_mid (P := Try.prog) 66 79 .i64 .i64 Try.underlying66 hi 3 hsz (some ad) N c (a : Int) (p : Int) (by omega) (by omega) (by omega) hc
 rw [Int.toNat_natCast, Int.toNat_natCast, ← hAr, ← hbl1, ← hcr] at hcutB
 clear hi hsz hg hx hb2 hAr hbl1 hcr
 have ea1 : IntKind.i64.wrap ((at_ : Int) + 1) = (a1 : Int) := (i64_w _).trans (by rw [wid (by omega) (by omega)]; omega)
 have em1 : IntKind.i64.wrap ((at_ : Int) + (zx : Int)) = (m1 : Int) := (i64_w _).trans (by rw [wid (by omega) (by omega)]; omega)
 have ert : IntKind.i64.wrap ((m1 : Int) + 2) = (rt : Int) := (i64_w _).trans (by rw [wid (by omega) (by omega)]; omega)
 have een : IntKind.i64.wrap ((at_ : Int) + (zt : Int)) = (en : Int) := (i64_w _).trans (by rw [wid (by omega) (by omega)]; omega)
 clear ha1 hm1 hrt hen hzt
 have HG := Aside0.mk hG
 have HB := Aside0.mk hb
 have HY := Aside0.mk y2
 have HY1 := Aside0.mk y1
 have HC := Aside0.mk hC
 clear hG hb y2 hC y1 hN hpl
 go_enter Try.func140, Try.ntmps140
 go_wp2_with (first
  | ((with_reducible refine gate_dst (N := 157) rfl ?_); go_must (refine ins_append HI7.out HB7.out.size HB78.out HI8.out (by simp; omega) rfl _ _ rfl rfl rfl ?_; intro A9 n9 c9 W9 HI9 hg9; have HB9 := Aside0.mk (HI7.out.bel (below_then HB7.out HB7.out.size HB78.out) hg9.out); clear hg9))
  | (go_at_call 140; refine (IHR.out _ HU7.out).mono ?_; go_must (rintro e W8 ⟨v8, sv8, rfl, hI, hb⟩; have HI8 := Aside0.mk hI; have HB78 := Aside0.mk hb; clear hI hb))
  | ((with_reducible refine gate_dst (N := 151) rfl ?_); go_must (refine ins_append (HI5.out.below HB56.out) HB6.out.size (below_alloc (Below.refl _ _) (Obj.cells #[.int .i64 2, .int .i64 0, .int .i64 (en : Int), .slice none 0 0] 88)) (InSt.one (Nat.le_refl _) (s := .slice none 0 0) (x := ⟨2, 0, (en : Int), []⟩) (own_nil _ _ _ _) (fun _ => .slice none 0 0) rfl) (by simp; omega) rfl _ _ rfl rfl rfl ?_; intro A7 n7 c7 W7 HI7 hg7; have HB7 := Aside0.mk ((HI5.out.below HB56.out).bel (below_alloc HB6.out (Obj.cells #[.int .i64 2, .int .i64 0, .int .i64 (en : Int), .slice none 0 0] 88)) hg7.out); have hgk := (HI5.out.below HB56.out).boxKept (below_alloc (Below.refl _ _) (Obj.cells #[.int .i64 2, .int .i64 0, .int .i64 (en : Int), .slice none 0 0] 88)) hg7.out (blk_below HG6.out (below_alloc (Below.refl _ _) (Obj.cells #[.int .i64 2, .int .i64 0, .int .i64 (en : Int), .slice none 0 0] 88))) (by decide); have p0 := blk_cell hgk 0; have p1 := blk_cell hgk 1; have lp := blk_lt hgk; have HU7 := Aside0.mk (below_then HB.out HB.out.size HB7.out); clear hg7 hgk))
  | (go_at_call 169; refine (HZT.out _ HU5.out).mono ?_; go_must (rintro e W6 ⟨rfl, hb⟩; have hg6 := blk_below HG5.out hb; have n0 := blk_cell hg6 0; have n1 := blk_cell hg6 1; have HG6 := Aside0.mk hg6; have HB6 := Aside0.mk (below_then HB5.out HB5.out.size hb); have HB56 := Aside0.mk hb; clear hg6 hb))
  | ((with_reducible refine gate_dst (N := 143) rfl ?_); go_must (refine ins_append HI4.out HB4.out.size HB4b.out HI4b.out (by simp; omega) rfl _ _ rfl rfl rfl ?_; intro A5' n5 c5' W5 HI5 hg5; have HB5 := Aside0.mk (HI4.out.bel (below_then HB4.out HB4.out.size HB4b.out) hg5.out); have hgk := HI4.out.boxKept HB4b.out hg5.out HG4.out (by decide); have q0 := blk_cell hgk 0; have q1 := blk_cell hgk 1; have lq := blk_lt hgk; have HG5 := Aside0.mk hgk; have HU5 := Aside0.mk (below_then HB.out HB.out.size HB5.out); clear hg5 hgk))
  | (go_at_call 140; refine (IHL.out _ (below_alloc HU4.out _)).mono ?_; go_must (rintro e W4 ⟨v4, sv4, rfl, hI, hb⟩; have hi4 := InSt.one (W := W3) (B := w.heap.size) HB3b.out.size (s := .slice none 0 0) (x := ⟨1, 0, (rt : Int), []⟩) (own_nil _ _ _ _) (fun _ => .slice none 0 0) rfl; have HI4 := Aside0.mk hi4; have HB4 := Aside0.mk (below_alloc HB3b.out (Obj.cells #[.int .i64 1, .int .i64 0, .int .i64 (rt : Int), .slice none 0 0] 88)); have HB4b := Aside0.mk hb; have HI4b := Aside0.mk hI; have hg4 := blk_below (blk_below HG3.out (below_alloc (Below.refl _ _) (Obj.cells #[.int .i64 1, .int .i64 0, .int .i64 (rt : Int), .slice none 0 0] 88))) hb; have r0 := blk_cell hg4 0; have r1 := blk_cell hg4 1; have HG4 := Aside0.mk hg4; clear hI hb hi4 hg4))
  | (go_at_call 169; refine (HZX.out _ HU3.out).mono ?_; go_must (rintro e W3 ⟨rfl, hb⟩; have hg3 := blk_below HG2.out hb; have t0 := blk_cell hg3 0; have t1 := blk_cell hg3 1; have lt3 := blk_lt hg3; have HG3 := Aside0.mk hg3; have HU4 := Aside0.mk (below_then HU3.out HU3.out.size hb); have HB3b := Aside0.mk (below_then HB3.out HB3.out.size hb); clear hg3 hb))
  | (go_at_call 129; refine (HS.out _ HU2.out).mono ?_; go_must (rintro e W2 ⟨rfl, hb⟩; have hg2 := blk_below HG0.out hb; have hx2 := blk_below HX.out hb; have u0 := blk_cell hg2 0; have u1 := blk_cell hg2 1; have v0 := blk_cell hx2 0; have lg := blk_lt hg2; have lx2 := blk_lt hx2; have HG2 := Aside0.mk hg2; have HU3 := Aside0.mk (below_then HU2.out HU2.out.size hb); have HB3 := Aside0.mk (below_then HB2.out HB2.out.size hb); clear hg2 hx2 hb)))
 go_ret
 exact ⟨_, _, rfl, HI9.out, HB9.out⟩
end Go.Proofs.Ytdiilocgjnlmiaa.Tre
