import Derived.Test.YtdiilocgjnlmiaaCchGoodBody
import Derived.Test.YtdiilocgjnlmiaaCchNullables
import Derived.Test.YtdiilocgjnlmiaaCchPAllx21
import Derived.Test.YtdiilocgjnlmiaaCchRegKit
namespace Go.Proofs.Ytdiilocgjnlmiaa.Tre
open Go.RowKit Go.Proofs.YtdiilocgjnlmiaaW.PrintWords Go.Proofs.YtdiilocgjnlmiaaW.PrintLast Go.Proofs.YtdiilocgjnlmiaaW.PrintMore
open Go.Proofs.Ytdiilocgjnlmiaa.PAll
set_option linter.unusedVariables false
set_option linter.unusedSimpArgs false
theorem last_op {W : World} {A : Option Addr} {pre : List Op} {o : Op} (h : Kd.C k79 W A (pre ++ [o]).length (pre ++ [o])) : ∃ ad A1 c1, A = some ad ∧ W.cell? (ad.add (pre.length * 3)) = some (.int .i64 o.f0) ∧ W.cell? ⟨(ad.add (pre.length * 3)).block, (ad.add (pre.length * 3)).off + 1, none⟩ = some (.slice A1 o.f1.length c1) ∧ W.cell? ⟨(ad.add (pre.length * 3)).block, (ad.add (pre.length * 3)).off + 2, none⟩ = some (.int .i64 o.f2) ∧ o.f1.length ≤ c1 ∧ (Kd.int .i64).C W A1 o.f1.length o.f1 := by
 obtain ⟨ad, A1, c1, h1, h2, h3, h4, h5, h6⟩ := at_T79 h (pre.length : Int) (by omega) (by simp; omega)
 have e : rd_T79 (pre ++ [o]) (pre.length : Int) = o := rd_at rfl
 rw [e] at h2 h3 h4 h5 h6
 rw [Int.toNat_natCast] at h2 h3 h4
 exact ⟨ad, A1, c1, h1, h2, h3, h4, h5, h6⟩
structure SG (U : World) (A0 A1 : Option Addr) (c0 c1 : Nat) (Rs : List Ru) (Ls : List La) (Am : Option Addr) (cm : Nat) (m : List Bool) (b : Nat) : Prop where
 r0 : Kd.C k68 U A0 Rs.length Rs
 rc : Rs.length ≤ c0
 l0 : Kd.C k72 U A1 Ls.length Ls
 lc : Ls.length ≤ c1
 mk1 : MkV U Am cm m
 ml : m.length = Rs.length + Ls.length
 r2 : Rs.length ≤ 100
 l2 : Ls.length ≤ 100
 lo : U.heap.size ≤ b
structure SRow (U w : World) (b : Nat) (o : List Bool) : Prop where
 row : w.heap[b]? = some (.cells (boolsV o).toArray 4 (0, 0))
 bel : Below U.heap.size U w
def BegPost (U w : World) (b : Nat) (o : List Bool) (e : Ending) (w' : World) : Prop := e = .returned (.tuple #[]) ∧ SRow U w' b o ∧ w.heap.size ≤ w'.heap.size ∧ ∀ k, k < w.heap.size → k ≠ b → w'.heap[k]? = w.heap[k]?
theorem SRow.below {U w w' : World} {b : Nat} {o : List Bool} (h : SRow U w b o) (hb : Below w.heap.size w w') : SRow U w' b o := ⟨blk_below h.row hb, below_then h.bel h.bel.size hb⟩
theorem SRow.same {U w W : World} {b : Nat} {o : List Bool} (h : SRow U w b o) (hb : Below w.heap.size w W) : BegPost U w b o (.returned (.tuple #[])) W := ⟨rfl, h.below hb, hb.size, fun k hk _ => hb.block k hk⟩
theorem BegPost.join {U w W1 W2 : World} {b : Nat} {o o' : List Bool} {e e' : Ending} (h : BegPost U w b o e W1) (k : BegPost U W1 b o' e' W2) : BegPost U w b o' e' W2 := ⟨k.1, k.2.1, Nat.le_trans h.2.2.1 k.2.2.1, fun j hj hb => (k.2.2.2 j (Nat.lt_of_lt_of_le hj h.2.2.1) hb).trans (h.2.2.2 j hj hb)⟩
theorem SRow.put {U w : World} {b q : Nat} {o : List Bool} (h : SRow U w b o) (hlo : U.heap.size ≤ b) : BegPost U w b (o.set q true) (.returned (.tuple #[])) (w.setCell ⟨b, q, none⟩ (.bool true)) :=
 ⟨rfl, ⟨blk_put h.row q (.bool true) (by simp [boolsV]), h.bel.setCell hlo _⟩, by simp, fun k hk hne => Below.heap_setCell _ _ _ _ hne⟩
theorem target_ref (Rs : List Ru) (Ls : List La) (s : List Int) (a : Int) : spec_l3target.f Rs Ls 2 s a = some a := by
 rw [spec_l3target.f]; simp
theorem target_thr (Rs : List Ru) (Ls : List La) (s : List Int) (a : Nat) (h1 : Rs.length ≤ 100) (h2 : a ≤ 100) : spec_l3target.f Rs Ls 3 s (a : Int) = some ((Rs.length + a : Nat) : Int) := by
 rw [spec_l3target.f, if_neg (by decide), wid (by omega) (by omega)]; simp
set_option maxRecDepth 100000 in
set_option maxHeartbeats 8000000 in
theorem beg_none (U : World) (A0 A1 : Option Addr) (c0 c1 : Nat) (Rs : List Ru) (Ls : List La) (Am : Option Addr) (cm : Nat) (m : List Bool) (b n : Nat) (hG : SG U A0 A1 c0 c1 Rs Ls Am cm m b) (hn : Aside0 (n = Rs.length + Ls.length)) (o : List Bool) (w : World) (A : Option Addr) (c : Nat) (N p : Nat) (pre : List Op) (kd : Int) (s : List Int) (hk : kd = 0 ∨ kd = 1) (hN : N = p + 1) (hpl : pre.length = p) (hp : p ≤ 1000000) (hC : Kd.C k79 U A N (pre ++ [(⟨kd, s, 0⟩ : Op)])) (hc : N ≤ c) (hW : SRow U w b o) (ho : o.length = n) :
 Calls Try.prog 83 #[.agg #[.slice A0 Rs.length c0, .slice A1 Ls.length c1], .slice A N c, .slice Am m.length cm, .slice (some ⟨b, 0, none⟩) n n] w (BegPost U w b (o)) := by
 obtain ⟨ad, A5, c5, rfl, x0, x1, x2, y1, y2⟩ := last_op (W := U) (A := A) (pre := pre) (o := ⟨kd, s, 0⟩) (by rw [List.length_append, List.length_singleton, hpl, ← hN]; exact hC)
 rw [hpl] at x0 x1 x2
 replace x0 := pw_cell_below hW.bel x0
 replace x1 := pw_cell_below hW.bel x1
 replace x2 := pw_cell_below hW.bel x2
 simp only at x0 x1 x2 y1 y2
 have lx := World.block_lt_of_cell? _ _ x0
 have ew : IntKind.i64.wrap ((N : Int) - 1) = (p : Int) := (i64_w _).trans (by rw [wid (by omega) (by omega)]; omega)
 have en : ((N : Int) == 0) = false := by rw [beq_eq_false_iff_ne]; omega
 have e2 : (0 ≤ (p : Int)) = True := eq_true (by omega)
 have e3 : ((p : Int) < (N : Int)) = True := eq_true (by omega)
 have HG := Aside0.mk hG
 have HW := Aside0.mk hW
 have HY := Aside0.mk y2
 have HY1 := Aside0.mk y1
 have HO := Aside0.mk ho
 have HC := Aside0.mk hC
 clear hG hW y2 hC ho y1 hN hpl
 rcases hk with rfl | rfl
 ·go_enter Try.func83, Try.ntmps83
  go_wp2_with fail
  go_end0
  exact HW.out.same (below_alloc (below_alloc (Below.refl _ _) _) _)
 go_enter Try.func83, Try.ntmps83
 go_wp2_with fail
 go_end0
 exact HW.out.same (below_alloc (below_alloc (Below.refl _ _) _) _)
set_option maxRecDepth 100000 in
set_option maxHeartbeats 8000000 in
theorem beg_ref (U : World) (A0 A1 : Option Addr) (c0 c1 : Nat) (Rs : List Ru) (Ls : List La) (Am : Option Addr) (cm : Nat) (m : List Bool) (b n : Nat) (hG : SG U A0 A1 c0 c1 Rs Ls Am cm m b) (hn : Aside0 (n = Rs.length + Ls.length)) (o : List Bool) (w : World) (A : Option Addr) (c : Nat) (N p : Nat) (pre : List Op) (s : List Int) (q : Nat) (hq : q < Rs.length) (hN : N = p + 1) (hpl : pre.length = p) (hp : p ≤ 1000000) (hC : Kd.C k79 U A N (pre ++ [(⟨2, s, (q : Int)⟩ : Op)])) (hc : N ≤ c) (hW : SRow U w b o) (ho : o.length = n) :
 Calls Try.prog 83 #[.agg #[.slice A0 Rs.length c0, .slice A1 Ls.length c1], .slice A N c, .slice Am m.length cm, .slice (some ⟨b, 0, none⟩) n n] w (BegPost U w b (o.set q true)) := by
 obtain ⟨ad, A5, c5, rfl, x0, x1, x2, y1, y2⟩ := last_op (W := U) (A := A) (pre := pre) (o := ⟨2, s, (q : Int)⟩) (by rw [List.length_append, List.length_singleton, hpl, ← hN]; exact hC)
 rw [hpl] at x0 x1 x2
 replace x0 := pw_cell_below hW.bel x0
 replace x1 := pw_cell_below hW.bel x1
 replace x2 := pw_cell_below hW.bel x2
 simp only at x0 x1 x2 y1 y2
 have lx := World.block_lt_of_cell? _ _ x0
 have ew : IntKind.i64.wrap ((N : Int) - 1) = (p : Int) := (i64_w _).trans (by rw [wid (by omega) (by omega)]; omega)
 have en : ((N : Int) == 0) = false := by rw [beq_eq_false_iff_ne]; omega
 have e2 : (0 ≤ (p : Int)) = True := eq_true (by omega)
 have e3 : ((p : Int) < (N : Int)) = True := eq_true (by omega)
 obtain ⟨T, hT⟩ : ∃ T : Nat, T = q := ⟨_, rfl⟩
 rw [← hT]
 have hqn : T < n := by have := hn.out; omega
 have hqo : T < o.length := by rw [ho]; exact hqn
 have hr2 := hG.r2
 have hl2 := hG.l2
 have hrow1 := hW.below (below_alloc (below_alloc (Below.refl _ _) (Obj.cells #[.slice A0 Rs.length c0, .slice A1 Ls.length c1] 31)) (Obj.cells #[.int .i64 2, .slice A5 s.length c5, .int .i64 (q : Int)] 79))
 have hx := blk_new (w.alloc (Obj.cells #[.slice A0 Rs.length c0, .slice A1 Ls.length c1] 31)) (Obj.cells #[.int .i64 2, .slice A5 s.length c5, .int .i64 (q : Int)] 79)
 rw [World.size_alloc] at hx
 have hbl := blk_lt hW.row
 have HX := Aside0.mk hx
 have HW1 := Aside0.mk hrow1
 have HQO := Aside0.mk hqo
 have HTG : Aside0 (spec_l3target.f Rs Ls 2 s (q : Int) = some ((T : Nat) : Int)) := ⟨by rw [hT]; exact target_ref Rs Ls s _⟩
 have HS1 : Aside0 (((w.alloc (Obj.cells #[.slice A0 Rs.length c0, .slice A1 Ls.length c1] 31)).alloc (Obj.cells #[.int .i64 2, .slice A5 s.length c5, .int .i64 (q : Int)] 79)).heap.size = w.heap.size + 1 + 1) := ⟨by simp⟩
 have HP1 := Aside0.mk (hW.same (below_alloc (below_alloc (Below.refl _ _) (Obj.cells #[.slice A0 Rs.length c0, .slice A1 Ls.length c1] 31)) (Obj.cells #[.int .i64 2, .slice A5 s.length c5, .int .i64 (q : Int)] 79)))
 have e4 : (0 ≤ ((T : Nat) : Int)) = True := eq_true (by omega)
 have e5 : (((T : Nat) : Int) < (n : Int)) = True := eq_true (by omega)
 have e6 : (((T : Nat) : Int)).toNat = T := Int.toNat_natCast _
 clear hx hrow1 hqo hqn hT
 have HG := Aside0.mk hG
 have HW := Aside0.mk hW
 have HY := Aside0.mk y2
 have HY1 := Aside0.mk y1
 have HO := Aside0.mk ho
 have HC := Aside0.mk hC
 clear hG hW y2 hC ho y1 hN hpl
 go_enter Try.func83, Try.ntmps83
 go_upto_region 6 with (go_at_call 128; refine (spec_l3target.calls A0 c0 Rs A1 c1 Ls 2 A5 c5 s (q : Int) ((T : Nat) : Int) _ (Kd.C_below HG.out.r0 HW1.out.bel) HG.out.rc (Kd.C_below HG.out.l0 HW1.out.bel) HG.out.lc (Kd.C_below HY.out HW1.out.bel) HY1.out HTG.out).mono ?_; go_must (rintro e W2 ⟨rfl, hb⟩; have hx2 := blk_below HX.out hb; have hw2 := HW1.out.below hb; have z0 := (blk_cell hw2.row T).trans (boolsV_at HQO.out); have z1 := blk_frozen hw2.row T; have z2 := blk_lt hw2.row; have HX2 := Aside0.mk hx2; have HW2 := Aside0.mk hw2; have HB2 := Aside0.mk hb; clear hx2 hw2 hb))
 have hput := HW2.out.put (q := T) HG.out.lo
 have hx3 := (hput.2.2.2 (w.heap.size + 1) (blk_lt HX2.out) (by omega)).trans HX2.out
 have y0 := blk_cell hx3 0
 have y3 := blk_lt hx3
 have HP := Aside0.mk hput
 clear hput hx3 z0 z1
 generalize W2.setCell ⟨b, T, none⟩ (.bool true) = W3 at *
 go_wp2_with fail
 go_end0
 exact (HP1.out.join (HW1.out.same HB2.out)).join HP.out
set_option maxRecDepth 100000 in
set_option maxHeartbeats 8000000 in
theorem beg_thr (U : World) (A0 A1 : Option Addr) (c0 c1 : Nat) (Rs : List Ru) (Ls : List La) (Am : Option Addr) (cm : Nat) (m : List Bool) (b n : Nat) (hG : SG U A0 A1 c0 c1 Rs Ls Am cm m b) (hn : Aside0 (n = Rs.length + Ls.length)) (o : List Bool) (w : World) (A : Option Addr) (c : Nat) (N p : Nat) (pre : List Op) (s : List Int) (q : Nat) (hq : q < Ls.length) (hN : N = p + 1) (hpl : pre.length = p) (hp : p ≤ 1000000) (hC : Kd.C k79 U A N (pre ++ [(⟨3, s, (q : Int)⟩ : Op)])) (hc : N ≤ c) (hW : SRow U w b o) (ho : o.length = n) :
 Calls Try.prog 83 #[.agg #[.slice A0 Rs.length c0, .slice A1 Ls.length c1], .slice A N c, .slice Am m.length cm, .slice (some ⟨b, 0, none⟩) n n] w (BegPost U w b (o.set (Rs.length + q) true)) := by
 obtain ⟨ad, A5, c5, rfl, x0, x1, x2, y1, y2⟩ := last_op (W := U) (A := A) (pre := pre) (o := ⟨3, s, (q : Int)⟩) (by rw [List.length_append, List.length_singleton, hpl, ← hN]; exact hC)
 rw [hpl] at x0 x1 x2
 replace x0 := pw_cell_below hW.bel x0
 replace x1 := pw_cell_below hW.bel x1
 replace x2 := pw_cell_below hW.bel x2
 simp only at x0 x1 x2 y1 y2
 have lx := World.block_lt_of_cell? _ _ x0
 have ew : IntKind.i64.wrap ((N : Int) - 1) = (p : Int) := (i64_w _).trans (by rw [wid (by omega) (by omega)]; omega)
 have en : ((N : Int) == 0) = false := by rw [beq_eq_false_iff_ne]; omega
 have e2 : (0 ≤ (p : Int)) = True := eq_true (by omega)
 have e3 : ((p : Int) < (N : Int)) = True := eq_true (by omega)
 obtain ⟨T, hT⟩ : ∃ T : Nat, T = (Rs.length + q) := ⟨_, rfl⟩
 rw [← hT]
 have hqn : T < n := by have := hn.out; omega
 have hqo : T < o.length := by rw [ho]; exact hqn
 have hr2 := hG.r2
 have hl2 := hG.l2
 have hrow1 := hW.below (below_alloc (below_alloc (Below.refl _ _) (Obj.cells #[.slice A0 Rs.length c0, .slice A1 Ls.length c1] 31)) (Obj.cells #[.int .i64 3, .slice A5 s.length c5, .int .i64 (q : Int)] 79))
 have hx := blk_new (w.alloc (Obj.cells #[.slice A0 Rs.length c0, .slice A1 Ls.length c1] 31)) (Obj.cells #[.int .i64 3, .slice A5 s.length c5, .int .i64 (q : Int)] 79)
 rw [World.size_alloc] at hx
 have hbl := blk_lt hW.row
 have HX := Aside0.mk hx
 have HW1 := Aside0.mk hrow1
 have HQO := Aside0.mk hqo
 have HTG : Aside0 (spec_l3target.f Rs Ls 3 s (q : Int) = some ((T : Nat) : Int)) := ⟨by rw [hT]; exact target_thr Rs Ls s q hr2 (by omega)⟩
 have HS1 : Aside0 (((w.alloc (Obj.cells #[.slice A0 Rs.length c0, .slice A1 Ls.length c1] 31)).alloc (Obj.cells #[.int .i64 3, .slice A5 s.length c5, .int .i64 (q : Int)] 79)).heap.size = w.heap.size + 1 + 1) := ⟨by simp⟩
 have HP1 := Aside0.mk (hW.same (below_alloc (below_alloc (Below.refl _ _) (Obj.cells #[.slice A0 Rs.length c0, .slice A1 Ls.length c1] 31)) (Obj.cells #[.int .i64 3, .slice A5 s.length c5, .int .i64 (q : Int)] 79)))
 have e4 : (0 ≤ ((T : Nat) : Int)) = True := eq_true (by omega)
 have e5 : (((T : Nat) : Int) < (n : Int)) = True := eq_true (by omega)
 have e6 : (((T : Nat) : Int)).toNat = T := Int.toNat_natCast _
 clear hx hrow1 hqo hqn hT
 have HG := Aside0.mk hG
 have HW := Aside0.mk hW
 have HY := Aside0.mk y2
 have HY1 := Aside0.mk y1
 have HO := Aside0.mk ho
 have HC := Aside0.mk hC
 clear hG hW y2 hC ho y1 hN hpl
 go_enter Try.func83, Try.ntmps83
 go_upto_region 6 with (go_at_call 128; refine (spec_l3target.calls A0 c0 Rs A1 c1 Ls 3 A5 c5 s (q : Int) ((T : Nat) : Int) _ (Kd.C_below HG.out.r0 HW1.out.bel) HG.out.rc (Kd.C_below HG.out.l0 HW1.out.bel) HG.out.lc (Kd.C_below HY.out HW1.out.bel) HY1.out HTG.out).mono ?_; go_must (rintro e W2 ⟨rfl, hb⟩; have hx2 := blk_below HX.out hb; have hw2 := HW1.out.below hb; have z0 := (blk_cell hw2.row T).trans (boolsV_at HQO.out); have z1 := blk_frozen hw2.row T; have z2 := blk_lt hw2.row; have HX2 := Aside0.mk hx2; have HW2 := Aside0.mk hw2; have HB2 := Aside0.mk hb; clear hx2 hw2 hb))
 have hput := HW2.out.put (q := T) HG.out.lo
 have hx3 := (hput.2.2.2 (w.heap.size + 1) (blk_lt HX2.out) (by omega)).trans HX2.out
 have y0 := blk_cell hx3 0
 have y3 := blk_lt hx3
 have HP := Aside0.mk hput
 clear hput hx3 z0 z1
 generalize W2.setCell ⟨b, T, none⟩ (.bool true) = W3 at *
 go_wp2_with fail
 go_end0
 exact (HP1.out.join (HW1.out.same HB2.out)).join HP.out
def sbU.T : Bool × List (List Nat × List Nat) := (true, [([], []), ([], []), ([], []), ([2], [2]), ([1, 3], [1, 3]), ([], []), ([], []), ([0, 4, 5, 6], [0, 4, 5, 6])])
def sbU.B : List Nat := [0, 0, 0, 4, 14, 0, 0, 127]
theorem sbU.tab : rtab .any (opsOf Try.f83 7) = sbU.T := by kernel_rfl
theorem sbU.bits : waitsOk sbU.T.2 sbU.B = true := by kernel_rfl
def sbL.T : Bool × List (List Nat × List Nat) := (true, [([], []), ([], []), ([], []), ([1, 2], [1, 2]), ([], []), ([], []), ([0, 3, 4, 5], [0, 3, 4, 5])])
def sbL.B : List Nat := [0, 0, 0, 6, 0, 0, 63]
theorem sbL.tab : rtab .any (opsOf Try.f83 10) = sbL.T := by kernel_rfl
theorem sbL.bits : waitsOk sbL.T.2 sbL.B = true := by kernel_rfl
def sbG.T : Bool × List (List Nat × List Nat) := (true, [([], []), ([0], [0]), ([1], [1]), ([2], [2]), ([3], [3]), ([3], [3]), ([3], [3]), ([5, 6, 3], [3, 5, 6]), ([3], [3]), ([4, 7, 8, 3, 3], [3, 4, 7, 8]), ([3, 9], [3, 9])])
def sbG.B : List Nat := [0, 1, 3, 7, 15, 15, 15, 111, 15, 511, 1023]
theorem sbG.tab : rtab .any (opsOf Try.f83 11) = sbG.T := by kernel_rfl
theorem sbG.bits : waitsOk sbG.T.2 sbG.B = true := by kernel_rfl
def sbR.T : Bool × List (List Nat × List Nat) := (true, [([], []), ([], []), ([], []), ([], []), ([3], [3]), ([1, 2, 4], [1, 2, 4]), ([], []), ([], []), ([0, 5, 6, 7], [0, 5, 6, 7])])
def sbR.B : List Nat := [0, 0, 0, 0, 8, 30, 0, 0, 255]
theorem sbR.tab : rtab .any (opsOf Try.f83 12) = sbR.T := by kernel_rfl
theorem sbR.bits : waitsOk sbR.T.2 sbR.B = true := by kernel_rfl
set_option maxRecDepth 100000 in
set_option maxHeartbeats 8000000 in
theorem beg_un (U : World) (A0 A1 : Option Addr) (c0 c1 : Nat) (Rs : List Ru) (Ls : List La) (Am : Option Addr) (cm : Nat) (m : List Bool) (b n : Nat) (hG : SG U A0 A1 c0 c1 Rs Ls Am cm m b) (hn : Aside0 (n = Rs.length + Ls.length)) (o : List Bool) (w : World) (A : Option Addr) (c : Nat) (N p : Nat) (pre : List Op) (kd a2 : Int) (s : List Int) (o' : List Bool) (hk : kd = 6 ∨ kd = 7) (IH : Aside0 (∀ w', SRow U w' b o → Calls Try.prog 83 #[.agg #[.slice A0 Rs.length c0, .slice A1 Ls.length c1], .slice A p c, .slice Am m.length cm, .slice (some ⟨b, 0, none⟩) n n] w' (BegPost U w' b o'))) (hN : N = p + 1) (hpl : pre.length = p) (hp : p ≤ 1000000) (hC : Kd.C k79 U A N (pre ++ [(⟨kd, s, a2⟩ : Op)])) (hc : N ≤ c) (hW : SRow U w b o) (ho : o.length = n) :
 Calls Try.prog 83 #[.agg #[.slice A0 Rs.length c0, .slice A1 Ls.length c1], .slice A N c, .slice Am m.length cm, .slice (some ⟨b, 0, none⟩) n n] w (BegPost U w b (o')) := by
 obtain ⟨ad, A5, c5, rfl, x0, x1, x2, y1, y2⟩ := last_op (W := U) (A := A) (pre := pre) (o := ⟨kd, s, a2⟩) (by rw [List.length_append, List.length_singleton, hpl, ← hN]; exact hC)
 rw [hpl] at x0 x1 x2
 replace x0 := pw_cell_below hW.bel x0
 replace x1 := pw_cell_below hW.bel x1
 replace x2 := pw_cell_below hW.bel x2
 simp only at x0 x1 x2 y1 y2
 have lx := World.block_lt_of_cell? _ _ x0
 have ew : IntKind.i64.wrap ((N : Int) - 1) = (p : Int) := (i64_w _).trans (by rw [wid (by omega) (by omega)]; omega)
 have en : ((N : Int) == 0) = false := by rw [beq_eq_false_iff_ne]; omega
 have e2 : (0 ≤ (p : Int)) = True := eq_true (by omega)
 have e3 : ((p : Int) < (N : Int)) = True := eq_true (by omega)
 rcases hk with rfl | rfl
 ·have hrow1 := hW.below (below_alloc (below_alloc (Below.refl _ _) (Obj.cells #[.slice A0 Rs.length c0, .slice A1 Ls.length c1] 31)) (Obj.cells #[.int .i64 6, .slice A5 s.length c5, .int .i64 a2] 79))
  have hg := blk_alloc (blk_new w (Obj.cells #[.slice A0 Rs.length c0, .slice A1 Ls.length c1] 31)) (Obj.cells #[.int .i64 6, .slice A5 s.length c5, .int .i64 a2] 79)
  have hx := blk_new (w.alloc (Obj.cells #[.slice A0 Rs.length c0, .slice A1 Ls.length c1] 31)) (Obj.cells #[.int .i64 6, .slice A5 s.length c5, .int .i64 a2] 79)
  rw [World.size_alloc] at hx
  have hbl := blk_lt hW.row
  have g0 := blk_cell hg 0
  have g1 := blk_cell hg 1
  have HQ0 := Aside0.mk hg
  have HX := Aside0.mk hx
  have HW1 := Aside0.mk hrow1
  have HP1 := Aside0.mk (hW.same (below_alloc (below_alloc (Below.refl _ _) (Obj.cells #[.slice A0 Rs.length c0, .slice A1 Ls.length c1] 31)) (Obj.cells #[.int .i64 6, .slice A5 s.length c5, .int .i64 a2] 79)))
  obtain ⟨ii, hi, _, hsz, _⟩ := info_parts info79
  have hcut := cut_to (P := Try.prog) 66 79 .i64 Try.underlying66 hi (some ad) N c (p : Int) (by omega) (by omega) hc
  rw [Int.toNat_natCast] at hcut
  clear hrow1 hg hx hi hsz
  have HG := Aside0.mk hG
  have HW := Aside0.mk hW
  have HY := Aside0.mk y2
  have HY1 := Aside0.mk y1
  have HO := Aside0.mk ho
  have HC := Aside0.mk hC
  clear hG hW y2 hC ho y1 hN hpl
  go_enter Try.func83, Try.ntmps83
  go_upto_region 7 with fail
  refine start_ (n := 8) (S := fun W' => W'.cell? ⟨w.heap.size, 0, none⟩ = some (.slice A0 Rs.length c0) ∧ W'.cell? ⟨w.heap.size, 1, none⟩ = some (.slice A1 Ls.length c1)) (ds := []) #[false, false, false, false, false, false, false, false] (by kernel_rfl) rfl rfl (⟨g0, g1⟩) (fun hHeld => ?_); refine with_tabW sbU.tab sbU.bits (fun HT_ HW_ => ?_)
  refine ta_ 0 42 HT_ HW_ hHeld ?_
  refine pu_ 1 43 HT_ ?_
  refine pu_ 2 44 HT_ ?_
  refine pu_ 3 45 HT_ ?_
  refine pu_ 4 46 HT_ ?_
  refine pu_ 5 47 HT_ ?_
  refine pu_ 6 48 HT_ ?_
  refine one_ (i := 7) (N := (some 49)) #[true, true, true, true, true, true, true, true] rfl rfl (one_of HT_.out (by kernel_rfl)) (by decide) (fun K hK => ?_)
  refine goes_ Try.func83 (by kernel_rfl) rfl #[.agg #[.slice A0 Rs.length c0, .slice A1 Ls.length c1], .slice (some ad) p c, .slice Am m.length cm, .slice (some ⟨b, 0, none⟩) n n] (by rfl) rfl rfl (by (try simp only [List.map_toArray, List.map_cons, List.map_nil]); first | rfl) ?_
  refine (IH.out _ (HW1.out.below (by repeat (first | exact Below.refl _ _ | apply Below.drew)))).mono ?_
  rintro e W2 hp
  have hp := (SRow.same HW1.out (by repeat (first | exact Below.refl _ _ | apply Below.drew))).join hp
  have HPW2 := Aside0.mk hp
  obtain ⟨rfl, hr, hs, hk⟩ := hp
  refine ⟨_, rfl, ?_⟩
  have hg2 := (hk w.heap.size (blk_lt HQ0.out) (by omega)).trans HQ0.out
  have hx2 := (hk (w.heap.size + 1) (blk_lt HX.out) (by omega)).trans HX.out
  have z0 := blk_cell hg2 0
  have z1 := blk_cell hg2 1
  have y0 := blk_cell hx2 0
  have y3 := blk_lt hx2
  clear hr hs hk hg2 hx2
  refine hK.out _ _ (⟨z0, z1⟩) (fun hHeld => ?_)
  clear hK K
  refine norm_ (a' := ?_) ?_ ?_
  rotate_left
  ·show Act.put _ (some 49) _ = _; simp only [Act.put, List.setIfInBounds_toArray, List.set_cons_zero, List.set_cons_succ, i64_w, i32_w]; rfl
  refine done_ (done_of HT_.out (by kernel_rfl)) ?_
  go_wp2_with fail
  go_end0
  exact HP1.out.join HPW2.out
 have hrow1 := hW.below (below_alloc (below_alloc (Below.refl _ _) (Obj.cells #[.slice A0 Rs.length c0, .slice A1 Ls.length c1] 31)) (Obj.cells #[.int .i64 7, .slice A5 s.length c5, .int .i64 a2] 79))
 have hg := blk_alloc (blk_new w (Obj.cells #[.slice A0 Rs.length c0, .slice A1 Ls.length c1] 31)) (Obj.cells #[.int .i64 7, .slice A5 s.length c5, .int .i64 a2] 79)
 have hx := blk_new (w.alloc (Obj.cells #[.slice A0 Rs.length c0, .slice A1 Ls.length c1] 31)) (Obj.cells #[.int .i64 7, .slice A5 s.length c5, .int .i64 a2] 79)
 rw [World.size_alloc] at hx
 have hbl := blk_lt hW.row
 have g0 := blk_cell hg 0
 have g1 := blk_cell hg 1
 have HQ0 := Aside0.mk hg
 have HX := Aside0.mk hx
 have HW1 := Aside0.mk hrow1
 have HP1 := Aside0.mk (hW.same (below_alloc (below_alloc (Below.refl _ _) (Obj.cells #[.slice A0 Rs.length c0, .slice A1 Ls.length c1] 31)) (Obj.cells #[.int .i64 7, .slice A5 s.length c5, .int .i64 a2] 79)))
 obtain ⟨ii, hi, _, hsz, _⟩ := info_parts info79
 have hcut := cut_to (P := Try.prog) 66 79 .i64 Try.underlying66 hi (some ad) N c (p : Int) (by omega) (by omega) hc
 rw [Int.toNat_natCast] at hcut
 clear hrow1 hg hx hi hsz
 have HG := Aside0.mk hG
 have HW := Aside0.mk hW
 have HY := Aside0.mk y2
 have HY1 := Aside0.mk y1
 have HO := Aside0.mk ho
 have HC := Aside0.mk hC
 clear hG hW y2 hC ho y1 hN hpl
 go_enter Try.func83, Try.ntmps83
 go_upto_region 7 with fail
 refine start_ (n := 8) (S := fun W' => W'.cell? ⟨w.heap.size, 0, none⟩ = some (.slice A0 Rs.length c0) ∧ W'.cell? ⟨w.heap.size, 1, none⟩ = some (.slice A1 Ls.length c1)) (ds := []) #[false, false, false, false, false, false, false, false] (by kernel_rfl) rfl rfl (⟨g0, g1⟩) (fun hHeld => ?_); refine with_tabW sbU.tab sbU.bits (fun HT_ HW_ => ?_)
 refine ta_ 0 42 HT_ HW_ hHeld ?_
 refine pu_ 1 43 HT_ ?_
 refine pu_ 2 44 HT_ ?_
 refine pu_ 3 45 HT_ ?_
 refine pu_ 4 46 HT_ ?_
 refine pu_ 5 47 HT_ ?_
 refine pu_ 6 48 HT_ ?_
 refine one_ (i := 7) (N := (some 49)) #[true, true, true, true, true, true, true, true] rfl rfl (one_of HT_.out (by kernel_rfl)) (by decide) (fun K hK => ?_)
 refine goes_ Try.func83 (by kernel_rfl) rfl #[.agg #[.slice A0 Rs.length c0, .slice A1 Ls.length c1], .slice (some ad) p c, .slice Am m.length cm, .slice (some ⟨b, 0, none⟩) n n] (by rfl) rfl rfl (by (try simp only [List.map_toArray, List.map_cons, List.map_nil]); first | rfl) ?_
 refine (IH.out _ (HW1.out.below (by repeat (first | exact Below.refl _ _ | apply Below.drew)))).mono ?_
 rintro e W2 hp
 have hp := (SRow.same HW1.out (by repeat (first | exact Below.refl _ _ | apply Below.drew))).join hp
 have HPW2 := Aside0.mk hp
 obtain ⟨rfl, hr, hs, hk⟩ := hp
 refine ⟨_, rfl, ?_⟩
 have hg2 := (hk w.heap.size (blk_lt HQ0.out) (by omega)).trans HQ0.out
 have hx2 := (hk (w.heap.size + 1) (blk_lt HX.out) (by omega)).trans HX.out
 have z0 := blk_cell hg2 0
 have z1 := blk_cell hg2 1
 have y0 := blk_cell hx2 0
 have y3 := blk_lt hx2
 clear hr hs hk hg2 hx2
 refine hK.out _ _ (⟨z0, z1⟩) (fun hHeld => ?_)
 clear hK K
 refine norm_ (a' := ?_) ?_ ?_
 rotate_left
 ·show Act.put _ (some 49) _ = _; simp only [Act.put, List.setIfInBounds_toArray, List.set_cons_zero, List.set_cons_succ, i64_w, i32_w]; rfl
 refine done_ (done_of HT_.out (by kernel_rfl)) ?_
 go_wp2_with fail
 go_end0
 exact HP1.out.join HPW2.out
set_option maxRecDepth 100000 in
set_option maxHeartbeats 8000000 in
theorem beg_alt (U : World) (A0 A1 : Option Addr) (c0 c1 : Nat) (Rs : List Ru) (Ls : List La) (Am : Option Addr) (cm : Nat) (m : List Bool) (b n : Nat) (hG : SG U A0 A1 c0 c1 Rs Ls Am cm m b) (hn : Aside0 (n = Rs.length + Ls.length)) (o : List Bool) (w : World) (A : Option Addr) (c : Nat) (N p : Nat) (pre : List Op) (a2 : Int) (s : List Int) (a bl cr : Nat) (Ar : Option Addr) (o1 o2 : List Bool) (hap : a ≤ p) (hAr : Ar = if c = a then A else A.map (·.add (a * 3))) (hbl1 : bl = p - a) (hcr : cr = c - a) (HS : Aside0 (∀ w', Below U.heap.size U w' → Calls Try.prog 129 #[.slice A N c, .int .i64 (p : Int)] w' (fun e w2 => e = .returned (.int .i64 (a : Int)) ∧ Below w'.heap.size w' w2))) (IHL : Aside0 (∀ w', SRow U w' b o → Calls Try.prog 83 #[.agg #[.slice A0 Rs.length c0, .slice A1 Ls.length c1], .slice A a c, .slice Am m.length cm, .slice (some ⟨b, 0, none⟩) n n] w' (BegPost U w' b o1))) (IHR : Aside0 (∀ w', SRow U w' b o1 → Calls Try.prog 83 #[.agg #[.slice A0 Rs.length c0, .slice A1 Ls.length c1], .slice Ar bl cr, .slice Am m.length cm, .slice (some ⟨b, 0, none⟩) n n] w' (BegPost U w' b o2))) (hN : N = p + 1) (hpl : pre.length = p) (hp : p ≤ 1000000) (hC : Kd.C k79 U A N (pre ++ [(⟨5, s, a2⟩ : Op)])) (hc : N ≤ c) (hW : SRow U w b o) (ho : o.length = n) :
 Calls Try.prog 83 #[.agg #[.slice A0 Rs.length c0, .slice A1 Ls.length c1], .slice A N c, .slice Am m.length cm, .slice (some ⟨b, 0, none⟩) n n] w (BegPost U w b (o2)) := by
 obtain ⟨ad, A5, c5, rfl, x0, x1, x2, y1, y2⟩ := last_op (W := U) (A := A) (pre := pre) (o := ⟨5, s, a2⟩) (by rw [List.length_append, List.length_singleton, hpl, ← hN]; exact hC)
 rw [hpl] at x0 x1 x2
 replace x0 := pw_cell_below hW.bel x0
 replace x1 := pw_cell_below hW.bel x1
 replace x2 := pw_cell_below hW.bel x2
 simp only at x0 x1 x2 y1 y2
 have lx := World.block_lt_of_cell? _ _ x0
 have ew : IntKind.i64.wrap ((N : Int) - 1) = (p : Int) := (i64_w _).trans (by rw [wid (by omega) (by omega)]; omega)
 have en : ((N : Int) == 0) = false := by rw [beq_eq_false_iff_ne]; omega
 have e2 : (0 ≤ (p : Int)) = True := eq_true (by omega)
 have e3 : ((p : Int) < (N : Int)) = True := eq_true (by omega)
 have hrow1 := hW.below (below_alloc (below_alloc (Below.refl _ _) (Obj.cells #[.slice A0 Rs.length c0, .slice A1 Ls.length c1] 31)) (Obj.cells #[.int .i64 5, .slice A5 s.length c5, .int .i64 a2] 79))
 have hg := blk_alloc (blk_new w (Obj.cells #[.slice A0 Rs.length c0, .slice A1 Ls.length c1] 31)) (Obj.cells #[.int .i64 5, .slice A5 s.length c5, .int .i64 a2] 79)
 have hx := blk_new (w.alloc (Obj.cells #[.slice A0 Rs.length c0, .slice A1 Ls.length c1] 31)) (Obj.cells #[.int .i64 5, .slice A5 s.length c5, .int .i64 a2] 79)
 rw [World.size_alloc] at hx
 have hbl := blk_lt hW.row
 have g0 := blk_cell hg 0
 have g1 := blk_cell hg 1
 have HQ0 := Aside0.mk hg
 have HX := Aside0.mk hx
 have HW1 := Aside0.mk hrow1
 have HP1 := Aside0.mk (hW.same (below_alloc (below_alloc (Below.refl _ _) (Obj.cells #[.slice A0 Rs.length c0, .slice A1 Ls.length c1] 31)) (Obj.cells #[.int .i64 5, .slice A5 s.length c5, .int .i64 a2] 79)))
 obtain ⟨ii, hi, _, hsz, _⟩ := info_parts info79
 have hcutA := cut_to (P := Try.prog) 66 79 .i64 Try.underlying66 hi (some ad) N c (a : Int) (by omega) (by omega) hc
 rw [Int.toNat_natCast] at hcutA
 have hcutB := cut_mid (P := Try.prog) 66 79 .i64 .i64 Try.underlying66 hi 3 hsz (some ad) N c (a : Int) (p : Int) (by omega) (by omega) (by omega) hc
 rw [Int.toNat_natCast, Int.toNat_natCast, ← hAr, ← hbl1, ← hcr] at hcutB
 clear hrow1 hg hx hi hsz hAr hbl1 hcr
 have HG := Aside0.mk hG
 have HW := Aside0.mk hW
 have HY := Aside0.mk y2
 have HY1 := Aside0.mk y1
 have HO := Aside0.mk ho
 have HC := Aside0.mk hC
 clear hG hW y2 hC ho y1 hN hpl
 go_enter Try.func83, Try.ntmps83
 go_upto_region 10 with (go_at_call 129; refine (HS.out _ HW1.out.bel).mono ?_; go_must (rintro e W2 ⟨rfl, hb⟩; have hg2 := blk_below HQ0.out hb; have hx2 := blk_below HX.out hb; have u0 := blk_cell hg2 0; have u1 := blk_cell hg2 1; have HG2 := Aside0.mk hg2; have HX2 := Aside0.mk hx2; have HW2 := Aside0.mk (HW1.out.below hb); have HP2 := Aside0.mk (HW1.out.same hb); clear hg2 hx2 hb))
 refine start_ (n := 7) (S := fun W' => W'.cell? ⟨w.heap.size, 0, none⟩ = some (.slice A0 Rs.length c0) ∧ W'.cell? ⟨w.heap.size, 1, none⟩ = some (.slice A1 Ls.length c1)) (ds := []) #[false, false, false, false, false, false, false] (by kernel_rfl) rfl rfl (⟨u0, u1⟩) (fun hHeld => ?_); refine with_tabW sbL.tab sbL.bits (fun HT_ HW_ => ?_)
 refine ta_ 0 62 HT_ HW_ hHeld ?_
 refine pu_ 1 63 HT_ ?_
 refine pu_ 2 64 HT_ ?_
 refine pu_ 3 65 HT_ ?_
 refine pu_ 4 66 HT_ ?_
 refine pu_ 5 67 HT_ ?_
 refine one_ (i := 6) (N := (some 68)) #[true, true, true, true, true, true, true] rfl rfl (one_of HT_.out (by kernel_rfl)) (by decide) (fun K hK => ?_)
 refine goes_ Try.func83 (by kernel_rfl) rfl #[.agg #[.slice A0 Rs.length c0, .slice A1 Ls.length c1], .slice (some ad) a c, .slice Am m.length cm, .slice (some ⟨b, 0, none⟩) n n] (by rfl) rfl rfl (by (try simp only [List.map_toArray, List.map_cons, List.map_nil]); first | rfl) ?_
 refine (IHL.out _ (HW2.out.below (by repeat (first | exact Below.refl _ _ | apply Below.drew)))).mono ?_
 rintro e W3 hp
 have hp := (SRow.same HW2.out (by repeat (first | exact Below.refl _ _ | apply Below.drew))).join hp
 have HPW3 := Aside0.mk hp
 obtain ⟨rfl, hr, hs, hk⟩ := hp
 refine ⟨_, rfl, ?_⟩
 have hg3 := (hk w.heap.size (blk_lt HG2.out) (by omega)).trans HG2.out
 have hx3 := (hk (w.heap.size + 1) (blk_lt HX2.out) (by omega)).trans HX2.out
 have HG3 := Aside0.mk hg3
 have HX3 := Aside0.mk hx3
 have HW3 := Aside0.mk hr
 have z30 := blk_cell hg3 0
 have z31 := blk_cell hg3 1
 have y30 := blk_cell hx3 0
 clear hr hs hk hg3 hx3
 refine hK.out _ _ (⟨z30, z31⟩) (fun hHeld => ?_)
 clear hK K
 refine norm_ (a' := ?_) ?_ ?_
 rotate_left
 ·show Act.put _ (some 68) _ = _; simp only [Act.put, List.setIfInBounds_toArray, List.set_cons_zero, List.set_cons_succ, i64_w, i32_w]; rfl
 refine done_ (done_of HT_.out (by kernel_rfl)) ?_
 go_upto_region 11 with fail
 refine start_ (n := 11) (S := fun W' => W'.cell? ⟨w.heap.size, 0, none⟩ = some (.slice A0 Rs.length c0) ∧ W'.cell? ⟨w.heap.size, 1, none⟩ = some (.slice A1 Ls.length c1) ∧ W'.cell? ⟨w.heap.size + 1, 0, none⟩ = some (.int .i64 5)) (ds := []) #[false, false, false, false, false, false, false, false, false, false, false] (by kernel_rfl) rfl rfl (⟨z30, z31, y30⟩) (fun hHeld => ?_); refine with_tabW sbG.tab sbG.bits (fun HT_ HW_ => ?_)
 refine pu_ 0 69 HT_ ?_
 refine ta_ 1 70 HT_ HW_ hHeld ?_
 refine pu_ 2 71 HT_ ?_
 refine pu_ 3 72 HT_ ?_
 refine pn_ 4 73 HT_ ?_
 refine pn_ 5 74 HT_ ?_
 refine pn_ 6 75 HT_ ?_
 refine pn_ 7 76 HT_ ?_
 refine pn_ 8 77 HT_ ?_
 refine pn_ 9 78 HT_ ?_
 refine pu_ 10 79 HT_ ?_
 refine done_ (done_of HT_.out (by kernel_rfl)) ?_
 go_upto_region 12 with fail
 refine start_ (n := 9) (S := fun W' => W'.cell? ⟨w.heap.size, 0, none⟩ = some (.slice A0 Rs.length c0) ∧ W'.cell? ⟨w.heap.size, 1, none⟩ = some (.slice A1 Ls.length c1)) (ds := []) #[false, false, false, false, false, false, false, false, false] (by kernel_rfl) rfl rfl (⟨z30, z31⟩) (fun hHeld => ?_); refine with_tabW sbR.tab sbR.bits (fun HT_ HW_ => ?_)
 refine ta_ 0 80 HT_ HW_ hHeld ?_
 refine pu_ 1 81 HT_ ?_
 refine pu_ 2 82 HT_ ?_
 refine pu_ 3 83 HT_ ?_
 refine pu_ 4 84 HT_ ?_
 refine pu_ 5 85 HT_ ?_
 refine pu_ 6 86 HT_ ?_
 refine pu_ 7 87 HT_ ?_
 refine one_ (i := 8) (N := (some 88)) #[true, true, true, true, true, true, true, true, true] rfl rfl (one_of HT_.out (by kernel_rfl)) (by decide) (fun K hK => ?_)
 refine goes_ Try.func83 (by kernel_rfl) rfl #[.agg #[.slice A0 Rs.length c0, .slice A1 Ls.length c1], .slice Ar bl cr, .slice Am m.length cm, .slice (some ⟨b, 0, none⟩) n n] (by rfl) rfl rfl (by (try simp only [List.map_toArray, List.map_cons, List.map_nil]); first | rfl) ?_
 refine (IHR.out _ (HW3.out.below (by repeat (first | exact Below.refl _ _ | apply Below.drew)))).mono ?_
 rintro e W5 hp
 have hp := (SRow.same HW3.out (by repeat (first | exact Below.refl _ _ | apply Below.drew))).join hp
 have HPW5 := Aside0.mk hp
 obtain ⟨rfl, hr, hs, hk⟩ := hp
 refine ⟨_, rfl, ?_⟩
 have hg5 := (hk w.heap.size (blk_lt HG3.out) (by omega)).trans HG3.out
 have hx5 := (hk (w.heap.size + 1) (blk_lt HX3.out) (by omega)).trans HX3.out
 have HG5 := Aside0.mk hg5
 have HX5 := Aside0.mk hx5
 have HW5 := Aside0.mk hr
 have z50 := blk_cell hg5 0
 have z51 := blk_cell hg5 1
 have y50 := blk_cell hx5 0
 clear hr hs hk hg5 hx5
 refine hK.out _ _ (⟨z50, z51⟩) (fun hHeld => ?_)
 clear hK K
 refine norm_ (a' := ?_) ?_ ?_
 rotate_left
 ·show Act.put _ (some 88) _ = _; simp only [Act.put, List.setIfInBounds_toArray, List.set_cons_zero, List.set_cons_succ, i64_w, i32_w]; rfl
 refine done_ (done_of HT_.out (by kernel_rfl)) ?_
 go_wp2_with fail
 go_end0
 exact ((HP1.out.join HP2.out).join HPW3.out).join HPW5.out
set_option maxRecDepth 100000 in
set_option maxHeartbeats 8000000 in
theorem beg_seqT (U : World) (A0 A1 : Option Addr) (c0 c1 : Nat) (Rs : List Ru) (Ls : List La) (Am : Option Addr) (cm : Nat) (m : List Bool) (b n : Nat) (hG : SG U A0 A1 c0 c1 Rs Ls Am cm m b) (hn : Aside0 (n = Rs.length + Ls.length)) (o : List Bool) (w : World) (A : Option Addr) (c : Nat) (N p : Nat) (pre : List Op) (a2 : Int) (s : List Int) (a bl cr : Nat) (Ar : Option Addr) (o1 o2 : List Bool) (hap : a ≤ p) (hAr : Ar = if c = a then A else A.map (·.add (a * 3))) (hbl1 : bl = p - a) (hcr : cr = c - a) (HS : Aside0 (∀ w', Below U.heap.size U w' → Calls Try.prog 129 #[.slice A N c, .int .i64 (p : Int)] w' (fun e w2 => e = .returned (.int .i64 (a : Int)) ∧ Below w'.heap.size w' w2))) (IHL : Aside0 (∀ w', SRow U w' b o → Calls Try.prog 83 #[.agg #[.slice A0 Rs.length c0, .slice A1 Ls.length c1], .slice A a c, .slice Am m.length cm, .slice (some ⟨b, 0, none⟩) n n] w' (BegPost U w' b o1))) (IHR : Aside0 (∀ w', SRow U w' b o1 → Calls Try.prog 83 #[.agg #[.slice A0 Rs.length c0, .slice A1 Ls.length c1], .slice Ar bl cr, .slice Am m.length cm, .slice (some ⟨b, 0, none⟩) n n] w' (BegPost U w' b o2))) (HN : Aside0 (∀ w', Below U.heap.size U w' → Calls Try.prog 123 #[.agg #[.slice A0 Rs.length c0, .slice A1 Ls.length c1], .slice A a c, .slice Am m.length cm] w' (BoolPost w' true))) (hN : N = p + 1) (hpl : pre.length = p) (hp : p ≤ 1000000) (hC : Kd.C k79 U A N (pre ++ [(⟨4, s, a2⟩ : Op)])) (hc : N ≤ c) (hW : SRow U w b o) (ho : o.length = n) :
 Calls Try.prog 83 #[.agg #[.slice A0 Rs.length c0, .slice A1 Ls.length c1], .slice A N c, .slice Am m.length cm, .slice (some ⟨b, 0, none⟩) n n] w (BegPost U w b (o2)) := by
 obtain ⟨ad, A5, c5, rfl, x0, x1, x2, y1, y2⟩ := last_op (W := U) (A := A) (pre := pre) (o := ⟨4, s, a2⟩) (by rw [List.length_append, List.length_singleton, hpl, ← hN]; exact hC)
 rw [hpl] at x0 x1 x2
 replace x0 := pw_cell_below hW.bel x0
 replace x1 := pw_cell_below hW.bel x1
 replace x2 := pw_cell_below hW.bel x2
 simp only at x0 x1 x2 y1 y2
 have lx := World.block_lt_of_cell? _ _ x0
 have ew : IntKind.i64.wrap ((N : Int) - 1) = (p : Int) := (i64_w _).trans (by rw [wid (by omega) (by omega)]; omega)
 have en : ((N : Int) == 0) = false := by rw [beq_eq_false_iff_ne]; omega
 have e2 : (0 ≤ (p : Int)) = True := eq_true (by omega)
 have e3 : ((p : Int) < (N : Int)) = True := eq_true (by omega)
 have hrow1 := hW.below (below_alloc (below_alloc (Below.refl _ _) (Obj.cells #[.slice A0 Rs.length c0, .slice A1 Ls.length c1] 31)) (Obj.cells #[.int .i64 4, .slice A5 s.length c5, .int .i64 a2] 79))
 have hg := blk_alloc (blk_new w (Obj.cells #[.slice A0 Rs.length c0, .slice A1 Ls.length c1] 31)) (Obj.cells #[.int .i64 4, .slice A5 s.length c5, .int .i64 a2] 79)
 have hx := blk_new (w.alloc (Obj.cells #[.slice A0 Rs.length c0, .slice A1 Ls.length c1] 31)) (Obj.cells #[.int .i64 4, .slice A5 s.length c5, .int .i64 a2] 79)
 rw [World.size_alloc] at hx
 have hbl := blk_lt hW.row
 have g0 := blk_cell hg 0
 have g1 := blk_cell hg 1
 have HQ0 := Aside0.mk hg
 have HX := Aside0.mk hx
 have HW1 := Aside0.mk hrow1
 have HP1 := Aside0.mk (hW.same (below_alloc (below_alloc (Below.refl _ _) (Obj.cells #[.slice A0 Rs.length c0, .slice A1 Ls.length c1] 31)) (Obj.cells #[.int .i64 4, .slice A5 s.length c5, .int .i64 a2] 79)))
 obtain ⟨ii, hi, _, hsz, _⟩ := info_parts info79
 have hcutA := cut_to (P := Try.prog) 66 79 .i64 Try.underlying66 hi (some ad) N c (a : Int) (by omega) (by omega) hc
 rw [Int.toNat_natCast] at hcutA
 have hcutB := cut_mid (P := Try.prog) 66 79 .i64 .i64 Try.underlying66 hi 3 hsz (some ad) N c (a : Int) (p : Int) (by omega) (by omega) (by omega) hc
 rw [Int.toNat_natCast, Int.toNat_natCast, ← hAr, ← hbl1, ← hcr] at hcutB
 clear hrow1 hg hx hi hsz hAr hbl1 hcr
 have HG := Aside0.mk hG
 have HW := Aside0.mk hW
 have HY := Aside0.mk y2
 have HY1 := Aside0.mk y1
 have HO := Aside0.mk ho
 have HC := Aside0.mk hC
 clear hG hW y2 hC ho y1 hN hpl
 go_enter Try.func83, Try.ntmps83
 go_upto_region 10 with (go_at_call 129; refine (HS.out _ HW1.out.bel).mono ?_; go_must (rintro e W2 ⟨rfl, hb⟩; have hg2 := blk_below HQ0.out hb; have hx2 := blk_below HX.out hb; have u0 := blk_cell hg2 0; have u1 := blk_cell hg2 1; have HG2 := Aside0.mk hg2; have HX2 := Aside0.mk hx2; have HW2 := Aside0.mk (HW1.out.below hb); have HP2 := Aside0.mk (HW1.out.same hb); clear hg2 hx2 hb))
 refine start_ (n := 7) (S := fun W' => W'.cell? ⟨w.heap.size, 0, none⟩ = some (.slice A0 Rs.length c0) ∧ W'.cell? ⟨w.heap.size, 1, none⟩ = some (.slice A1 Ls.length c1)) (ds := []) #[false, false, false, false, false, false, false] (by kernel_rfl) rfl rfl (⟨u0, u1⟩) (fun hHeld => ?_); refine with_tabW sbL.tab sbL.bits (fun HT_ HW_ => ?_)
 refine ta_ 0 62 HT_ HW_ hHeld ?_
 refine pu_ 1 63 HT_ ?_
 refine pu_ 2 64 HT_ ?_
 refine pu_ 3 65 HT_ ?_
 refine pu_ 4 66 HT_ ?_
 refine pu_ 5 67 HT_ ?_
 refine one_ (i := 6) (N := (some 68)) #[true, true, true, true, true, true, true] rfl rfl (one_of HT_.out (by kernel_rfl)) (by decide) (fun K hK => ?_)
 refine goes_ Try.func83 (by kernel_rfl) rfl #[.agg #[.slice A0 Rs.length c0, .slice A1 Ls.length c1], .slice (some ad) a c, .slice Am m.length cm, .slice (some ⟨b, 0, none⟩) n n] (by rfl) rfl rfl (by (try simp only [List.map_toArray, List.map_cons, List.map_nil]); first | rfl) ?_
 refine (IHL.out _ (HW2.out.below (by repeat (first | exact Below.refl _ _ | apply Below.drew)))).mono ?_
 rintro e W3 hp
 have hp := (SRow.same HW2.out (by repeat (first | exact Below.refl _ _ | apply Below.drew))).join hp
 have HPW3 := Aside0.mk hp
 obtain ⟨rfl, hr, hs, hk⟩ := hp
 refine ⟨_, rfl, ?_⟩
 have hg3 := (hk w.heap.size (blk_lt HG2.out) (by omega)).trans HG2.out
 have hx3 := (hk (w.heap.size + 1) (blk_lt HX2.out) (by omega)).trans HX2.out
 have HG3 := Aside0.mk hg3
 have HX3 := Aside0.mk hx3
 have HW3 := Aside0.mk hr
 have z30 := blk_cell hg3 0
 have z31 := blk_cell hg3 1
 have y30 := blk_cell hx3 0
 clear hr hs hk hg3 hx3
 refine hK.out _ _ (⟨z30, z31⟩) (fun hHeld => ?_)
 clear hK K
 refine norm_ (a' := ?_) ?_ ?_
 rotate_left
 ·show Act.put _ (some 68) _ = _; simp only [Act.put, List.setIfInBounds_toArray, List.set_cons_zero, List.set_cons_succ, i64_w, i32_w]; rfl
 refine done_ (done_of HT_.out (by kernel_rfl)) ?_
 go_upto_region 11 with fail
 refine start_ (n := 11) (S := fun W' => W'.cell? ⟨w.heap.size, 0, none⟩ = some (.slice A0 Rs.length c0) ∧ W'.cell? ⟨w.heap.size, 1, none⟩ = some (.slice A1 Ls.length c1) ∧ W'.cell? ⟨w.heap.size + 1, 0, none⟩ = some (.int .i64 4)) (ds := []) #[false, false, false, false, false, false, false, false, false, false, false] (by kernel_rfl) rfl rfl (⟨z30, z31, y30⟩) (fun hHeld => ?_); refine with_tabW sbG.tab sbG.bits (fun HT_ HW_ => ?_)
 refine pu_ 0 69 HT_ ?_
 refine ta_ 1 70 HT_ HW_ hHeld ?_
 refine pu_ 2 71 HT_ ?_
 refine pu_ 3 72 HT_ ?_
 refine ta_ 4 73 HT_ HW_ hHeld ?_
 refine pu_ 5 74 HT_ ?_
 refine pu_ 6 75 HT_ ?_
 refine pu_ 7 76 HT_ ?_
 refine pu_ 8 77 HT_ ?_
 refine one_ (i := 9) (N := (some 78)) #[true, true, true, true, true, true, true, true, true, true, false] rfl rfl (one_of HT_.out (by kernel_rfl)) (by decide) (fun K hK => ?_)
 refine goes_ Try.func123 (by kernel_rfl) rfl #[.agg #[.slice A0 Rs.length c0, .slice A1 Ls.length c1], .slice (some ad) a c, .slice Am m.length cm] (by rfl) rfl rfl (by (try simp only [List.map_toArray, List.map_cons, List.map_nil]); first | rfl) ?_
 refine (HN.out _ (below_then HW3.out.bel HW3.out.bel.size (by repeat (first | exact Below.refl _ _ | apply Below.drew)))).mono ?_
 rintro e W4 ⟨rfl, hb0⟩
 refine ⟨_, rfl, ?_⟩
 have hb1 : Below W3.heap.size W3 W4 := below_then (by repeat (first | exact Below.refl _ _ | apply Below.drew)) (by simp) hb0
 have hg4 := blk_below HG3.out hb1
 have hx4 := blk_below HX3.out hb1
 have HG4 := Aside0.mk hg4
 have HX4 := Aside0.mk hx4
 have HW4 := Aside0.mk (HW3.out.below hb1)
 have HP4 := Aside0.mk (HW3.out.same hb1)
 have z40 := blk_cell hg4 0
 have z41 := blk_cell hg4 1
 have y40 := blk_cell hx4 0
 clear hg4 hx4 hb1 hb0
 refine hK.out _ _ (⟨z40, z41, y40⟩) (fun hHeld => ?_)
 clear hK K
 refine norm_ (a' := ?_) ?_ ?_
 rotate_left
 ·show Act.put _ (some 78) _ = _; simp only [Act.put, List.setIfInBounds_toArray, List.set_cons_zero, List.set_cons_succ, i64_w, i32_w]; rfl
 refine pu_ 10 79 HT_ ?_
 refine done_ (done_of HT_.out (by kernel_rfl)) ?_
 go_upto_region 12 with fail
 refine start_ (n := 9) (S := fun W' => W'.cell? ⟨w.heap.size, 0, none⟩ = some (.slice A0 Rs.length c0) ∧ W'.cell? ⟨w.heap.size, 1, none⟩ = some (.slice A1 Ls.length c1)) (ds := []) #[false, false, false, false, false, false, false, false, false] (by kernel_rfl) rfl rfl (⟨z40, z41⟩) (fun hHeld => ?_); refine with_tabW sbR.tab sbR.bits (fun HT_ HW_ => ?_)
 refine ta_ 0 80 HT_ HW_ hHeld ?_
 refine pu_ 1 81 HT_ ?_
 refine pu_ 2 82 HT_ ?_
 refine pu_ 3 83 HT_ ?_
 refine pu_ 4 84 HT_ ?_
 refine pu_ 5 85 HT_ ?_
 refine pu_ 6 86 HT_ ?_
 refine pu_ 7 87 HT_ ?_
 refine one_ (i := 8) (N := (some 88)) #[true, true, true, true, true, true, true, true, true] rfl rfl (one_of HT_.out (by kernel_rfl)) (by decide) (fun K hK => ?_)
 refine goes_ Try.func83 (by kernel_rfl) rfl #[.agg #[.slice A0 Rs.length c0, .slice A1 Ls.length c1], .slice Ar bl cr, .slice Am m.length cm, .slice (some ⟨b, 0, none⟩) n n] (by rfl) rfl rfl (by (try simp only [List.map_toArray, List.map_cons, List.map_nil]); first | rfl) ?_
 refine (IHR.out _ (HW4.out.below (by repeat (first | exact Below.refl _ _ | apply Below.drew)))).mono ?_
 rintro e W5 hp
 have hp := (SRow.same HW4.out (by repeat (first | exact Below.refl _ _ | apply Below.drew))).join hp
 have HPW5 := Aside0.mk hp
 obtain ⟨rfl, hr, hs, hk⟩ := hp
 refine ⟨_, rfl, ?_⟩
 have hg5 := (hk w.heap.size (blk_lt HG4.out) (by omega)).trans HG4.out
 have hx5 := (hk (w.heap.size + 1) (blk_lt HX4.out) (by omega)).trans HX4.out
 have HG5 := Aside0.mk hg5
 have HX5 := Aside0.mk hx5
 have HW5 := Aside0.mk hr
 have z50 := blk_cell hg5 0
 have z51 := blk_cell hg5 1
 have y50 := blk_cell hx5 0
 clear hr hs hk hg5 hx5
 refine hK.out _ _ (⟨z50, z51⟩) (fun hHeld => ?_)
 clear hK K
 refine norm_ (a' := ?_) ?_ ?_
 rotate_left
 ·show Act.put _ (some 88) _ = _; simp only [Act.put, List.setIfInBounds_toArray, List.set_cons_zero, List.set_cons_succ, i64_w, i32_w]; rfl
 refine done_ (done_of HT_.out (by kernel_rfl)) ?_
 go_wp2_with fail
 go_end0
 exact (((HP1.out.join HP2.out).join HPW3.out).join HP4.out).join HPW5.out
set_option maxRecDepth 100000 in
set_option maxHeartbeats 8000000 in
theorem beg_seqF (U : World) (A0 A1 : Option Addr) (c0 c1 : Nat) (Rs : List Ru) (Ls : List La) (Am : Option Addr) (cm : Nat) (m : List Bool) (b n : Nat) (hG : SG U A0 A1 c0 c1 Rs Ls Am cm m b) (hn : Aside0 (n = Rs.length + Ls.length)) (o : List Bool) (w : World) (A : Option Addr) (c : Nat) (N p : Nat) (pre : List Op) (a2 : Int) (s : List Int) (a bl cr : Nat) (Ar : Option Addr) (o1 o2 : List Bool) (hap : a ≤ p) (hAr : Ar = if c = a then A else A.map (·.add (a * 3))) (hbl1 : bl = p - a) (hcr : cr = c - a) (HS : Aside0 (∀ w', Below U.heap.size U w' → Calls Try.prog 129 #[.slice A N c, .int .i64 (p : Int)] w' (fun e w2 => e = .returned (.int .i64 (a : Int)) ∧ Below w'.heap.size w' w2))) (IHL : Aside0 (∀ w', SRow U w' b o → Calls Try.prog 83 #[.agg #[.slice A0 Rs.length c0, .slice A1 Ls.length c1], .slice A a c, .slice Am m.length cm, .slice (some ⟨b, 0, none⟩) n n] w' (BegPost U w' b o1))) (HN : Aside0 (∀ w', Below U.heap.size U w' → Calls Try.prog 123 #[.agg #[.slice A0 Rs.length c0, .slice A1 Ls.length c1], .slice A a c, .slice Am m.length cm] w' (BoolPost w' false))) (hN : N = p + 1) (hpl : pre.length = p) (hp : p ≤ 1000000) (hC : Kd.C k79 U A N (pre ++ [(⟨4, s, a2⟩ : Op)])) (hc : N ≤ c) (hW : SRow U w b o) (ho : o.length = n) :
 Calls Try.prog 83 #[.agg #[.slice A0 Rs.length c0, .slice A1 Ls.length c1], .slice A N c, .slice Am m.length cm, .slice (some ⟨b, 0, none⟩) n n] w (BegPost U w b (o1)) := by
 obtain ⟨ad, A5, c5, rfl, x0, x1, x2, y1, y2⟩ := last_op (W := U) (A := A) (pre := pre) (o := ⟨4, s, a2⟩) (by rw [List.length_append, List.length_singleton, hpl, ← hN]; exact hC)
 rw [hpl] at x0 x1 x2
 replace x0 := pw_cell_below hW.bel x0
 replace x1 := pw_cell_below hW.bel x1
 replace x2 := pw_cell_below hW.bel x2
 simp only at x0 x1 x2 y1 y2
 have lx := World.block_lt_of_cell? _ _ x0
 have ew : IntKind.i64.wrap ((N : Int) - 1) = (p : Int) := (i64_w _).trans (by rw [wid (by omega) (by omega)]; omega)
 have en : ((N : Int) == 0) = false := by rw [beq_eq_false_iff_ne]; omega
 have e2 : (0 ≤ (p : Int)) = True := eq_true (by omega)
 have e3 : ((p : Int) < (N : Int)) = True := eq_true (by omega)
 have hrow1 := hW.below (below_alloc (below_alloc (Below.refl _ _) (Obj.cells #[.slice A0 Rs.length c0, .slice A1 Ls.length c1] 31)) (Obj.cells #[.int .i64 4, .slice A5 s.length c5, .int .i64 a2] 79))
 have hg := blk_alloc (blk_new w (Obj.cells #[.slice A0 Rs.length c0, .slice A1 Ls.length c1] 31)) (Obj.cells #[.int .i64 4, .slice A5 s.length c5, .int .i64 a2] 79)
 have hx := blk_new (w.alloc (Obj.cells #[.slice A0 Rs.length c0, .slice A1 Ls.length c1] 31)) (Obj.cells #[.int .i64 4, .slice A5 s.length c5, .int .i64 a2] 79)
 rw [World.size_alloc] at hx
 have hbl := blk_lt hW.row
 have g0 := blk_cell hg 0
 have g1 := blk_cell hg 1
 have HQ0 := Aside0.mk hg
 have HX := Aside0.mk hx
 have HW1 := Aside0.mk hrow1
 have HP1 := Aside0.mk (hW.same (below_alloc (below_alloc (Below.refl _ _) (Obj.cells #[.slice A0 Rs.length c0, .slice A1 Ls.length c1] 31)) (Obj.cells #[.int .i64 4, .slice A5 s.length c5, .int .i64 a2] 79)))
 obtain ⟨ii, hi, _, hsz, _⟩ := info_parts info79
 have hcutA := cut_to (P := Try.prog) 66 79 .i64 Try.underlying66 hi (some ad) N c (a : Int) (by omega) (by omega) hc
 rw [Int.toNat_natCast] at hcutA
 have hcutB := cut_mid (P := Try.prog) 66 79 .i64 .i64 Try.underlying66 hi 3 hsz (some ad) N c (a : Int) (p : Int) (by omega) (by omega) (by omega) hc
 rw [Int.toNat_natCast, Int.toNat_natCast, ← hAr, ← hbl1, ← hcr] at hcutB
 clear hrow1 hg hx hi hsz hAr hbl1 hcr
 have HG := Aside0.mk hG
 have HW := Aside0.mk hW
 have HY := Aside0.mk y2
 have HY1 := Aside0.mk y1
 have HO := Aside0.mk ho
 have HC := Aside0.mk hC
 clear hG hW y2 hC ho y1 hN hpl
 go_enter Try.func83, Try.ntmps83
 go_upto_region 10 with (go_at_call 129; refine (HS.out _ HW1.out.bel).mono ?_; go_must (rintro e W2 ⟨rfl, hb⟩; have hg2 := blk_below HQ0.out hb; have hx2 := blk_below HX.out hb; have u0 := blk_cell hg2 0; have u1 := blk_cell hg2 1; have HG2 := Aside0.mk hg2; have HX2 := Aside0.mk hx2; have HW2 := Aside0.mk (HW1.out.below hb); have HP2 := Aside0.mk (HW1.out.same hb); clear hg2 hx2 hb))
 refine start_ (n := 7) (S := fun W' => W'.cell? ⟨w.heap.size, 0, none⟩ = some (.slice A0 Rs.length c0) ∧ W'.cell? ⟨w.heap.size, 1, none⟩ = some (.slice A1 Ls.length c1)) (ds := []) #[false, false, false, false, false, false, false] (by kernel_rfl) rfl rfl (⟨u0, u1⟩) (fun hHeld => ?_); refine with_tabW sbL.tab sbL.bits (fun HT_ HW_ => ?_)
 refine ta_ 0 62 HT_ HW_ hHeld ?_
 refine pu_ 1 63 HT_ ?_
 refine pu_ 2 64 HT_ ?_
 refine pu_ 3 65 HT_ ?_
 refine pu_ 4 66 HT_ ?_
 refine pu_ 5 67 HT_ ?_
 refine one_ (i := 6) (N := (some 68)) #[true, true, true, true, true, true, true] rfl rfl (one_of HT_.out (by kernel_rfl)) (by decide) (fun K hK => ?_)
 refine goes_ Try.func83 (by kernel_rfl) rfl #[.agg #[.slice A0 Rs.length c0, .slice A1 Ls.length c1], .slice (some ad) a c, .slice Am m.length cm, .slice (some ⟨b, 0, none⟩) n n] (by rfl) rfl rfl (by (try simp only [List.map_toArray, List.map_cons, List.map_nil]); first | rfl) ?_
 refine (IHL.out _ (HW2.out.below (by repeat (first | exact Below.refl _ _ | apply Below.drew)))).mono ?_
 rintro e W3 hp
 have hp := (SRow.same HW2.out (by repeat (first | exact Below.refl _ _ | apply Below.drew))).join hp
 have HPW3 := Aside0.mk hp
 obtain ⟨rfl, hr, hs, hk⟩ := hp
 refine ⟨_, rfl, ?_⟩
 have hg3 := (hk w.heap.size (blk_lt HG2.out) (by omega)).trans HG2.out
 have hx3 := (hk (w.heap.size + 1) (blk_lt HX2.out) (by omega)).trans HX2.out
 have HG3 := Aside0.mk hg3
 have HX3 := Aside0.mk hx3
 have HW3 := Aside0.mk hr
 have z30 := blk_cell hg3 0
 have z31 := blk_cell hg3 1
 have y30 := blk_cell hx3 0
 clear hr hs hk hg3 hx3
 refine hK.out _ _ (⟨z30, z31⟩) (fun hHeld => ?_)
 clear hK K
 refine norm_ (a' := ?_) ?_ ?_
 rotate_left
 ·show Act.put _ (some 68) _ = _; simp only [Act.put, List.setIfInBounds_toArray, List.set_cons_zero, List.set_cons_succ, i64_w, i32_w]; rfl
 refine done_ (done_of HT_.out (by kernel_rfl)) ?_
 go_upto_region 11 with fail
 refine start_ (n := 11) (S := fun W' => W'.cell? ⟨w.heap.size, 0, none⟩ = some (.slice A0 Rs.length c0) ∧ W'.cell? ⟨w.heap.size, 1, none⟩ = some (.slice A1 Ls.length c1) ∧ W'.cell? ⟨w.heap.size + 1, 0, none⟩ = some (.int .i64 4)) (ds := []) #[false, false, false, false, false, false, false, false, false, false, false] (by kernel_rfl) rfl rfl (⟨z30, z31, y30⟩) (fun hHeld => ?_); refine with_tabW sbG.tab sbG.bits (fun HT_ HW_ => ?_)
 refine pu_ 0 69 HT_ ?_
 refine ta_ 1 70 HT_ HW_ hHeld ?_
 refine pu_ 2 71 HT_ ?_
 refine pu_ 3 72 HT_ ?_
 refine ta_ 4 73 HT_ HW_ hHeld ?_
 refine pu_ 5 74 HT_ ?_
 refine pu_ 6 75 HT_ ?_
 refine pu_ 7 76 HT_ ?_
 refine pu_ 8 77 HT_ ?_
 refine one_ (i := 9) (N := (some 78)) #[true, true, true, true, true, true, true, true, true, true, false] rfl rfl (one_of HT_.out (by kernel_rfl)) (by decide) (fun K hK => ?_)
 refine goes_ Try.func123 (by kernel_rfl) rfl #[.agg #[.slice A0 Rs.length c0, .slice A1 Ls.length c1], .slice (some ad) a c, .slice Am m.length cm] (by rfl) rfl rfl (by (try simp only [List.map_toArray, List.map_cons, List.map_nil]); first | rfl) ?_
 refine (HN.out _ (below_then HW3.out.bel HW3.out.bel.size (by repeat (first | exact Below.refl _ _ | apply Below.drew)))).mono ?_
 rintro e W4 ⟨rfl, hb0⟩
 refine ⟨_, rfl, ?_⟩
 have hb1 : Below W3.heap.size W3 W4 := below_then (by repeat (first | exact Below.refl _ _ | apply Below.drew)) (by simp) hb0
 have hg4 := blk_below HG3.out hb1
 have hx4 := blk_below HX3.out hb1
 have HG4 := Aside0.mk hg4
 have HX4 := Aside0.mk hx4
 have HW4 := Aside0.mk (HW3.out.below hb1)
 have HP4 := Aside0.mk (HW3.out.same hb1)
 have z40 := blk_cell hg4 0
 have z41 := blk_cell hg4 1
 have y40 := blk_cell hx4 0
 clear hg4 hx4 hb1 hb0
 refine hK.out _ _ (⟨z40, z41, y40⟩) (fun hHeld => ?_)
 clear hK K
 refine norm_ (a' := ?_) ?_ ?_
 rotate_left
 ·show Act.put _ (some 78) _ = _; simp only [Act.put, List.setIfInBounds_toArray, List.set_cons_zero, List.set_cons_succ, i64_w, i32_w]; rfl
 refine pu_ 10 79 HT_ ?_
 refine done_ (done_of HT_.out (by kernel_rfl)) ?_
 go_wp2_with fail
 go_end0
 exact (((HP1.out.join HP2.out).join HPW3.out).join HP4.out)
end Go.Proofs.Ytdiilocgjnlmiaa.Tre
