import Derived.Test.YtdiilocgjnlmiaaCpgWork
import Derived.Test.YtdiilocgjnlmiaaCpgByteText
import Derived.Test.YtdiilocgjnlmiaaCpgRegKit
namespace Go.Proofs.Ytdiilocgjnlmiaa.Tre
open Go.RowKit Go.Proofs.YtdiilocgjnlmiaaW.PrintWords Go.Proofs.YtdiilocgjnlmiaaW.PrintLast Go.Proofs.YtdiilocgjnlmiaaW.PrintMore
open Go.Proofs.Ytdiilocgjnlmiaa.PAll
set_option linter.unusedVariables false
set_option linter.unusedSimpArgs false
def rnR (Rs : List Ru) (n : Nat) : ByteArray := strOfNums (rd_T68 Rs (n : Int)).f0
def lnL (Ls : List La) (n : Nat) : ByteArray := strOfNums (rd_T72 Ls (n : Int)).f0
theorem size_nums (l : List Int) : (strOfNums l).size = l.length := by simp [strOfNums, ByteArray.size]
theorem cap_grB (yes : Bool) (s : ByteArray) (h : s.size ≤ 99999999999) : (grB yes s).size ≤ 100000000001 := by
 unfold grB
 split
 ·rw [ByteArray.size_append, ByteArray.size_append]
  show (1 + _) + 1 ≤ _
  omega
 omega
theorem cap_app (s t : ByteArray) (a b : Nat) (h : s.size ≤ a) (h2 : t.size ≤ b) (n : Nat) (hn : a + b ≤ n) : (s ++ t).size ≤ n := by
 rw [ByteArray.size_append]
 omega
set_option maxRecDepth 100000 in
set_option maxHeartbeats 8000000 in
theorem tx_emp (U : World) (A0 A1 : Option Addr) (c0 c1 : Nat) (Rs : List Ru) (Ls : List La) (hG : GrC U A0 c0 A1 c1 Rs Ls) (w : World) (hb : Below U.heap.size U w) (A : Option Addr) (c : Nat) (N p : Nat) (pre : List Op) (s : List Int) (a2 : Int) (hN : N = p + 1) (hpl : pre.length = p) (hp : p ≤ 2000) (hC : Kd.C k79 U A N (pre ++ [(⟨0, s, a2⟩ : Op)])) (hc : N ≤ c) :
 Calls Try.prog 88 #[.agg #[.slice A0 Rs.length c0, .slice A1 Ls.length c1], .slice A N c] w (StrPost w (⟨#[34, 34]⟩)) := by
 obtain ⟨ad, A5, c5, rfl, x0, x1, x2, y1, y2⟩ := last_op (W := U) (A := A) (pre := pre) (o := ⟨0, s, a2⟩) (by rw [List.length_append, List.length_singleton, hpl, ← hN]; exact hC)
 rw [hpl] at x0 x1 x2
 replace x0 := pw_cell_below hb x0
 replace x1 := pw_cell_below hb x1
 replace x2 := pw_cell_below hb x2
 simp only at x0 x1 x2 y1 y2
 have lx := World.block_lt_of_cell? _ _ x0
 have ew : IntKind.i64.wrap ((N : Int) - 1) = (p : Int) := (i64_w _).trans (by rw [wid (by omega) (by omega)]; omega)
 have e2 : (0 ≤ (p : Int)) = True := eq_true (by omega)
 have e3 : ((p : Int) < (N : Int)) = True := eq_true (by omega)
 have HG := Aside0.mk hG
 have HB := Aside0.mk hb
 have HY := Aside0.mk y2
 have HY1 := Aside0.mk y1
 have HC := Aside0.mk hC
 clear hG hb y2 hC y1 hN hpl
 go_enter Try.func88, Try.ntmps88
 go_wp2_with fail
 go_ret
 exact ⟨rfl, (below_alloc (below_alloc (Below.refl _ _) (Obj.cells #[.slice A0 Rs.length c0, .slice A1 Ls.length c1] 31)) (Obj.cells #[.int .i64 0, .slice A5 s.length c5, .int .i64 a2] 79))⟩
set_option maxRecDepth 100000 in
set_option maxHeartbeats 8000000 in
theorem tx_set (U : World) (A0 A1 : Option Addr) (c0 c1 : Nat) (Rs : List Ru) (Ls : List La) (hG : GrC U A0 c0 A1 c1 Rs Ls) (w : World) (hb : Below U.heap.size U w) (A : Option Addr) (c : Nat) (N p : Nat) (pre : List Op) (s : List Int) (a2 : Int) (hs : okS s) (hN : N = p + 1) (hpl : pre.length = p) (hp : p ≤ 2000) (hC : Kd.C k79 U A N (pre ++ [(⟨1, s, a2⟩ : Op)])) (hc : N ≤ c) :
 Calls Try.prog 88 #[.agg #[.slice A0 Rs.length c0, .slice A1 Ls.length c1], .slice A N c] w (StrPost w (stF s)) := by
 obtain ⟨ad, A5, c5, rfl, x0, x1, x2, y1, y2⟩ := last_op (W := U) (A := A) (pre := pre) (o := ⟨1, s, a2⟩) (by rw [List.length_append, List.length_singleton, hpl, ← hN]; exact hC)
 rw [hpl] at x0 x1 x2
 replace x0 := pw_cell_below hb x0
 replace x1 := pw_cell_below hb x1
 replace x2 := pw_cell_below hb x2
 simp only at x0 x1 x2 y1 y2
 have lx := World.block_lt_of_cell? _ _ x0
 have ew : IntKind.i64.wrap ((N : Int) - 1) = (p : Int) := (i64_w _).trans (by rw [wid (by omega) (by omega)]; omega)
 have e2 : (0 ≤ (p : Int)) = True := eq_true (by omega)
 have e3 : ((p : Int) < (N : Int)) = True := eq_true (by omega)
 have hr := Kd.C_below (Kd.C_below y2 hb) (below_alloc (below_alloc (Below.refl _ _) (Obj.cells #[.slice A0 Rs.length c0, .slice A1 Ls.length c1] 31)) (Obj.cells #[.int .i64 1, .slice A5 s.length c5, .int .i64 a2] 79))
 have HG := Aside0.mk hG
 have HB := Aside0.mk hb
 have HY := Aside0.mk y2
 have HY1 := Aside0.mk y1
 have HC := Aside0.mk hC
 clear hG hb y2 hC y1 hN hpl
 have HR := Aside0.mk hr
 have HSS := Aside0.mk hs
 have HB2 : Aside0 (Below w.heap.size w ((w.alloc (Obj.cells #[.slice A0 Rs.length c0, .slice A1 Ls.length c1] 31)).alloc (Obj.cells #[.int .i64 1, .slice A5 s.length c5, .int .i64 a2] 79))) := ⟨(below_alloc (below_alloc (Below.refl _ _) (Obj.cells #[.slice A0 Rs.length c0, .slice A1 Ls.length c1] 31)) (Obj.cells #[.int .i64 1, .slice A5 s.length c5, .int .i64 a2] 79))⟩
 clear hr hs
 go_enter Try.func88, Try.ntmps88
 go_wp2_with (first
  | (go_at_call 133; refine (sset_in s HSS.out A5 c5 HY1.out _ HR.out).mono ?_; go_must (rintro e W2 ⟨rfl, hb⟩; have HW := Aside0.mk (below_then HB2.out HB2.out.size hb); clear hb)))
 go_ret
 exact ⟨rfl, HW.out⟩
set_option maxRecDepth 100000 in
set_option maxHeartbeats 8000000 in
theorem tx_ref (U : World) (A0 A1 : Option Addr) (c0 c1 : Nat) (Rs : List Ru) (Ls : List La) (hG : GrC U A0 c0 A1 c1 Rs Ls) (w : World) (hb : Below U.heap.size U w) (A : Option Addr) (c : Nat) (N p : Nat) (pre : List Op) (s : List Int) (q : Nat) (hq : q < Rs.length) (hqs : Rs.length ≤ 1048576) (hnl : (rnR Rs q).size ≤ 1048576) (hN : N = p + 1) (hpl : pre.length = p) (hp : p ≤ 2000) (hC : Kd.C k79 U A N (pre ++ [(⟨2, s, (q : Int)⟩ : Op)])) (hc : N ≤ c) :
 Calls Try.prog 88 #[.agg #[.slice A0 Rs.length c0, .slice A1 Ls.length c1], .slice A N c] w (StrPost w (rnR Rs q)) := by
 obtain ⟨ad, A5, c5, rfl, x0, x1, x2, y1, y2⟩ := last_op (W := U) (A := A) (pre := pre) (o := ⟨2, s, (q : Int)⟩) (by rw [List.length_append, List.length_singleton, hpl, ← hN]; exact hC)
 rw [hpl] at x0 x1 x2
 replace x0 := pw_cell_below hb x0
 replace x1 := pw_cell_below hb x1
 replace x2 := pw_cell_below hb x2
 simp only at x0 x1 x2 y1 y2
 have lx := World.block_lt_of_cell? _ _ x0
 have ew : IntKind.i64.wrap ((N : Int) - 1) = (p : Int) := (i64_w _).trans (by rw [wid (by omega) (by omega)]; omega)
 have e2 : (0 ≤ (p : Int)) = True := eq_true (by omega)
 have e3 : ((p : Int) < (N : Int)) = True := eq_true (by omega)
 have hb2 : Below w.heap.size w ((w.alloc (Obj.cells #[.slice A0 Rs.length c0, .slice A1 Ls.length c1] 31)).alloc (Obj.cells #[.int .i64 2, .slice A5 s.length c5, .int .i64 (q : Int)] 79)) := below_alloc (below_alloc (Below.refl _ _) _) _
 have hg := blk_alloc (blk_new w (Obj.cells #[.slice A0 Rs.length c0, .slice A1 Ls.length c1] 31)) (Obj.cells #[.int .i64 2, .slice A5 s.length c5, .int .i64 (q : Int)] 79)
 have hx := blk_new (w.alloc (Obj.cells #[.slice A0 Rs.length c0, .slice A1 Ls.length c1] 31)) (Obj.cells #[.int .i64 2, .slice A5 s.length c5, .int .i64 (q : Int)] 79)
 rw [World.size_alloc] at hx
 have HG0 := Aside0.mk hg
 have HX := Aside0.mk hx
 have HB2 := Aside0.mk hb2
 have HU2 := Aside0.mk (below_then hb hb.size hb2)
 have HSZ2 : Aside0 (((w.alloc (Obj.cells #[.slice A0 Rs.length c0, .slice A1 Ls.length c1] 31)).alloc (Obj.cells #[.int .i64 2, .slice A5 s.length c5, .int .i64 (q : Int)] 79)).heap.size = w.heap.size + 1 + 1) := ⟨by simp⟩
 obtain ⟨ad2, X0, d0, X1, d1, hA, z0, z1, q0, q1, q2, q3⟩ := at_T68 hG.r (q : Int) (by omega) (by omega)
 obtain rfl := hA
 rw [Int.toNat_natCast] at z0 z1
 replace z0 := pw_cell_below hb z0
 have lz := World.block_lt_of_cell? _ _ z0
 have e4 : (0 ≤ (q : Int)) = True := eq_true (by omega)
 have e5 : ((q : Int) < (Rs.length : Int)) = True := eq_true (by omega)
 have HE : Aside0 (rnR Rs q = strOfNums (rd_T68 Rs (q : Int)).f0) := ⟨rfl⟩
 rw [HE.out] at hnl
 have hcv := Kd.C_string (P := Try.prog) (dst := 9) (c := d0) Try.underlying36 Try.underlying5 Try.underlying9 (Kd.C_below (Kd.C_below q1 hb) hb2)
 generalize (rd_T68 Rs (q : Int)).f0 = nm at *
 clear hg hx hb2 q0 q1 q2 q3 z1 hq hqs
 have HG := Aside0.mk hG
 have HB := Aside0.mk hb
 have HY := Aside0.mk y2
 have HY1 := Aside0.mk y1
 have HC := Aside0.mk hC
 clear hG hb y2 hC y1 hN hpl
 go_enter Try.func88, Try.ntmps88
 go_wp2_with fail
 go_ret
 rw [HE.out]
 exact ⟨rfl, HB2.out⟩
set_option maxRecDepth 100000 in
set_option maxHeartbeats 8000000 in
theorem tx_thr (U : World) (A0 A1 : Option Addr) (c0 c1 : Nat) (Rs : List Ru) (Ls : List La) (hG : GrC U A0 c0 A1 c1 Rs Ls) (w : World) (hb : Below U.heap.size U w) (A : Option Addr) (c : Nat) (N p : Nat) (pre : List Op) (s : List Int) (q : Nat) (hq : q < Ls.length) (hqs : Ls.length ≤ 1048576) (hnl : (lnL Ls q).size ≤ 1048576) (hN : N = p + 1) (hpl : pre.length = p) (hp : p ≤ 2000) (hC : Kd.C k79 U A N (pre ++ [(⟨3, s, (q : Int)⟩ : Op)])) (hc : N ≤ c) :
 Calls Try.prog 88 #[.agg #[.slice A0 Rs.length c0, .slice A1 Ls.length c1], .slice A N c] w (StrPost w (⟨#[94]⟩ ++ lnL Ls q)) := by
 obtain ⟨ad, A5, c5, rfl, x0, x1, x2, y1, y2⟩ := last_op (W := U) (A := A) (pre := pre) (o := ⟨3, s, (q : Int)⟩) (by rw [List.length_append, List.length_singleton, hpl, ← hN]; exact hC)
 rw [hpl] at x0 x1 x2
 replace x0 := pw_cell_below hb x0
 replace x1 := pw_cell_below hb x1
 replace x2 := pw_cell_below hb x2
 simp only at x0 x1 x2 y1 y2
 have lx := World.block_lt_of_cell? _ _ x0
 have ew : IntKind.i64.wrap ((N : Int) - 1) = (p : Int) := (i64_w _).trans (by rw [wid (by omega) (by omega)]; omega)
 have e2 : (0 ≤ (p : Int)) = True := eq_true (by omega)
 have e3 : ((p : Int) < (N : Int)) = True := eq_true (by omega)
 have hb2 : Below w.heap.size w ((w.alloc (Obj.cells #[.slice A0 Rs.length c0, .slice A1 Ls.length c1] 31)).alloc (Obj.cells #[.int .i64 3, .slice A5 s.length c5, .int .i64 (q : Int)] 79)) := below_alloc (below_alloc (Below.refl _ _) _) _
 have hg := blk_alloc (blk_new w (Obj.cells #[.slice A0 Rs.length c0, .slice A1 Ls.length c1] 31)) (Obj.cells #[.int .i64 3, .slice A5 s.length c5, .int .i64 (q : Int)] 79)
 have hx := blk_new (w.alloc (Obj.cells #[.slice A0 Rs.length c0, .slice A1 Ls.length c1] 31)) (Obj.cells #[.int .i64 3, .slice A5 s.length c5, .int .i64 (q : Int)] 79)
 rw [World.size_alloc] at hx
 have HG0 := Aside0.mk hg
 have HX := Aside0.mk hx
 have HB2 := Aside0.mk hb2
 have HU2 := Aside0.mk (below_then hb hb.size hb2)
 have HSZ2 : Aside0 (((w.alloc (Obj.cells #[.slice A0 Rs.length c0, .slice A1 Ls.length c1] 31)).alloc (Obj.cells #[.int .i64 3, .slice A5 s.length c5, .int .i64 (q : Int)] 79)).heap.size = w.heap.size + 1 + 1) := ⟨by simp⟩
 obtain ⟨ad2, X0, d0, X1, d1, hA, z0, zh, z1, q0, q1, q2, q3⟩ := at_T72 hG.l (q : Int) (by omega) (by omega)
 obtain rfl := hA
 rw [Int.toNat_natCast] at z0 z1
 replace z0 := pw_cell_below hb z0
 have lz := World.block_lt_of_cell? _ _ z0
 have e4 : (0 ≤ (q : Int)) = True := eq_true (by omega)
 have e5 : ((q : Int) < (Ls.length : Int)) = True := eq_true (by omega)
 have HE : Aside0 (lnL Ls q = strOfNums (rd_T72 Ls (q : Int)).f0) := ⟨rfl⟩
 rw [HE.out] at hnl
 have hcv := Kd.C_string (P := Try.prog) (dst := 9) (c := d0) Try.underlying36 Try.underlying5 Try.underlying9 (Kd.C_below (Kd.C_below q1 hb) hb2)
 generalize (rd_T72 Ls (q : Int)).f0 = nm at *
 clear hg hx hb2 q0 q1 q2 q3 z1 zh hq hqs
 have HG := Aside0.mk hG
 have HB := Aside0.mk hb
 have HY := Aside0.mk y2
 have HY1 := Aside0.mk y1
 have HC := Aside0.mk hC
 clear hG hb y2 hC y1 hN hpl
 go_enter Try.func88, Try.ntmps88
 go_wp2_with fail
 go_ret
 rw [HE.out]
 exact ⟨rfl, HB2.out⟩
def txS.T : Bool × List (List Nat × List Nat) := (true, [([], []), ([], []), ([], []), ([2], [2]), ([1, 3], [1, 3]), ([0, 4], [0, 4]), ([], []), ([6], [6]), ([5, 7, 5], [5, 7]), ([8], [8]), ([9, 8, 0, 1, 2, 3, 4, 5, 6, 7, 8, 9], [9])])
def txS.B : List Nat := [0, 0, 0, 4, 14, 31, 0, 64, 255, 511, 1023]
theorem txS.tab : rtab .any (opsOf Try.f88 13) = txS.T := by kernel_rfl
theorem txS.bits : waitsOk txS.T.2 txS.B = true := by kernel_rfl
def txN.T : Bool × List (List Nat × List Nat) := (true, [([], []), ([], []), ([], []), ([2], [2]), ([1, 3], [1, 3]), ([0, 4], [0, 4]), ([], []), ([6], [6]), ([7, 5], [7]), ([8], [8]), ([9, 8], [8, 9]), ([8, 10], [8, 10]), ([5, 11, 8], [5, 11]), ([12], [12]), ([13, 12, 0, 1, 2, 3, 4, 5, 6, 7, 8, 9, 10, 11, 12, 13], [13])])
def txN.B : List Nat := [0, 0, 0, 4, 14, 31, 0, 64, 255, 511, 1023, 2047, 4095, 8191, 16383]
theorem txN.tab : rtab .any (opsOf Try.f88 15) = txN.T := by kernel_rfl
theorem txN.bits : waitsOk txN.T.2 txN.B = true := by kernel_rfl
def txX.T : Bool × List (List Nat × List Nat) := (true, [([], []), ([], []), ([], []), ([1, 2], [1, 2]), ([0, 3], [0, 3]), ([4, 4, 0, 1, 2, 3, 4], [4])])
def txX.B : List Nat := [0, 0, 0, 6, 15, 31]
theorem txX.tab : rtab .any (opsOf Try.f88 18) = txX.T := by kernel_rfl
theorem txX.bits : waitsOk txX.T.2 txX.B = true := by kernel_rfl
def txY.T : Bool × List (List Nat × List Nat) := (true, [([], []), ([], []), ([], []), ([], []), ([3], [3]), ([1, 2, 4], [1, 2, 4]), ([0, 5], [0, 5]), ([6, 6, 0, 1, 2, 3, 4, 5, 6], [6])])
def txY.B : List Nat := [0, 0, 0, 0, 8, 30, 63, 127]
theorem txY.tab : rtab .any (opsOf Try.f88 19) = txY.T := by kernel_rfl
theorem txY.bits : waitsOk txY.T.2 txY.B = true := by kernel_rfl
set_option maxRecDepth 100000 in
set_option maxHeartbeats 8000000 in
theorem tx_star (U : World) (A0 A1 : Option Addr) (c0 c1 : Nat) (Rs : List Ru) (Ls : List La) (hG : GrC U A0 c0 A1 c1 Rs Ls) (w : World) (hb : Below U.heap.size U w) (A : Option Addr) (c : Nat) (N p : Nat) (pre : List Op) (s : List Int) (a2 : Int) (X : ByteArray) (hX : X.size ≤ 99999999999) (ky p2 : Nat) (hk : ∀ ad, A = some ad → U.cell? (ad.add (p2 * 3)) = some (.int .i64 (ky : Int))) (hp2 : p = p2 + 1) (IH : Aside0 (∀ w', Below U.heap.size U w' → Calls Try.prog 88 #[.agg #[.slice A0 Rs.length c0, .slice A1 Ls.length c1], .slice A p c] w' (StrPost w' X))) (hN : N = p + 1) (hpl : pre.length = p) (hp : p ≤ 2000) (hC : Kd.C k79 U A N (pre ++ [(⟨6, s, a2⟩ : Op)])) (hc : N ≤ c) :
 Calls Try.prog 88 #[.agg #[.slice A0 Rs.length c0, .slice A1 Ls.length c1], .slice A N c] w (StrPost w (grB (decide ((ky : Int) ≥ 4)) X ++ ⟨#[42]⟩)) := by
 obtain ⟨ad, A5, c5, rfl, x0, x1, x2, y1, y2⟩ := last_op (W := U) (A := A) (pre := pre) (o := ⟨6, s, a2⟩) (by rw [List.length_append, List.length_singleton, hpl, ← hN]; exact hC)
 rw [hpl] at x0 x1 x2
 replace x0 := pw_cell_below hb x0
 replace x1 := pw_cell_below hb x1
 replace x2 := pw_cell_below hb x2
 simp only at x0 x1 x2 y1 y2
 have lx := World.block_lt_of_cell? _ _ x0
 have ew : IntKind.i64.wrap ((N : Int) - 1) = (p : Int) := (i64_w _).trans (by rw [wid (by omega) (by omega)]; omega)
 have e2 : (0 ≤ (p : Int)) = True := eq_true (by omega)
 have e3 : ((p : Int) < (N : Int)) = True := eq_true (by omega)
 have hb2 : Below w.heap.size w ((w.alloc (Obj.cells #[.slice A0 Rs.length c0, .slice A1 Ls.length c1] 31)).alloc (Obj.cells #[.int .i64 6, .slice A5 s.length c5, .int .i64 a2] 79)) := below_alloc (below_alloc (Below.refl _ _) _) _
 have hg := blk_alloc (blk_new w (Obj.cells #[.slice A0 Rs.length c0, .slice A1 Ls.length c1] 31)) (Obj.cells #[.int .i64 6, .slice A5 s.length c5, .int .i64 a2] 79)
 have hx := blk_new (w.alloc (Obj.cells #[.slice A0 Rs.length c0, .slice A1 Ls.length c1] 31)) (Obj.cells #[.int .i64 6, .slice A5 s.length c5, .int .i64 a2] 79)
 rw [World.size_alloc] at hx
 have HGW2 := Aside0.mk hg
 have HX := Aside0.mk hx
 have HBW2 := Aside0.mk hb2
 have HUW2 := Aside0.mk (below_then hb hb.size hb2)
 have HSZ2 : Aside0 (((w.alloc (Obj.cells #[.slice A0 Rs.length c0, .slice A1 Ls.length c1] 31)).alloc (Obj.cells #[.int .i64 6, .slice A5 s.length c5, .int .i64 a2] 79)).heap.size = w.heap.size + 1 + 1) := ⟨by simp⟩
 obtain ⟨ii, hi, _, hsz, _⟩ := info_parts info79
 have hcut := cut_to (P := Try.prog) 66 79 .i64 Try.underlying66 hi (some ad) N c (p : Int) (by omega) (by omega) hc
 rw [Int.toNat_natCast] at hcut
 have v0 := pw_cell_below hb (hk ad rfl)
 have lv := World.block_lt_of_cell? _ _ v0
 have ew2 : IntKind.i64.wrap ((N : Int) - 2) = (p2 : Int) := (i64_w _).trans (by rw [wid (by omega) (by omega)]; omega)
 have e4 : (0 ≤ (p2 : Int)) = True := eq_true (by omega)
 have e5 : ((p2 : Int) < (N : Int)) = True := eq_true (by omega)
 have g0 := blk_cell hg 0
 have g1 := blk_cell hg 1
 clear hi hsz hx hb2 hk hp2 hg
 have HG := Aside0.mk hG
 have HB := Aside0.mk hb
 have HY := Aside0.mk y2
 have HY1 := Aside0.mk y1
 have HC := Aside0.mk hC
 clear hG hb y2 hC y1 hN hpl
 go_enter Try.func88, Try.ntmps88
 go_upto_region 13 with fail
 generalize (w.alloc (Obj.cells #[.slice A0 Rs.length c0, .slice A1 Ls.length c1] 31)).alloc (Obj.cells #[.int .i64 6, .slice A5 s.length c5, .int .i64 a2] 79) = W2 at *
 refine start_ (n := 11) (S := fun W' => W'.cell? ⟨w.heap.size, 0, none⟩ = some (.slice A0 Rs.length c0) ∧ W'.cell? ⟨w.heap.size, 1, none⟩ = some (.slice A1 Ls.length c1)) (ds := []) #[false, false, false, false, false, false, false, false, false, false, false] (by kernel_rfl) rfl rfl (⟨g0, g1⟩) (fun hHeld => ?_); refine with_tabW txS.tab txS.bits (fun HT_ HW_ => ?_)
 refine ta_ 0 60 HT_ HW_ hHeld ?_
 refine pu_ 1 61 HT_ ?_
 refine pu_ 2 62 HT_ ?_
 refine pu_ 3 63 HT_ ?_
 refine pu_ 4 64 HT_ ?_
 refine pu_ 6 66 HT_ ?_
 refine pu_ 7 67 HT_ ?_
 refine on_ 5 (some 65) HT_ (fun K hK => ?_)
 refine ge_ Try.func88 #[.agg #[.slice A0 Rs.length c0, .slice A1 Ls.length c1], .slice (some ad) p c] ?_
 refine (IH.out _ (below_then HUW2.out HUW2.out.size (by repeat (first | exact Below.refl _ _ | apply pw_below_drewN | apply Below.drew)))).mono ?_
 rintro e W3 ⟨rfl, hb0⟩
 refine ⟨_, rfl, ?_⟩
 have hb1 : Below W2.heap.size W2 W3 := below_then (by repeat (first | exact Below.refl _ _ | apply pw_below_drewN | apply Below.drew)) (by simp) hb0
 have hg3 := blk_below HGW2.out hb1
 have aa0 := blk_cell hg3 0
 have aa1 := blk_cell hg3 1
 have HGW3 := Aside0.mk hg3
 have HUW3 := Aside0.mk (below_then HUW2.out HUW2.out.size hb1)
 have HBW3 := Aside0.mk (below_then HBW2.out HBW2.out.size hb1)
 clear hb0 hb1 hg3
 refine hK.out _ _ (⟨aa0, aa1⟩) (fun hHeld => ?_)
 clear hK K
 refine no_ (some 65) ?_
 refine on_ 8 (some 68) HT_ (fun K hK => ?_)
 refine ge_ Try.func134 #[.string X, .bool (decide ((ky : Int) ≥ 4))] ?_
 refine (group_in X (decide ((ky : Int) ≥ 4)) (by omega) _).mono ?_
 rintro e W4 ⟨rfl, hb0⟩
 refine ⟨_, rfl, ?_⟩
 have hb1 : Below W3.heap.size W3 W4 := below_then (by repeat (first | exact Below.refl _ _ | apply pw_below_drewN | apply Below.drew)) (by simp) hb0
 have hg3 := blk_below HGW3.out hb1
 have ab0 := blk_cell hg3 0
 have ab1 := blk_cell hg3 1
 have HGW4 := Aside0.mk hg3
 have HUW4 := Aside0.mk (below_then HUW3.out HUW3.out.size hb1)
 have HBW4 := Aside0.mk (below_then HBW3.out HBW3.out.size hb1)
 clear hb0 hb1 hg3
 have hgs := cap_grB (decide (4 ≤ (ky : Int))) X hX
 have hgf := eq_false (show ¬ (9223372036854775807 < (grB (decide (4 ≤ (ky : Int))) X).size + 1) by omega)
 refine hK.out _ _ (⟨ab0, ab1⟩) (fun hHeld => ?_)
 clear hK K
 refine no_ (some 68) ?_
 refine pu_ 9 69 HT_ ?_
 refine pu_ 10 4 HT_ ?_
 refine done_ (done_of HT_.out (by kernel_rfl)) ?_
 go_wp2_with fail
 go_ret
 exact ⟨rfl, HBW4.out⟩
set_option maxRecDepth 100000 in
set_option maxHeartbeats 8000000 in
theorem tx_neg4 (U : World) (A0 A1 : Option Addr) (c0 c1 : Nat) (Rs : List Ru) (Ls : List La) (hG : GrC U A0 c0 A1 c1 Rs Ls) (w : World) (hb : Below U.heap.size U w) (A : Option Addr) (c : Nat) (N p : Nat) (pre : List Op) (s : List Int) (a2 : Int) (X : ByteArray) (hX : X.size ≤ 99999999999) (ky p2 : Nat) (hk : ∀ ad, A = some ad → U.cell? (ad.add (p2 * 3)) = some (.int .i64 (ky : Int))) (hp2 : p = p2 + 1) (IH : Aside0 (∀ w', Below U.heap.size U w' → Calls Try.prog 88 #[.agg #[.slice A0 Rs.length c0, .slice A1 Ls.length c1], .slice A p c] w' (StrPost w' X))) (h4 : ((ky : Int) == 4) = true) (hN : N = p + 1) (hpl : pre.length = p) (hp : p ≤ 2000) (hC : Kd.C k79 U A N (pre ++ [(⟨7, s, a2⟩ : Op)])) (hc : N ≤ c) :
 Calls Try.prog 88 #[.agg #[.slice A0 Rs.length c0, .slice A1 Ls.length c1], .slice A N c] w (StrPost w (⟨#[33]⟩ ++ grB true X)) := by
 obtain ⟨ad, A5, c5, rfl, x0, x1, x2, y1, y2⟩ := last_op (W := U) (A := A) (pre := pre) (o := ⟨7, s, a2⟩) (by rw [List.length_append, List.length_singleton, hpl, ← hN]; exact hC)
 rw [hpl] at x0 x1 x2
 replace x0 := pw_cell_below hb x0
 replace x1 := pw_cell_below hb x1
 replace x2 := pw_cell_below hb x2
 simp only at x0 x1 x2 y1 y2
 have lx := World.block_lt_of_cell? _ _ x0
 have ew : IntKind.i64.wrap ((N : Int) - 1) = (p : Int) := (i64_w _).trans (by rw [wid (by omega) (by omega)]; omega)
 have e2 : (0 ≤ (p : Int)) = True := eq_true (by omega)
 have e3 : ((p : Int) < (N : Int)) = True := eq_true (by omega)
 have hb2 : Below w.heap.size w ((w.alloc (Obj.cells #[.slice A0 Rs.length c0, .slice A1 Ls.length c1] 31)).alloc (Obj.cells #[.int .i64 7, .slice A5 s.length c5, .int .i64 a2] 79)) := below_alloc (below_alloc (Below.refl _ _) _) _
 have hg := blk_alloc (blk_new w (Obj.cells #[.slice A0 Rs.length c0, .slice A1 Ls.length c1] 31)) (Obj.cells #[.int .i64 7, .slice A5 s.length c5, .int .i64 a2] 79)
 have hx := blk_new (w.alloc (Obj.cells #[.slice A0 Rs.length c0, .slice A1 Ls.length c1] 31)) (Obj.cells #[.int .i64 7, .slice A5 s.length c5, .int .i64 a2] 79)
 rw [World.size_alloc] at hx
 have HGW2 := Aside0.mk hg
 have HX := Aside0.mk hx
 have HBW2 := Aside0.mk hb2
 have HUW2 := Aside0.mk (below_then hb hb.size hb2)
 have HSZ2 : Aside0 (((w.alloc (Obj.cells #[.slice A0 Rs.length c0, .slice A1 Ls.length c1] 31)).alloc (Obj.cells #[.int .i64 7, .slice A5 s.length c5, .int .i64 a2] 79)).heap.size = w.heap.size + 1 + 1) := ⟨by simp⟩
 obtain ⟨ii, hi, _, hsz, _⟩ := info_parts info79
 have hcut := cut_to (P := Try.prog) 66 79 .i64 Try.underlying66 hi (some ad) N c (p : Int) (by omega) (by omega) hc
 rw [Int.toNat_natCast] at hcut
 have v0 := pw_cell_below hb (hk ad rfl)
 have lv := World.block_lt_of_cell? _ _ v0
 have ew2 : IntKind.i64.wrap ((N : Int) - 2) = (p2 : Int) := (i64_w _).trans (by rw [wid (by omega) (by omega)]; omega)
 have e4 : (0 ≤ (p2 : Int)) = True := eq_true (by omega)
 have e5 : ((p2 : Int) < (N : Int)) = True := eq_true (by omega)
 have g0 := blk_cell hg 0
 have g1 := blk_cell hg 1
 clear hi hsz hx hb2 hk hp2 hg
 have HG := Aside0.mk hG
 have HB := Aside0.mk hb
 have HY := Aside0.mk y2
 have HY1 := Aside0.mk y1
 have HC := Aside0.mk hC
 clear hG hb y2 hC y1 hN hpl
 go_enter Try.func88, Try.ntmps88
 go_upto_region 15 with fail
 generalize (w.alloc (Obj.cells #[.slice A0 Rs.length c0, .slice A1 Ls.length c1] 31)).alloc (Obj.cells #[.int .i64 7, .slice A5 s.length c5, .int .i64 a2] 79) = W2 at *
 refine start_ (n := 15) (S := fun W' => W'.cell? ⟨w.heap.size, 0, none⟩ = some (.slice A0 Rs.length c0) ∧ W'.cell? ⟨w.heap.size, 1, none⟩ = some (.slice A1 Ls.length c1)) (ds := []) #[false, false, false, false, false, false, false, false, false, false, false, false, false, false, false] (by kernel_rfl) rfl rfl (⟨g0, g1⟩) (fun hHeld => ?_); refine with_tabW txN.tab txN.bits (fun HT_ HW_ => ?_)
 refine ta_ 0 73 HT_ HW_ hHeld ?_
 refine pu_ 1 74 HT_ ?_
 refine pu_ 2 75 HT_ ?_
 refine pu_ 3 76 HT_ ?_
 refine pu_ 4 77 HT_ ?_
 refine pu_ 6 79 HT_ ?_
 refine pu_ 7 80 HT_ ?_
 refine on_ 5 (some 78) HT_ (fun K hK => ?_)
 refine ge_ Try.func88 #[.agg #[.slice A0 Rs.length c0, .slice A1 Ls.length c1], .slice (some ad) p c] ?_
 refine (IH.out _ (below_then HUW2.out HUW2.out.size (by repeat (first | exact Below.refl _ _ | apply pw_below_drewN | apply Below.drew)))).mono ?_
 rintro e W3 ⟨rfl, hb0⟩
 refine ⟨_, rfl, ?_⟩
 have hb1 : Below W2.heap.size W2 W3 := below_then (by repeat (first | exact Below.refl _ _ | apply pw_below_drewN | apply Below.drew)) (by simp) hb0
 have hg3 := blk_below HGW2.out hb1
 have aa0 := blk_cell hg3 0
 have aa1 := blk_cell hg3 1
 have HGW3 := Aside0.mk hg3
 have HUW3 := Aside0.mk (below_then HUW2.out HUW2.out.size hb1)
 have HBW3 := Aside0.mk (below_then HBW2.out HBW2.out.size hb1)
 clear hb0 hb1 hg3
 refine hK.out _ _ (⟨aa0, aa1⟩) (fun hHeld => ?_)
 clear hK K
 refine no_ (some 78) ?_
 refine pu_ 8 81 HT_ ?_
 refine pn_ 9 82 HT_ ?_
 refine pn_ 10 83 HT_ ?_
 refine pu_ 11 84 HT_ ?_
 refine on_ 12 (some 85) HT_ (fun K hK => ?_)
 refine ge_ Try.func134 #[.string X, .bool true] ?_
 refine (group_in X true (by omega) _).mono ?_
 rintro e W4 ⟨rfl, hb0⟩
 refine ⟨_, rfl, ?_⟩
 have hb1 : Below W3.heap.size W3 W4 := below_then (by repeat (first | exact Below.refl _ _ | apply pw_below_drewN | apply Below.drew)) (by simp) hb0
 have hg3 := blk_below HGW3.out hb1
 have ab0 := blk_cell hg3 0
 have ab1 := blk_cell hg3 1
 have HGW4 := Aside0.mk hg3
 have HUW4 := Aside0.mk (below_then HUW3.out HUW3.out.size hb1)
 have HBW4 := Aside0.mk (below_then HBW3.out HBW3.out.size hb1)
 clear hb0 hb1 hg3
 have hgs := cap_grB true X hX
 have hgf := eq_false (show ¬ (9223372036854775807 < 1 + (grB true X).size) by omega)
 refine hK.out _ _ (⟨ab0, ab1⟩) (fun hHeld => ?_)
 clear hK K
 refine no_ (some 85) ?_
 refine pu_ 13 86 HT_ ?_
 refine pu_ 14 4 HT_ ?_
 refine done_ (done_of HT_.out (by kernel_rfl)) ?_
 go_wp2_with fail
 go_ret
 exact ⟨rfl, HBW4.out⟩
set_option maxRecDepth 100000 in
set_option maxHeartbeats 8000000 in
theorem tx_negN (U : World) (A0 A1 : Option Addr) (c0 c1 : Nat) (Rs : List Ru) (Ls : List La) (hG : GrC U A0 c0 A1 c1 Rs Ls) (w : World) (hb : Below U.heap.size U w) (A : Option Addr) (c : Nat) (N p : Nat) (pre : List Op) (s : List Int) (a2 : Int) (X : ByteArray) (hX : X.size ≤ 99999999999) (ky p2 : Nat) (hk : ∀ ad, A = some ad → U.cell? (ad.add (p2 * 3)) = some (.int .i64 (ky : Int))) (hp2 : p = p2 + 1) (IH : Aside0 (∀ w', Below U.heap.size U w' → Calls Try.prog 88 #[.agg #[.slice A0 Rs.length c0, .slice A1 Ls.length c1], .slice A p c] w' (StrPost w' X))) (h4 : ((ky : Int) == 4) = false) (hN : N = p + 1) (hpl : pre.length = p) (hp : p ≤ 2000) (hC : Kd.C k79 U A N (pre ++ [(⟨7, s, a2⟩ : Op)])) (hc : N ≤ c) :
 Calls Try.prog 88 #[.agg #[.slice A0 Rs.length c0, .slice A1 Ls.length c1], .slice A N c] w (StrPost w (⟨#[33]⟩ ++ grB ((ky : Int) == 5) X)) := by
 obtain ⟨ad, A5, c5, rfl, x0, x1, x2, y1, y2⟩ := last_op (W := U) (A := A) (pre := pre) (o := ⟨7, s, a2⟩) (by rw [List.length_append, List.length_singleton, hpl, ← hN]; exact hC)
 rw [hpl] at x0 x1 x2
 replace x0 := pw_cell_below hb x0
 replace x1 := pw_cell_below hb x1
 replace x2 := pw_cell_below hb x2
 simp only at x0 x1 x2 y1 y2
 have lx := World.block_lt_of_cell? _ _ x0
 have ew : IntKind.i64.wrap ((N : Int) - 1) = (p : Int) := (i64_w _).trans (by rw [wid (by omega) (by omega)]; omega)
 have e2 : (0 ≤ (p : Int)) = True := eq_true (by omega)
 have e3 : ((p : Int) < (N : Int)) = True := eq_true (by omega)
 have hb2 : Below w.heap.size w ((w.alloc (Obj.cells #[.slice A0 Rs.length c0, .slice A1 Ls.length c1] 31)).alloc (Obj.cells #[.int .i64 7, .slice A5 s.length c5, .int .i64 a2] 79)) := below_alloc (below_alloc (Below.refl _ _) _) _
 have hg := blk_alloc (blk_new w (Obj.cells #[.slice A0 Rs.length c0, .slice A1 Ls.length c1] 31)) (Obj.cells #[.int .i64 7, .slice A5 s.length c5, .int .i64 a2] 79)
 have hx := blk_new (w.alloc (Obj.cells #[.slice A0 Rs.length c0, .slice A1 Ls.length c1] 31)) (Obj.cells #[.int .i64 7, .slice A5 s.length c5, .int .i64 a2] 79)
 rw [World.size_alloc] at hx
 have HGW2 := Aside0.mk hg
 have HX := Aside0.mk hx
 have HBW2 := Aside0.mk hb2
 have HUW2 := Aside0.mk (below_then hb hb.size hb2)
 have HSZ2 : Aside0 (((w.alloc (Obj.cells #[.slice A0 Rs.length c0, .slice A1 Ls.length c1] 31)).alloc (Obj.cells #[.int .i64 7, .slice A5 s.length c5, .int .i64 a2] 79)).heap.size = w.heap.size + 1 + 1) := ⟨by simp⟩
 obtain ⟨ii, hi, _, hsz, _⟩ := info_parts info79
 have hcut := cut_to (P := Try.prog) 66 79 .i64 Try.underlying66 hi (some ad) N c (p : Int) (by omega) (by omega) hc
 rw [Int.toNat_natCast] at hcut
 have v0 := pw_cell_below hb (hk ad rfl)
 have lv := World.block_lt_of_cell? _ _ v0
 have ew2 : IntKind.i64.wrap ((N : Int) - 2) = (p2 : Int) := (i64_w _).trans (by rw [wid (by omega) (by omega)]; omega)
 have e4 : (0 ≤ (p2 : Int)) = True := eq_true (by omega)
 have e5 : ((p2 : Int) < (N : Int)) = True := eq_true (by omega)
 have g0 := blk_cell hg 0
 have g1 := blk_cell hg 1
 clear hi hsz hx hb2 hk hp2 hg
 have HG := Aside0.mk hG
 have HB := Aside0.mk hb
 have HY := Aside0.mk y2
 have HY1 := Aside0.mk y1
 have HC := Aside0.mk hC
 clear hG hb y2 hC y1 hN hpl
 go_enter Try.func88, Try.ntmps88
 go_upto_region 15 with fail
 generalize (w.alloc (Obj.cells #[.slice A0 Rs.length c0, .slice A1 Ls.length c1] 31)).alloc (Obj.cells #[.int .i64 7, .slice A5 s.length c5, .int .i64 a2] 79) = W2 at *
 refine start_ (n := 15) (S := fun W' => W'.cell? ⟨w.heap.size, 0, none⟩ = some (.slice A0 Rs.length c0) ∧ W'.cell? ⟨w.heap.size, 1, none⟩ = some (.slice A1 Ls.length c1)) (ds := []) #[false, false, false, false, false, false, false, false, false, false, false, false, false, false, false] (by kernel_rfl) rfl rfl (⟨g0, g1⟩) (fun hHeld => ?_); refine with_tabW txN.tab txN.bits (fun HT_ HW_ => ?_)
 refine ta_ 0 73 HT_ HW_ hHeld ?_
 refine pu_ 1 74 HT_ ?_
 refine pu_ 2 75 HT_ ?_
 refine pu_ 3 76 HT_ ?_
 refine pu_ 4 77 HT_ ?_
 refine pu_ 6 79 HT_ ?_
 refine pu_ 7 80 HT_ ?_
 refine on_ 5 (some 78) HT_ (fun K hK => ?_)
 refine ge_ Try.func88 #[.agg #[.slice A0 Rs.length c0, .slice A1 Ls.length c1], .slice (some ad) p c] ?_
 refine (IH.out _ (below_then HUW2.out HUW2.out.size (by repeat (first | exact Below.refl _ _ | apply pw_below_drewN | apply Below.drew)))).mono ?_
 rintro e W3 ⟨rfl, hb0⟩
 refine ⟨_, rfl, ?_⟩
 have hb1 : Below W2.heap.size W2 W3 := below_then (by repeat (first | exact Below.refl _ _ | apply pw_below_drewN | apply Below.drew)) (by simp) hb0
 have hg3 := blk_below HGW2.out hb1
 have aa0 := blk_cell hg3 0
 have aa1 := blk_cell hg3 1
 have HGW3 := Aside0.mk hg3
 have HUW3 := Aside0.mk (below_then HUW2.out HUW2.out.size hb1)
 have HBW3 := Aside0.mk (below_then HBW2.out HBW2.out.size hb1)
 clear hb0 hb1 hg3
 refine hK.out _ _ (⟨aa0, aa1⟩) (fun hHeld => ?_)
 clear hK K
 refine no_ (some 78) ?_
 refine pu_ 8 81 HT_ ?_
 refine pu_ 9 82 HT_ ?_
 refine pu_ 10 83 HT_ ?_
 refine pu_ 11 84 HT_ ?_
 refine on_ 12 (some 85) HT_ (fun K hK => ?_)
 refine ge_ Try.func134 #[.string X, .bool ((ky : Int) == 5)] ?_
 refine (group_in X ((ky : Int) == 5) (by omega) _).mono ?_
 rintro e W4 ⟨rfl, hb0⟩
 refine ⟨_, rfl, ?_⟩
 have hb1 : Below W3.heap.size W3 W4 := below_then (by repeat (first | exact Below.refl _ _ | apply pw_below_drewN | apply Below.drew)) (by simp) hb0
 have hg3 := blk_below HGW3.out hb1
 have ab0 := blk_cell hg3 0
 have ab1 := blk_cell hg3 1
 have HGW4 := Aside0.mk hg3
 have HUW4 := Aside0.mk (below_then HUW3.out HUW3.out.size hb1)
 have HBW4 := Aside0.mk (below_then HBW3.out HBW3.out.size hb1)
 clear hb0 hb1 hg3
 have hgs := cap_grB ((ky : Int) == 5) X hX
 have hgf := eq_false (show ¬ (9223372036854775807 < 1 + (grB ((ky : Int) == 5) X).size) by omega)
 refine hK.out _ _ (⟨ab0, ab1⟩) (fun hHeld => ?_)
 clear hK K
 refine no_ (some 85) ?_
 refine pu_ 13 86 HT_ ?_
 refine pu_ 14 4 HT_ ?_
 refine done_ (done_of HT_.out (by kernel_rfl)) ?_
 go_wp2_with fail
 go_ret
 exact ⟨rfl, HBW4.out⟩
set_option maxRecDepth 100000 in
set_option maxHeartbeats 8000000 in
theorem tx_seq5 (U : World) (A0 A1 : Option Addr) (c0 c1 : Nat) (Rs : List Ru) (Ls : List La) (hG : GrC U A0 c0 A1 c1 Rs Ls) (w : World) (hb : Below U.heap.size U w) (A : Option Addr) (c : Nat) (N p : Nat) (pre : List Op) (s : List Int) (a2 : Int) (X Y : ByteArray) (hX : X.size ≤ 99999999999) (hY : Y.size ≤ 99999999999) (ky p2 kx ax : Nat) (hk : ∀ ad, A = some ad → U.cell? (ad.add (p2 * 3)) = some (.int .i64 (ky : Int))) (hp2 : p = p2 + 1) (hkx : ∀ ad, A = some ad → U.cell? (ad.add (ax * 3)) = some (.int .i64 (kx : Int))) (a bl cr : Nat) (hax : a = ax + 1) (Ar : Option Addr) (hap : a ≤ p) (hAr : Ar = if c = a then A else A.map (·.add (a * 3))) (hbl1 : bl = p - a) (hcr : cr = c - a) (HS : Aside0 (∀ w', Below U.heap.size U w' → Calls Try.prog 129 #[.slice A N c, .int .i64 (p : Int)] w' (fun e w2 => e = .returned (.int .i64 (a : Int)) ∧ Below w'.heap.size w' w2))) (IHL : Aside0 (∀ w', Below U.heap.size U w' → Calls Try.prog 88 #[.agg #[.slice A0 Rs.length c0, .slice A1 Ls.length c1], .slice A a c] w' (StrPost w' X))) (IHR : Aside0 (∀ w', Below U.heap.size U w' → Calls Try.prog 88 #[.agg #[.slice A0 Rs.length c0, .slice A1 Ls.length c1], .slice Ar bl cr] w' (StrPost w' Y))) (h5 : ((ky : Int) == 5) = true) (hN : N = p + 1) (hpl : pre.length = p) (hp : p ≤ 2000) (hC : Kd.C k79 U A N (pre ++ [(⟨4, s, a2⟩ : Op)])) (hc : N ≤ c) :
 Calls Try.prog 88 #[.agg #[.slice A0 Rs.length c0, .slice A1 Ls.length c1], .slice A N c] w (StrPost w ((grB ((kx : Int) == 5) X ++ ⟨#[32]⟩) ++ grB true Y)) := by
 obtain ⟨ad, A5, c5, rfl, x0, x1, x2, y1, y2⟩ := last_op (W := U) (A := A) (pre := pre) (o := ⟨4, s, a2⟩) (by rw [List.length_append, List.length_singleton, hpl, ← hN]; exact hC)
 rw [hpl] at x0 x1 x2
 replace x0 := pw_cell_below hb x0
 replace x1 := pw_cell_below hb x1
 replace x2 := pw_cell_below hb x2
 simp only at x0 x1 x2 y1 y2
 have lx := World.block_lt_of_cell? _ _ x0
 have ew : IntKind.i64.wrap ((N : Int) - 1) = (p : Int) := (i64_w _).trans (by rw [wid (by omega) (by omega)]; omega)
 have e2 : (0 ≤ (p : Int)) = True := eq_true (by omega)
 have e3 : ((p : Int) < (N : Int)) = True := eq_true (by omega)
 have hb2 : Below w.heap.size w ((w.alloc (Obj.cells #[.slice A0 Rs.length c0, .slice A1 Ls.length c1] 31)).alloc (Obj.cells #[.int .i64 4, .slice A5 s.length c5, .int .i64 a2] 79)) := below_alloc (below_alloc (Below.refl _ _) _) _
 have hg := blk_alloc (blk_new w (Obj.cells #[.slice A0 Rs.length c0, .slice A1 Ls.length c1] 31)) (Obj.cells #[.int .i64 4, .slice A5 s.length c5, .int .i64 a2] 79)
 have hx := blk_new (w.alloc (Obj.cells #[.slice A0 Rs.length c0, .slice A1 Ls.length c1] 31)) (Obj.cells #[.int .i64 4, .slice A5 s.length c5, .int .i64 a2] 79)
 rw [World.size_alloc] at hx
 have HG0 := Aside0.mk hg
 have HX := Aside0.mk hx
 have HB2 := Aside0.mk hb2
 have HU2 := Aside0.mk (below_then hb hb.size hb2)
 have HSZ2 : Aside0 (((w.alloc (Obj.cells #[.slice A0 Rs.length c0, .slice A1 Ls.length c1] 31)).alloc (Obj.cells #[.int .i64 4, .slice A5 s.length c5, .int .i64 a2] 79)).heap.size = w.heap.size + 1 + 1) := ⟨by simp⟩
 obtain ⟨ii, hi, _, hsz, _⟩ := info_parts info79
 have hcutA := cut_to (P := Try.prog) 66 79 .i64 Try.underlying66 hi (some ad) N c (a : Int) (by omega) (by omega) hc
 rw [Int.toNat_natCast] at hcutA
 have hcutB := cut_mid (P := Try.prog) 66 79 .i64 .i64 Try.underlying66 hi 3 hsz (some ad) N c (a : Int) (p : Int) (by omega) (by omega) (by omega) hc
 rw [Int.toNat_natCast, Int.toNat_natCast, ← hAr, ← hbl1, ← hcr] at hcutB
 have v0 := pw_cell_below hb (hk ad rfl)
 have lv := World.block_lt_of_cell? _ _ v0
 have v1 := pw_cell_below hb (hkx ad rfl)
 have lv1 := World.block_lt_of_cell? _ _ v1
 have ew2 : IntKind.i64.wrap ((N : Int) - 2) = (p2 : Int) := (i64_w _).trans (by rw [wid (by omega) (by omega)]; omega)
 have ew3 : IntKind.i64.wrap ((a : Int) - 1) = (ax : Int) := (i64_w _).trans (by rw [wid (by omega) (by omega)]; omega)
 have e4 : (0 ≤ (p2 : Int)) = True := eq_true (by omega)
 have e5 : ((p2 : Int) < (N : Int)) = True := eq_true (by omega)
 have e6 : (0 ≤ (ax : Int)) = True := eq_true (by omega)
 have e7 : ((ax : Int) < (N : Int)) = True := eq_true (by omega)
 have HV1 := Aside0.mk v1
 clear hi hsz hx hb2 hk hkx hp2 hg hAr hbl1 hcr hax v1
 have HG := Aside0.mk hG
 have HB := Aside0.mk hb
 have HY := Aside0.mk y2
 have HY1 := Aside0.mk y1
 have HC := Aside0.mk hC
 clear hG hb y2 hC y1 hN hpl
 go_enter Try.func88, Try.ntmps88
 go_upto_region 18 with (go_at_call 129; refine (HS.out _ HU2.out).mono ?_; go_must (rintro e W2 ⟨rfl, hb⟩; have hg2 := blk_below HG0.out hb; have hx2 := blk_below HX.out hb; have g0 := blk_cell hg2 0; have g1 := blk_cell hg2 1; have z0 := blk_cell hx2 0; have lg := blk_lt hg2; have lx2 := blk_lt hx2; have y1 := pw_cell_below (below_then HB2.out HB2.out.size hb) HV1.out; have ly := World.block_lt_of_cell? _ _ y1; have HGW2 := Aside0.mk hg2; have HXW2 := Aside0.mk hx2; have HUW2 := Aside0.mk (below_then HU2.out HU2.out.size hb); have HBW2 := Aside0.mk (below_then HB2.out HB2.out.size hb); clear hg2 hx2 hb))
 refine start_ (n := 6) (S := fun W' => W'.cell? ⟨w.heap.size, 0, none⟩ = some (.slice A0 Rs.length c0) ∧ W'.cell? ⟨w.heap.size, 1, none⟩ = some (.slice A1 Ls.length c1)) (ds := []) #[false, false, false, false, false, false] (by kernel_rfl) rfl rfl (⟨g0, g1⟩) (fun hHeld => ?_); refine with_tabW txX.tab txX.bits (fun HT_ HW_ => ?_)
 refine ta_ 0 97 HT_ HW_ hHeld ?_
 refine pu_ 1 98 HT_ ?_
 refine pu_ 2 99 HT_ ?_
 refine pu_ 3 100 HT_ ?_
 refine on_ 4 (some 101) HT_ (fun K hK => ?_)
 refine ge_ Try.func88 #[.agg #[.slice A0 Rs.length c0, .slice A1 Ls.length c1], .slice (some ad) a c] ?_
 refine (IHL.out _ (below_then HUW2.out HUW2.out.size (by repeat (first | exact Below.refl _ _ | apply pw_below_drewN | apply Below.drew)))).mono ?_
 rintro e W3 ⟨rfl, hb0⟩
 refine ⟨_, rfl, ?_⟩
 have hb1 : Below W2.heap.size W2 W3 := below_then (by repeat (first | exact Below.refl _ _ | apply pw_below_drewN | apply Below.drew)) (by simp) hb0
 have hg3 := blk_below HGW2.out hb1
 have aa0 := blk_cell hg3 0
 have aa1 := blk_cell hg3 1
 have HGW3 := Aside0.mk hg3
 have HUW3 := Aside0.mk (below_then HUW2.out HUW2.out.size hb1)
 have HBW3 := Aside0.mk (below_then HBW2.out HBW2.out.size hb1)
 have hx3 := blk_below HXW2.out hb1
 have lxa := blk_lt hx3
 have lga := blk_lt hg3
 have HXW3 := Aside0.mk hx3
 clear hx3 hb0 hb1 hg3
 refine hK.out _ _ (⟨aa0, aa1⟩) (fun hHeld => ?_)
 clear hK K
 refine no_ (some 101) ?_
 refine pu_ 5 10 HT_ ?_
 refine done_ (done_of HT_.out (by kernel_rfl)) ?_
 go_upto_region 19 with fail
 refine start_ (n := 8) (S := fun W' => W'.cell? ⟨w.heap.size, 0, none⟩ = some (.slice A0 Rs.length c0) ∧ W'.cell? ⟨w.heap.size, 1, none⟩ = some (.slice A1 Ls.length c1)) (ds := []) #[false, false, false, false, false, false, false, false] (by kernel_rfl) rfl rfl (⟨aa0, aa1⟩) (fun hHeld => ?_); refine with_tabW txY.tab txY.bits (fun HT_ HW_ => ?_)
 refine ta_ 0 102 HT_ HW_ hHeld ?_
 refine pu_ 1 103 HT_ ?_
 refine pu_ 2 104 HT_ ?_
 refine pu_ 3 105 HT_ ?_
 refine pu_ 4 106 HT_ ?_
 refine pu_ 5 107 HT_ ?_
 refine on_ 6 (some 108) HT_ (fun K hK => ?_)
 refine ge_ Try.func88 #[.agg #[.slice A0 Rs.length c0, .slice A1 Ls.length c1], .slice Ar bl cr] ?_
 refine (IHR.out _ (below_then HUW3.out HUW3.out.size (by repeat (first | exact Below.refl _ _ | apply pw_below_drewN | apply Below.drew)))).mono ?_
 rintro e W4 ⟨rfl, hb0⟩
 refine ⟨_, rfl, ?_⟩
 have hb1 : Below W3.heap.size W3 W4 := below_then (by repeat (first | exact Below.refl _ _ | apply pw_below_drewN | apply Below.drew)) (by simp) hb0
 have hg3 := blk_below HGW3.out hb1
 have ab0 := blk_cell hg3 0
 have ab1 := blk_cell hg3 1
 have HGW4 := Aside0.mk hg3
 have HUW4 := Aside0.mk (below_then HUW3.out HUW3.out.size hb1)
 have HBW4 := Aside0.mk (below_then HBW3.out HBW3.out.size hb1)
 have hx3 := blk_below HXW3.out hb1
 have lxb := blk_lt hx3
 have zb0 := blk_cell hx3 0
 have HXW4 := Aside0.mk hx3
 clear hx3 hb0 hb1 hg3
 refine hK.out _ _ (⟨ab0, ab1⟩) (fun hHeld => ?_)
 clear hK K
 refine no_ (some 108) ?_
 refine pu_ 7 11 HT_ ?_
 refine done_ (done_of HT_.out (by kernel_rfl)) ?_
 go_wp2_with (first
  | (go_at_call 134; have HQ := HBW5; clear HQ; refine (group_in Y true (by omega) _).mono ?_; go_must (rintro e W6 ⟨rfl, hb⟩; have HBW6 := Aside0.mk (below_then HBW5.out HBW5.out.size hb); have hgt := cap_grB true Y hY; clear hb))
  | (go_at_call 134; refine (group_in X ((kx : Int) == 5) (by omega) _).mono ?_; go_must (rintro e W5 ⟨rfl, hb⟩; have HBW5 := Aside0.mk (below_then HBW4.out HBW4.out.size hb); have hgs := cap_grB ((kx : Int) == 5) X hX; have hgu := cap_app _ ⟨#[32]⟩ _ 1 hgs (Nat.le_refl _) 100000000002 (by decide); clear hb)))
 go_ret
 exact ⟨rfl, HBW6.out⟩
set_option maxRecDepth 100000 in
set_option maxHeartbeats 8000000 in
theorem tx_seqN (U : World) (A0 A1 : Option Addr) (c0 c1 : Nat) (Rs : List Ru) (Ls : List La) (hG : GrC U A0 c0 A1 c1 Rs Ls) (w : World) (hb : Below U.heap.size U w) (A : Option Addr) (c : Nat) (N p : Nat) (pre : List Op) (s : List Int) (a2 : Int) (X Y : ByteArray) (hX : X.size ≤ 99999999999) (hY : Y.size ≤ 99999999999) (ky p2 kx ax : Nat) (hk : ∀ ad, A = some ad → U.cell? (ad.add (p2 * 3)) = some (.int .i64 (ky : Int))) (hp2 : p = p2 + 1) (hkx : ∀ ad, A = some ad → U.cell? (ad.add (ax * 3)) = some (.int .i64 (kx : Int))) (a bl cr : Nat) (hax : a = ax + 1) (Ar : Option Addr) (hap : a ≤ p) (hAr : Ar = if c = a then A else A.map (·.add (a * 3))) (hbl1 : bl = p - a) (hcr : cr = c - a) (HS : Aside0 (∀ w', Below U.heap.size U w' → Calls Try.prog 129 #[.slice A N c, .int .i64 (p : Int)] w' (fun e w2 => e = .returned (.int .i64 (a : Int)) ∧ Below w'.heap.size w' w2))) (IHL : Aside0 (∀ w', Below U.heap.size U w' → Calls Try.prog 88 #[.agg #[.slice A0 Rs.length c0, .slice A1 Ls.length c1], .slice A a c] w' (StrPost w' X))) (IHR : Aside0 (∀ w', Below U.heap.size U w' → Calls Try.prog 88 #[.agg #[.slice A0 Rs.length c0, .slice A1 Ls.length c1], .slice Ar bl cr] w' (StrPost w' Y))) (h5 : ((ky : Int) == 5) = false) (hN : N = p + 1) (hpl : pre.length = p) (hp : p ≤ 2000) (hC : Kd.C k79 U A N (pre ++ [(⟨4, s, a2⟩ : Op)])) (hc : N ≤ c) :
 Calls Try.prog 88 #[.agg #[.slice A0 Rs.length c0, .slice A1 Ls.length c1], .slice A N c] w (StrPost w ((grB ((kx : Int) == 5) X ++ ⟨#[32]⟩) ++ grB ((ky : Int) == 4) Y)) := by
 obtain ⟨ad, A5, c5, rfl, x0, x1, x2, y1, y2⟩ := last_op (W := U) (A := A) (pre := pre) (o := ⟨4, s, a2⟩) (by rw [List.length_append, List.length_singleton, hpl, ← hN]; exact hC)
 rw [hpl] at x0 x1 x2
 replace x0 := pw_cell_below hb x0
 replace x1 := pw_cell_below hb x1
 replace x2 := pw_cell_below hb x2
 simp only at x0 x1 x2 y1 y2
 have lx := World.block_lt_of_cell? _ _ x0
 have ew : IntKind.i64.wrap ((N : Int) - 1) = (p : Int) := (i64_w _).trans (by rw [wid (by omega) (by omega)]; omega)
 have e2 : (0 ≤ (p : Int)) = True := eq_true (by omega)
 have e3 : ((p : Int) < (N : Int)) = True := eq_true (by omega)
 have hb2 : Below w.heap.size w ((w.alloc (Obj.cells #[.slice A0 Rs.length c0, .slice A1 Ls.length c1] 31)).alloc (Obj.cells #[.int .i64 4, .slice A5 s.length c5, .int .i64 a2] 79)) := below_alloc (below_alloc (Below.refl _ _) _) _
 have hg := blk_alloc (blk_new w (Obj.cells #[.slice A0 Rs.length c0, .slice A1 Ls.length c1] 31)) (Obj.cells #[.int .i64 4, .slice A5 s.length c5, .int .i64 a2] 79)
 have hx := blk_new (w.alloc (Obj.cells #[.slice A0 Rs.length c0, .slice A1 Ls.length c1] 31)) (Obj.cells #[.int .i64 4, .slice A5 s.length c5, .int .i64 a2] 79)
 rw [World.size_alloc] at hx
 have HG0 := Aside0.mk hg
 have HX := Aside0.mk hx
 have HB2 := Aside0.mk hb2
 have HU2 := Aside0.mk (below_then hb hb.size hb2)
 have HSZ2 : Aside0 (((w.alloc (Obj.cells #[.slice A0 Rs.length c0, .slice A1 Ls.length c1] 31)).alloc (Obj.cells #[.int .i64 4, .slice A5 s.length c5, .int .i64 a2] 79)).heap.size = w.heap.size + 1 + 1) := ⟨by simp⟩
 obtain ⟨ii, hi, _, hsz, _⟩ := info_parts info79
 have hcutA := cut_to (P := Try.prog) 66 79 .i64 Try.underlying66 hi (some ad) N c (a : Int) (by omega) (by omega) hc
 rw [Int.toNat_natCast] at hcutA
 have hcutB := cut_mid (P := Try.prog) 66 79 .i64 .i64 Try.underlying66 hi 3 hsz (some ad) N c (a : Int) (p : Int) (by omega) (by omega) (by omega) hc
 rw [Int.toNat_natCast, Int.toNat_natCast, ← hAr, ← hbl1, ← hcr] at hcutB
 have v0 := pw_cell_below hb (hk ad rfl)
 have lv := World.block_lt_of_cell? _ _ v0
 have v1 := pw_cell_below hb (hkx ad rfl)
 have lv1 := World.block_lt_of_cell? _ _ v1
 have ew2 : IntKind.i64.wrap ((N : Int) - 2) = (p2 : Int) := (i64_w _).trans (by rw [wid (by omega) (by omega)]; omega)
 have ew3 : IntKind.i64.wrap ((a : Int) - 1) = (ax : Int) := (i64_w _).trans (by rw [wid (by omega) (by omega)]; omega)
 have e4 : (0 ≤ (p2 : Int)) = True := eq_true (by omega)
 have e5 : ((p2 : Int) < (N : Int)) = True := eq_true (by omega)
 have e6 : (0 ≤ (ax : Int)) = True := eq_true (by omega)
 have e7 : ((ax : Int) < (N : Int)) = True := eq_true (by omega)
 have HV1 := Aside0.mk v1
 clear hi hsz hx hb2 hk hkx hp2 hg hAr hbl1 hcr hax v1
 have HG := Aside0.mk hG
 have HB := Aside0.mk hb
 have HY := Aside0.mk y2
 have HY1 := Aside0.mk y1
 have HC := Aside0.mk hC
 clear hG hb y2 hC y1 hN hpl
 go_enter Try.func88, Try.ntmps88
 go_upto_region 18 with (go_at_call 129; refine (HS.out _ HU2.out).mono ?_; go_must (rintro e W2 ⟨rfl, hb⟩; have hg2 := blk_below HG0.out hb; have hx2 := blk_below HX.out hb; have g0 := blk_cell hg2 0; have g1 := blk_cell hg2 1; have z0 := blk_cell hx2 0; have lg := blk_lt hg2; have lx2 := blk_lt hx2; have y1 := pw_cell_below (below_then HB2.out HB2.out.size hb) HV1.out; have ly := World.block_lt_of_cell? _ _ y1; have HGW2 := Aside0.mk hg2; have HXW2 := Aside0.mk hx2; have HUW2 := Aside0.mk (below_then HU2.out HU2.out.size hb); have HBW2 := Aside0.mk (below_then HB2.out HB2.out.size hb); clear hg2 hx2 hb))
 refine start_ (n := 6) (S := fun W' => W'.cell? ⟨w.heap.size, 0, none⟩ = some (.slice A0 Rs.length c0) ∧ W'.cell? ⟨w.heap.size, 1, none⟩ = some (.slice A1 Ls.length c1)) (ds := []) #[false, false, false, false, false, false] (by kernel_rfl) rfl rfl (⟨g0, g1⟩) (fun hHeld => ?_); refine with_tabW txX.tab txX.bits (fun HT_ HW_ => ?_)
 refine ta_ 0 97 HT_ HW_ hHeld ?_
 refine pu_ 1 98 HT_ ?_
 refine pu_ 2 99 HT_ ?_
 refine pu_ 3 100 HT_ ?_
 refine on_ 4 (some 101) HT_ (fun K hK => ?_)
 refine ge_ Try.func88 #[.agg #[.slice A0 Rs.length c0, .slice A1 Ls.length c1], .slice (some ad) a c] ?_
 refine (IHL.out _ (below_then HUW2.out HUW2.out.size (by repeat (first | exact Below.refl _ _ | apply pw_below_drewN | apply Below.drew)))).mono ?_
 rintro e W3 ⟨rfl, hb0⟩
 refine ⟨_, rfl, ?_⟩
 have hb1 : Below W2.heap.size W2 W3 := below_then (by repeat (first | exact Below.refl _ _ | apply pw_below_drewN | apply Below.drew)) (by simp) hb0
 have hg3 := blk_below HGW2.out hb1
 have aa0 := blk_cell hg3 0
 have aa1 := blk_cell hg3 1
 have HGW3 := Aside0.mk hg3
 have HUW3 := Aside0.mk (below_then HUW2.out HUW2.out.size hb1)
 have HBW3 := Aside0.mk (below_then HBW2.out HBW2.out.size hb1)
 have hx3 := blk_below HXW2.out hb1
 have lxa := blk_lt hx3
 have lga := blk_lt hg3
 have HXW3 := Aside0.mk hx3
 clear hx3 hb0 hb1 hg3
 refine hK.out _ _ (⟨aa0, aa1⟩) (fun hHeld => ?_)
 clear hK K
 refine no_ (some 101) ?_
 refine pu_ 5 10 HT_ ?_
 refine done_ (done_of HT_.out (by kernel_rfl)) ?_
 go_upto_region 19 with fail
 refine start_ (n := 8) (S := fun W' => W'.cell? ⟨w.heap.size, 0, none⟩ = some (.slice A0 Rs.length c0) ∧ W'.cell? ⟨w.heap.size, 1, none⟩ = some (.slice A1 Ls.length c1)) (ds := []) #[false, false, false, false, false, false, false, false] (by kernel_rfl) rfl rfl (⟨aa0, aa1⟩) (fun hHeld => ?_); refine with_tabW txY.tab txY.bits (fun HT_ HW_ => ?_)
 refine ta_ 0 102 HT_ HW_ hHeld ?_
 refine pu_ 1 103 HT_ ?_
 refine pu_ 2 104 HT_ ?_
 refine pu_ 3 105 HT_ ?_
 refine pu_ 4 106 HT_ ?_
 refine pu_ 5 107 HT_ ?_
 refine on_ 6 (some 108) HT_ (fun K hK => ?_)
 refine ge_ Try.func88 #[.agg #[.slice A0 Rs.length c0, .slice A1 Ls.length c1], .slice Ar bl cr] ?_
 refine (IHR.out _ (below_then HUW3.out HUW3.out.size (by repeat (first | exact Below.refl _ _ | apply pw_below_drewN | apply Below.drew)))).mono ?_
 rintro e W4 ⟨rfl, hb0⟩
 refine ⟨_, rfl, ?_⟩
 have hb1 : Below W3.heap.size W3 W4 := below_then (by repeat (first | exact Below.refl _ _ | apply pw_below_drewN | apply Below.drew)) (by simp) hb0
 have hg3 := blk_below HGW3.out hb1
 have ab0 := blk_cell hg3 0
 have ab1 := blk_cell hg3 1
 have HGW4 := Aside0.mk hg3
 have HUW4 := Aside0.mk (below_then HUW3.out HUW3.out.size hb1)
 have HBW4 := Aside0.mk (below_then HBW3.out HBW3.out.size hb1)
 have hx3 := blk_below HXW3.out hb1
 have lxb := blk_lt hx3
 have zb0 := blk_cell hx3 0
 have HXW4 := Aside0.mk hx3
 clear hx3 hb0 hb1 hg3
 refine hK.out _ _ (⟨ab0, ab1⟩) (fun hHeld => ?_)
 clear hK K
 refine no_ (some 108) ?_
 refine pu_ 7 11 HT_ ?_
 refine done_ (done_of HT_.out (by kernel_rfl)) ?_
 go_wp2_with (first
  | (go_at_call 134; have HQ := HBW5; clear HQ; refine (group_in Y ((ky : Int) == 4) (by omega) _).mono ?_; go_must (rintro e W6 ⟨rfl, hb⟩; have HBW6 := Aside0.mk (below_then HBW5.out HBW5.out.size hb); have hgt := cap_grB ((ky : Int) == 4) Y hY; clear hb))
  | (go_at_call 134; refine (group_in X ((kx : Int) == 5) (by omega) _).mono ?_; go_must (rintro e W5 ⟨rfl, hb⟩; have HBW5 := Aside0.mk (below_then HBW4.out HBW4.out.size hb); have hgs := cap_grB ((kx : Int) == 5) X hX; have hgu := cap_app _ ⟨#[32]⟩ _ 1 hgs (Nat.le_refl _) 100000000002 (by decide); clear hb)))
 go_ret
 exact ⟨rfl, HBW6.out⟩
set_option maxRecDepth 100000 in
set_option maxHeartbeats 8000000 in
theorem tx_alt (U : World) (A0 A1 : Option Addr) (c0 c1 : Nat) (Rs : List Ru) (Ls : List La) (hG : GrC U A0 c0 A1 c1 Rs Ls) (w : World) (hb : Below U.heap.size U w) (A : Option Addr) (c : Nat) (N p : Nat) (pre : List Op) (s : List Int) (a2 : Int) (X Y : ByteArray) (hX : X.size ≤ 99999999999) (hY : Y.size ≤ 99999999999) (ky p2 kx ax : Nat) (hk : ∀ ad, A = some ad → U.cell? (ad.add (p2 * 3)) = some (.int .i64 (ky : Int))) (hp2 : p = p2 + 1) (hkx : ∀ ad, A = some ad → U.cell? (ad.add (ax * 3)) = some (.int .i64 (kx : Int))) (a bl cr : Nat) (hax : a = ax + 1) (Ar : Option Addr) (hap : a ≤ p) (hAr : Ar = if c = a then A else A.map (·.add (a * 3))) (hbl1 : bl = p - a) (hcr : cr = c - a) (HS : Aside0 (∀ w', Below U.heap.size U w' → Calls Try.prog 129 #[.slice A N c, .int .i64 (p : Int)] w' (fun e w2 => e = .returned (.int .i64 (a : Int)) ∧ Below w'.heap.size w' w2))) (IHL : Aside0 (∀ w', Below U.heap.size U w' → Calls Try.prog 88 #[.agg #[.slice A0 Rs.length c0, .slice A1 Ls.length c1], .slice A a c] w' (StrPost w' X))) (IHR : Aside0 (∀ w', Below U.heap.size U w' → Calls Try.prog 88 #[.agg #[.slice A0 Rs.length c0, .slice A1 Ls.length c1], .slice Ar bl cr] w' (StrPost w' Y))) (hN : N = p + 1) (hpl : pre.length = p) (hp : p ≤ 2000) (hC : Kd.C k79 U A N (pre ++ [(⟨5, s, a2⟩ : Op)])) (hc : N ≤ c) :
 Calls Try.prog 88 #[.agg #[.slice A0 Rs.length c0, .slice A1 Ls.length c1], .slice A N c] w (StrPost w ((X ++ ⟨#[32, 47, 32]⟩) ++ grB ((ky : Int) == 5) Y)) := by
 obtain ⟨ad, A5, c5, rfl, x0, x1, x2, y1, y2⟩ := last_op (W := U) (A := A) (pre := pre) (o := ⟨5, s, a2⟩) (by rw [List.length_append, List.length_singleton, hpl, ← hN]; exact hC)
 rw [hpl] at x0 x1 x2
 replace x0 := pw_cell_below hb x0
 replace x1 := pw_cell_below hb x1
 replace x2 := pw_cell_below hb x2
 simp only at x0 x1 x2 y1 y2
 have lx := World.block_lt_of_cell? _ _ x0
 have ew : IntKind.i64.wrap ((N : Int) - 1) = (p : Int) := (i64_w _).trans (by rw [wid (by omega) (by omega)]; omega)
 have e2 : (0 ≤ (p : Int)) = True := eq_true (by omega)
 have e3 : ((p : Int) < (N : Int)) = True := eq_true (by omega)
 have hb2 : Below w.heap.size w ((w.alloc (Obj.cells #[.slice A0 Rs.length c0, .slice A1 Ls.length c1] 31)).alloc (Obj.cells #[.int .i64 5, .slice A5 s.length c5, .int .i64 a2] 79)) := below_alloc (below_alloc (Below.refl _ _) _) _
 have hg := blk_alloc (blk_new w (Obj.cells #[.slice A0 Rs.length c0, .slice A1 Ls.length c1] 31)) (Obj.cells #[.int .i64 5, .slice A5 s.length c5, .int .i64 a2] 79)
 have hx := blk_new (w.alloc (Obj.cells #[.slice A0 Rs.length c0, .slice A1 Ls.length c1] 31)) (Obj.cells #[.int .i64 5, .slice A5 s.length c5, .int .i64 a2] 79)
 rw [World.size_alloc] at hx
 have HG0 := Aside0.mk hg
 have HX := Aside0.mk hx
 have HB2 := Aside0.mk hb2
 have HU2 := Aside0.mk (below_then hb hb.size hb2)
 have HSZ2 : Aside0 (((w.alloc (Obj.cells #[.slice A0 Rs.length c0, .slice A1 Ls.length c1] 31)).alloc (Obj.cells #[.int .i64 5, .slice A5 s.length c5, .int .i64 a2] 79)).heap.size = w.heap.size + 1 + 1) := ⟨by simp⟩
 obtain ⟨ii, hi, _, hsz, _⟩ := info_parts info79
 have hcutA := cut_to (P := Try.prog) 66 79 .i64 Try.underlying66 hi (some ad) N c (a : Int) (by omega) (by omega) hc
 rw [Int.toNat_natCast] at hcutA
 have hcutB := cut_mid (P := Try.prog) 66 79 .i64 .i64 Try.underlying66 hi 3 hsz (some ad) N c (a : Int) (p : Int) (by omega) (by omega) (by omega) hc
 rw [Int.toNat_natCast, Int.toNat_natCast, ← hAr, ← hbl1, ← hcr] at hcutB
 have v0 := pw_cell_below hb (hk ad rfl)
 have lv := World.block_lt_of_cell? _ _ v0
 have v1 := pw_cell_below hb (hkx ad rfl)
 have lv1 := World.block_lt_of_cell? _ _ v1
 have ew2 : IntKind.i64.wrap ((N : Int) - 2) = (p2 : Int) := (i64_w _).trans (by rw [wid (by omega) (by omega)]; omega)
 have ew3 : IntKind.i64.wrap ((a : Int) - 1) = (ax : Int) := (i64_w _).trans (by rw [wid (by omega) (by omega)]; omega)
 have e4 : (0 ≤ (p2 : Int)) = True := eq_true (by omega)
 have e5 : ((p2 : Int) < (N : Int)) = True := eq_true (by omega)
 have e6 : (0 ≤ (ax : Int)) = True := eq_true (by omega)
 have e7 : ((ax : Int) < (N : Int)) = True := eq_true (by omega)
 have HV1 := Aside0.mk v1
 clear hi hsz hx hb2 hk hkx hp2 hg hAr hbl1 hcr hax v1
 have hgu := cap_app X ⟨#[32, 47, 32]⟩ _ 3 hX (Nat.le_refl _) 100000000002 (by decide)
 have HG := Aside0.mk hG
 have HB := Aside0.mk hb
 have HY := Aside0.mk y2
 have HY1 := Aside0.mk y1
 have HC := Aside0.mk hC
 clear hG hb y2 hC y1 hN hpl
 go_enter Try.func88, Try.ntmps88
 go_upto_region 18 with (go_at_call 129; refine (HS.out _ HU2.out).mono ?_; go_must (rintro e W2 ⟨rfl, hb⟩; have hg2 := blk_below HG0.out hb; have hx2 := blk_below HX.out hb; have g0 := blk_cell hg2 0; have g1 := blk_cell hg2 1; have z0 := blk_cell hx2 0; have lg := blk_lt hg2; have lx2 := blk_lt hx2; have y1 := pw_cell_below (below_then HB2.out HB2.out.size hb) HV1.out; have ly := World.block_lt_of_cell? _ _ y1; have HGW2 := Aside0.mk hg2; have HXW2 := Aside0.mk hx2; have HUW2 := Aside0.mk (below_then HU2.out HU2.out.size hb); have HBW2 := Aside0.mk (below_then HB2.out HB2.out.size hb); clear hg2 hx2 hb))
 refine start_ (n := 6) (S := fun W' => W'.cell? ⟨w.heap.size, 0, none⟩ = some (.slice A0 Rs.length c0) ∧ W'.cell? ⟨w.heap.size, 1, none⟩ = some (.slice A1 Ls.length c1)) (ds := []) #[false, false, false, false, false, false] (by kernel_rfl) rfl rfl (⟨g0, g1⟩) (fun hHeld => ?_); refine with_tabW txX.tab txX.bits (fun HT_ HW_ => ?_)
 refine ta_ 0 97 HT_ HW_ hHeld ?_
 refine pu_ 1 98 HT_ ?_
 refine pu_ 2 99 HT_ ?_
 refine pu_ 3 100 HT_ ?_
 refine on_ 4 (some 101) HT_ (fun K hK => ?_)
 refine ge_ Try.func88 #[.agg #[.slice A0 Rs.length c0, .slice A1 Ls.length c1], .slice (some ad) a c] ?_
 refine (IHL.out _ (below_then HUW2.out HUW2.out.size (by repeat (first | exact Below.refl _ _ | apply pw_below_drewN | apply Below.drew)))).mono ?_
 rintro e W3 ⟨rfl, hb0⟩
 refine ⟨_, rfl, ?_⟩
 have hb1 : Below W2.heap.size W2 W3 := below_then (by repeat (first | exact Below.refl _ _ | apply pw_below_drewN | apply Below.drew)) (by simp) hb0
 have hg3 := blk_below HGW2.out hb1
 have aa0 := blk_cell hg3 0
 have aa1 := blk_cell hg3 1
 have HGW3 := Aside0.mk hg3
 have HUW3 := Aside0.mk (below_then HUW2.out HUW2.out.size hb1)
 have HBW3 := Aside0.mk (below_then HBW2.out HBW2.out.size hb1)
 have hx3 := blk_below HXW2.out hb1
 have lxa := blk_lt hx3
 have lga := blk_lt hg3
 have HXW3 := Aside0.mk hx3
 clear hx3 hb0 hb1 hg3
 refine hK.out _ _ (⟨aa0, aa1⟩) (fun hHeld => ?_)
 clear hK K
 refine no_ (some 101) ?_
 refine pu_ 5 10 HT_ ?_
 refine done_ (done_of HT_.out (by kernel_rfl)) ?_
 go_upto_region 19 with fail
 refine start_ (n := 8) (S := fun W' => W'.cell? ⟨w.heap.size, 0, none⟩ = some (.slice A0 Rs.length c0) ∧ W'.cell? ⟨w.heap.size, 1, none⟩ = some (.slice A1 Ls.length c1)) (ds := []) #[false, false, false, false, false, false, false, false] (by kernel_rfl) rfl rfl (⟨aa0, aa1⟩) (fun hHeld => ?_); refine with_tabW txY.tab txY.bits (fun HT_ HW_ => ?_)
 refine ta_ 0 102 HT_ HW_ hHeld ?_
 refine pu_ 1 103 HT_ ?_
 refine pu_ 2 104 HT_ ?_
 refine pu_ 3 105 HT_ ?_
 refine pu_ 4 106 HT_ ?_
 refine pu_ 5 107 HT_ ?_
 refine on_ 6 (some 108) HT_ (fun K hK => ?_)
 refine ge_ Try.func88 #[.agg #[.slice A0 Rs.length c0, .slice A1 Ls.length c1], .slice Ar bl cr] ?_
 refine (IHR.out _ (below_then HUW3.out HUW3.out.size (by repeat (first | exact Below.refl _ _ | apply pw_below_drewN | apply Below.drew)))).mono ?_
 rintro e W4 ⟨rfl, hb0⟩
 refine ⟨_, rfl, ?_⟩
 have hb1 : Below W3.heap.size W3 W4 := below_then (by repeat (first | exact Below.refl _ _ | apply pw_below_drewN | apply Below.drew)) (by simp) hb0
 have hg3 := blk_below HGW3.out hb1
 have ab0 := blk_cell hg3 0
 have ab1 := blk_cell hg3 1
 have HGW4 := Aside0.mk hg3
 have HUW4 := Aside0.mk (below_then HUW3.out HUW3.out.size hb1)
 have HBW4 := Aside0.mk (below_then HBW3.out HBW3.out.size hb1)
 have hx3 := blk_below HXW3.out hb1
 have lxb := blk_lt hx3
 have zb0 := blk_cell hx3 0
 have HXW4 := Aside0.mk hx3
 clear hx3 hb0 hb1 hg3
 refine hK.out _ _ (⟨ab0, ab1⟩) (fun hHeld => ?_)
 clear hK K
 refine no_ (some 108) ?_
 refine pu_ 7 11 HT_ ?_
 refine done_ (done_of HT_.out (by kernel_rfl)) ?_
 go_wp2_with (first
  | (go_at_call 134; refine (group_in Y ((ky : Int) == 5) (by omega) _).mono ?_; go_must (rintro e W6 ⟨rfl, hb⟩; have HBW6 := Aside0.mk (below_then HBW4.out HBW4.out.size hb); have hgt := cap_grB ((ky : Int) == 5) Y hY; clear hb)))
 go_ret
 exact ⟨rfl, HBW6.out⟩
end Go.Proofs.Ytdiilocgjnlmiaa.Tre
