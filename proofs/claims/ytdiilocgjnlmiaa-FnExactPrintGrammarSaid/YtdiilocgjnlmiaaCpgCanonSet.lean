/- Lemmas of the proof, and the walks of functions that it stands on. -/
import Derived.Test.YtdiilocgjnlmiaaCpgWork
import Derived.Test.YtdiilocgjnlmiaaCpgByteText
import Derived.Test.YtdiilocgjnlmiaaCpgRegKit
import Derived.Test.YtdiilocgjnlmiaaCpgWEqStruct
import Derived.Test.YtdiilocgjnlmiaaCpgClone
import Derived.Test.YtdiilocgjnlmiaaCpgImplSet
import Derived.Test.YtdiilocgjnlmiaaCpgSText
section
namespace Go.Proofs.Ytdiilocgjnlmiaa.Tre
open Go.RowKit Go.Proofs.YtdiilocgjnlmiaaW.PrintWords Go.Proofs.YtdiilocgjnlmiaaW.PrintLast Go.Proofs.YtdiilocgjnlmiaaW.PrintMore
open Go.Proofs.Ytdiilocgjnlmiaa.PAll
set_option linter.unusedVariables false
set_option linter.unusedSimpArgs false
set_option maxRecDepth 100000 in
set_option maxHeartbeats 8000000 in
theorem bound_in (t : Tr) (U w : World) (v : Value) (hv : TrV U t v) : Calls Try.prog 138 #[v] w (fun e w' => e = .returned (.int .i64 (bndT t : Int)) ∧ Below w.heap.size w w') := by
 have a1 := ta_alt; have a2 := ta_seq; have a3 := ta_neg; have a4 := ta_star
 have n1 := tn_alt; have n2 := tn_seq; have n3 := tn_neg; have n4 := tn_star
 cases t with
 | emp =>
  obtain rfl := hv
  go_enter Try.func138, Try.ntmps138
  go_wp2_with fail
  go_ret
  exact ⟨rfl, Below.refl _ _⟩
 | set s =>
  obtain ⟨A, c, rfl, _⟩ := hv
  go_enter Try.func138, Try.ntmps138
  go_wp2_with fail
  go_ret
  exact ⟨rfl, Below.refl _ _⟩
 | ref n =>
  obtain rfl := hv
  go_enter Try.func138, Try.ntmps138
  go_wp2_with fail
  go_ret
  exact ⟨rfl, Below.refl _ _⟩
 | thr n =>
  obtain rfl := hv
  go_enter Try.func138, Try.ntmps138
  go_wp2_with fail
  go_ret
  exact ⟨rfl, Below.refl _ _⟩
 | star x =>
  obtain ⟨a, rfl, _⟩ := hv
  go_enter Try.func138, Try.ntmps138
  go_wp2_with fail
  go_ret
  exact ⟨rfl, Below.refl _ _⟩
 | neg x =>
  obtain ⟨a, rfl, _⟩ := hv
  go_enter Try.func138, Try.ntmps138
  go_wp2_with fail
  go_ret
  exact ⟨rfl, Below.refl _ _⟩
 | seq l r =>
  obtain ⟨a, b, rfl, _, _⟩ := hv
  go_enter Try.func138, Try.ntmps138
  go_wp2_with fail
  go_ret
  exact ⟨rfl, Below.refl _ _⟩
 | alt l r =>
  obtain ⟨a, b, rfl, _, _⟩ := hv
  go_enter Try.func138, Try.ntmps138
  go_wp2_with fail
  go_ret
  exact ⟨rfl, Below.refl _ _⟩
end Go.Proofs.Ytdiilocgjnlmiaa.Tre
end
section
namespace Go.Proofs.Ytdiilocgjnlmiaa.Tre
open Go.RowKit Go.Proofs.YtdiilocgjnlmiaaW.PrintWords Go.Proofs.YtdiilocgjnlmiaaW.PrintLast Go.Proofs.YtdiilocgjnlmiaaW.PrintMore
open Go.Proofs.Ytdiilocgjnlmiaa.PAll
set_option linter.unusedVariables false
set_option linter.unusedSimpArgs false
structure AFr (b B : Nat) (w w' : World) : Prop where
 bel : Below B w w'
 kept : ∀ k o, w.heap[k]? = some o → k ≠ b → (∀ cur fz, o ≠ .cells cur 88 fz) → w'.heap[k]? = some o
theorem AFr.trans {b B : Nat} {w1 w2 w3 : World} (h : AFr b B w1 w2) (k : AFr b B w2 w3) : AFr b B w1 w3 := ⟨h.bel.trans k.bel, fun j o hj hb ho => k.kept j o (h.kept j o hj hb ho) hb ho⟩
structure Asm (W : World) (B b : Nat) (code : List In) (mr ml : Value) : Prop where
 ex : ∃ v sv, W.heap[b]? = some (.cells #[v, mr, ml] 146 (0, 0)) ∧ InSt W B v sv code
 lo : B ≤ b
theorem Asm.below {W W' : World} {B b : Nat} {code : List In} {mr ml : Value} (h : Asm W B b code mr ml) (hb : Below W.heap.size W W') : Asm W' B b code mr ml := by
 obtain ⟨v, sv, h1, h2⟩ := h.ex
 exact ⟨⟨v, sv, blk_below h1 hb, h2.below hb⟩, h.lo⟩
theorem Asm.size {W : World} {B b : Nat} {code : List In} {mr ml : Value} (h : Asm W B b code mr ml) : B ≤ W.heap.size := by
 obtain ⟨v, sv, h1, h2⟩ := h.ex
 exact Nat.le_trans h.lo (Nat.le_of_lt (blk_lt h1))
def emA.T : Bool × List (List Nat × List Nat) := (true, [([], []), ([], []), ([1], [1]), ([2], [2]), ([3], [3]), ([], []), ([5], [5]), ([4, 6], [4, 6]), ([0, 0, 1, 2, 3, 4, 5, 6, 7], [0]), ([8, 0, 1, 2, 3, 4, 5, 6, 7], [8]), ([9, 7, 7, 0, 1, 2, 3, 4, 5, 6, 7], [7, 9])])
def emA.B : List Nat := [0, 0, 2, 6, 14, 0, 32, 126, 255, 511, 1023]
end Go.Proofs.Ytdiilocgjnlmiaa.Tre
end
section
namespace Go.Proofs.Ytdiilocgjnlmiaa.Tre
open Go.RowKit Go.Proofs.YtdiilocgjnlmiaaW.PrintWords Go.Proofs.YtdiilocgjnlmiaaW.PrintLast Go.Proofs.YtdiilocgjnlmiaaW.PrintMore
open Go.Proofs.Ytdiilocgjnlmiaa.PAll
set_option linter.unusedVariables false
set_option linter.unusedSimpArgs false
def smT : Tr → Prop
 | .set s => s.length ≤ 1048576
 | .seq l r => smT l ∧ smT r
 | .alt l r => smT l ∧ smT r
 | .star x => smT x
 | .neg x => smT x
 | _ => True
theorem AFr.low {b B : Nat} {U w w' : World} (h : AFr b B w w') (hU : U.heap.size ≤ B) (hw : Below U.heap.size U w) : Below U.heap.size U w' :=
 hw.trans ⟨h.bel.os, h.bel.tape, h.bel.output, h.bel.size, fun k hk => h.bel.block k (by omega)⟩
def axA.T : Bool × List (List Nat × List Nat) := (true, [([], []), ([0], [0]), ([1], [1]), ([2], [2]), ([], []), ([], []), ([5], [5]), ([6], [6]), ([7], [7]), ([8], [8]), ([3, 4, 0, 1, 2, 3, 4, 5, 6, 7, 8, 9], [3, 4]), ([10, 0, 1, 2, 3, 4, 5, 6, 7, 8, 9], [10]), ([11, 9, 0, 1, 2, 3, 4, 5, 6, 7, 8, 9], [9, 11])])
def axA.B : List Nat := [0, 1, 3, 7, 0, 0, 32, 96, 224, 480, 1023, 2047, 4095]
def axB.T : Bool × List (List Nat × List Nat) := (true, [([], []), ([0], [0]), ([1], [1]), ([2], [2]), ([], []), ([], []), ([5], [5]), ([6], [6]), ([7], [7]), ([8], [8]), ([3, 4, 0, 1, 2, 3, 4, 5, 6, 7, 8, 9], [3, 4]), ([10, 0, 1, 2, 3, 4, 5, 6, 7, 8, 9], [10]), ([11, 9, 0, 1, 2, 3, 4, 5, 6, 7, 8, 9], [9, 11])])
def axB.B : List Nat := [0, 1, 3, 7, 0, 0, 32, 96, 224, 480, 1023, 2047, 4095]
def axC.T : Bool × List (List Nat × List Nat) := (true, [([], []), ([0], [0]), ([1], [1]), ([2], [2]), ([], []), ([], []), ([5], [5]), ([6], [6]), ([7], [7]), ([8], [8]), ([3, 4, 0, 1, 2, 3, 4, 5, 6, 7, 8, 9], [3, 4]), ([10, 0, 1, 2, 3, 4, 5, 6, 7, 8, 9], [10]), ([11, 9, 0, 1, 2, 3, 4, 5, 6, 7, 8, 9], [9, 11])])
def axC.B : List Nat := [0, 1, 3, 7, 0, 0, 32, 96, 224, 480, 1023, 2047, 4095]
def axD.T : Bool × List (List Nat × List Nat) := (true, [([], []), ([0], [0]), ([1], [1]), ([2], [2]), ([], []), ([], []), ([5], [5]), ([6], [6]), ([7], [7]), ([8], [8]), ([3, 4, 0, 1, 2, 3, 4, 5, 6, 7, 8, 9], [3, 4]), ([10, 0, 1, 2, 3, 4, 5, 6, 7, 8, 9], [10]), ([11, 9, 0, 1, 2, 3, 4, 5, 6, 7, 8, 9], [9, 11])])
def axD.B : List Nat := [0, 1, 3, 7, 0, 0, 32, 96, 224, 480, 1023, 2047, 4095]
end Go.Proofs.Ytdiilocgjnlmiaa.Tre
end
section
namespace Go.Proofs.Ytdiilocgjnlmiaa.Tre
open Go.RowKit Go.Proofs.YtdiilocgjnlmiaaW.PrintWords Go.Proofs.YtdiilocgjnlmiaaW.PrintLast Go.Proofs.YtdiilocgjnlmiaaW.PrintMore
open Go.Proofs.Ytdiilocgjnlmiaa.PAll
set_option linter.unusedVariables false
set_option linter.unusedSimpArgs false
theorem size_stF (s : List Int) : (stF s).size ≤ 9 * s.length + 8 := by
 have h := size_rgF s
 have key : ((⟨#[91]⟩ ++ rgF s) ++ ⟨#[93]⟩ : ByteArray).size ≤ 9 * s.length + 8 := by
  rw [ByteArray.size_append, ByteArray.size_append]
  show (1 + _) + 1 ≤ _
  omega
 unfold stF
 split
 ·next lo hi =>
  have hb := size_btF lo
  split
  ·show 1 ≤ _; omega
  split
  ·rw [ByteArray.size_append, ByteArray.size_append]
   show (1 + _) + 1 ≤ _
   omega
  exact key
 exact key
theorem size_grB (yes : Bool) (s : ByteArray) : (grB yes s).size ≤ s.size + 2 := by
 unfold grB
 split
 ·rw [ByteArray.size_append, ByteArray.size_append]
  show (1 + _) + 1 ≤ _
  omega
 omega
def ndT : Tr → Nat
 | .seq l r => ndT l + ndT r + 1
 | .alt l r => ndT l + ndT r + 1
 | .star x => ndT x + 1
 | .neg x => ndT x + 1
 | _ => 1
theorem size_txT (rn ln : Nat → ByteArray) (hr : ∀ n, (rn n).size ≤ 1048576) (hl : ∀ n, (ln n).size ≤ 1048576) : ∀ (t : Tr), smT t → (txT rn ln t).size ≤ 9437200 * ndT t
 | .emp, _ => by show 2 ≤ _; simp [ndT]
 | .set s, h => by
  have := size_stF s
  have h' : s.length ≤ 1048576 := h
  show (stF s).size ≤ 9437200 * 1
  omega
 | .ref n, _ => by
  have := hr n.toNat
  show (rn n.toNat).size ≤ 9437200 * 1
  omega
 | .thr n, _ => by
  have := hl n.toNat
  show (⟨#[94]⟩ ++ ln n.toNat : ByteArray).size ≤ 9437200 * 1
  rw [ByteArray.size_append]
  show 1 + _ ≤ _
  omega
 | .seq l r, h => by
  have a := size_txT rn ln hr hl l h.1
  have b := size_txT rn ln hr hl r h.2
  have c := size_grB (decide (bndT l < 1)) (txT rn ln l)
  have d := size_grB (decide (bndT r < 2)) (txT rn ln r)
  rw [txT, ByteArray.size_append, ByteArray.size_append, ndT]
  show (_ + 1) + _ ≤ _
  omega
 | .alt l r, h => by
  have a := size_txT rn ln hr hl l h.1
  have b := size_txT rn ln hr hl r h.2
  have c := size_grB (decide (bndT l < 0)) (txT rn ln l)
  have d := size_grB (decide (bndT r < 1)) (txT rn ln r)
  rw [txT, ByteArray.size_append, ByteArray.size_append, ndT]
  show (_ + 3) + _ ≤ _
  omega
 | .star x, h => by
  have a := size_txT rn ln hr hl x h
  have c := size_grB (decide (bndT x < 4)) (txT rn ln x)
  rw [txT, ByteArray.size_append, ndT]
  show _ + 1 ≤ _
  omega
 | .neg x, h => by
  have a := size_txT rn ln hr hl x h
  have c := size_grB (decide (bndT x < 2)) (txT rn ln x)
  rw [txT, ByteArray.size_append, ndT]
  show 1 + _ ≤ _
  omega
end Go.Proofs.Ytdiilocgjnlmiaa.Tre
end
section
namespace Go.Proofs.YtdiilocgjnlmiaaW.PrintLast
open Go.RowKit Go.Proofs.YtdiilocgjnlmiaaW.PrintWords
set_option linter.unusedVariables false
section
variable {P : Program} {ops : Array Oper} {Q : Exit → Act → World → Prop} {oi : Oper} {a : Act} {w : World}
theorem gc_ {N : Option Tmp} {K : Act → World → Prop} {f : FuncId} {fn : Func} {x : Operand} {as1 : Array Operand} {ts : Array TypeId} (hf : P.funcs[f]? = some fn) (first cap args : Array Value) (h : Calls P f args w fun e w' => ∃ v, e = .returned v ∧ K (a.put N v) w') (hname : (fn.name == "runtime.NumGoroutine") = false := by kernel_rfl) (hb : fn.body.isSome = true := by exact rfl)
 (hw : Region.wanted oi (yielded ops a.tmps) = true := by rfl) (hN : oi.dst = N := by exact rfl) (hop : oi.op = .call { callee := .value x, args := as1, argTypes := ts } := by exact rfl) (hx : a.eval x = .func (.func f) first cap := by rfl) (hargs : first ++ as1.map a.eval ++ cap = args := by (try simp only [List.map_toArray, List.map_cons, List.map_nil]); first | done | rfl) : if Region.wanted oi (yielded ops a.tmps) = true then Oper.wp P oi a w K Q else K (a.put N undef) w := by
 refine call_ f args hw hN ?_ h
 have he := enters_ hf hname hb args w
 unfold execOp
 simp only [hop, resolve, hx, Deferred.ofValue, invoke, pure_bind, hargs]
 exact he
end
end Go.Proofs.YtdiilocgjnlmiaaW.PrintLast
end
section
namespace Go.Proofs.Ytdiilocgjnlmiaa.Tre
open Go.RowKit Go.Proofs.YtdiilocgjnlmiaaW.PrintWords Go.Proofs.YtdiilocgjnlmiaaW.PrintLast Go.Proofs.YtdiilocgjnlmiaaW.PrintMore
open Go.Proofs.Ytdiilocgjnlmiaa.PAll
set_option linter.unusedVariables false
set_option linter.unusedSimpArgs false
def okSt : Tr → Prop
 | .set s => okS s
 | .seq l r => okSt l ∧ okSt r
 | .alt l r => okSt l ∧ okSt r
 | .star x => okSt x
 | .neg x => okSt x
 | _ => True
def itS.T : Bool × List (List Nat × List Nat) := (true, [([], []), ([], []), ([1], [1]), ([0, 2], [0, 2]), ([3], [3]), ([], []), ([], []), ([6], [6]), ([5, 7, 3], [5, 7]), ([4, 8], [4, 8]), ([9, 8, 0, 1, 2, 3, 4, 5, 6, 7, 8, 9], [9])])
def itS.B : List Nat := [0, 0, 2, 7, 15, 0, 0, 64, 239, 511, 1023]
theorem itS.tab : rtab .any (opsOf Try.f92 14) = itS.T := by kernel_rfl
theorem itS.bits : waitsOk itS.T.2 itS.B = true := by kernel_rfl
def itA.T : Bool × List (List Nat × List Nat) := (true, [([], []), ([], []), ([1], [1]), ([0, 2], [0, 2]), ([3], [3]), ([], []), ([], []), ([6], [6]), ([5, 7, 3], [5, 7]), ([4, 8], [4, 8]), ([9, 8, 0, 1, 2, 3, 4, 5, 6, 7, 8, 9], [9])])
def itA.B : List Nat := [0, 0, 2, 7, 15, 0, 0, 64, 239, 511, 1023]
theorem itA.tab : rtab .any (opsOf Try.f92 17) = itA.T := by kernel_rfl
theorem itA.bits : waitsOk itA.T.2 itA.B = true := by kernel_rfl
set_option maxRecDepth 100000 in
set_option maxHeartbeats 8000000 in
theorem inner_in (U w : World) (A0 A1 : Option Addr) (c0 c1 : Nat) (Rs : List Ru) (Ls : List La) (x : Tr) (v : Value) (least b : Nat) (X : ByteArray) (IH : Aside0 (∀ w', Below U.heap.size U w' → Calls Try.prog 92 #[.agg #[.slice A0 Rs.length c0, .slice A1 Ls.length c1], v] w' (StrPost w' X))) (hX : X.size ≤ 99999999999) (hv : TrV U x v) (hbx : w.heap[b]? = some (Obj.cells #[.slice A0 Rs.length c0, .slice A1 Ls.length c1] 31 (0, 0))) (hUw : Below U.heap.size U w) :
 Calls Try.prog 137 #[v, .int .i64 (least : Int), .pointer (some ⟨b, 0, none⟩)] w (StrPost w (grB (decide (bndT x < least)) X)) := by
 have HBO : Aside0 (∀ w', Calls Try.prog 138 #[v] w' (fun e w2 => e = .returned (.int .i64 (bndT x : Int)) ∧ Below w'.heap.size w' w2)) := ⟨fun w' => bound_in x U w' v hv⟩
 have hsz := cap_app ⟨#[40]⟩ X 1 _ (Nat.le_refl _) hX 100000000000 (by decide)
 generalize bndT x = q at *
 have HX := Aside0.mk hbx
 have HU := Aside0.mk hUw
 clear hbx hUw hv
 by_cases h : q < least
 ·have d1 : decide ((q : Int) < (least : Int)) = true := decide_eq_true (by omega)
  have d2 : decide (q < least) = true := decide_eq_true h
  have HE : Aside0 (grB (decide (q < least)) X = (⟨#[40]⟩ ++ X) ++ ⟨#[41]⟩) := ⟨by rw [d2]; rfl⟩
  go_enter Try.func137, Try.ntmps137
  go_wp2_with (first
   | (go_at_call 92; refine (IH.out _ HU1.out).mono ?_; go_must (rintro e W2 ⟨rfl, hb⟩; have HB2 := Aside0.mk (below_then HB1.out HB1.out.size hb); clear hb))
   | (go_at_call 138; refine (HBO.out _).mono ?_; go_must (rintro e W1 ⟨rfl, hb⟩; have HB1 := Aside0.mk hb; have HU1 := Aside0.mk (below_then HU.out HU.out.size hb); have hx1 := blk_below HX.out hb; have z0 := blk_cell hx1 0; have z1 := blk_cell hx1 1; clear hb)))
  go_ret
  rw [HE.out]
  exact ⟨rfl, HB2.out⟩
 have d1 : decide ((q : Int) < (least : Int)) = false := decide_eq_false (by omega)
 have d2 : decide (q < least) = false := decide_eq_false h
 have HE : Aside0 (grB (decide (q < least)) X = X) := ⟨by rw [d2]; rfl⟩
 go_enter Try.func137, Try.ntmps137
 go_wp2_with (first
  | (go_at_call 92; refine (IH.out _ HU1.out).mono ?_; go_must (rintro e W2 ⟨rfl, hb⟩; have HB2 := Aside0.mk (below_then HB1.out HB1.out.size hb); clear hb))
  | (go_at_call 138; refine (HBO.out _).mono ?_; go_must (rintro e W1 ⟨rfl, hb⟩; have HB1 := Aside0.mk hb; have HU1 := Aside0.mk (below_then HU.out HU.out.size hb); have hx1 := blk_below HX.out hb; have z0 := blk_cell hx1 0; have z1 := blk_cell hx1 1; clear hb)))
 go_ret
 rw [HE.out]
 exact ⟨rfl, HB2.out⟩
set_option maxRecDepth 100000 in
set_option maxHeartbeats 16000000 in
theorem text_in (U : World) (A0 A1 : Option Addr) (c0 c1 : Nat) (Rs : List Ru) (Ls : List La) (HG : Aside0 (GrC U A0 c0 A1 c1 Rs Ls)) (hRl : Rs.length ≤ 1048576) (hLl : Ls.length ≤ 1048576) (HNR : Aside0 (∀ n, (rnR Rs n).size ≤ 1048576)) (HNL : Aside0 (∀ n, (lnL Ls n).size ≤ 1048576)) : ∀ (t : Tr) (w : World) (v : Value), TrV U t v → Aside0 (Below U.heap.size U w) → okT Rs.length Ls.length t → okSt t → smT t → ndT t ≤ 10000 →
 Calls Try.prog 92 #[.agg #[.slice A0 Rs.length c0, .slice A1 Ls.length c1], v] w (StrPost w (txT (rnR Rs) (lnL Ls) t)) := by
 have HSZ : Aside0 (∀ t, smT t → ndT t ≤ 10000 → (txT (rnR Rs) (lnL Ls) t).size ≤ 99999999999) := ⟨fun t h1 h2 => by
  have := size_txT (rnR Rs) (lnL Ls) HNR.out HNL.out t h1
  omega⟩
 intro t
 induction t with
 | emp =>
  intro w v hv hUw hok hst hs hn
  obtain rfl := hv
  have a0 := ta_set; have a1 := ta_ref; have a2 := ta_thr; have a3 := ta_seq; have a4 := ta_alt; have a5 := ta_star; have a6 := ta_neg
  go_enter Try.func92, Try.ntmps92
  go_wp2_with fail
  go_ret
  exact ⟨rfl, below_alloc (Below.refl _ _) _⟩
 | set s =>
  intro w v hv hUw hok hst hs hn
  obtain ⟨A, c, rfl, hc, hC⟩ := hv
  have hb2 : Below w.heap.size w ((w.alloc (Obj.cells #[.slice A0 Rs.length c0, .slice A1 Ls.length c1] 31)).alloc (Obj.cells #[.slice A s.length c] 200)) := below_alloc (below_alloc (Below.refl _ _) _) _
  have HC := Aside0.mk (Kd.C_below (Kd.C_below hC hUw.out) hb2)
  have HB2 := Aside0.mk hb2
  have HST := Aside0.mk (show okS s from hst)
  clear hC hb2 hs hok hst hn
  have a0 := ta_set; have a1 := ta_ref; have a2 := ta_thr; have a3 := ta_seq; have a4 := ta_alt; have a5 := ta_star; have a6 := ta_neg
  go_enter Try.func92, Try.ntmps92
  go_wp2_with (go_at_call 139; refine (iset_in s HST.out A c hc _ HC.out).mono ?_; go_must (rintro e W1 ⟨rfl, hb⟩; have HB3 := Aside0.mk (below_then HB2.out HB2.out.size hb); clear hb))
  go_ret
  exact ⟨rfl, HB3.out⟩
 | ref n =>
  intro w v hv hUw hok hst hs hn
  obtain rfl := hv
  obtain ⟨q, rfl⟩ : ∃ q : Nat, n = (q : Int) := ⟨n.toNat, (Int.toNat_of_nonneg hok.1).symm⟩
  have hq : q < Rs.length := by have := hok.2; omega
  have hb2 : Below w.heap.size w ((w.alloc (Obj.cells #[.slice A0 Rs.length c0, .slice A1 Ls.length c1] 31)).alloc (Obj.cells #[.int .i64 (q : Int)] 202)) := below_alloc (below_alloc (Below.refl _ _) _) _
  have HB2 := Aside0.mk hb2
  have hb := hUw.out
  obtain ⟨ad2, X0, d0, X1, d1, hA, z0, z1, q0, q1, q2, q3⟩ := at_T68 HG.out.r (q : Int) (by omega) (by omega)
  have hA' := hA
  rw [Int.toNat_natCast] at z0
  replace z0 := pw_cell_below hb z0
  have lz := World.block_lt_of_cell? _ _ z0
  have e4 : (0 ≤ (q : Int)) = True := eq_true (by omega)
  have e5 : ((q : Int) < (Rs.length : Int)) = True := eq_true (by omega)
  have hnl := HNR.out q
  have HE : Aside0 (rnR Rs q = strOfNums (rd_T68 Rs (q : Int)).f0) := ⟨rfl⟩
  rw [HE.out] at hnl
  have hcv := Kd.C_string (P := Try.prog) (dst := 9) (c := d0) Try.underlying36 Try.underlying5 Try.underlying9 (Kd.C_below (Kd.C_below q1 hb) hb2)
  have HT : Aside0 (txT (rnR Rs) (lnL Ls) (.ref (q : Int)) = rnR Rs q) := ⟨by first | rfl | simp [txT]⟩
  rw [HT.out]
  generalize (rd_T68 Rs (q : Int)).f0 = nm at *
  subst hA
  clear hA' q0 q1 q2 q3 z1 hq hok hst hs hn hb hb2
  have a0 := ta_set; have a1 := ta_ref; have a2 := ta_thr; have a3 := ta_seq; have a4 := ta_alt; have a5 := ta_star; have a6 := ta_neg
  go_enter Try.func92, Try.ntmps92
  go_wp2_with fail
  go_ret
  rw [HE.out]
  exact ⟨rfl, HB2.out⟩
 | thr n =>
  intro w v hv hUw hok hst hs hn
  obtain rfl := hv
  obtain ⟨q, rfl⟩ : ∃ q : Nat, n = (q : Int) := ⟨n.toNat, (Int.toNat_of_nonneg hok.1).symm⟩
  have hq : q < Ls.length := by have := hok.2; omega
  have hb2 : Below w.heap.size w ((w.alloc (Obj.cells #[.slice A0 Rs.length c0, .slice A1 Ls.length c1] 31)).alloc (Obj.cells #[.int .i64 (q : Int)] 204)) := below_alloc (below_alloc (Below.refl _ _) _) _
  have HB2 := Aside0.mk hb2
  have hb := hUw.out
  obtain ⟨ad2, X0, d0, X1, d1, hA, z0, zh, z1, q0, q1, q2, q3⟩ := at_T72 HG.out.l (q : Int) (by omega) (by omega)
  have hA' := hA
  rw [Int.toNat_natCast] at z0
  replace z0 := pw_cell_below hb z0
  have lz := World.block_lt_of_cell? _ _ z0
  have e4 : (0 ≤ (q : Int)) = True := eq_true (by omega)
  have e5 : ((q : Int) < (Ls.length : Int)) = True := eq_true (by omega)
  have hnl := HNL.out q
  have HE : Aside0 (lnL Ls q = strOfNums (rd_T72 Ls (q : Int)).f0) := ⟨rfl⟩
  rw [HE.out] at hnl
  have hcv := Kd.C_string (P := Try.prog) (dst := 9) (c := d0) Try.underlying36 Try.underlying5 Try.underlying9 (Kd.C_below (Kd.C_below q1 hb) hb2)
  have HT : Aside0 (txT (rnR Rs) (lnL Ls) (.thr (q : Int)) = ⟨#[94]⟩ ++ lnL Ls q) := ⟨by first | rfl | simp [txT]⟩
  rw [HT.out]
  generalize (rd_T72 Ls (q : Int)).f0 = nm at *
  subst hA
  clear hA' q0 q1 q2 q3 z1 hq hok hst hs hn hb hb2 zh
  have a0 := ta_set; have a1 := ta_ref; have a2 := ta_thr; have a3 := ta_seq; have a4 := ta_alt; have a5 := ta_star; have a6 := ta_neg
  go_enter Try.func92, Try.ntmps92
  go_wp2_with fail
  go_ret
  rw [HE.out]
  exact ⟨rfl, HB2.out⟩
 | star x ih =>
  intro w v hv hUw hok hst hs hn
  obtain ⟨a, rfl, hx⟩ := hv
  obtain ⟨Ta, ua, rfl⟩ := hx.iface
  have hb2 : Below w.heap.size w ((w.alloc (Obj.cells #[.slice A0 Rs.length c0, .slice A1 Ls.length c1] 31)).alloc (Obj.cells #[.iface Ta ua] 192)) := below_alloc (below_alloc (Below.refl _ _) _) _
  have hg := blk_alloc (blk_new w (Obj.cells #[.slice A0 Rs.length c0, .slice A1 Ls.length c1] 31)) (Obj.cells #[.iface Ta ua] 192)
  have IH : Aside0 (∀ w', Below U.heap.size U w' → Calls Try.prog 92 #[.agg #[.slice A0 Rs.length c0, .slice A1 Ls.length c1], .iface Ta ua] w' (StrPost w' (txT (rnR Rs) (lnL Ls) x))) := ⟨fun w' h => ih w' _ hx ⟨h⟩ hok hst hs (by simp only [ndT] at hn; omega)⟩
  have hX := HSZ.out x hs (by simp only [ndT] at hn; omega)
  have HT : Aside0 (txT (rnR Rs) (lnL Ls) (.star x) = grB (decide (bndT x < 4)) (txT (rnR Rs) (lnL Ls) x) ++ ⟨#[42]⟩) := ⟨rfl⟩
  rw [HT.out]
  clear ih
  generalize txT (rnR Rs) (lnL Ls) x = X at *
  have HV := Aside0.mk hx
  have HQX0 := Aside0.mk hg
  have HB2 := Aside0.mk hb2
  have HU2 := Aside0.mk (below_then hUw.out hUw.out.size hb2)
  have hgs := cap_grB (decide (bndT x < 4)) X hX
  clear hx hg hb2 hok hst hs hn hUw
  have a0 := ta_set; have a1 := ta_ref; have a2 := ta_thr; have a3 := ta_seq; have a4 := ta_alt; have a5 := ta_star; have a6 := ta_neg
  go_enter Try.func92, Try.ntmps92
  go_wp2_with (go_at_call 137; refine (inner_in U _ A0 A1 c0 c1 Rs Ls x (.iface Ta ua) 4 w.heap.size X IH hX HV.out HQX0.out HU2.out).mono ?_; go_must (rintro e W3 ⟨rfl, hb⟩; have HB3 := Aside0.mk (below_then HB2.out HB2.out.size hb); clear hb))
  go_ret
  exact ⟨rfl, HB3.out⟩
 | neg x ih =>
  intro w v hv hUw hok hst hs hn
  obtain ⟨a, rfl, hx⟩ := hv
  obtain ⟨Ta, ua, rfl⟩ := hx.iface
  have hb2 : Below w.heap.size w ((w.alloc (Obj.cells #[.slice A0 Rs.length c0, .slice A1 Ls.length c1] 31)).alloc (Obj.cells #[.iface Ta ua] 193)) := below_alloc (below_alloc (Below.refl _ _) _) _
  have hg := blk_alloc (blk_new w (Obj.cells #[.slice A0 Rs.length c0, .slice A1 Ls.length c1] 31)) (Obj.cells #[.iface Ta ua] 193)
  have IH : Aside0 (∀ w', Below U.heap.size U w' → Calls Try.prog 92 #[.agg #[.slice A0 Rs.length c0, .slice A1 Ls.length c1], .iface Ta ua] w' (StrPost w' (txT (rnR Rs) (lnL Ls) x))) := ⟨fun w' h => ih w' _ hx ⟨h⟩ hok hst hs (by simp only [ndT] at hn; omega)⟩
  have hX := HSZ.out x hs (by simp only [ndT] at hn; omega)
  have HT : Aside0 (txT (rnR Rs) (lnL Ls) (.neg x) = ⟨#[33]⟩ ++ grB (decide (bndT x < 2)) (txT (rnR Rs) (lnL Ls) x)) := ⟨rfl⟩
  rw [HT.out]
  clear ih
  generalize txT (rnR Rs) (lnL Ls) x = X at *
  have HV := Aside0.mk hx
  have HQX0 := Aside0.mk hg
  have HB2 := Aside0.mk hb2
  have HU2 := Aside0.mk (below_then hUw.out hUw.out.size hb2)
  have hgs := cap_grB (decide (bndT x < 2)) X hX
  clear hx hg hb2 hok hst hs hn hUw
  have a0 := ta_set; have a1 := ta_ref; have a2 := ta_thr; have a3 := ta_seq; have a4 := ta_alt; have a5 := ta_star; have a6 := ta_neg
  go_enter Try.func92, Try.ntmps92
  go_wp2_with (go_at_call 137; refine (inner_in U _ A0 A1 c0 c1 Rs Ls x (.iface Ta ua) 2 w.heap.size X IH hX HV.out HQX0.out HU2.out).mono ?_; go_must (rintro e W3 ⟨rfl, hb⟩; have HB3 := Aside0.mk (below_then HB2.out HB2.out.size hb); clear hb))
  go_ret
  exact ⟨rfl, HB3.out⟩
 | seq l r ihl ihr =>
  intro w v hv hUw hok hst hs hn
  obtain ⟨a, b, rfl, hl, hr⟩ := hv
  obtain ⟨Ta, ua, rfl⟩ := hl.iface
  obtain ⟨Tb, ub, rfl⟩ := hr.iface
  have hb2 : Below w.heap.size w ((w.alloc (Obj.cells #[.slice A0 Rs.length c0, .slice A1 Ls.length c1] 31)).alloc (Obj.cells #[.iface Ta ua, .iface Tb ub] 189)) := below_alloc (below_alloc (Below.refl _ _) _) _
  have hg := blk_alloc (blk_new w (Obj.cells #[.slice A0 Rs.length c0, .slice A1 Ls.length c1] 31)) (Obj.cells #[.iface Ta ua, .iface Tb ub] 189)
  have hx := blk_new (w.alloc (Obj.cells #[.slice A0 Rs.length c0, .slice A1 Ls.length c1] 31)) (Obj.cells #[.iface Ta ua, .iface Tb ub] 189)
  rw [World.size_alloc] at hx
  have IHL : Aside0 (∀ w', Below U.heap.size U w' → Calls Try.prog 92 #[.agg #[.slice A0 Rs.length c0, .slice A1 Ls.length c1], .iface Ta ua] w' (StrPost w' (txT (rnR Rs) (lnL Ls) l))) := ⟨fun w' h => ihl w' _ hl ⟨h⟩ hok.1 hst.1 hs.1 (by simp only [ndT] at hn; omega)⟩
  have IHR : Aside0 (∀ w', Below U.heap.size U w' → Calls Try.prog 92 #[.agg #[.slice A0 Rs.length c0, .slice A1 Ls.length c1], .iface Tb ub] w' (StrPost w' (txT (rnR Rs) (lnL Ls) r))) := ⟨fun w' h => ihr w' _ hr ⟨h⟩ hok.2 hst.2 hs.2 (by simp only [ndT] at hn; omega)⟩
  have hX := HSZ.out l hs.1 (by simp only [ndT] at hn; omega)
  have hY := HSZ.out r hs.2 (by simp only [ndT] at hn; omega)
  have HT : Aside0 (txT (rnR Rs) (lnL Ls) (.seq l r) = (grB (decide (bndT l < 1)) (txT (rnR Rs) (lnL Ls) l) ++ ⟨#[32]⟩) ++ grB (decide (bndT r < 2)) (txT (rnR Rs) (lnL Ls) r)) := ⟨rfl⟩
  rw [HT.out]
  clear ihl ihr
  generalize txT (rnR Rs) (lnL Ls) l = X at *
  generalize txT (rnR Rs) (lnL Ls) r = Y at *
  have HVL := Aside0.mk hl
  have HVR := Aside0.mk hr
  have HGW2 := Aside0.mk hg
  have HXW2 := Aside0.mk hx
  have HBW2 := Aside0.mk hb2
  have HUW2 := Aside0.mk (below_then hUw.out hUw.out.size hb2)
  have z0 := blk_cell hx 0
  have z1 := blk_cell hx 1
  have hgs := cap_grB (decide (bndT l < 1)) X hX
  have hgt := cap_grB (decide (bndT r < 2)) Y hY
  have hgu := cap_app _ ⟨#[32]⟩ _ 1 hgs (Nat.le_refl _) 100000000004 (by decide)
  have HIL : Aside0 (∀ w', Below U.heap.size U w' → w'.heap[w.heap.size]? = some (Obj.cells #[.slice A0 Rs.length c0, .slice A1 Ls.length c1] 31 (0, 0)) → Calls Try.prog 137 #[.iface Ta ua, .int .i64 1, .pointer (some ⟨w.heap.size, 0, none⟩)] w' (StrPost w' (grB (decide (bndT l < 1)) X))) := ⟨fun w' h1 h2 => inner_in U w' A0 A1 c0 c1 Rs Ls l (.iface Ta ua) 1 w.heap.size X IHL hX hl h2 h1⟩
  have HIR : Aside0 (∀ w', Below U.heap.size U w' → w'.heap[w.heap.size]? = some (Obj.cells #[.slice A0 Rs.length c0, .slice A1 Ls.length c1] 31 (0, 0)) → Calls Try.prog 137 #[.iface Tb ub, .int .i64 2, .pointer (some ⟨w.heap.size, 0, none⟩)] w' (StrPost w' (grB (decide (bndT r < 2)) Y))) := ⟨fun w' h1 h2 => inner_in U w' A0 A1 c0 c1 Rs Ls r (.iface Tb ub) 2 w.heap.size Y IHR hY hr h2 h1⟩
  clear HT
  generalize grB (decide (bndT l < 1)) X = XL at *
  generalize grB (decide (bndT r < 2)) Y = XR at *
  have hf1 := eq_false (show ¬ (9223372036854775807 < XL.size + 1) by omega)
  have hf2 := eq_false (show ¬ (9223372036854775807 < (XL ++ ⟨#[32]⟩).size + XR.size) by omega)
  have hf3 := eq_false (show ¬ (9223372036854775807 < XL.size + 1 + XR.size) by omega)
  clear hl hr hg hx hb2 hok hst hs hn hUw
  have a0 := ta_set; have a1 := ta_ref; have a2 := ta_thr; have a3 := ta_seq; have a4 := ta_alt; have a5 := ta_star; have a6 := ta_neg
  go_enter Try.func92, Try.ntmps92
  go_upto_region 14 with fail
  generalize (w.alloc (Obj.cells #[.slice A0 Rs.length c0, .slice A1 Ls.length c1] 31)).alloc (Obj.cells #[.iface Ta ua, .iface Tb ub] 189) = W2 at *
  refine start_ (n := 11) (S := fun W' => W'.cell? ⟨w.heap.size + 1, 0, none⟩ = some (.iface Ta ua) ∧ W'.cell? ⟨w.heap.size + 1, 1, none⟩ = some (.iface Tb ub)) (ds := []) #[false, false, false, false, false, false, false, false, false, false, false] (by kernel_rfl) rfl rfl (⟨z0, z1⟩) (fun hHeld => ?_); refine with_tabW itS.tab itS.bits (fun HT_ HW_ => ?_)
  refine pu_ 0 47 HT_ ?_
  refine pu_ 1 48 HT_ ?_
  refine ta_ 2 49 HT_ HW_ hHeld ?_
  refine pu_ 5 52 HT_ ?_
  refine pu_ 6 53 HT_ ?_
  refine ta_ 7 54 HT_ HW_ hHeld ?_
  refine on_ 3 (some 50) HT_ (fun K hK => ?_)
  refine gc_ Try.func137 #[] #[.pointer (some ⟨w.heap.size, 0, none⟩)] #[.iface Ta ua, .int .i64 1, .pointer (some ⟨w.heap.size, 0, none⟩)] ?_
  refine (HIL.out _ (below_then HUW2.out HUW2.out.size (by repeat (first | exact Below.refl _ _ | apply pw_below_drewN | apply Below.drew))) (blk_below HGW2.out (by repeat (first | exact Below.refl _ _ | apply pw_below_drewN | apply Below.drew)))).mono ?_
  rintro e W3 ⟨rfl, hb0⟩
  refine ⟨_, rfl, ?_⟩
  have hb1 : Below W2.heap.size W2 W3 := below_then (by repeat (first | exact Below.refl _ _ | apply pw_below_drewN | apply Below.drew)) (by simp) hb0
  have hx3 := blk_below HXW2.out hb1
  have aa0 := blk_cell hx3 0
  have aa1 := blk_cell hx3 1
  have HGW3 := Aside0.mk (blk_below HGW2.out hb1)
  have HXW3 := Aside0.mk hx3
  have HUW3 := Aside0.mk (below_then HUW2.out HUW2.out.size hb1)
  have HBW3 := Aside0.mk (below_then HBW2.out HBW2.out.size hb1)
  clear hb0 hb1 hx3
  refine hK.out _ _ (⟨aa0, aa1⟩) (fun hHeld => ?_)
  clear hK K
  refine no_ (some 50) ?_
  refine pu_ 4 51 HT_ ?_
  refine on_ 8 (some 55) HT_ (fun K hK => ?_)
  refine gc_ Try.func137 #[] #[.pointer (some ⟨w.heap.size, 0, none⟩)] #[.iface Tb ub, .int .i64 2, .pointer (some ⟨w.heap.size, 0, none⟩)] ?_
  refine (HIR.out _ (below_then HUW3.out HUW3.out.size (by repeat (first | exact Below.refl _ _ | apply pw_below_drewN | apply Below.drew))) (blk_below HGW3.out (by repeat (first | exact Below.refl _ _ | apply pw_below_drewN | apply Below.drew)))).mono ?_
  rintro e W4 ⟨rfl, hb0⟩
  refine ⟨_, rfl, ?_⟩
  have hb1 : Below W3.heap.size W3 W4 := below_then (by repeat (first | exact Below.refl _ _ | apply pw_below_drewN | apply Below.drew)) (by simp) hb0
  have hx3 := blk_below HXW3.out hb1
  have ab0 := blk_cell hx3 0
  have ab1 := blk_cell hx3 1
  have HGW4 := Aside0.mk (blk_below HGW3.out hb1)
  have HXW4 := Aside0.mk hx3
  have HUW4 := Aside0.mk (below_then HUW3.out HUW3.out.size hb1)
  have HBW4 := Aside0.mk (below_then HBW3.out HBW3.out.size hb1)
  clear hb0 hb1 hx3
  refine hK.out _ _ (⟨ab0, ab1⟩) (fun hHeld => ?_)
  clear hK K
  refine no_ (some 55) ?_
  refine pu_ 9 56 HT_ ?_
  refine pu_ 10 4 HT_ ?_
  refine done_ (done_of HT_.out (by kernel_rfl)) ?_
  go_wp2_with fail
  go_ret
  exact ⟨rfl, HBW4.out⟩
 | alt l r ihl ihr =>
  intro w v hv hUw hok hst hs hn
  obtain ⟨a, b, rfl, hl, hr⟩ := hv
  obtain ⟨Ta, ua, rfl⟩ := hl.iface
  obtain ⟨Tb, ub, rfl⟩ := hr.iface
  have hb2 : Below w.heap.size w ((w.alloc (Obj.cells #[.slice A0 Rs.length c0, .slice A1 Ls.length c1] 31)).alloc (Obj.cells #[.iface Ta ua, .iface Tb ub] 190)) := below_alloc (below_alloc (Below.refl _ _) _) _
  have hg := blk_alloc (blk_new w (Obj.cells #[.slice A0 Rs.length c0, .slice A1 Ls.length c1] 31)) (Obj.cells #[.iface Ta ua, .iface Tb ub] 190)
  have hx := blk_new (w.alloc (Obj.cells #[.slice A0 Rs.length c0, .slice A1 Ls.length c1] 31)) (Obj.cells #[.iface Ta ua, .iface Tb ub] 190)
  rw [World.size_alloc] at hx
  have IHL : Aside0 (∀ w', Below U.heap.size U w' → Calls Try.prog 92 #[.agg #[.slice A0 Rs.length c0, .slice A1 Ls.length c1], .iface Ta ua] w' (StrPost w' (txT (rnR Rs) (lnL Ls) l))) := ⟨fun w' h => ihl w' _ hl ⟨h⟩ hok.1 hst.1 hs.1 (by simp only [ndT] at hn; omega)⟩
  have IHR : Aside0 (∀ w', Below U.heap.size U w' → Calls Try.prog 92 #[.agg #[.slice A0 Rs.length c0, .slice A1 Ls.length c1], .iface Tb ub] w' (StrPost w' (txT (rnR Rs) (lnL Ls) r))) := ⟨fun w' h => ihr w' _ hr ⟨h⟩ hok.2 hst.2 hs.2 (by simp only [ndT] at hn; omega)⟩
  have hX := HSZ.out l hs.1 (by simp only [ndT] at hn; omega)
  have hY := HSZ.out r hs.2 (by simp only [ndT] at hn; omega)
  have HT : Aside0 (txT (rnR Rs) (lnL Ls) (.alt l r) = (grB (decide (bndT l < 0)) (txT (rnR Rs) (lnL Ls) l) ++ ⟨#[32, 47, 32]⟩) ++ grB (decide (bndT r < 1)) (txT (rnR Rs) (lnL Ls) r)) := ⟨rfl⟩
  rw [HT.out]
  clear ihl ihr
  generalize txT (rnR Rs) (lnL Ls) l = X at *
  generalize txT (rnR Rs) (lnL Ls) r = Y at *
  have HVL := Aside0.mk hl
  have HVR := Aside0.mk hr
  have HGW2 := Aside0.mk hg
  have HXW2 := Aside0.mk hx
  have HBW2 := Aside0.mk hb2
  have HUW2 := Aside0.mk (below_then hUw.out hUw.out.size hb2)
  have z0 := blk_cell hx 0
  have z1 := blk_cell hx 1
  have hgs := cap_grB (decide (bndT l < 0)) X hX
  have hgt := cap_grB (decide (bndT r < 1)) Y hY
  have hgu := cap_app _ ⟨#[32, 47, 32]⟩ _ 3 hgs (Nat.le_refl _) 100000000004 (by decide)
  have HIL : Aside0 (∀ w', Below U.heap.size U w' → w'.heap[w.heap.size]? = some (Obj.cells #[.slice A0 Rs.length c0, .slice A1 Ls.length c1] 31 (0, 0)) → Calls Try.prog 137 #[.iface Ta ua, .int .i64 0, .pointer (some ⟨w.heap.size, 0, none⟩)] w' (StrPost w' (grB (decide (bndT l < 0)) X))) := ⟨fun w' h1 h2 => inner_in U w' A0 A1 c0 c1 Rs Ls l (.iface Ta ua) 0 w.heap.size X IHL hX hl h2 h1⟩
  have HIR : Aside0 (∀ w', Below U.heap.size U w' → w'.heap[w.heap.size]? = some (Obj.cells #[.slice A0 Rs.length c0, .slice A1 Ls.length c1] 31 (0, 0)) → Calls Try.prog 137 #[.iface Tb ub, .int .i64 1, .pointer (some ⟨w.heap.size, 0, none⟩)] w' (StrPost w' (grB (decide (bndT r < 1)) Y))) := ⟨fun w' h1 h2 => inner_in U w' A0 A1 c0 c1 Rs Ls r (.iface Tb ub) 1 w.heap.size Y IHR hY hr h2 h1⟩
  clear HT
  generalize grB (decide (bndT l < 0)) X = XL at *
  generalize grB (decide (bndT r < 1)) Y = XR at *
  have hf1 := eq_false (show ¬ (9223372036854775807 < XL.size + 3) by omega)
  have hf2 := eq_false (show ¬ (9223372036854775807 < (XL ++ ⟨#[32, 47, 32]⟩).size + XR.size) by omega)
  have hf3 := eq_false (show ¬ (9223372036854775807 < XL.size + 3 + XR.size) by omega)
  clear hl hr hg hx hb2 hok hst hs hn hUw
  have a0 := ta_set; have a1 := ta_ref; have a2 := ta_thr; have a3 := ta_seq; have a4 := ta_alt; have a5 := ta_star; have a6 := ta_neg
  go_enter Try.func92, Try.ntmps92
  go_upto_region 17 with fail
  generalize (w.alloc (Obj.cells #[.slice A0 Rs.length c0, .slice A1 Ls.length c1] 31)).alloc (Obj.cells #[.iface Ta ua, .iface Tb ub] 190) = W2 at *
  refine start_ (n := 11) (S := fun W' => W'.cell? ⟨w.heap.size + 1, 0, none⟩ = some (.iface Ta ua) ∧ W'.cell? ⟨w.heap.size + 1, 1, none⟩ = some (.iface Tb ub)) (ds := []) #[false, false, false, false, false, false, false, false, false, false, false] (by kernel_rfl) rfl rfl (⟨z0, z1⟩) (fun hHeld => ?_); refine with_tabW itA.tab itA.bits (fun HT_ HW_ => ?_)
  refine pu_ 0 60 HT_ ?_
  refine pu_ 1 61 HT_ ?_
  refine ta_ 2 62 HT_ HW_ hHeld ?_
  refine pu_ 5 65 HT_ ?_
  refine pu_ 6 66 HT_ ?_
  refine ta_ 7 67 HT_ HW_ hHeld ?_
  refine on_ 3 (some 63) HT_ (fun K hK => ?_)
  refine gc_ Try.func137 #[] #[.pointer (some ⟨w.heap.size, 0, none⟩)] #[.iface Ta ua, .int .i64 0, .pointer (some ⟨w.heap.size, 0, none⟩)] ?_
  refine (HIL.out _ (below_then HUW2.out HUW2.out.size (by repeat (first | exact Below.refl _ _ | apply pw_below_drewN | apply Below.drew))) (blk_below HGW2.out (by repeat (first | exact Below.refl _ _ | apply pw_below_drewN | apply Below.drew)))).mono ?_
  rintro e W3 ⟨rfl, hb0⟩
  refine ⟨_, rfl, ?_⟩
  have hb1 : Below W2.heap.size W2 W3 := below_then (by repeat (first | exact Below.refl _ _ | apply pw_below_drewN | apply Below.drew)) (by simp) hb0
  have hx3 := blk_below HXW2.out hb1
  have aa0 := blk_cell hx3 0
  have aa1 := blk_cell hx3 1
  have HGW3 := Aside0.mk (blk_below HGW2.out hb1)
  have HXW3 := Aside0.mk hx3
  have HUW3 := Aside0.mk (below_then HUW2.out HUW2.out.size hb1)
  have HBW3 := Aside0.mk (below_then HBW2.out HBW2.out.size hb1)
  clear hb0 hb1 hx3
  refine hK.out _ _ (⟨aa0, aa1⟩) (fun hHeld => ?_)
  clear hK K
  refine no_ (some 63) ?_
  refine pu_ 4 64 HT_ ?_
  refine on_ 8 (some 68) HT_ (fun K hK => ?_)
  refine gc_ Try.func137 #[] #[.pointer (some ⟨w.heap.size, 0, none⟩)] #[.iface Tb ub, .int .i64 1, .pointer (some ⟨w.heap.size, 0, none⟩)] ?_
  refine (HIR.out _ (below_then HUW3.out HUW3.out.size (by repeat (first | exact Below.refl _ _ | apply pw_below_drewN | apply Below.drew))) (blk_below HGW3.out (by repeat (first | exact Below.refl _ _ | apply pw_below_drewN | apply Below.drew)))).mono ?_
  rintro e W4 ⟨rfl, hb0⟩
  refine ⟨_, rfl, ?_⟩
  have hb1 : Below W3.heap.size W3 W4 := below_then (by repeat (first | exact Below.refl _ _ | apply pw_below_drewN | apply Below.drew)) (by simp) hb0
  have hx3 := blk_below HXW3.out hb1
  have ab0 := blk_cell hx3 0
  have ab1 := blk_cell hx3 1
  have HGW4 := Aside0.mk (blk_below HGW3.out hb1)
  have HXW4 := Aside0.mk hx3
  have HUW4 := Aside0.mk (below_then HUW3.out HUW3.out.size hb1)
  have HBW4 := Aside0.mk (below_then HBW3.out HBW3.out.size hb1)
  clear hb0 hb1 hx3
  refine hK.out _ _ (⟨ab0, ab1⟩) (fun hHeld => ?_)
  clear hK K
  refine no_ (some 68) ?_
  refine pu_ 9 69 HT_ ?_
  refine pu_ 10 4 HT_ ?_
  refine done_ (done_of HT_.out (by kernel_rfl)) ?_
  go_wp2_with fail
  go_ret
  exact ⟨rfl, HBW4.out⟩
end Go.Proofs.Ytdiilocgjnlmiaa.Tre
end
section
namespace Go.Proofs.Ytdiilocgjnlmiaa.Tre
open Go.RowKit Go.Proofs.YtdiilocgjnlmiaaW.PrintWords Go.Proofs.YtdiilocgjnlmiaaW.PrintLast Go.Proofs.YtdiilocgjnlmiaaW.PrintMore
open Go.Proofs.Ytdiilocgjnlmiaa.PAll
set_option linter.unusedVariables false
set_option linter.unusedSimpArgs false
theorem C_pre {U : World} {A : Option Addr} {xs ys : List Op} {N : Nat} (h : Kd.C k79 U A N (xs ++ ys)) : Kd.C k79 U A xs.length xs := by
 have hl : (xs ++ ys).length = N := Kd.C_len h
 have := Kd.C_take (m := xs.length) (by rw [← hl] at h; exact h) (by simp)
 rwa [List.take_left' rfl] at this
theorem C_in {U : World} {A : Option Addr} {xs ys zs : List Op} {N c : Nat} (h : Kd.C k79 U A N (xs ++ ys ++ zs)) (hc : N ≤ c) : Kd.C k79 U (if c = xs.length then A else A.map (·.add (xs.length * 3))) ys.length ys := by
 have hl : (xs ++ ys ++ zs).length = N := Kd.C_len h
 have := Kd.C_mid (lo := xs.length) (hi := (xs ++ ys).length) (c := c) (by rw [← hl] at h; exact h) (by simp) (by simp) (by rw [hl]; exact hc)
 rwa [List.take_left' rfl, List.drop_left' rfl] at this
end Go.Proofs.Ytdiilocgjnlmiaa.Tre
end
section
namespace Go.Proofs.Ytdiilocgjnlmiaa.Tre
open Go.RowKit Go.Proofs.YtdiilocgjnlmiaaW.PrintWords Go.Proofs.YtdiilocgjnlmiaaW.PrintLast Go.Proofs.YtdiilocgjnlmiaaW.PrintMore
open Go.Proofs.Ytdiilocgjnlmiaa.PAll
set_option linter.unusedVariables false
set_option linter.unusedSimpArgs false
def kdT : Tr → Nat
 | .emp => 0
 | .set _ => 1
 | .ref _ => 2
 | .thr _ => 3
 | .seq _ _ => 4
 | .alt _ _ => 5
 | .star _ => 6
 | .neg _ => 7
theorem flat_root : ∀ (x : Tr), ∃ pre s a, flat x = pre ++ [(⟨(kdT x : Int), s, a⟩ : Op)]
 | .emp => ⟨[], _, _, rfl⟩
 | .set _ => ⟨[], _, _, rfl⟩
 | .ref _ => ⟨[], _, _, rfl⟩
 | .thr _ => ⟨[], _, _, rfl⟩
 | .seq l r => ⟨flat l ++ flat r, [], 0, by simp [flat, kdT]⟩
 | .alt l r => ⟨flat l ++ flat r, [], 0, by simp [flat, kdT]⟩
 | .star x => ⟨flat x, [], 0, rfl⟩
 | .neg x => ⟨flat x, [], 0, rfl⟩
theorem root_at {W : World} {ad : Addr} {N k : Nat} {x : Tr} {suf : List Op} (h : Kd.C k79 W (some ad) N (flat x ++ suf)) (hk : (flat x).length = k + 1) : W.cell? (ad.add (k * 3)) = some (.int .i64 (kdT x : Int)) := by
 obtain ⟨pre, s, a, e⟩ := flat_root x
 have hl := congrArg List.length e
 rw [List.length_append, List.length_singleton] at hl
 have hN := Kd.C_len h
 rw [List.length_append] at hN
 obtain ⟨ad', _, _, e1, h2, _⟩ := at_T79 h (k : Int) (by omega) (by omega)
 obtain rfl := Option.some.inj e1
 have e2 : rd_T79 (flat x ++ suf) (k : Int) = ⟨(kdT x : Int), s, a⟩ := by
  rw [e, List.append_assoc]
  exact rd_at (by omega)
 rw [e2, Int.toNat_natCast] at h2
 exact h2
theorem root_in {W : World} {ad : Addr} {N k : Nat} {x : Tr} {pre suf : List Op} (h : Kd.C k79 W (some ad) N (pre ++ (flat x ++ suf))) (hk : pre.length + (flat x).length = k + 1) : W.cell? (ad.add (k * 3)) = some (.int .i64 (kdT x : Int)) := by
 obtain ⟨p2, s, a, e⟩ := flat_root x
 have hl := congrArg List.length e
 rw [List.length_append, List.length_singleton] at hl
 have hN := Kd.C_len h
 rw [List.length_append, List.length_append] at hN
 obtain ⟨ad', _, _, e1, h2, _⟩ := at_T79 h (k : Int) (by omega) (by omega)
 obtain rfl := Option.some.inj e1
 have e2 : rd_T79 (pre ++ (flat x ++ suf)) (k : Int) = ⟨(kdT x : Int), s, a⟩ := by
  rw [e, List.append_assoc, ← List.append_assoc]
  exact rd_at (by rw [List.length_append]; omega)
 rw [e2, Int.toNat_natCast] at h2
 exact h2
theorem bnd_alt (x : Tr) : decide (bndT x < 1) = ((kdT x : Int) == 5) := by cases x <;> rfl
theorem bnd_seq (x : Tr) (h : ((kdT x : Int) == 5) = false) : decide (bndT x < 2) = ((kdT x : Int) == 4) := by cases x <;> first | rfl | cases h
theorem bnd_seq5 (x : Tr) (h : ((kdT x : Int) == 5) = true) : decide (bndT x < 2) = true := by cases x <;> first | rfl | cases h
theorem bnd_neg (x : Tr) (h : ((kdT x : Int) == 4) = false) : decide (bndT x < 2) = ((kdT x : Int) == 5) := by cases x <;> first | rfl | cases h
theorem bnd_neg4 (x : Tr) (h : ((kdT x : Int) == 4) = true) : decide (bndT x < 2) = true := by cases x <;> first | rfl | cases h
theorem bnd_star (x : Tr) : decide (bndT x < 4) = decide ((kdT x : Int) ≥ 4) := by cases x <;> rfl
theorem stext_in (U : World) (A0 A1 : Option Addr) (c0 c1 : Nat) (Rs : List Ru) (Ls : List La) (hG : GrC U A0 c0 A1 c1 Rs Ls) (hRl : Rs.length ≤ 1048576) (hLl : Ls.length ≤ 1048576) (hNR : ∀ n, (rnR Rs n).size ≤ 1048576) (hNL : ∀ n, (lnL Ls n).size ≤ 1048576) :
 ∀ (x : Tr), okT Rs.length Ls.length x → okSt x → smT x → ndT x ≤ 10000 → (flat x).length ≤ 2000 → ∀ (w : World) (A : Option Addr) (c : Nat), Below U.heap.size U w → Kd.C k79 U A (flat x).length (flat x) → (flat x).length ≤ c →
 Calls Try.prog 88 #[.agg #[.slice A0 Rs.length c0, .slice A1 Ls.length c1], .slice A (flat x).length c] w (StrPost w (txT (rnR Rs) (lnL Ls) x)) := by
 have hsz : ∀ t, smT t → ndT t ≤ 10000 → (txT (rnR Rs) (lnL Ls) t).size ≤ 99999999999 := fun t h1 h2 => by
  have := size_txT (rnR Rs) (lnL Ls) hNR hNL t h1
  omega
 have hstart : ∀ (l r : Tr) (op : Op), (flat l ++ flat r ++ [op]).length ≤ 1000001 → ∀ (A : Option Addr) (N c : Nat), Kd.C k79 U A N (flat l ++ flat r ++ [op]) → N ≤ c → ∀ w', Below U.heap.size U w' → Calls Try.prog 129 #[.slice A N c, .int .i64 (((flat l ++ flat r).length : Nat) : Int)] w' (fun e w2 => e = .returned (.int .i64 ((flat l).length : Int)) ∧ Below w'.heap.size w' w2) := fun l r op hl A N c hC hc w' hb => by
  have hN : (flat l ++ flat r ++ [op]).length = N := Kd.C_len hC
  have hf := start_f r (flat l) [op] ((flat r).length + 1) (by omega) (by rw [List.append_assoc] at hl; omega)
  rw [← List.append_assoc, ← List.length_append] at hf
  have := spec_l2start.calls ((flat r).length + 1) A c (flat l ++ flat r ++ [op]) (((flat l ++ flat r).length : Nat) : Int) _ w' (by rw [hN]; exact Kd.C_below hC hb) (by rw [hN]; exact hc) hf
  rw [hN] at this
  exact this.mono fun e w2 h => ⟨h.1, h.2.below⟩
 intro x
 induction x with
 | emp =>
  intro hok hst hs hn hl w A c hb hC hc
  exact tx_emp U A0 A1 c0 c1 Rs Ls hG w hb A c 1 0 [] [] 0 rfl rfl (by omega) hC hc
 | set s =>
  intro hok hst hs hn hl w A c hb hC hc
  exact tx_set U A0 A1 c0 c1 Rs Ls hG w hb A c 1 0 [] s 0 hst rfl rfl (by omega) hC hc
 | ref a =>
  intro hok hst hs hn hl w A c hb hC hc
  obtain ⟨q, rfl⟩ : ∃ q : Nat, a = (q : Int) := ⟨a.toNat, (Int.toNat_of_nonneg hok.1).symm⟩
  exact tx_ref U A0 A1 c0 c1 Rs Ls hG w hb A c 1 0 [] [] q (by have := hok.2; omega) hRl (hNR q) rfl rfl (by omega) hC hc
 | thr a =>
  intro hok hst hs hn hl w A c hb hC hc
  obtain ⟨q, rfl⟩ : ∃ q : Nat, a = (q : Int) := ⟨a.toNat, (Int.toNat_of_nonneg hok.1).symm⟩
  exact tx_thr U A0 A1 c0 c1 Rs Ls hG w hb A c 1 0 [] [] q (by have := hok.2; omega) hLl (hNL q) rfl rfl (by omega) hC hc
 | star x ih =>
  intro hok hst hs hn hl w A c hb hC hc
  have e : (flat (.star x)).length = (flat x).length + 1 := by simp [flat]
  have hp := flat_pos x
  rw [txT, bnd_star]
  exact tx_star U A0 A1 c0 c1 Rs Ls hG w hb A c (flat (.star x)).length (flat x).length (flat x) [] 0 (txT (rnR Rs) (lnL Ls) x) (hsz x hs (by simp only [ndT] at hn; omega)) (kdT x) ((flat x).length - 1) (fun ad ha => root_at (suf := [⟨6, [], 0⟩]) (by rw [← ha]; exact hC) (by omega)) (by omega) ⟨fun w' h => ih hok hst hs (by simp only [ndT] at hn; omega) (by omega) w' A c h (C_pre hC) (by omega)⟩ e rfl (by omega) hC hc
 | neg x ih =>
  intro hok hst hs hn hl w A c hb hC hc
  have e : (flat (.neg x)).length = (flat x).length + 1 := by simp [flat]
  have hp := flat_pos x
  rw [txT]
  cases h4 : ((kdT x : Int) == 4) with
  | true =>
   rw [bnd_neg4 x h4]
   exact tx_neg4 U A0 A1 c0 c1 Rs Ls hG w hb A c (flat (.neg x)).length (flat x).length (flat x) [] 0 (txT (rnR Rs) (lnL Ls) x) (hsz x hs (by simp only [ndT] at hn; omega)) (kdT x) ((flat x).length - 1) (fun ad ha => root_at (suf := [⟨7, [], 0⟩]) (by rw [← ha]; exact hC) (by omega)) (by omega) ⟨fun w' h => ih hok hst hs (by simp only [ndT] at hn; omega) (by omega) w' A c h (C_pre hC) (by omega)⟩ h4 e rfl (by omega) hC hc
  | false =>
   rw [bnd_neg x h4]
   exact tx_negN U A0 A1 c0 c1 Rs Ls hG w hb A c (flat (.neg x)).length (flat x).length (flat x) [] 0 (txT (rnR Rs) (lnL Ls) x) (hsz x hs (by simp only [ndT] at hn; omega)) (kdT x) ((flat x).length - 1) (fun ad ha => root_at (suf := [⟨7, [], 0⟩]) (by rw [← ha]; exact hC) (by omega)) (by omega) ⟨fun w' h => ih hok hst hs (by simp only [ndT] at hn; omega) (by omega) w' A c h (C_pre hC) (by omega)⟩ h4 e rfl (by omega) hC hc
 | seq l r ihl ihr =>
  intro hok hst hs hn hl w A c hb hC hc
  simp only [ndT] at hn
  have e0 : flat (.seq l r) = flat l ++ flat r ++ [⟨4, [], 0⟩] := by simp [flat]
  have e : (flat (.seq l r)).length = (flat l ++ flat r).length + 1 := by simp [flat]; omega
  have e2 : (flat l ++ flat r).length = (flat l).length + (flat r).length := List.length_append
  have hpl := flat_pos l
  have hpr := flat_pos r
  have hC' : Kd.C k79 U A (flat (.seq l r)).length (flat l ++ flat r ++ [⟨4, [], 0⟩]) := by rw [← e0]; exact hC
  have hCl : Kd.C k79 U A (flat l).length (flat l) := C_pre (by rw [List.append_assoc] at hC'; exact hC')
  have hky : ∀ ad, A = some ad → U.cell? (ad.add (((flat l ++ flat r).length - 1) * 3)) = some (.int .i64 (kdT r : Int)) := fun ad ha => root_in (pre := flat l) (suf := [⟨4, [], 0⟩]) (by rw [← ha, ← List.append_assoc]; exact hC') (by omega)
  have hkx : ∀ ad, A = some ad → U.cell? (ad.add (((flat l).length - 1) * 3)) = some (.int .i64 (kdT l : Int)) := fun ad ha => root_at (suf := flat r ++ [⟨4, [], 0⟩]) (by rw [← ha, ← List.append_assoc]; exact hC') (by omega)
  rw [txT, bnd_alt l]
  cases h5 : ((kdT r : Int) == 5) with
  | true =>
   rw [bnd_seq5 r h5]
   exact tx_seq5 U A0 A1 c0 c1 Rs Ls hG w hb A c (flat (.seq l r)).length (flat l ++ flat r).length (flat l ++ flat r) [] 0 (txT (rnR Rs) (lnL Ls) l) (txT (rnR Rs) (lnL Ls) r) (hsz l hs.1 (by omega)) (hsz r hs.2 (by omega)) (kdT r) ((flat l ++ flat r).length - 1) (kdT l) ((flat l).length - 1) hky (by omega) hkx (flat l).length (flat r).length (c - (flat l).length) (by omega) _ (by omega) rfl (by omega) rfl
    ⟨fun w' hb => hstart l r ⟨4, [], 0⟩ (by rw [← e0]; omega) A _ c hC' hc w' hb⟩ ⟨fun w' h => ihl hok.1 hst.1 hs.1 (by omega) (by omega) w' A c h hCl (by omega)⟩ ⟨fun w' h => ihr hok.2 hst.2 hs.2 (by omega) (by omega) w' _ _ h (C_in hC' hc) (by omega)⟩ h5 e rfl (by omega) hC' hc
  | false =>
   rw [bnd_seq r h5]
   exact tx_seqN U A0 A1 c0 c1 Rs Ls hG w hb A c (flat (.seq l r)).length (flat l ++ flat r).length (flat l ++ flat r) [] 0 (txT (rnR Rs) (lnL Ls) l) (txT (rnR Rs) (lnL Ls) r) (hsz l hs.1 (by omega)) (hsz r hs.2 (by omega)) (kdT r) ((flat l ++ flat r).length - 1) (kdT l) ((flat l).length - 1) hky (by omega) hkx (flat l).length (flat r).length (c - (flat l).length) (by omega) _ (by omega) rfl (by omega) rfl
    ⟨fun w' hb => hstart l r ⟨4, [], 0⟩ (by rw [← e0]; omega) A _ c hC' hc w' hb⟩ ⟨fun w' h => ihl hok.1 hst.1 hs.1 (by omega) (by omega) w' A c h hCl (by omega)⟩ ⟨fun w' h => ihr hok.2 hst.2 hs.2 (by omega) (by omega) w' _ _ h (C_in hC' hc) (by omega)⟩ h5 e rfl (by omega) hC' hc
 | alt l r ihl ihr =>
  intro hok hst hs hn hl w A c hb hC hc
  simp only [ndT] at hn
  have e0 : flat (.alt l r) = flat l ++ flat r ++ [⟨5, [], 0⟩] := by simp [flat]
  have e : (flat (.alt l r)).length = (flat l ++ flat r).length + 1 := by simp [flat]; omega
  have e2 : (flat l ++ flat r).length = (flat l).length + (flat r).length := List.length_append
  have hpl := flat_pos l
  have hpr := flat_pos r
  have hC' : Kd.C k79 U A (flat (.alt l r)).length (flat l ++ flat r ++ [⟨5, [], 0⟩]) := by rw [← e0]; exact hC
  have hCl : Kd.C k79 U A (flat l).length (flat l) := C_pre (by rw [List.append_assoc] at hC'; exact hC')
  have hky : ∀ ad, A = some ad → U.cell? (ad.add (((flat l ++ flat r).length - 1) * 3)) = some (.int .i64 (kdT r : Int)) := fun ad ha => root_in (pre := flat l) (suf := [⟨5, [], 0⟩]) (by rw [← ha, ← List.append_assoc]; exact hC') (by omega)
  have hkx : ∀ ad, A = some ad → U.cell? (ad.add (((flat l).length - 1) * 3)) = some (.int .i64 (kdT l : Int)) := fun ad ha => root_at (suf := flat r ++ [⟨5, [], 0⟩]) (by rw [← ha, ← List.append_assoc]; exact hC') (by omega)
  have e3 : grB (decide (bndT l < 0)) (txT (rnR Rs) (lnL Ls) l) = txT (rnR Rs) (lnL Ls) l := rfl
  rw [txT, bnd_alt r, e3]
  exact tx_alt U A0 A1 c0 c1 Rs Ls hG w hb A c (flat (.alt l r)).length (flat l ++ flat r).length (flat l ++ flat r) [] 0 (txT (rnR Rs) (lnL Ls) l) (txT (rnR Rs) (lnL Ls) r) (hsz l hs.1 (by omega)) (hsz r hs.2 (by omega)) (kdT r) ((flat l ++ flat r).length - 1) (kdT l) ((flat l).length - 1) hky (by omega) hkx (flat l).length (flat r).length (c - (flat l).length) (by omega) _ (by omega) rfl (by omega) rfl
   ⟨fun w' hb => hstart l r ⟨5, [], 0⟩ (by rw [← e0]; omega) A _ c hC' hc w' hb⟩ ⟨fun w' h => ihl hok.1 hst.1 hs.1 (by omega) (by omega) w' A c h hCl (by omega)⟩ ⟨fun w' h => ihr hok.2 hst.2 hs.2 (by omega) (by omega) w' _ _ h (C_in hC' hc) (by omega)⟩ e rfl (by omega) hC' hc
end Go.Proofs.Ytdiilocgjnlmiaa.Tre
end
section
namespace Go.Proofs.Ytdiilocgjnlmiaa.Tre
open Go.RowKit Go.Proofs.YtdiilocgjnlmiaaW.PrintWords Go.Proofs.YtdiilocgjnlmiaaW.PrintLast Go.Proofs.YtdiilocgjnlmiaaW.PrintMore
open Go.Proofs.Ytdiilocgjnlmiaa.PAll
set_option linter.unusedVariables false
set_option linter.unusedSimpArgs false
theorem rd_none (i : Nat) : rd [] (i : Int) = 0 := rfl
theorem canon_ok : ∀ (s : List Int) (last : Int), canonG last s = true → (∃ m : Nat, s.length = 2 * m) ∧ ∀ i : Nat, 0 ≤ rd s (i : Int) ∧ rd s (i : Int) ≤ 255
 | [], _, _ => ⟨⟨0, rfl⟩, fun i => by rw [rd_none]; omega⟩
 | [x], last, h => by simp [canonG] at h
 | lo :: hi :: r, last, h => by
  rw [canonG, Bool.and_eq_true, decide_eq_true_eq] at h
  obtain ⟨⟨_, h1, h2, h3⟩, h4⟩ := h
  obtain ⟨⟨m, hm⟩, hi'⟩ := canon_ok r hi h4
  refine ⟨⟨m + 1, by simp only [List.length_cons, hm]; omega⟩, fun i => ?_⟩
  match i with
  | 0 => exact ⟨h3, by show lo ≤ 255; omega⟩
  | 1 => exact ⟨by show 0 ≤ hi; omega, h2⟩
  | i + 2 =>
   have e : rd (lo :: hi :: r) ((i + 2 : Nat) : Int) = rd r (i : Int) := by simp only [rd, Int.toNat_natCast]; rfl
   rw [e]
   exact hi' i
theorem okS_canon {s : List Int} (h : canonB s = true) (hs : s.length ≤ 1048576) : okS s := by
 obtain ⟨a, b⟩ := canon_ok s _ h
 exact ⟨a, hs, b⟩
end Go.Proofs.Ytdiilocgjnlmiaa.Tre
end
