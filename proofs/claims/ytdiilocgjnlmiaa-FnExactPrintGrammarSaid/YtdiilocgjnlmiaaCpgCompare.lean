/- Lemmas of the proof, and the walks of functions that it stands on. -/
import Derived.Test.YtdiilocgjnlmiaaCpgClone
import Derived.Maps.OwnOps
import Derived.Maps.Views
import Derived.Test.YtdiilocgjnlmiaaCpgFlat
import Derived.Test.YtdiilocgjnlmiaaCpgMarkFlat
import Derived.Lib.BytesEntry
import Derived.Lib.Bytealg
import Derived.Shelf.Abstract
section
namespace Go.Proofs.Ytdiilocgjnlmiaa.Tre
open Go.RowKit Go.Proofs.YtdiilocgjnlmiaaW.PrintWords Go.Proofs.YtdiilocgjnlmiaaW.PrintLast Go.Proofs.YtdiilocgjnlmiaaW.PrintMore
open Go.Proofs.Ytdiilocgjnlmiaa.PAll
set_option linter.unusedVariables false
set_option linter.unusedSimpArgs false
def lineC (cell : Nat → List Value) : Nat → List Value
 | 0 => []
 | n + 1 => lineC cell n ++ cell n
theorem lineC_len {cell : Nat → List Value} {sz : Nat} (h : ∀ i, (cell i).length = sz) : ∀ n, (lineC cell n).length = n * sz
 | 0 => by simp [lineC]
 | n + 1 => by rw [lineC, List.length_append, lineC_len h n, h, Nat.succ_mul]
theorem lineC_at {cell : Nat → List Value} {sz : Nat} (h : ∀ i, (cell i).length = sz) : ∀ (n i : Nat), i < n → ((lineC cell n).drop (i * sz)).take sz = cell i
 | 0, i, hi => by omega
 | n + 1, i, hi => by
  rw [lineC]
  have hl := lineC_len h n
  rcases (by omega : i < n ∨ i = n) with hin | rfl
  ·have : i * sz + sz ≤ n * sz := by rw [← Nat.succ_mul]; exact Nat.mul_le_mul_right _ hin
   rw [List.drop_append_of_le_length (by omega), List.take_append_of_le_length (by rw [List.length_drop]; omega)]
   exact lineC_at h n i hin
  rw [← hl, List.drop_left, ← h i, List.take_length]
abbrev opn (ops : List Op) (q : Nat) : Op := rd_T79 ops (q : Int)
def bdCell (sv : Nat → Value) (ops : List Op) (q : Nat) : List Value := [.int .i64 (opn ops q).f0, sv q, .int .i64 (opn ops q).f2]
structure BdSt (W : World) (B : Nat) (v : Value) (sv : Nat → Value) (ops : List Op) : Prop where
 row : W.ownsRow B 79 3 v ops.length (lineC (bdCell sv ops) ops.length)
 sets : ∀ q, q < ops.length → W.ownsRow B 3 1 (sv q) (opn ops q).f1.length (nums .i64 (opn ops q).f1)
 apart : Apart ops.length sv
theorem BdSt.same {W W' : World} {B : Nat} {v : Value} {sv : Nat → Value} {ops : List Op} (h : BdSt W B v sv ops) (hs : ∀ b, B ≤ b → b < W.heap.size → W'.heap[b]? = W.heap[b]?) : BdSt W' B v sv ops :=
 ⟨own_same h.row hs, fun q hq => own_same (h.sets q hq) hs, h.apart⟩
theorem BdSt.below {W W' : World} {B : Nat} {v : Value} {sv : Nat → Value} {ops : List Op} (h : BdSt W B v sv ops) (hb : Below W.heap.size W W') : BdSt W' B v sv ops := h.same fun b _ hl => hb.block b hl
theorem BdSt.nil (W : World) (B : Nat) (sv : Nat → Value) : BdSt W B (.slice none 0 0) sv [] := ⟨own_nil _ _ _ _, fun q hq => absurd hq (Nat.not_lt_zero _), fun i j hi => absurd hi (Nat.not_lt_zero _)⟩
structure ItSt (W : World) (B : Nat) (t : It) (nm : List Int) (bd : List Op) : Prop where
 ln : t.ln = nm.length
 bn : t.bn = bd.length
 m : ∀ q, t.m q = (opn bd q).f1.length
 name : W.ownsRow B 5 1 t.nm nm.length (nums .u8 nm)
 body : BdSt W B t.bv t.sv bd
theorem ItSt.same {W W' : World} {B : Nat} {t : It} {nm : List Int} {bd : List Op} (h : ItSt W B t nm bd) (hs : ∀ b, B ≤ b → b < W.heap.size → W'.heap[b]? = W.heap[b]?) : ItSt W' B t nm bd :=
 ⟨h.ln, h.bn, h.m, own_same h.name hs, h.body.same hs⟩
theorem ItSt.lt {W : World} {B : Nat} {t : It} {nm : List Int} {bd : List Op} (h : ItSt W B t nm bd) {b : Nat} (hb : itX t b) : B ≤ b ∧ b < W.heap.size := by
 rcases hb with hb | hb | ⟨q, hq, hb⟩
 ·exact h.name.lt b hb
 ·exact h.body.row.lt b hb
 exact (h.body.sets q (by rw [← h.bn]; exact hq)).lt b hb
theorem ItSt.kept {W W' : World} {B B' : Nat} {t : It} {nm : List Int} {bd : List Op} {v : Value} {n : Nat} {xs : List Value} {ty : TypeId} {sz : Nat} (h : ItSt W B t nm bd) (hv : W.ownsRow B' ty sz v n xs) (hty : ty ≠ 5 ∧ ty ≠ 79 ∧ ty ≠ 3) (hg : W.grownBy W' v.ownBlock) : ItSt W' B t nm bd :=
 ⟨h.ln, h.bn, h.m, h.name.kept hg (own_types h.name hv (fun e => hty.1 e.symm)), ⟨h.body.row.kept hg (own_types h.body.row hv (fun e => hty.2.1 e.symm)), fun q hq => (h.body.sets q hq).kept hg (own_types (h.body.sets q hq) hv (fun e => hty.2.2 e.symm)), h.body.apart⟩⟩
def ruCell (its : Nat → It) (j : Nat) : List Value := [(its j).nm, (its j).bv]
structure RlSt (W : World) (B : Nat) (v : Value) (its : Nat → It) (Rs : List Ru) : Prop where
 row : W.ownsRow B 68 2 v Rs.length (lineC (ruCell its) Rs.length)
 items : ∀ j, j < Rs.length → ItSt W B (its j) (ru Rs j).f0 (ru Rs j).f1
 apart : ApartI Rs.length its
theorem RlSt.same {W W' : World} {B : Nat} {v : Value} {its : Nat → It} {Rs : List Ru} (h : RlSt W B v its Rs) (hs : ∀ b, B ≤ b → b < W.heap.size → W'.heap[b]? = W.heap[b]?) : RlSt W' B v its Rs :=
 ⟨own_same h.row hs, fun j hj => (h.items j hj).same hs, h.apart⟩
theorem RlSt.below {W W' : World} {B : Nat} {v : Value} {its : Nat → It} {Rs : List Ru} (h : RlSt W B v its Rs) (hb : Below W.heap.size W W') : RlSt W' B v its Rs := h.same fun b _ hl => hb.block b hl
theorem RlSt.nil (W : World) (B : Nat) (its : Nat → It) : RlSt W B (.slice none 0 0) its [] := ⟨own_nil _ _ _ _, fun q hq => absurd hq (Nat.not_lt_zero _), ⟨fun i j hi => absurd hi (Nat.not_lt_zero _), fun i hi => absurd hi (Nat.not_lt_zero _)⟩⟩
end Go.Proofs.Ytdiilocgjnlmiaa.Tre
end
section
namespace Go.Proofs.Ytdiilocgjnlmiaa.Tre
open Go.RowKit Go.Proofs.YtdiilocgjnlmiaaW.PrintWords Go.Proofs.YtdiilocgjnlmiaaW.PrintLast Go.Proofs.YtdiilocgjnlmiaaW.PrintMore
open Go.Proofs.Ytdiilocgjnlmiaa.PAll Go.Maps
set_option linter.unusedVariables false
def MapB (P : Program) (w : World) (K E : TypeId) (b n : Nat) (f : Lit → Bool) : Prop :=
 ∃ D : DataW Unit, w.ownsMap P K (plainElem P E) b n D ∧ IsMap D ∧ ∀ k, WideAt.IsKeyLit k → D.atKey k (.lit (.bool false)) = .lit (.bool (f k))
section
variable {P : Program} {w : World} {K E : TypeId} {b n : Nat} {f : Lit → Bool}
theorem MapB.made (P : Program) (w : World) (K E : TypeId) : MapB P (w.alloc (.map #[] 0)) K E w.heap.size 0 (fun _ => false) :=
 ⟨.map [], World.ownsMap_made w P K _, isMap_empty, fun k _ => rfl⟩
theorem MapB.lt (h : MapB P w K E b n f) : b < w.heap.size := by
 obtain ⟨D, h, _⟩ := h
 exact h.lt
theorem MapB.kept {w' : World} {row : Option Nat} (h : MapB P w K E b n f) (hg : w.grownBy w' row) (hne : some b ≠ row) : MapB P w' K E b n f := by
 obtain ⟨D, h, h2⟩ := h
 exact ⟨D, h.kept hg hne, h2⟩
theorem MapB.alloc (h : MapB P w K E b n f) (o : Obj) : MapB P (w.alloc o) K E b n f := h.kept (World.grownBy_alloc w o none) (by simp)
theorem MapB.step {w' : World} (h : MapB P w K E b n f) (hb : w'.heap[b]? = w.heap[b]?) : MapB P w' K E b n f := by
 obtain ⟨D, ⟨es, clock, h1, h2⟩, h3⟩ := h
 exact ⟨D, ⟨es, clock, hb.trans h1, h2⟩, h3⟩
theorem MapB.drewN (h : MapB P w K E b n f) (k : Nat) : MapB P (w.drewN k) K E b n f := h.step rfl
theorem MapB.below {w' : World} (h : MapB P w K E b n f) (hb : Below w.heap.size w w') : MapB P w' K E b n f := h.step (hb.block b h.lt)
theorem MapB.setCell (h : MapB P w K E b n f) {p : Addr} (hp : b ≠ p.block) (u : Value) : MapB P (w.setCell p u) K E b n f := h.step (Below.heap_setCell _ _ _ _ hp)
theorem MapB.mono (h : MapB P w K E b n f) {m : Nat} (hm : n ≤ m) : MapB P w K E b m f := by
 obtain ⟨D, h, h2⟩ := h
 exact ⟨D, h.mono hm, h2⟩
theorem bool_inv (he : P.underlying E = some .bool) {v : Value} {z : DataW Unit × List MemPlace} (h : plainElem P E v = some z) : ∃ a, v = .bool a ∧ z = (.lit (.bool a), []) := by
 unfold plainElem at h
 rw [he] at h
 cases v <;> simp at h
 exact ⟨_, rfl, h.symm⟩
theorem MapB.look (h : MapB P w K E b n f) (hK : Keyed P K) {t : TypeId} (ht : P.underlying t = some (.map K E)) (he : P.underlying E = some .bool) (hz : (zeroValue E).run P w = .ok (.bool false) w)
 {key : Value} {kl : Lit} (hkey : keyOf P K key = some kl) : (Instr.lookup t (.map (some b)) key false).run P w = .ok (.bool (f kl)) w := by
 obtain ⟨D, h1, h2, h3⟩ := h
 obtain ⟨v, ps, hrun, hv⟩ := h1.lookup hK ht hz (plainElem_bool he false) hkey
 obtain ⟨a, rfl, hz'⟩ := bool_inv he hv
 rw [h3 kl (hK.key hkey)] at hz'
 simp only [Prod.mk.injEq, DataW.lit.injEq, Lit.bool.injEq] at hz'
 rw [hrun, hz'.1]
theorem mapB_look {ops : Array Oper} {rest : List Oper} {o : Oper} {a : Act} {Q : Exit → Act → World → Prop} (h : MapB P w K E b n f) (hK : Keyed P K) (hg : o.guard = none) (m x : Operand) (t : TypeId) (hop : o.op = Op.lookup t m x false)
 (ht : P.underlying t = some (.map K E)) (he : P.underlying E = some .bool) (hz : (zeroValue E).run P w = .ok (.bool false) w)
 (hm : a.eval m = .map (some b)) (key : Value) (hx : a.eval x = key) (kl : Lit) (hkey : keyOf P K key = some kl) (r : Bool) (hr : f kl = r)
 (h' : wpList P ops Q rest (a.put o.dst (.bool r)) w) : wpList P ops Q (o :: rest) a w := by
 refine wpList_plain hg fun K' hK' => ?_
 have hrun := h.look hK ht he hz hkey
 unfold Oper.wp
 simp [execOp, hop, hm, hx, hrun, Result.andThen]
 rw [hr]
 exact hK' _ _ h'
theorem mapB_put {ops : Array Oper} {rest : List Oper} {o : Oper} {a : Act} {Q : Exit → Act → World → Prop} (h : MapB P w K E b n f) (hK : Keyed P K) (hg : o.guard = none) (m x v : Operand) (t : TypeId) (hop : o.op = Op.mapUpdate t m x v)
 (ht : P.underlying t = some (.map K E)) (he : P.underlying E = some .bool) (hm : a.eval m = .map (some b)) (hn : n < maxLen) (key : Value) (hx : a.eval x = key) (hv : a.eval v = .bool true) (kl : Lit) (hkey : keyOf P K key = some kl)
 (f' : Lit → Bool) (hf : ∀ k, f' k = true ↔ k = kl ∨ f k = true)
 (h' : ∀ w', MapB P w' K E b (n + 1) f' → w.grownBy w' (some b) → wpList P ops Q rest (a.put o.dst undef) w') : wpList P ops Q (o :: rest) a w := by
 obtain ⟨D, h1, h2, h3⟩ := h
 refine wpList_mapUpdate_own w hg m x v t hop K E hK ht (plainElem P E) b n D hm h1 hn key _ kl hx hv hkey (.lit (.bool true)) [] (plainElem_bool he true) fun w' g1 g2 => h' w' ⟨_, g1, ?_, fun k hk => ?_⟩ g2
 ·obtain ⟨es, rfl⟩ := h2
  exact ⟨_, rfl⟩
 by_cases e : k = kl
 ·subst e
  rw [atKey_put_same h2 hk, (hf k).2 (Or.inl rfl)]
 rw [atKey_put_other e, h3 k hk]
 congr 2
 rw [Bool.eq_iff_iff, hf k]
 exact ⟨Or.inr, fun h => h.resolve_left e⟩
end
end Go.Proofs.Ytdiilocgjnlmiaa.Tre
end
section
namespace Go.Proofs.Ytdiilocgjnlmiaa.Tre
open Go.RowKit Go.Proofs.YtdiilocgjnlmiaaW.PrintWords Go.Proofs.YtdiilocgjnlmiaaW.PrintLast Go.Proofs.YtdiilocgjnlmiaaW.PrintMore
open Go.Proofs.Ytdiilocgjnlmiaa.PAll Go.Maps
set_option linter.unusedVariables false
set_option linter.unusedSimpArgs false
structure VS (w W : World) (gA gB : Value) (t n m : Nat) (sn th : Lit → Bool) : Prop where
 g0 : W.cell? ⟨w.heap.size, 0, none⟩ = some gA
 g1 : W.cell? ⟨w.heap.size, 1, none⟩ = some gB
 ops : Boxed W (w.heap.size + 1) 3 (.int .i64 (t : Int))
 seen : MapB Try.prog W 9 4 (w.heap.size + 1 + 1) n sn
 thr : MapB Try.prog W 3 4 (w.heap.size + 1 + 1 + 1) m th
 tbox : Boxed W (w.heap.size + 1 + 1 + 1 + 1) 77 (.map (some (w.heap.size + 1 + 1 + 1)))
 bel : Below w.heap.size w W
theorem VS.step {w W W' : World} {gA gB : Value} {t n m : Nat} {sn th : Lit → Bool} (h : VS w W gA gB t n m sn th) (hb : Below W.heap.size W W') : VS w W' gA gB t n m sn th :=
 ⟨pw_cell_below hb h.g0, pw_cell_below hb h.g1, (hb.block _ h.ops.lt).trans h.ops, h.seen.below hb, h.thr.below hb, (hb.block _ h.tbox.lt).trans h.tbox, below_then h.bel h.bel.size hb⟩
theorem VS.alloc {w W : World} {gA gB : Value} {t n m : Nat} {sn th : Lit → Bool} (h : VS w W gA gB t n m sn th) (o : Obj) : VS w (W.alloc o) gA gB t n m sn th := h.step (below_alloc (Below.refl _ _) o)
theorem VS.drewN {w W : World} {gA gB : Value} {t n m : Nat} {sn th : Lit → Bool} (h : VS w W gA gB t n m sn th) (k : Nat) : VS w (W.drewN k) gA gB t n m sn th := h.step (pw_below_drewN (Below.refl _ _) k)
theorem VS.add {w W : World} {gA gB : Value} {t n m : Nat} {sn th : Lit → Bool} (h : VS w W gA gB t n m sn th) (k : Nat) (v : Value) (hv : v = .int .i64 ((t + k : Nat) : Int)) : VS w (W.setCell ⟨w.heap.size + 1, 0, none⟩ v) gA gB (t + k) n m sn th := by
 subst hv
 have hl := h.ops.lt
 have c0 : ∀ j, (W.setCell ⟨w.heap.size + 1, 0, none⟩ (.int .i64 ((t + k : Nat) : Int))).cell? ⟨w.heap.size, j, none⟩ = W.cell? ⟨w.heap.size, j, none⟩ := fun j => World.cell?_of_block (Below.heap_setCell _ _ _ _ (by simp <;> omega))
 exact ⟨(c0 0).trans h.g0, (c0 1).trans h.g1, h.ops.set _, h.seen.setCell (by simp <;> omega) _, h.thr.setCell (by simp <;> omega) _, (Below.heap_setCell _ _ _ _ (by simp <;> omega)).trans h.tbox, h.bel.setCell (by simp <;> omega) _⟩
theorem VS.throw {w W W' : World} {gA gB : Value} {t n m : Nat} {sn th th' : Lit → Bool} (h : VS w W gA gB t n m sn th) (hm : MapB Try.prog W' 3 4 (w.heap.size + 1 + 1 + 1) (m + 1) th') (hg : W.grownBy W' (some (w.heap.size + 1 + 1 + 1))) : VS w W' gA gB t n (m + 1) sn th' := by
 have hl := h.thr.lt
 have c0 : ∀ j, W'.cell? ⟨w.heap.size, j, none⟩ = W.cell? ⟨w.heap.size, j, none⟩ := fun j => World.cell?_of_block (hg.block _ (by simp <;> omega) (by simp <;> omega))
 exact ⟨(c0 0).trans h.g0, (c0 1).trans h.g1, h.ops.kept hg (by simp <;> omega), h.seen.kept hg (by simp <;> omega), hm, h.tbox.kept hg (by simp <;> omega), h.bel.grown hg h.bel.size (fun k hk => by cases hk; omega)⟩
theorem VS.see {w W W' : World} {gA gB : Value} {t n m : Nat} {sn sn' th : Lit → Bool} (h : VS w W gA gB t n m sn th) (hm : MapB Try.prog W' 9 4 (w.heap.size + 1 + 1) (n + 1) sn') (hg : W.grownBy W' (some (w.heap.size + 1 + 1))) : VS w W' gA gB t (n + 1) m sn' th := by
 have hl := h.seen.lt
 have c0 : ∀ j, W'.cell? ⟨w.heap.size, j, none⟩ = W.cell? ⟨w.heap.size, j, none⟩ := fun j => World.cell?_of_block (hg.block _ (by simp <;> omega) (by simp <;> omega))
 exact ⟨(c0 0).trans h.g0, (c0 1).trans h.g1, h.ops.kept hg (by simp <;> omega), hm, h.thr.kept hg (by simp <;> omega), h.tbox.kept hg (by simp <;> omega), h.bel.grown hg h.bel.size (fun k hk => by cases hk; omega)⟩
theorem wf64 {q : Int} (h0 : 0 ≤ q) (h1 : q ≤ 1099511627776) : (Lit.int .i64 q).wf = true := by
 have e1 : IntKind.i64.min = -9223372036854775808 := by decide
 have e2 : IntKind.i64.max = 9223372036854775807 := by decide
 simp [Lit.wf, e1, e2]
 omega
def thF (th : Lit → Bool) (ops : List Op) : Lit → Bool
 | .int .i64 a => th (.int .i64 a) || throwsB ops a
 | k => th k
def MarkPost (w : World) (gA gB : Value) (t n m : Nat) (sn th : Lit → Bool) (e : Ending) (W : World) : Prop := ∃ v m', e = .returned v ∧ m' ≤ m ∧ VS w W gA gB t n m' sn th
theorem keyI : Keyed Try.prog 3 := int_keyed Try.underlying3
theorem keyS : Keyed Try.prog 9 := string_keyed Try.underlying9
theorem thF_nil (th : Lit → Bool) : thF th [] = th := by
 funext k
 unfold thF throwsB
 split <;> simp
theorem thF_snoc (th : Lit → Bool) (ops : List Op) (o : Op) (h : o.f0 ≠ 3) : thF th (ops ++ [o]) = thF th ops := by
 funext k
 unfold thF throwsB
 split <;> simp [h]
theorem thF_put (th : Lit → Bool) (ops : List Op) (o : Op) (h : o.f0 = 3) (k : Lit) : thF th (ops ++ [o]) k = true ↔ k = .int .i64 o.f2 ∨ thF th ops k = true := by
 unfold thF throwsB
 split
 ·rename_i a
  simp only [List.any_append, List.any_cons, List.any_nil, h, Bool.or_eq_true, Bool.or_false, decide_eq_true_eq, Lit.int.injEq, true_and]
  constructor
  ·rintro (h | h | h)
   ·exact .inr (.inl h)
   ·exact .inr (.inr h)
   exact .inl h.symm
  rintro (h | h | h)
  ·exact .inr (.inr h.symm)
  ·exact .inl h
  exact .inr (.inl h)
 rename_i hk
 constructor
 ·exact .inr
 rintro (h | h)
 ·exact absurd h (hk _)
 exact h
set_option maxRecDepth 100000 in
set_option maxHeartbeats 8000000 in
theorem mark_in (w W : World) (gA gB : Value) (t n m : Nat) (sn th : Lit → Bool) (A : Option Addr) (c : Nat) (ops : List Op) (hV : VS w W gA gB t n m sn th) (hr : Kd.C k79 w A ops.length ops) (hc : ops.length ≤ c)
 (hm : ops.length ≤ 1099511627776) (ht : t ≤ 1125899906842624) (hmm : m ≤ 1125899906842624) (ha : ∀ o ∈ ops, 0 ≤ o.f2 ∧ o.f2 ≤ 1099511627776) :
 Calls Try.prog 52 #[.slice A ops.length c, .pointer (some ⟨w.heap.size + 1, 0, none⟩), .pointer (some ⟨w.heap.size + 1 + 1 + 1 + 1, 0, none⟩)] W (MarkPost w gA gB (t + ops.length) n (m + ops.length) sn (thF th ops)) := by
 have cb := hV.ops.cell
 have fb := hV.ops.frozen
 have lb := hV.ops.lt
 have HA := Aside0.mk ha
 clear ha
 go_enter Try.func52, Try.ntmps52
 go_wp2
 have hV0 := hV.add ops.length (.int .i64 ((t : Int) + (ops.length : Int))) (by simp)
 clear cb fb lb hV
 generalize hW0 : W.setCell ⟨w.heap.size + 1, 0, none⟩ (.int .i64 ((t : Int) + (ops.length : Int))) = W0 at *
 clear hW0
 go_loopg [12] (ops.length + 1) (fun kq v12 W' => ∃ (i m' : Nat), v12 = .int .i64 (i : Int) ∧ Aside0 (i ≤ ops.length ∧ ops.length < i + kq ∧ m' ≤ m + i) ∧ VS w W' gA gB (t + ops.length) n m' sn (thF th (ops.take i)))
 case atStart => exact ⟨0, m, rfl, ⟨by omega, by omega, by omega⟩, by rw [List.take_zero, thF_nil]; exact hV0⟩
 case round =>
  obtain ⟨i, m', rfl, HI, hVi⟩ := hrel
  obtain ⟨i1, i2, i3⟩ := HI.out
  clear HI
  cases gk with
  | zero => omega
  | succ k1 =>
   by_cases hi : i < ops.length
   rotate_left
   ·have d1 : decide ((i : Int) < (ops.length : Int)) = false := decide_eq_false (by omega)
    have e : i = ops.length := by omega
    have E := Lib.hid e
    clear e
    go_wp2
    go_end0
    exact ⟨_, m', rfl, by omega, by rw [E.out, List.take_length] at hVi; exact hVi⟩
   have d1 : decide ((i : Int) < (ops.length : Int)) = true := decide_eq_true (by omega)
   obtain ⟨ad, AS, cS, rfl, x0, x1, x2, y1, y2⟩ := at_T79 hr (i : Int) (by omega) (by omega)
   rw [Int.toNat_natCast] at x0 x1 x2
   replace x0 := pw_cell_below hVi.bel x0
   replace x1 := pw_cell_below hVi.bel x1
   replace x2 := pw_cell_below hVi.bel x2
   have d2 : (0 ≤ (i : Int)) = True := eq_true (by omega)
   have d3 : ((i : Int) < (ops.length : Int)) = True := eq_true (by omega)
   have hsz := HA.out (rd_T79 ops (i : Int)) (by
    have := drop_op (ops := ops) (i := i) (by omega)
    exact List.mem_of_mem_drop (by rw [this]; exact List.mem_cons_self))
   have htk : ops.take (i + 1) = ops.take i ++ [rd_T79 ops (i : Int)] := by
    rw [List.take_succ_eq_append_getElem hi]
    congr 2
    simp [rd_T79, List.getD_eq_getElem?_getD, hi]
   generalize ho : rd_T79 ops (i : Int) = o at *
   obtain ⟨k, s, q⟩ := o
   simp only at x0 x1 x2 y1 y2 hsz
   have HT := Lib.hid htk
   clear htk ho y2 hr
   have hVa := hVi.alloc (.cells #[.int .i64 k, .slice AS s.length cS, .int .i64 q] 79)
   by_cases hk : k = 3
   ·subst hk
    have ct := hVa.tbox.cell
    have ct0 := hVi.tbox.cell
    have lt0 := hVi.tbox.lt
    have hkey : keyOf Try.prog 3 (.int .i64 q) = some (.int .i64 q) := keyOf_int_mk Try.underlying3 (wf64 (by omega) (by omega))
    have HKEY := Lib.hid hkey
    clear hkey
    go_wp2_with (first
     | (at_mapUpdate; go_must (refine mapB_put hVa.thr keyI rfl _ _ _ _ rfl Try.underlying77 Try.underlying4 rfl (by unfold maxLen; omega) _ rfl rfl _ HKEY.out (thF th (ops.take i ++ [⟨3, s, q⟩])) (thF_put th (ops.take i) ⟨3, s, q⟩ rfl) ?_); intro W1 hM1 hG1; have hV1 := hVa.throw hM1 hG1))
    go_roundg k1
    case measure => omega
    case rel => exact ⟨i + 1, m' + 1, by first | rfl | (simp; done) | (rw [wid (by omega) (by omega)]; simp), ⟨by omega, by omega, by omega⟩, by rw [HT.out]; exact hV1⟩
   have f3 : (k == 3) = false := by simpa using hk
   have HK := Lib.hid hk
   clear hk
   go_wp2
   go_roundg k1
   case measure => omega
   case rel => exact ⟨i + 1, m', by first | rfl | (simp; done) | (rw [wid (by omega) (by omega)]; simp), ⟨by omega, by omega, by omega⟩, by rw [HT.out, thF_snoc _ _ _ HK.out]; exact hVa⟩
end Go.Proofs.Ytdiilocgjnlmiaa.Tre
end
section
namespace Go.Proofs.Ytdiilocgjnlmiaa.Tre
open Go.RowKit Go.Proofs.YtdiilocgjnlmiaaW.PrintWords Go.Proofs.YtdiilocgjnlmiaaW.PrintLast Go.Proofs.YtdiilocgjnlmiaaW.PrintMore
open Go.Proofs.Ytdiilocgjnlmiaa.PAll
set_option linter.unusedVariables false
theorem run_bytesOf {P : Program} {w : World} {A : Option Addr} {l : List Int} (c : Nat) (hr : Kd.C (Kd.int .u8) w A l.length l) :
 (Extern.Bytes.bytesOf (.slice A l.length c)).run P w = .ok ⟨(Lib.bytesOf l).toArray⟩ w := by
 cases l with
 | nil =>
  cases A with
  | none => simp [Extern.Bytes.bytesOf, Lib.bytesOf, ByteArray.empty, ByteArray.emptyWithCapacity]; rfl
  | some a => simp [Extern.Bytes.bytesOf, Extern.Bytes.loadBytes, Lib.bytesOf, ByteArray.empty, ByteArray.emptyWithCapacity]; rfl
 | cons x l =>
  cases A with
  | none =>
   exfalso
   obtain ⟨ad, c, e, _⟩ := Kd.C_get hr (0 : Int) 0 (by omega) (by simp)
   cases e
  | some a =>
   have h := Lib.run_loadBytesX (P := P) w (x :: l) a .empty (fun j y hj => by
    have hjl : j < (x :: l).length := (List.getElem?_eq_some_iff.1 hj).1
    have := Kd.foot_int hr (j : Int) (by omega) (by omega)
    rw [Int.toNat_natCast] at this
    rw [this]
    simp only [rd, Int.toNat_natCast, List.getD_eq_getElem?_getD, hj, Option.getD_some])
   show (Extern.Bytes.loadBytes a (x :: l).length .empty).run P w = _
   rw [h]
   simp [ByteArray.empty, ByteArray.emptyWithCapacity]
   rfl
theorem compare_neg : ∀ a b : List UInt8, (decide (0 ≤ Lib.compareBytes a b)) = !Op.bytesLess a b
 | [], [] => rfl
 | [], _ :: _ => rfl
 | _ :: _, [] => rfl
 | x :: a, y :: b => by
  unfold Lib.compareBytes Op.bytesLess
  by_cases h1 : x < y
  ·simp [h1]
  rw [if_neg h1]
  by_cases h2 : y < x
  ·rw [if_pos h2]
   have hne : ¬ x = y := fun e => by subst e; exact UInt8.lt_irrefl x h2
   simp [h1, hne]
  rw [if_neg h2, compare_neg a b]
  have he : x = y := UInt8.le_antisymm (UInt8.not_lt.1 h2) (UInt8.not_lt.1 h1)
  subst he
  simp
set_option maxHeartbeats 1000000 in
set_option maxRecDepth 100000 in
theorem compare_calls (w : World) (A B : Option Addr) (l m : List Int) (c d : Nat) (h1 : Kd.C (Kd.int .u8) w A l.length l) (h2 : Kd.C (Kd.int .u8) w B m.length m) :
 Calls Try.prog 55 #[.slice A l.length c, .slice B m.length d] w fun e w' => e = .returned (.int .i64 (Lib.compareBytes (Lib.bytesOf l) (Lib.bytesOf m))) ∧ w' = w := by
 have hrun : (Extern.BytealgCompare.compare #[.slice A l.length c, .slice B m.length d]).run Try.prog w = .ok (.int .i64 (Lib.compareBytes (Lib.bytesOf l) (Lib.bytesOf m))) w := by
  change Sem.run Try.prog (do pure (goInt (Extern.BytealgCompare.cmp (← Extern.Bytes.bytesOf (.slice A l.length c)) (← Extern.Bytes.bytesOf (.slice B m.length d))))) w = _
  simp only [Sem.run_bind, Sem.run_pure, run_bytesOf c h1, run_bytesOf d h2, Result.andThen_ok]
  rw [Lib.cmp_eq]
  rfl
 generalize Lib.compareBytes (Lib.bytesOf l) (Lib.bytesOf m) = r at *
 go_enter Try.func55, Try.ntmps55
 go_wp2
 rw [run_callFunc_extern Try.func108 (by kernel_rfl) (by kernel_rfl) (by kernel_rfl) (e := Extern.BytealgCompare.compare) (by kernel_rfl), hrun]
 simp only [Result.andThen]
 rw [Oper.upon_value]
 go_wp2
 go_ret
 exact ⟨rfl, rfl⟩
end Go.Proofs.Ytdiilocgjnlmiaa.Tre
end
