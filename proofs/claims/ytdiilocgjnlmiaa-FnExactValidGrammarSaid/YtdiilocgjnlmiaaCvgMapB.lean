import Derived.Maps.OwnOps
import Derived.Maps.Views
import Derived.Test.YtdiilocgjnlmiaaCvgGBase
namespace Go.Proofs.Ytdiilocgjnlmiaa.Tre
open Go.RowKit Go.Proofs.YtdiilocgjnlmiaaW.PrintWords Go.Proofs.YtdiilocgjnlmiaaW.PrintLast Go.Proofs.YtdiilocgjnlmiaaW.PrintMore
open Go.Proofs.Ytdiilocgjnlmiaa.PAll Go.Maps
set_option linter.unusedVariables false
/-- block b is a map (keys K, elements E of a bool's kind) of at most n entries; under key k it answers f k -/
def MapB (P : Program) (w : World) (K E : TypeId) (b n : Nat) (f : Lit → Bool) : Prop :=
  ∃ D : DataW Unit, w.ownsMap P K (plainElem P E) b n D ∧ IsMap D ∧ ∀ k, WideAt.IsKeyLit k → D.atKey k (.lit (.bool false)) = .lit (.bool (f k))
section
variable {P : Program} {w : World} {K E : TypeId} {b n : Nat} {f : Lit → Bool}
theorem MapB.made (P : Program) (w : World) (K E : TypeId) : MapB P (w.alloc (.map #[] 0)) K E w.heap.size 0 (fun _ => false) :=
  ⟨.map [], World.ownsMap_made w P K _, isMap_empty, fun k _ => rfl⟩
theorem MapB.lt (h : MapB P w K E b n f) : b < w.heap.size := by
  obtain ⟨D, h, _⟩ := h
  exact h.lt
theorem MapB.kept {w' : World} {row : Option Nat} (h : MapB P w K E b n f) (hg : w.grownBy w' row) (hne : some b ≠ row) : MapB P w' K E b n f := by
  obtain ⟨D, h, h2⟩ := h
  exact ⟨D, h.kept hg hne, h2⟩
theorem MapB.alloc (h : MapB P w K E b n f) (o : Obj) : MapB P (w.alloc o) K E b n f := h.kept (World.grownBy_alloc w o none) (by simp)
theorem MapB.step {w' : World} (h : MapB P w K E b n f) (hb : w'.heap[b]? = w.heap[b]?) : MapB P w' K E b n f := by
  obtain ⟨D, ⟨es, clock, h1, h2⟩, h3⟩ := h
  exact ⟨D, ⟨es, clock, hb.trans h1, h2⟩, h3⟩
theorem MapB.drewN (h : MapB P w K E b n f) (k : Nat) : MapB P (w.drewN k) K E b n f := h.step rfl
theorem MapB.below {w' : World} (h : MapB P w K E b n f) (hb : Below w.heap.size w w') : MapB P w' K E b n f := h.step (hb.block b h.lt)
theorem MapB.setCell (h : MapB P w K E b n f) {p : Addr} (hp : b ≠ p.block) (u : Value) : MapB P (w.setCell p u) K E b n f := h.step (Below.heap_setCell _ _ _ _ hp)
theorem MapB.mono (h : MapB P w K E b n f) {m : Nat} (hm : n ≤ m) : MapB P w K E b m f := by
  obtain ⟨D, h, h2⟩ := h
  exact ⟨D, h.mono hm, h2⟩
theorem bool_inv (he : P.underlying E = some .bool) {v : Value} {z : DataW Unit × List MemPlace} (h : plainElem P E v = some z) : ∃ a, v = .bool a ∧ z = (.lit (.bool a), []) := by
  unfold plainElem at h
  rw [he] at h
  cases v <;> simp at h
  exact ⟨_, rfl, h.symm⟩
theorem MapB.look (h : MapB P w K E b n f) (hK : Keyed P K) {t : TypeId} (ht : P.underlying t = some (.map K E)) (he : P.underlying E = some .bool) (hz : (zeroValue E).run P w = .ok (.bool false) w)
    {key : Value} {kl : Lit} (hkey : keyOf P K key = some kl) : (Instr.lookup t (.map (some b)) key false).run P w = .ok (.bool (f kl)) w := by
  obtain ⟨D, h1, h2, h3⟩ := h
  obtain ⟨v, ps, hrun, hv⟩ := h1.lookup hK ht hz (plainElem_bool he false) hkey
  obtain ⟨a, rfl, hz'⟩ := bool_inv he hv
  rw [h3 kl (hK.key hkey)] at hz'
  simp only [Prod.mk.injEq, DataW.lit.injEq, Lit.bool.injEq] at hz'
  rw [hrun, hz'.1]
/-- the look-up at the operation -/
theorem mapB_look {ops : Array Oper} {rest : List Oper} {o : Oper} {a : Act} {Q : Exit → Act → World → Prop} (h : MapB P w K E b n f) (hK : Keyed P K) (hg : o.guard = none) (m x : Operand) (t : TypeId) (hop : o.op = Op.lookup t m x false)
    (ht : P.underlying t = some (.map K E)) (he : P.underlying E = some .bool) (hz : (zeroValue E).run P w = .ok (.bool false) w)
    (hm : a.eval m = .map (some b)) (key : Value) (hx : a.eval x = key) (kl : Lit) (hkey : keyOf P K key = some kl) (r : Bool) (hr : f kl = r)
    (h' : wpList P ops Q rest (a.put o.dst (.bool r)) w) : wpList P ops Q (o :: rest) a w := by
  refine wpList_plain hg fun K' hK' => ?_
  have hrun := h.look hK ht he hz hkey
  unfold Oper.wp
  simp [execOp, hop, hm, hx, hrun, Result.andThen]
  rw [hr]
  exact hK' _ _ h'
/-- 'm[k] = true' at the operation -/
theorem mapB_put {ops : Array Oper} {rest : List Oper} {o : Oper} {a : Act} {Q : Exit → Act → World → Prop} (h : MapB P w K E b n f) (hK : Keyed P K) (hg : o.guard = none) (m x v : Operand) (t : TypeId) (hop : o.op = Op.mapUpdate t m x v)
    (ht : P.underlying t = some (.map K E)) (he : P.underlying E = some .bool) (hm : a.eval m = .map (some b)) (hn : n < maxLen) (key : Value) (hx : a.eval x = key) (hv : a.eval v = .bool true) (kl : Lit) (hkey : keyOf P K key = some kl)
    (f' : Lit → Bool) (hf : ∀ k, f' k = true ↔ k = kl ∨ f k = true)
    (h' : ∀ w', MapB P w' K E b (n + 1) f' → w.grownBy w' (some b) → wpList P ops Q rest (a.put o.dst undef) w') : wpList P ops Q (o :: rest) a w := by
  obtain ⟨D, h1, h2, h3⟩ := h
  refine wpList_mapUpdate_own w hg m x v t hop K E hK ht (plainElem P E) b n D hm h1 hn key _ kl hx hv hkey (.lit (.bool true)) [] (plainElem_bool he true) fun w' g1 g2 => h' w' ⟨_, g1, ?_, fun k hk => ?_⟩ g2
  · obtain ⟨es, rfl⟩ := h2
    exact ⟨_, rfl⟩
  · by_cases e : k = kl
    · subst e
      rw [atKey_put_same h2 hk, (hf k).2 (Or.inl rfl)]
    · rw [atKey_put_other e, h3 k hk]
      congr 2
      rw [Bool.eq_iff_iff, hf k]
      exact ⟨Or.inr, fun h => h.resolve_left e⟩
end
end Go.Proofs.Ytdiilocgjnlmiaa.Tre
