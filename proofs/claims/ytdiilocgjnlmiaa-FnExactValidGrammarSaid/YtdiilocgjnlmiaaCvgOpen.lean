import Derived.Test.YtdiilocgjnlmiaaRows
import Derived.Test.YtdiilocgjnlmiaaCvgPAllx0
import Derived.ProofKit
import Derived.Deep.Slices
namespace Go.Proofs.Ytdiilocgjnlmiaa.Open
open Go.RowKit Go.Deep Go.Proofs.YtdiilocgjnlmiaaW.PrintWords Go.Proofs.YtdiilocgjnlmiaaW.PrintLast
section
variable {H : Type} {enc : TypeId × Value → H} {P : Program} {w : World} {base : Nat} {spare : Nat → Bool} {held : Bool}
/-- What reads as data of type t holds a value of kind k with the property g. -/
def Opens {α : Type} (enc : TypeId × Value → H) (P : Program) (w : World) (base : Nat) (spare : Nat → Bool) (held : Bool) (t : TypeId) (k : Kd α) (g : α → Prop) : Prop :=
  ∀ fuel cs x, DataW.trod enc P w base spare held fuel t cs = some x → ∃ a : α, k.K w a cs ∧ g a
theorem opens_int {t : TypeId} {ik : IntKind} (ht : P.underlying t = some (.int ik)) : Opens enc P w base spare held t (Kd.int ik) (fun n => (Lit.int ik n).wf = true) := by
  intro fuel cs x h
  obtain ⟨n, rfl, _, hw⟩ := DataW.trod_int ht h
  exact ⟨n, rfl, hw⟩
theorem opens_bool {t : TypeId} (ht : P.underlying t = some .bool) : Opens enc P w base spare held t Kd.bool (fun _ => True) := by
  intro fuel cs x h
  obtain ⟨b, rfl, _⟩ := DataW.trod_bool ht h
  exact ⟨b, rfl, trivial⟩
theorem choose_list {α : Type} {p : Nat → α → Prop} : ∀ (n : Nat), (∀ i, i < n → ∃ a, p i a) → ∃ l : List α, l.length = n ∧ ∀ i a, l[i]? = some a → p i a
  | 0, _ => ⟨[], rfl, fun i a h => by simp at h⟩
  | n + 1, h => by
    obtain ⟨l, hl, hp⟩ := choose_list n (fun i hi => h i (by omega))
    obtain ⟨a, ha⟩ := h n (by omega)
    refine ⟨l ++ [a], by simp [hl], fun i b hb => ?_⟩
    by_cases c : i < l.length
    · rw [List.getElem?_append_left c] at hb
      exact hp i b hb
    · rw [List.getElem?_append_right (by omega)] at hb
      have : i - l.length = 0 := by
        by_cases z : i - l.length = 0
        · exact z
        · rw [List.getElem?_eq_none (by simp; omega)] at hb; cases hb
      rw [this] at hb
      simp at hb
      subst hb
      rw [show i = n by omega]
      exact ha
theorem opens_slice {α : Type} {k : Kd α} {g : α → Prop} {t e : TypeId} (ht : P.underlying t = some (.slice e)) (hc : P.cellsOf e = k.sz) (hk : Opens enc P w base spare held e k g) :
    Opens enc P w base spare held t (Kd.slice e k) (fun l => (∀ a ∈ l, g a) ∧ l.length ≤ 9223372036854775807) := by
  intro fuel cs x h
  rcases open_slice ht h with ⟨rfl, _⟩ | ⟨a, len, cap, m, n, D, Pl, rfl, hb, hl, hm, hmm, _, hx⟩
  · refine ⟨[], ⟨none, 0, rfl, Nat.le_refl _, rfl, by simp, fun h => by simp at h⟩, ?_⟩
    show (∀ a ∈ ([] : List α), g a) ∧ _
    exact ⟨fun a h => (by cases h), by simp⟩
  · have hle : len ≤ m := by rw [hmm]; split <;> omega
    have hmx : maxLen = 9223372036854775807 := by unfold maxLen; rfl
    obtain ⟨l, hll, hp⟩ := choose_list (p := fun i (y : α) => (∃ c, c.length = k.sz ∧ k.K w y c ∧ ∀ j u, c[j]? = some u → w.cell? (a.add (i * k.sz + j)) = some u) ∧ g y) len (fun i hi => by
      obtain ⟨cs', h1, h2⟩ := hx i (by omega)
      obtain ⟨y, hy, hgy⟩ := hk n cs' _ h2
      obtain ⟨_, hlen, hcell⟩ := World.cells?_some h1
      rw [hc] at hlen hcell
      refine ⟨y, ⟨cs', hlen, hy, fun j u hj => ?_⟩, hgy⟩
      have hjl : j < cs'.length := by
        by_cases z : j < cs'.length
        · exact z
        · rw [List.getElem?_eq_none (by omega)] at hj; cases hj
      have := hcell j (by omega)
      rw [← hj, ← this, Addr.add_add])
    refine ⟨l, ⟨some a, cap, by rw [hll], by omega, rfl, by omega, fun _ => ⟨a, rfl, fun j p hj => (hp j p hj).1⟩⟩, ?_⟩
    show (∀ a ∈ l, g a) ∧ _
    refine ⟨fun y hy => ?_, by omega⟩
    obtain ⟨i, hi⟩ := List.getElem?_of_mem hy
    exact (hp i y hi).2
theorem K_pair {α β : Type} {a : Kd α} {b : Kd β} {cs : List Value} {x : α} {y : β} (h0 : a.K w x (cs.take a.sz)) (h1 : b.K w y (cs.drop a.sz)) : (Kd.pair a b).K w (x, y) cs :=
  ⟨_, _, (List.take_append_drop _ _).symm, h0, h1⟩
theorem opens_2 {α β : Type} {a : Kd α} {b : Kd β} {ga : α → Prop} {gb : β → Prop} {t : TypeId} {f0 f1 : Field} (ht : P.underlying t = some (.struct #[f0, f1]))
    (hT : P.cellsOf t = a.sz + b.sz) (o0 : f0.offset = 0) (o1 : f1.offset = a.sz) (s0 : P.cellsOf f0.type = a.sz) (s1 : P.cellsOf f1.type = b.sz)
    (h0 : Opens enc P w base spare held f0.type a ga) (h1 : Opens enc P w base spare held f1.type b gb) :
    Opens enc P w base spare held t (Kd.pair a b) (fun x => ga x.1 ∧ gb x.2) := by
  intro fuel cs x h
  obtain ⟨xs, n, _, _, hl, hlen, hf⟩ := DataW.trod_struct ht h
  have e0 := hf 0 f0 rfl
  have e1 := hf 1 f1 rfl
  have l0 : xs[0]? = some (xs[0]'(by simp [hlen])) := by simp [hlen]
  have l1 : xs[1]? = some (xs[1]'(by simp [hlen])) := by simp [hlen]
  rw [l0, o0, s0, List.drop_zero] at e0
  rw [l1, o1, s1, List.take_of_length_le (by simp; omega)] at e1
  obtain ⟨p, hp, gp⟩ := h0 _ _ _ e0
  obtain ⟨q, hq, gq⟩ := h1 _ _ _ e1
  exact ⟨(p, q), K_pair hp hq, gp, gq⟩
theorem opens_3 {α β γ : Type} {a : Kd α} {b : Kd β} {c : Kd γ} {ga : α → Prop} {gb : β → Prop} {gc : γ → Prop} {t : TypeId} {f0 f1 f2 : Field} (ht : P.underlying t = some (.struct #[f0, f1, f2]))
    (hT : P.cellsOf t = a.sz + b.sz + c.sz) (o0 : f0.offset = 0) (o1 : f1.offset = a.sz) (o2 : f2.offset = a.sz + b.sz) (s0 : P.cellsOf f0.type = a.sz) (s1 : P.cellsOf f1.type = b.sz) (s2 : P.cellsOf f2.type = c.sz)
    (h0 : Opens enc P w base spare held f0.type a ga) (h1 : Opens enc P w base spare held f1.type b gb) (h2 : Opens enc P w base spare held f2.type c gc) :
    Opens enc P w base spare held t (Kd.pair a (Kd.pair b c)) (fun x => ga x.1 ∧ gb x.2.1 ∧ gc x.2.2) := by
  intro fuel cs x h
  obtain ⟨xs, n, _, _, hl, hlen, hf⟩ := DataW.trod_struct ht h
  have e0 := hf 0 f0 rfl
  have e1 := hf 1 f1 rfl
  have e2 := hf 2 f2 rfl
  have l0 : xs[0]? = some (xs[0]'(by simp [hlen])) := by simp [hlen]
  have l1 : xs[1]? = some (xs[1]'(by simp [hlen])) := by simp [hlen]
  have l2 : xs[2]? = some (xs[2]'(by simp [hlen])) := by simp [hlen]
  rw [l0, o0, s0, List.drop_zero] at e0
  rw [l1, o1, s1] at e1
  rw [l2, o2, s2, List.take_of_length_le (by simp; omega)] at e2
  obtain ⟨p, hp, gp⟩ := h0 _ _ _ e0
  obtain ⟨q, hq, gq⟩ := h1 _ _ _ e1
  obtain ⟨r, hr, gr⟩ := h2 _ _ _ e2
  exact ⟨(p, q, r), K_pair hp (K_pair hq (by rw [List.drop_drop]; exact hr)), gp, gq, gr⟩
theorem opens_iso {α β : Type} {d : Kd α} {g : α → Prop} {t : TypeId} (f : β → α) (m : α → β) (hm : ∀ x, f (m x) = x) (h : Opens enc P w base spare held t d g) : Opens enc P w base spare held t (Kd.iso d f) (fun y => g (f y)) := by
  intro fuel cs x hx
  obtain ⟨a, hk, hg⟩ := h fuel cs x hx
  refine ⟨m a, ?_, by show g (f (m a)); rw [hm]; exact hg⟩
  show d.K w (f (m a)) cs
  rw [hm]; exact hk
end
end Go.Proofs.Ytdiilocgjnlmiaa.Open
