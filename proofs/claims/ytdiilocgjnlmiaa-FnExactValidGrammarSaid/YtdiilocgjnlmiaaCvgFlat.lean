import Derived.Test.YtdiilocgjnlmiaaCvgTree
namespace Go.Proofs.Ytdiilocgjnlmiaa.Tre
open Go.RowKit Go.Proofs.YtdiilocgjnlmiaaW.PrintWords Go.Proofs.YtdiilocgjnlmiaaW.PrintLast Go.Proofs.YtdiilocgjnlmiaaW.PrintMore
open Go.Proofs.Ytdiilocgjnlmiaa.PAll
set_option linter.unusedVariables false
set_option linter.unusedSimpArgs false
abbrev Op := S79
/-- the list that writes a tree -/
def flat : Tr → List Op
  | .emp => [⟨0, [], 0⟩]
  | .set s => [⟨1, s, 0⟩]
  | .ref n => [⟨2, [], n⟩]
  | .thr n => [⟨3, [], n⟩]
  | .seq l r => flat l ++ (flat r ++ [⟨4, [], 0⟩])
  | .alt l r => flat l ++ (flat r ++ [⟨5, [], 0⟩])
  | .star x => flat x ++ [⟨6, [], 0⟩]
  | .neg x => flat x ++ [⟨7, [], 0⟩]
def flats : List Tr → List Op
  | [] => []
  | t :: st => flats st ++ flat t
/-- how many operands -/
def ar (k : Int) : Nat := if k = 4 ∨ k = 5 then 2 else if k = 6 ∨ k = 7 then 1 else 0
/-- an operation with nothing in the fields that its kind does not use -/
structure Can (o : Op) : Prop where
  lo : 0 ≤ o.f0
  hi : o.f0 ≤ 7
  set : o.f0 ≠ 1 → o.f1 = []
  arg : o.f0 ≠ 2 → o.f0 ≠ 3 → o.f2 = 0
theorem runT_append : ∀ (st : List Tr) (a b : List Op), runT st (a ++ b) = (runT st a).bind fun st => runT st b
  | st, [], b => rfl
  | st, o :: a, b => by
    simp only [List.cons_append, runT]
    cases h : stepT st o with
    | none => rfl
    | some s => simp only [Option.bind_some]; exact runT_append s a b
theorem stepT_flats {st st1 : List Tr} {o : Op} (hc : Can o) (h : stepT st o = some st1) : flats st1 = flats st ++ [o] := by
  obtain ⟨k, s, n⟩ := o
  have hlo := hc.lo
  have hhi := hc.hi
  have hs := hc.set
  have ha := hc.arg
  simp only at hlo hhi hs ha
  have hk : k = 0 ∨ k = 1 ∨ k = 2 ∨ k = 3 ∨ k = 4 ∨ k = 5 ∨ k = 6 ∨ k = 7 := by omega
  rcases hk with rfl | rfl | rfl | rfl | rfl | rfl | rfl | rfl
  · have e1 := hs (by decide)
    have e2 := ha (by decide) (by decide)
    subst e1 e2
    cases h
    rfl
  · have e2 := ha (by decide) (by decide)
    subst e2
    cases h
    rfl
  · have e1 := hs (by decide)
    subst e1
    cases h
    rfl
  · have e1 := hs (by decide)
    subst e1
    cases h
    rfl
  · have e1 := hs (by decide)
    have e2 := ha (by decide) (by decide)
    subst e1 e2
    match st, h with
    | r :: l :: st, h => cases h; simp [flats, flat]
    | [], h => cases h
    | [x], h => cases h
  · have e1 := hs (by decide)
    have e2 := ha (by decide) (by decide)
    subst e1 e2
    match st, h with
    | r :: l :: st, h => cases h; simp [flats, flat]
    | [], h => cases h
    | [x], h => cases h
  · have e1 := hs (by decide)
    have e2 := ha (by decide) (by decide)
    subst e1 e2
    match st, h with
    | x :: st, h => cases h; simp [flats, flat]
    | [], h => cases h
  · have e1 := hs (by decide)
    have e2 := ha (by decide) (by decide)
    subst e1 e2
    match st, h with
    | x :: st, h => cases h; simp [flats, flat]
    | [], h => cases h
/-- how high the stack stands -/
theorem stepT_none {st : List Tr} {o : Op} (hlo : 0 ≤ o.f0) (hhi : o.f0 ≤ 7) (h : stepT st o = none) : st.length < ar o.f0 := by
  obtain ⟨k, s, n⟩ := o
  simp only at hlo hhi
  have hk : k = 0 ∨ k = 1 ∨ k = 2 ∨ k = 3 ∨ k = 4 ∨ k = 5 ∨ k = 6 ∨ k = 7 := by omega
  rcases hk with rfl | rfl | rfl | rfl | rfl | rfl | rfl | rfl
  · cases h
  · cases h
  · cases h
  · cases h
  · match st, h with
    | [], h => simp [ar]
    | [x], h => simp [ar]
  · match st, h with
    | [], h => simp [ar]
    | [x], h => simp [ar]
  · match st, h with
    | [], h => simp [ar]
  · match st, h with
    | [], h => simp [ar]
theorem stepT_some {st st1 : List Tr} {o : Op} (h : stepT st o = some st1) : ar o.f0 ≤ st.length ∧ st1.length + ar o.f0 = st.length + 1 := by
  unfold stepT at h
  unfold ar
  repeat' split at h
  all_goals first | (cases h; done) | (cases h; simp_all <;> omega)
/-- read from the end: how many are missing -/
def shB : Int → List Op → Bool
  | n, [] => n == 0
  | n, o :: os => if n = 0 then false else shB (n + ((ar o.f0 : Int) - 1)) os
theorem shB_iff : ∀ (r : List Op) (n : Int), (∀ o ∈ r, 0 ≤ o.f0 ∧ o.f0 ≤ 7) → 0 ≤ n → (shB n r = true ↔ ∃ st, runT [] r.reverse = some st ∧ (st.length : Int) = n)
  | [], n, _, _ => by
    rw [shB]
    constructor
    · intro h
      have h := eq_of_beq h
      exact ⟨[], rfl, h.symm⟩
    · rintro ⟨st, h, h2⟩
      have h : some [] = some st := h
      cases h
      subst h2
      rfl
  | o :: r, n, hr, hn => by
    rw [shB, List.reverse_cons, runT_append]
    by_cases h0 : n = 0
    · rw [if_pos h0]
      constructor
      · intro h; cases h
      · rintro ⟨st, h, h2⟩
        exfalso
        cases hs : runT [] r.reverse with
        | none => rw [hs] at h; cases h
        | some s =>
          rw [hs, Option.bind_some, runT] at h
          cases hs2 : stepT s o with
          | none => rw [hs2] at h; cases h
          | some s2 =>
            rw [hs2] at h
            cases h
            have := stepT_some hs2
            omega
    · rw [if_neg h0, shB_iff r _ (fun o ho => hr o (List.mem_cons_of_mem _ ho)) (by omega)]
      constructor
      · rintro ⟨st, h, h2⟩
        cases hs2 : stepT st o with
        | none =>
          have h3 := stepT_none (hr o List.mem_cons_self).1 (hr o List.mem_cons_self).2 hs2
          omega
        | some s2 =>
          have h3 := stepT_some hs2
          refine ⟨s2, ?_, by omega⟩
          rw [h, Option.bind_some, runT, hs2]
          rfl
      · rintro ⟨st, h, h2⟩
        cases hs : runT [] r.reverse with
        | none => rw [hs] at h; cases h
        | some s =>
          rw [hs, Option.bind_some, runT] at h
          cases hs2 : stepT s o with
          | none => rw [hs2] at h; cases h
          | some s2 =>
            rw [hs2] at h
            cases h
            have h3 := stepT_some hs2
            exact ⟨s, rfl, by omega⟩
theorem treeF_isSome {ops : List Op} (hr : ∀ o ∈ ops, 0 ≤ o.f0 ∧ o.f0 ≤ 7) : (treeF ops).isSome = shB 1 ops.reverse := by
  rw [Bool.eq_iff_iff, shB_iff ops.reverse 1 (fun o ho => hr o (List.mem_reverse.1 ho)) (by omega), List.reverse_reverse]
  unfold treeF
  constructor
  · intro h
    split at h
    · rename_i t ht
      exact ⟨_, ht, rfl⟩
    · cases h
  · rintro ⟨st, h, h2⟩
    match st, h2 with
    | [t], _ => rw [h]; rfl
end Go.Proofs.Ytdiilocgjnlmiaa.Tre
