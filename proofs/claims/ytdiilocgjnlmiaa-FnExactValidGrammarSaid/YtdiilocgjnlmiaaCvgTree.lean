import Derived.Test.YtdiilocgjnlmiaaCvgTreePop
namespace Go.Proofs.Ytdiilocgjnlmiaa.Tre
open Go.RowKit Go.Proofs.YtdiilocgjnlmiaaW.PrintWords Go.Proofs.YtdiilocgjnlmiaaW.PrintLast Go.Proofs.YtdiilocgjnlmiaaW.PrintMore
open Go.Proofs.Ytdiilocgjnlmiaa.PAll
set_option linter.unusedVariables false
set_option linter.unusedSimpArgs false
inductive Tr where
  | emp | set (s : List Int) | ref (n : Int) | thr (n : Int) | seq (l r : Tr) | alt (l r : Tr) | star (x : Tr) | neg (x : Tr)
/-- the interface value v shows the tree in W -/
def TrV (W : World) : Tr → Value → Prop
  | .emp, v => v = .iface 198 (.agg #[])
  | .set s, v => ∃ A c, v = .iface 200 (.agg #[.slice A s.length c]) ∧ s.length ≤ c ∧ Kd.C (Kd.int .i64) W A s.length s
  | .ref n, v => v = .iface 202 (.agg #[.int .i64 n])
  | .thr n, v => v = .iface 204 (.agg #[.int .i64 n])
  | .seq l r, v => ∃ a b, v = .iface 189 (.agg #[a, b]) ∧ TrV W l a ∧ TrV W r b
  | .alt l r, v => ∃ a b, v = .iface 190 (.agg #[a, b]) ∧ TrV W l a ∧ TrV W r b
  | .star x, v => ∃ a, v = .iface 192 (.agg #[a]) ∧ TrV W x a
  | .neg x, v => ∃ a, v = .iface 193 (.agg #[a]) ∧ TrV W x a
theorem TrV.below {W W' : World} (hb : Below W.heap.size W W') : ∀ {t : Tr} {v : Value}, TrV W t v → TrV W' t v
  | .emp, v, h => h
  | .set s, v, ⟨A, c, h1, h2, h3⟩ => ⟨A, c, h1, h2, Kd.C_below h3 hb⟩
  | .ref n, v, h => h
  | .thr n, v, h => h
  | .seq l r, v, ⟨a, b, h, h1, h2⟩ => ⟨a, b, h, TrV.below hb h1, TrV.below hb h2⟩
  | .alt l r, v, ⟨a, b, h, h1, h2⟩ => ⟨a, b, h, TrV.below hb h1, TrV.below hb h2⟩
  | .star x, v, ⟨a, h, h1⟩ => ⟨a, h, TrV.below hb h1⟩
  | .neg x, v, ⟨a, h, h1⟩ => ⟨a, h, TrV.below hb h1⟩
/-- it is no nil -/
theorem TrV.iface {W : World} : ∀ {t : Tr} {v : Value}, TrV W t v → ∃ T u, v = .iface T u
  | .emp, v, h => ⟨_, _, h⟩
  | .set s, v, ⟨A, c, h, _⟩ => ⟨_, _, h⟩
  | .ref n, v, h => ⟨_, _, h⟩
  | .thr n, v, h => ⟨_, _, h⟩
  | .seq l r, v, ⟨a, b, h, _⟩ => ⟨_, _, h⟩
  | .alt l r, v, ⟨a, b, h, _⟩ => ⟨_, _, h⟩
  | .star x, v, ⟨a, h, _⟩ => ⟨_, _, h⟩
  | .neg x, v, ⟨a, h, _⟩ => ⟨_, _, h⟩
/-- the stack's values (the top last) show the trees (the top first) -/
def SV (W : World) : List Tr → List Value → Prop
  | [], xs => xs = []
  | t :: st, xs => ∃ ys x, xs = ys ++ [x] ∧ TrV W t x ∧ SV W st ys
theorem SV.below {W W' : World} (hb : Below W.heap.size W W') : ∀ {st : List Tr} {xs : List Value}, SV W st xs → SV W' st xs
  | [], xs, h => h
  | t :: st, xs, ⟨ys, x, h, h1, h2⟩ => ⟨ys, x, h, TrV.below hb h1, SV.below hb h2⟩
theorem SV.length {W : World} : ∀ {st : List Tr} {xs : List Value}, SV W st xs → xs.length = st.length
  | [], xs, h => by rw [show xs = [] from h]; rfl
  | t :: st, xs, ⟨ys, x, h, _, h2⟩ => by rw [h, List.length_append, SV.length h2]; rfl
/-- one operation -/
def stepT (st : List Tr) (o : S79) : Option (List Tr) :=
  if o.f0 = 0 then some (.emp :: st) else if o.f0 = 1 then some (.set o.f1 :: st) else if o.f0 = 2 then some (.ref o.f2 :: st) else if o.f0 = 3 then some (.thr o.f2 :: st)
  else if o.f0 = 4 then (match st with | r :: l :: st => some (.seq l r :: st) | _ => none)
  else if o.f0 = 5 then (match st with | r :: l :: st => some (.alt l r :: st) | _ => none)
  else if o.f0 = 6 then (match st with | x :: st => some (.star x :: st) | _ => none)
  else if o.f0 = 7 then (match st with | x :: st => some (.neg x :: st) | _ => none)
  else none
def runT : List Tr → List S79 → Option (List Tr)
  | st, [] => some st
  | st, o :: ops => (stepT st o).bind fun st => runT st ops
def treeF (ops : List S79) : Option Tr := match runT [] ops with | some [t] => some t | _ => none
end Go.Proofs.Ytdiilocgjnlmiaa.Tre
