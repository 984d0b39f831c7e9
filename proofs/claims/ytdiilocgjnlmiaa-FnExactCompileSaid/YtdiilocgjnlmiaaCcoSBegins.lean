/- Lemmas of the proof, and the walks of functions that it stands on. -/
import Derived.Test.YtdiilocgjnlmiaaCcoNullRounds
import Derived.Test.YtdiilocgjnlmiaaCcoPAllx20
import Derived.Test.YtdiilocgjnlmiaaCcoInsSt
import Derived.Test.YtdiilocgjnlmiaaCcoPAllx15
import Derived.Test.YtdiilocgjnlmiaaCcoPAllx1
import Derived.Test.YtdiilocgjnlmiaaCcoPAllx6
import Derived.Test.YtdiilocgjnlmiaaCcoPAllx9
import Derived.Test.YtdiilocgjnlmiaaCcoMarkRules
import Derived.Deep.DeepMust
import Derived.Deep.RegionHeld3
import Derived.Outline
import Derived.Test.YtdiilocgjnlmiaaCcoTreeWalk
import Derived.Maps.OwnOps
import Derived.Maps.Views
import Derived.Test.YtdiilocgjnlmiaaCcoFlat
import Derived.Maps.OwnSet
import Derived.WalkSpells
import Derived.Test.YtdiilocgjnlmiaaCcoWKept
import Derived.Laws.MakeOwn
section
namespace Go.Proofs.Ytdiilocgjnlmiaa.Tre
open Go.RowKit Go.Proofs.YtdiilocgjnlmiaaW.PrintWords Go.Proofs.YtdiilocgjnlmiaaW.PrintLast Go.Proofs.YtdiilocgjnlmiaaW.PrintMore
open Go.Proofs.Ytdiilocgjnlmiaa.PAll
set_option linter.unusedVariables false
set_option linter.unusedSimpArgs false
def szT : Tr → Nat
 | .emp => 0
 | .set _ => 1
 | .ref _ => 1
 | .thr _ => 1
 | .seq l r => szT l + szT r
 | .alt l r => szT l + szT r + 2
 | .star x => szT x + 2
 | .neg x => szT x + 2
def exT (pr pt : Int → Int) : Tr → Nat → List In
 | .emp, _ => []
 | .set s, _ => [⟨0, 0, 0, s⟩]
 | .ref n, _ => [⟨6, 0, pr n, []⟩]
 | .thr n, _ => [⟨8, n, pt n, []⟩]
 | .seq l r, at_ => exT pr pt l at_ ++ exT pr pt r (at_ + szT l)
 | .alt l r, at_ => [⟨1, 0, (at_ + szT l + 2 : Nat), []⟩] ++ exT pr pt l (at_ + 1) ++ [⟨2, 0, (at_ + szT (.alt l r) : Nat), []⟩] ++ exT pr pt r (at_ + szT l + 2)
 | .star x, at_ => [⟨1, 0, (at_ + szT (.star x) : Nat), []⟩] ++ exT pr pt x (at_ + 1) ++ [⟨3, 0, (at_ + 1 : Nat), []⟩]
 | .neg x, at_ => [⟨4, 0, (at_ + szT (.neg x) : Nat), []⟩] ++ exT pr pt x (at_ + 1) ++ [⟨5, 0, 0, []⟩]
theorem exT_len (pr pt : Int → Int) : ∀ (t : Tr) (n : Nat), (exT pr pt t n).length = szT t
 | .emp, n => rfl
 | .set s, n => rfl
 | .ref _, n => rfl
 | .thr _, n => rfl
 | .seq l r, n => by simp only [exT, szT, List.length_append, exT_len]
 | .alt l r, n => by simp only [exT, szT, List.length_append, exT_len, List.length_singleton]; omega
 | .star x, n => by simp only [exT, szT, List.length_append, exT_len, List.length_singleton]; omega
 | .neg x, n => by simp only [exT, szT, List.length_append, exT_len, List.length_singleton]; omega
def aim (pr pt : Int → Int) (x : In) : In := if x.f0 = 6 then ⟨6, x.f1, pr x.f2, x.f3⟩ else if x.f0 = 8 then ⟨8, x.f1, pt x.f2, x.f3⟩ else x
theorem aim_exT (pr pt : Int → Int) : ∀ (t : Tr) (n : Nat), (exT id id t n).map (aim pr pt) = exT pr pt t n
 | .emp, n => rfl
 | .set s, n => rfl
 | .ref _, n => rfl
 | .thr _, n => rfl
 | .seq l r, n => by simp only [exT, List.map_append, aim_exT]
 | .alt l r, n => by simp only [exT, List.map_append, aim_exT]; rfl
 | .star x, n => by simp only [exT, List.map_append, aim_exT]; rfl
 | .neg x, n => by simp only [exT, List.map_append, aim_exT]; rfl
theorem szT_le : ∀ (t : Tr), szT t ≤ 2 * (flat t).length
 | .emp => by simp [szT]
 | .set s => by simp [szT, flat]
 | .ref _ => by simp [szT, flat]
 | .thr _ => by simp [szT, flat]
 | .seq l r => by
  have := szT_le l
  have := szT_le r
  simp only [szT, flat, List.length_append, List.length_singleton]
  omega
 | .alt l r => by
  have := szT_le l
  have := szT_le r
  simp only [szT, flat, List.length_append, List.length_singleton]
  omega
 | .star x => by
  have := szT_le x
  simp only [szT, flat, List.length_append, List.length_singleton]
  omega
 | .neg x => by
  have := szT_le x
  simp only [szT, flat, List.length_append, List.length_singleton]
  omega
def sz1 (o : Op) : Nat := if o.f0 = 1 ∨ o.f0 = 2 ∨ o.f0 = 3 then 1 else if o.f0 = 5 ∨ o.f0 = 6 ∨ o.f0 = 7 then 2 else 0
def szL : List Op → Nat
 | [] => 0
 | o :: l => sz1 o + szL l
theorem szL_app : ∀ (a b : List Op), szL (a ++ b) = szL a + szL b
 | [], b => by simp [szL]
 | o :: a, b => by
  rw [List.cons_append, szL, szL, szL_app a b]
  omega
theorem szL_flat : ∀ (t : Tr), szL (flat t) = szT t
 | .emp => rfl
 | .set s => rfl
 | .ref _ => rfl
 | .thr _ => rfl
 | .seq l r => by
  simp only [flat, szL_app, szL_flat, szT]
  rfl
 | .alt l r => by
  simp only [flat, szL_app, szL_flat, szT]
  show _ + (_ + 2) = _
  omega
 | .star x => by
  simp only [flat, szL_app, szL_flat, szT]
  rfl
 | .neg x => by
  simp only [flat, szL_app, szL_flat, szT]
  rfl
theorem szL_le : ∀ (l : List Op), szL l ≤ 2 * l.length
 | [] => by simp [szL]
 | o :: l => by
  have := szL_le l
  have : sz1 o ≤ 2 := by unfold sz1; split; omega; split <;> omega
  rw [szL, List.length_cons]
  omega
theorem size_l0 : ∀ (post pre : List Op) (k a : Nat), 2 * post.length + 1 ≤ k → pre.length + post.length ≤ 1048576 → a + szL post ≤ 1099511627776 → spec_l4size.l0 k (pre ++ post) (a : Int) (pre.length : Int) = some ((a + szL post : Nat) : Int)
 | [], pre, k, a, hk, hl, ha => by
  obtain ⟨j, rfl⟩ : ∃ j, k = j + 1 := ⟨k - 1, by simp at hk; omega⟩
  rw [spec_l4size.l0, List.append_nil, if_neg (by omega)]
  rfl
 | o :: post, pre, k, a, hk, hl, ha => by
  rw [List.length_cons] at hk hl
  rw [szL] at ha
  obtain ⟨j, rfl⟩ : ∃ j, k = j + 2 := ⟨k - 2, by omega⟩
  have er : rd_T79 (pre ++ o :: post) (pre.length : Int) = o := by
   simp [rd_T79, List.getD_eq_getElem?_getD]
  have ih : ∀ b : Nat, b = a + sz1 o → spec_l4size.l0 j (pre ++ o :: post) (b : Int) ((pre.length + 1 : Nat) : Int) = some ((a + szL (o :: post) : Nat) : Int) := fun b hb => by
   have := size_l0 post (pre ++ [o]) j b (by omega) (by simp; omega) (by rw [hb]; omega)
   rw [List.append_assoc, List.length_append, List.length_singleton] at this
   rw [show pre ++ o :: post = pre ++ ([o] ++ post) from rfl, this, hb, szL, Nat.add_assoc]
  have ep : wrap64 ((pre.length : Int) + 1) = ((pre.length + 1 : Nat) : Int) := by rw [wid (by omega) (by omega)]; omega
  have e1 : wrap64 ((a : Int) + 1) = ((a + 1 : Nat) : Int) := by rw [wid (by omega) (by omega)]; omega
  have e2 : wrap64 ((a : Int) + 2) = ((a + 2 : Nat) : Int) := by rw [wid (by omega) (by omega)]; omega
  rw [spec_l4size.l0, if_pos (by rw [List.length_append, List.length_cons]; omega), if_pos (by omega), er]
  by_cases c1 : o.f0 = 1
  ·rw [if_pos c1, spec_l4size.j1, if_pos rfl, ep, e1, ih _ (by unfold sz1; rw [if_pos (.inl c1)])]
  rw [if_neg c1]
  by_cases c2 : o.f0 = 2
  ·rw [if_pos c2, spec_l4size.j1, if_pos rfl, ep, e1, ih _ (by unfold sz1; rw [if_pos (.inr (.inl c2))])]
  rw [if_neg c2, spec_l4size.j1]
  by_cases c3 : o.f0 = 3
  ·rw [if_pos (by simp [c3]), ep, e1, ih _ (by unfold sz1; rw [if_pos (.inr (.inr c3))])]
  rw [if_neg (by simp [c3])]
  have hn : ¬ (o.f0 = 1 ∨ o.f0 = 2 ∨ o.f0 = 3) := by simp [c1, c2, c3]
  by_cases c5 : o.f0 = 5
  ·rw [if_pos c5, ep, e2, ih _ (by unfold sz1; rw [if_neg hn, if_pos (.inl c5)])]
  rw [if_neg c5]
  by_cases c6 : o.f0 = 6
  ·rw [if_pos c6, ep, e2, ih _ (by unfold sz1; rw [if_neg hn, if_pos (.inr (.inl c6))])]
  rw [if_neg c6]
  by_cases c7 : o.f0 = 7
  ·rw [if_pos c7, ep, e2, ih _ (by unfold sz1; rw [if_neg hn, if_pos (.inr (.inr c7))])]
  rw [if_neg c7, ep, ih _ (by unfold sz1; rw [if_neg hn, if_neg (by simp [c5, c6, c7])]; rfl)]
theorem size_f {l : List Op} {k : Nat} (hk : 2 * l.length + 1 ≤ k) (hl : l.length ≤ 1048576) : spec_l4size.f k l = some (szL l : Int) := by
 have h := szL_le l
 have := size_l0 l [] k 0 hk (by simpa using hl) (by omega)
 rw [Nat.zero_add] at this
 exact this
def szO : Option Tr → Nat
 | none => 0
 | some t => 3 + szT t
def begN (Ts : List (Option Tr)) : Nat → Nat
 | 0 => 2
 | i + 1 => begN Ts i + szO (tr Ts i)
def plc (Ts : List (Option Tr)) (i : Nat) : Int := if (tr Ts i).isSome = true then (begN Ts i : Int) else -1
section
variable {Rs : List Ru} {Ls : List La}
theorem szO_body (h : Nice Rs Ls) {i : Nat} (hi : i < Rs.length + Ls.length) : szO (tr (trees Rs Ls) i) = if (bodyN Rs Ls i).length > 0 then 3 + szL (bodyN Rs Ls i) else 0 := by
 rcases h.body i hi with ⟨e1, e2⟩ | ⟨x, e1, e2, _, _⟩
 ·rw [e2, e1]; rfl
 rw [e1, e2, szL_flat, if_pos (flat_pos x)]
 rfl
theorem body_le (h : Nice Rs Ls) {i : Nat} (hi : i < Rs.length + Ls.length) : (bodyN Rs Ls i).length ≤ 2000 := by
 rcases h.body i hi with ⟨e1, e2⟩ | ⟨x, e1, e2, _, h4⟩
 ·rw [e1]; simp
 rw [e2]; exact h4
theorem begN_le (h : Nice Rs Ls) : ∀ i, i ≤ Rs.length + Ls.length → begN (trees Rs Ls) i ≤ 2 + 4003 * i
 | 0, _ => by simp [begN]
 | i + 1, hi => by
  have ih := begN_le h i (by omega)
  have h1 := szO_body h (i := i) (by omega)
  have h2 := body_le h (i := i) (by omega)
  have h3 := szL_le (bodyN Rs Ls i)
  rw [begN, h1]
  split <;> omega
theorem place_l0 (h : Nice Rs Ls) {n : Nat} (hn : n ≤ Rs.length + Ls.length) (F : Nat) (hF : 4002 ≤ F) (d : Nat) : ∀ (k i : Nat), i + d = n → d + F ≤ k → spec_l4place.l0 k (n : Int) (begN (trees Rs Ls) i : Int) (i : Int) Rs Ls = some (begN (trees Rs Ls) n : Int) := by
 induction d with
 | zero =>
  intro k i h1 h2
  obtain ⟨j, rfl⟩ : ∃ j, k = j + 1 := ⟨k - 1, by omega⟩
  obtain rfl : i = n := by omega
  rw [spec_l4place.l0, if_neg (by omega)]
 | succ d ih0 =>
  intro k i h1 h2
  obtain ⟨j, rfl⟩ : ∃ j, k = j + 1 := ⟨k - 1, by omega⟩
  have hr := h.r
  have hl := h.l
  have hb := body_le h (i := i) (by omega)
  have hb2 := szL_le (bodyN Rs Ls i)
  have hg := begN_le h i (by omega)
  have hs := szO_body h (i := i) (by omega)
  have ih := ih0 j (i + 1) (by omega) (by omega)
  have hi : i < Rs.length + Ls.length := by omega
  have ep : Aside0 (wrap64 ((i : Int) + 1) = ((i + 1 : Nat) : Int)) := ⟨by rw [wid (by omega) (by omega)]; omega⟩
  have eb := body_f h hi
  rw [spec_l4place.l0, if_pos (by omega), eb, Option.bind_some, ep.out]
  by_cases c : (bodyN Rs Ls i).length > 0
  ·rw [if_pos c] at hs
   have e1 : Aside0 (spec_l4size.f j (bodyN Rs Ls i) = some (szL (bodyN Rs Ls i) : Int)) := ⟨size_f (by omega) (by omega)⟩
   have e2 : Aside0 (wrap64 (3 + (szL (bodyN Rs Ls i) : Int)) = 3 + (szL (bodyN Rs Ls i) : Int)) := ⟨wid (by omega) (by omega)⟩
   have e3 : Aside0 (wrap64 ((begN (trees Rs Ls) i : Int) + (3 + (szL (bodyN Rs Ls i) : Int))) = (begN (trees Rs Ls) i : Int) + (3 + (szL (bodyN Rs Ls i) : Int))) := ⟨wid (by omega) (by omega)⟩
   rw [if_pos (by omega), Option.bind_some, e1.out, Option.bind_some, e2.out, e3.out]
   rw [show ((begN (trees Rs Ls) i : Int) + (3 + (szL (bodyN Rs Ls i) : Int))) = ((begN (trees Rs Ls) (i + 1) : Nat) : Int) by rw [begN, hs]; omega]
   exact ih
  rw [if_neg c] at hs
  rw [if_neg (by omega)]
  rw [show begN (trees Rs Ls) (i + 1) = begN (trees Rs Ls) i by rw [begN, hs]; rfl] at ih
  exact ih
theorem place_f (h : Nice Rs Ls) {i : Nat} (hi : i < Rs.length + Ls.length) : spec_l4place.f 6000 Rs Ls (i : Int) = some (plc (trees Rs Ls) i) := by
 have hr := h.r
 have hl := h.l
 rw [spec_l4place.f, body_f h hi, Option.bind_some]
 rcases h.body i hi with ⟨e1, e2⟩ | ⟨x, e1, e2, _, h4⟩
 ·rw [e1, if_pos (by simp), plc, e2]
  rfl
 have := flat_pos x
 rw [e2, if_neg (by omega), plc, e1, if_pos (by rfl)]
 exact place_l0 h (by omega) 4002 (Nat.le_refl _) i 6000 0 (by omega) (by omega)
end
end Go.Proofs.Ytdiilocgjnlmiaa.Tre
end
section
namespace Go.Proofs.Ytdiilocgjnlmiaa.Tre
open Go.RowKit Go.Proofs.YtdiilocgjnlmiaaW.PrintWords Go.Proofs.YtdiilocgjnlmiaaW.PrintLast Go.Proofs.YtdiilocgjnlmiaaW.PrintMore
open Go.Proofs.Ytdiilocgjnlmiaa.PAll
set_option linter.unusedVariables false
set_option linter.unusedSimpArgs false
structure GrC (W : World) (A0 : Option Addr) (c0 : Nat) (A1 : Option Addr) (c1 : Nat) (Rs : List Ru) (Ls : List La) : Prop where
 r : Kd.C k68 W A0 Rs.length Rs
 rc : Rs.length ≤ c0
 l : Kd.C k72 W A1 Ls.length Ls
 lc : Ls.length ≤ c1
theorem GrC.below {W W' : World} {A0 A1 : Option Addr} {c0 c1 : Nat} {Rs : List Ru} {Ls : List La} (h : GrC W A0 c0 A1 c1 Rs Ls) (hb : Below W.heap.size W W') : GrC W' A0 c0 A1 c1 Rs Ls := ⟨Kd.C_below h.r hb, h.rc, Kd.C_below h.l hb, h.lc⟩
theorem grc_of_R {W : World} {B : Nat} {ok ok' : Nat → Prop} {v0 v1 : Value} {Rs : List Ru} {Ls : List La} (h0 : Kd.R k68 68 W B ok v0 Rs) (h1 : Kd.R k72 72 W B ok' v1 Ls) : ∃ A0 c0 A1 c1, v0 = .slice A0 Rs.length c0 ∧ v1 = .slice A1 Ls.length c1 ∧ GrC W A0 c0 A1 c1 Rs Ls := by
 obtain ⟨A0, c0, e0, l0, r0⟩ := Kd.R_reads h0
 obtain ⟨A1, c1, e1, l1, r1⟩ := Kd.R_reads h1
 exact ⟨A0, c0, A1, c1, e0, e1, ⟨r0, l0, r1, l1⟩⟩
def TruePost (w : World) (e : Ending) (w' : World) : Prop := e = .returned (.bool true) ∧ Below w.heap.size w w'
theorem eq_in {W : World} {A0 A1 B0 B1 : Option Addr} {c0 c1 d0 d1 : Nat} {Rs : List Ru} {Ls : List La} (h : GrC W A0 c0 A1 c1 Rs Ls) (g : GrC W B0 d0 B1 d1 Rs Ls) (hR : ssRs Rs) (hL : ssLs Ls) :
 Calls Try.prog 14 #[.agg #[.slice A0 Rs.length c0, .slice A1 Ls.length c1], .agg #[.slice B0 Rs.length d0, .slice B1 Ls.length d1]] W (TruePost W) :=
 (laws_eqGrammar.calls 3200001 A0 c0 Rs A1 c1 Ls B0 d0 Rs B1 d1 Ls true W h.r h.rc h.l h.lc g.r g.rc g.l g.lc (eqGrammar_f Rs Ls hR hL _ (by omega))).mono fun e w' h => h
end Go.Proofs.Ytdiilocgjnlmiaa.Tre
end
section
namespace Go.Proofs.Ytdiilocgjnlmiaa.Tre
open Go.RowKit Go.Proofs.YtdiilocgjnlmiaaW.PrintWords Go.Proofs.YtdiilocgjnlmiaaW.PrintLast Go.Proofs.YtdiilocgjnlmiaaW.PrintMore
open Go.Proofs.Ytdiilocgjnlmiaa.PAll
set_option linter.unusedVariables false
set_option linter.unusedSimpArgs false
inductive Rch (E : Nat → List Nat) : Nat → Nat → Prop
 | one {a b : Nat} : b ∈ E a → Rch E a b
 | more {a b c : Nat} : Rch E a b → c ∈ E b → Rch E a c
def uns : List Bool → Nat
 | [] => 0
 | b :: l => (if b = true then 0 else 1) + uns l
structure Df (E : Nat → List Nat) (n st : Nat) (s : Bool × List Bool) (xs : List Nat) (s' : Bool × List Bool) : Prop where
 len : s'.2.length = n
 le : LeM s.2 s'.2
 un : uns s'.2 ≤ uns s.2
 got : ∀ x ∈ xs, mkd s'.2 x = true
 clo : ∀ x, mkd s'.2 x = true → mkd s.2 x = true ∨ ∀ y ∈ E x, mkd s'.2 y = true
 fnd : (mkd s.2 st = true → s.1 = true) → mkd s'.2 st = true → s'.1 = true
 so : ∀ P : Nat → Prop, (∀ a b, P a → b ∈ E a → P b) → (∀ x ∈ xs, P x) → (s.1 = true → P st) → s'.1 = true → P st
theorem Df.trans {E : Nat → List Nat} {n st : Nat} {s s1 s2 : Bool × List Bool} {m : Nat} {xs : List Nat} (h1 : Df E n st s [m] s1) (h2 : Df E n st s1 xs s2) : Df E n st s (m :: xs) s2 :=
 ⟨h2.len, fun k hk => h2.le k (h1.le k hk), Nat.le_trans h2.un h1.un, fun x hx => by
  rcases List.mem_cons.1 hx with rfl | hx
  ·exact h2.le _ (h1.got _ (List.mem_singleton.2 rfl))
  ·exact h2.got x hx, fun x hx => by
  rcases h2.clo x hx with h | h
  ·rcases h1.clo x h with h | h
   ·exact .inl h
   exact .inr fun y hy => h2.le y (h y hy)
  exact .inr h, fun h hs => h2.fnd (h1.fnd h) hs, fun P hc hp h0 h3 => h2.so P hc (fun x hx => hp x (List.mem_cons_of_mem _ hx)) (h1.so P hc (fun x hx => hp x (by rw [List.mem_singleton.1 hx]; exact List.mem_cons_self)) h0) h3⟩
theorem Rch.trans {E : Nat → List Nat} {a b c : Nat} (h1 : Rch E a b) (h2 : Rch E b c) : Rch E a c := by
 induction h2 with
 | one h => exact .more h1 h
 | more _ h ih => exact .more ih h
end Go.Proofs.Ytdiilocgjnlmiaa.Tre
end
section
namespace Go.Proofs.Ytdiilocgjnlmiaa.Tre
open Go.RowKit Go.Proofs.YtdiilocgjnlmiaaW.PrintWords Go.Proofs.YtdiilocgjnlmiaaW.PrintLast Go.Proofs.YtdiilocgjnlmiaaW.PrintMore
open Go.Proofs.Ytdiilocgjnlmiaa.PAll
set_option linter.unusedVariables false
set_option linter.unusedSimpArgs false
structure MkV (W : World) (A : Option Addr) (c : Nat) (m : List Bool) : Prop where
 cells : Kd.C Kd.bool W A m.length m
 cap : m.length ≤ c
theorem MkV.below {W W' : World} {A : Option Addr} {c : Nat} {m : List Bool} (h : MkV W A c m) (hb : Below W.heap.size W W') : MkV W' A c m := ⟨Kd.C_below h.cells hb, h.cap⟩
theorem MkV.at {W : World} {A : Option Addr} {c : Nat} {m : List Bool} (h : MkV W A c m) {i : Nat} (hi : i < m.length) : ∃ ad, A = some ad ∧ W.cell? (ad.add i) = some (.bool (mkd m i)) := by
 obtain ⟨ad, e, hc⟩ := Kd.at_bool h.cells (i : Int) (by omega) (by omega)
 rw [rdOf_mkd rfl] at hc
 exact ⟨ad, e, by simpa using hc⟩
theorem ta_gen {P : Program} (S X : TypeId) (ut : TypeDesc) (hu : P.underlying S = some ut) (hni : ∀ ms, ut ≠ .interface ms) (z : Value) (hz : ∀ w, (zeroValue S).run P w = .ok z w) (T : TypeId) (u : Value) (w : World) :
 (Instr.typeAssert (.iface T u) X S true).run P w = .ok (if T = S then .tuple #[u, .bool true] else .tuple #[z, .bool false]) w := by
 unfold Instr.typeAssert
 simp only [Sem.run_bind, run_underlying hu, Result.andThen_ok]
 cases ut <;> first | (exact absurd rfl (hni _)) | skip
 all_goals
  by_cases h : T = S
  ·simp [h]
  simp [h, hz]
theorem ta_set (T : TypeId) (u : Value) (w : World) : (Instr.typeAssert (.iface T u) 127 200 true).run Try.prog w = .ok (if T = 200 then .tuple #[u, .bool true] else .tuple #[.agg #[.slice none 0 0], .bool false]) w :=
 ta_gen _ _ _ Try.underlying200 (by intro ms h; cases h) _ (fun _ => by kernel_rfl) T u w
theorem ta_ref (T : TypeId) (u : Value) (w : World) : (Instr.typeAssert (.iface T u) 127 202 true).run Try.prog w = .ok (if T = 202 then .tuple #[u, .bool true] else .tuple #[.agg #[.int .i64 0], .bool false]) w :=
 ta_gen _ _ _ Try.underlying202 (by intro ms h; cases h) _ (fun _ => by kernel_rfl) T u w
theorem ta_thr (T : TypeId) (u : Value) (w : World) : (Instr.typeAssert (.iface T u) 127 204 true).run Try.prog w = .ok (if T = 204 then .tuple #[u, .bool true] else .tuple #[.agg #[.int .i64 0], .bool false]) w :=
 ta_gen _ _ _ Try.underlying204 (by intro ms h; cases h) _ (fun _ => by kernel_rfl) T u w
theorem ta_seq (T : TypeId) (u : Value) (w : World) : (Instr.typeAssert (.iface T u) 127 189 true).run Try.prog w = .ok (if T = 189 then .tuple #[u, .bool true] else .tuple #[.agg #[.nilIface, .nilIface], .bool false]) w :=
 ta_gen _ _ _ Try.underlying189 (by intro ms h; cases h) _ (fun _ => by kernel_rfl) T u w
theorem ta_alt (T : TypeId) (u : Value) (w : World) : (Instr.typeAssert (.iface T u) 127 190 true).run Try.prog w = .ok (if T = 190 then .tuple #[u, .bool true] else .tuple #[.agg #[.nilIface, .nilIface], .bool false]) w :=
 ta_gen _ _ _ Try.underlying190 (by intro ms h; cases h) _ (fun _ => by kernel_rfl) T u w
theorem ta_star (T : TypeId) (u : Value) (w : World) : (Instr.typeAssert (.iface T u) 127 192 true).run Try.prog w = .ok (if T = 192 then .tuple #[u, .bool true] else .tuple #[.agg #[.nilIface], .bool false]) w :=
 ta_gen _ _ _ Try.underlying192 (by intro ms h; cases h) _ (fun _ => by kernel_rfl) T u w
theorem ta_neg (T : TypeId) (u : Value) (w : World) : (Instr.typeAssert (.iface T u) 127 193 true).run Try.prog w = .ok (if T = 193 then .tuple #[u, .bool true] else .tuple #[.agg #[.nilIface], .bool false]) w :=
 ta_gen _ _ _ Try.underlying193 (by intro ms h; cases h) _ (fun _ => by kernel_rfl) T u w
def OV (W : World) : Option Tr → Value → Prop
 | none, v => v = .nilIface
 | some t, v => TrV W t v
theorem OV.below {W W' : World} {o : Option Tr} {v : Value} (h : OV W o v) (hb : Below W.heap.size W W') : OV W' o v := by
 cases o with
 | none => exact h
 | some t => exact TrV.below hb h
theorem OV.one {W : World} {o : Option Tr} {v : Value} (h : OV W o v) : v = .nilIface ∨ ∃ T u, v = .iface T u := by
 cases o with
 | none => exact .inl h
 | some t => exact .inr (TrV.iface h)
end Go.Proofs.Ytdiilocgjnlmiaa.Tre
end
section
namespace Go.Proofs.Ytdiilocgjnlmiaa.Tre
open Go.RowKit Go.Proofs.YtdiilocgjnlmiaaW.PrintWords Go.Proofs.YtdiilocgjnlmiaaW.PrintLast Go.Proofs.YtdiilocgjnlmiaaW.PrintMore
open Go.Proofs.Ytdiilocgjnlmiaa.PAll
set_option linter.unusedVariables false
set_option linter.unusedSimpArgs false
def TsL (W : World) (ts : List (Option Tr)) (i : Nat) (xs : List Value) : Prop := ∀ j, j < i → ∃ u, xs[j]? = some u ∧ OV W (tr ts j) u
theorem TsL.below {W W' : World} {ts : List (Option Tr)} {i : Nat} {xs : List Value} (h : TsL W ts i xs) (hb : Below W.heap.size W W') : TsL W' ts i xs := fun j hj => by
 obtain ⟨u, h1, h2⟩ := h j hj
 exact ⟨u, h1, h2.below hb⟩
structure TsV (W : World) (A : Option Addr) (c : Nat) (ts : List (Option Tr)) : Prop where
 get : ∀ j, j < ts.length → ∃ ad u, A = some ad ∧ W.cell? (ad.add j) = some u ∧ OV W (tr ts j) u
 cap : ts.length ≤ c
theorem TsV.below {W W' : World} {A : Option Addr} {c : Nat} {ts : List (Option Tr)} (h : TsV W A c ts) (hb : Below W.heap.size W W') : TsV W' A c ts := ⟨fun j hj => by
 obtain ⟨ad, u, h1, h2, h3⟩ := h.get j hj
 exact ⟨ad, u, h1, pw_cell_below hb h2, h3.below hb⟩, h.cap⟩
structure GoSt (w0 w W : World) (B : Nat) (R : Int) (ts : List (Option Tr)) (v : Value) (xs : List Value) (i : Nat) : Prop where
 box : W.heap[B]? = some (.cells #[v, .int .i64 R] 116 (0, 0))
 own : W.ownsRow w.heap.size 127 1 v i xs
 row : TsL w0 ts i xs
 bel : Below w.heap.size w W
theorem GoSt.below {w0 w W W' : World} {B : Nat} {R : Int} {ts : List (Option Tr)} {v : Value} {xs : List Value} {i : Nat} (h : GoSt w0 w W B R ts v xs i) (hb : Below W.heap.size W W') : GoSt w0 w W' B R ts v xs i :=
 ⟨blk_below h.box hb, own_same h.own (fun b _ hl => hb.block b hl), h.row, below_then h.bel h.bel.size hb⟩
theorem ov_of_post {w0 w w' : World} {ops : List Op} {e : Ending} (h : TreePost w0 w ops e w') : ∃ v b, e = .returned (.tuple #[v, .bool b]) ∧ OV w0 (treeF ops) v ∧ Below w.heap.size w w' := by
 obtain ⟨v, b, h1, h2, _, h4, h5⟩ := h
 refine ⟨v, b, h1, ?_, h2⟩
 cases ht : treeF ops with
 | none => exact h4 ht
 | some t => exact h5 t ht
structure GOK (Rs : List Ru) (Ls : List La) : Prop where
 rt : ∀ i, i < Rs.length → ∃ t, treeF (ru Rs i).f1 = some t
 lt : ∀ j, j < Ls.length → (la Ls j).f1 = true → ∃ t, treeF (la Ls j).f2 = some t
 ln : ∀ j, j < Ls.length → (la Ls j).f1 = false → (la Ls j).f2 = []
theorem Valid.gok {Rs : List Ru} {Ls : List La} (h : Valid Rs Ls) : GOK Rs Ls := by
 refine ⟨fun i hi => ?_, fun j hj hh => ?_, fun j hj hh => List.length_eq_zero_iff.1 ((h.labels j hj).none hh)⟩
 ·obtain ⟨x, h1, _⟩ := body_tree (h.rules i hi).body
  exact ⟨x, h1⟩
 obtain ⟨x, h1, _⟩ := body_tree ((h.labels j hj).body hh)
 exact ⟨x, h1⟩
theorem tr_ru {Rs : List Ru} {Ls : List La} {i : Nat} (hi : i < Rs.length) {t : Tr} (h : treeF (ru Rs i).f1 = some t) : tr (trees Rs Ls) i = some t := by rw [tr_trees (by omega), bodyN_ru hi]; exact h
theorem tr_la {Rs : List Ru} {Ls : List La} {j : Nat} (hj : j < Ls.length) : tr (trees Rs Ls) (Rs.length + j) = treeF (la Ls j).f2 := by rw [tr_trees (by omega), bodyN_la hj]
end Go.Proofs.Ytdiilocgjnlmiaa.Tre
end
section
namespace Go.Proofs.Ytdiilocgjnlmiaa.Tre
open Go.RowKit Go.Proofs.YtdiilocgjnlmiaaW.PrintWords Go.Proofs.YtdiilocgjnlmiaaW.PrintLast Go.Proofs.YtdiilocgjnlmiaaW.PrintMore
open Go.Proofs.Ytdiilocgjnlmiaa.PAll Go.Maps
set_option linter.unusedVariables false
def MapB (P : Program) (w : World) (K E : TypeId) (b n : Nat) (f : Lit → Bool) : Prop :=
 ∃ D : DataW Unit, w.ownsMap P K (plainElem P E) b n D ∧ IsMap D ∧ ∀ k, WideAt.IsKeyLit k → D.atKey k (.lit (.bool false)) = .lit (.bool (f k))
section
variable {P : Program} {w : World} {K E : TypeId} {b n : Nat} {f : Lit → Bool}
theorem MapB.made (P : Program) (w : World) (K E : TypeId) : MapB P (w.alloc (.map #[] 0)) K E w.heap.size 0 (fun _ => false) :=
 ⟨.map [], World.ownsMap_made w P K _, isMap_empty, fun k _ => rfl⟩
theorem MapB.lt (h : MapB P w K E b n f) : b < w.heap.size := by
 obtain ⟨D, h, _⟩ := h
 exact h.lt
theorem MapB.kept {w' : World} {row : Option Nat} (h : MapB P w K E b n f) (hg : w.grownBy w' row) (hne : some b ≠ row) : MapB P w' K E b n f := by
 obtain ⟨D, h, h2⟩ := h
 exact ⟨D, h.kept hg hne, h2⟩
theorem MapB.alloc (h : MapB P w K E b n f) (o : Obj) : MapB P (w.alloc o) K E b n f := h.kept (World.grownBy_alloc w o none) (by simp)
theorem MapB.step {w' : World} (h : MapB P w K E b n f) (hb : w'.heap[b]? = w.heap[b]?) : MapB P w' K E b n f := by
 obtain ⟨D, ⟨es, clock, h1, h2⟩, h3⟩ := h
 exact ⟨D, ⟨es, clock, hb.trans h1, h2⟩, h3⟩
theorem MapB.drewN (h : MapB P w K E b n f) (k : Nat) : MapB P (w.drewN k) K E b n f := h.step rfl
theorem MapB.below {w' : World} (h : MapB P w K E b n f) (hb : Below w.heap.size w w') : MapB P w' K E b n f := h.step (hb.block b h.lt)
theorem MapB.setCell (h : MapB P w K E b n f) {p : Addr} (hp : b ≠ p.block) (u : Value) : MapB P (w.setCell p u) K E b n f := h.step (Below.heap_setCell _ _ _ _ hp)
theorem MapB.mono (h : MapB P w K E b n f) {m : Nat} (hm : n ≤ m) : MapB P w K E b m f := by
 obtain ⟨D, h, h2⟩ := h
 exact ⟨D, h.mono hm, h2⟩
theorem bool_inv (he : P.underlying E = some .bool) {v : Value} {z : DataW Unit × List MemPlace} (h : plainElem P E v = some z) : ∃ a, v = .bool a ∧ z = (.lit (.bool a), []) := by
 unfold plainElem at h
 rw [he] at h
 cases v <;> simp at h
 exact ⟨_, rfl, h.symm⟩
theorem MapB.look (h : MapB P w K E b n f) (hK : Keyed P K) {t : TypeId} (ht : P.underlying t = some (.map K E)) (he : P.underlying E = some .bool) (hz : (zeroValue E).run P w = .ok (.bool false) w)
 {key : Value} {kl : Lit} (hkey : keyOf P K key = some kl) : (Instr.lookup t (.map (some b)) key false).run P w = .ok (.bool (f kl)) w := by
 obtain ⟨D, h1, h2, h3⟩ := h
 obtain ⟨v, ps, hrun, hv⟩ := h1.lookup hK ht hz (plainElem_bool he false) hkey
 obtain ⟨a, rfl, hz'⟩ := bool_inv he hv
 rw [h3 kl (hK.key hkey)] at hz'
 simp only [Prod.mk.injEq, DataW.lit.injEq, Lit.bool.injEq] at hz'
 rw [hrun, hz'.1]
theorem mapB_look {ops : Array Oper} {rest : List Oper} {o : Oper} {a : Act} {Q : Exit → Act → World → Prop} (h : MapB P w K E b n f) (hK : Keyed P K) (hg : o.guard = none) (m x : Operand) (t : TypeId) (hop : o.op = Op.lookup t m x false)
 (ht : P.underlying t = some (.map K E)) (he : P.underlying E = some .bool) (hz : (zeroValue E).run P w = .ok (.bool false) w)
 (hm : a.eval m = .map (some b)) (key : Value) (hx : a.eval x = key) (kl : Lit) (hkey : keyOf P K key = some kl) (r : Bool) (hr : f kl = r)
 (h' : wpList P ops Q rest (a.put o.dst (.bool r)) w) : wpList P ops Q (o :: rest) a w := by
 refine wpList_plain hg fun K' hK' => ?_
 have hrun := h.look hK ht he hz hkey
 unfold Oper.wp
 simp [execOp, hop, hm, hx, hrun, Result.andThen]
 rw [hr]
 exact hK' _ _ h'
theorem mapB_put {ops : Array Oper} {rest : List Oper} {o : Oper} {a : Act} {Q : Exit → Act → World → Prop} (h : MapB P w K E b n f) (hK : Keyed P K) (hg : o.guard = none) (m x v : Operand) (t : TypeId) (hop : o.op = Op.mapUpdate t m x v)
 (ht : P.underlying t = some (.map K E)) (he : P.underlying E = some .bool) (hm : a.eval m = .map (some b)) (hn : n < maxLen) (key : Value) (hx : a.eval x = key) (hv : a.eval v = .bool true) (kl : Lit) (hkey : keyOf P K key = some kl)
 (f' : Lit → Bool) (hf : ∀ k, f' k = true ↔ k = kl ∨ f k = true)
 (h' : ∀ w', MapB P w' K E b (n + 1) f' → w.grownBy w' (some b) → wpList P ops Q rest (a.put o.dst undef) w') : wpList P ops Q (o :: rest) a w := by
 obtain ⟨D, h1, h2, h3⟩ := h
 refine wpList_mapUpdate_own w hg m x v t hop K E hK ht (plainElem P E) b n D hm h1 hn key _ kl hx hv hkey (.lit (.bool true)) [] (plainElem_bool he true) fun w' g1 g2 => h' w' ⟨_, g1, ?_, fun k hk => ?_⟩ g2
 ·obtain ⟨es, rfl⟩ := h2
  exact ⟨_, rfl⟩
 by_cases e : k = kl
 ·subst e
  rw [atKey_put_same h2 hk, (hf k).2 (Or.inl rfl)]
 rw [atKey_put_other e, h3 k hk]
 congr 2
 rw [Bool.eq_iff_iff, hf k]
 exact ⟨Or.inr, fun h => h.resolve_left e⟩
end
end Go.Proofs.Ytdiilocgjnlmiaa.Tre
end
section
namespace Go.Proofs.Ytdiilocgjnlmiaa.Tre
open Go.RowKit Go.Proofs.YtdiilocgjnlmiaaW.PrintWords Go.Proofs.YtdiilocgjnlmiaaW.PrintLast Go.Proofs.YtdiilocgjnlmiaaW.PrintMore
open Go.Proofs.Ytdiilocgjnlmiaa.PAll Go.Maps
set_option linter.unusedVariables false
set_option linter.unusedSimpArgs false
structure VS (w W : World) (gA gB : Value) (t n m : Nat) (sn th : Lit → Bool) : Prop where
 g0 : W.cell? ⟨w.heap.size, 0, none⟩ = some gA
 g1 : W.cell? ⟨w.heap.size, 1, none⟩ = some gB
 ops : Boxed W (w.heap.size + 1) 3 (.int .i64 (t : Int))
 seen : MapB Try.prog W 9 4 (w.heap.size + 1 + 1) n sn
 thr : MapB Try.prog W 3 4 (w.heap.size + 1 + 1 + 1) m th
 tbox : Boxed W (w.heap.size + 1 + 1 + 1 + 1) 77 (.map (some (w.heap.size + 1 + 1 + 1)))
 bel : Below w.heap.size w W
theorem VS.step {w W W' : World} {gA gB : Value} {t n m : Nat} {sn th : Lit → Bool} (h : VS w W gA gB t n m sn th) (hb : Below W.heap.size W W') : VS w W' gA gB t n m sn th :=
 ⟨pw_cell_below hb h.g0, pw_cell_below hb h.g1, (hb.block _ h.ops.lt).trans h.ops, h.seen.below hb, h.thr.below hb, (hb.block _ h.tbox.lt).trans h.tbox, below_then h.bel h.bel.size hb⟩
theorem VS.alloc {w W : World} {gA gB : Value} {t n m : Nat} {sn th : Lit → Bool} (h : VS w W gA gB t n m sn th) (o : Obj) : VS w (W.alloc o) gA gB t n m sn th := h.step (below_alloc (Below.refl _ _) o)
theorem VS.drewN {w W : World} {gA gB : Value} {t n m : Nat} {sn th : Lit → Bool} (h : VS w W gA gB t n m sn th) (k : Nat) : VS w (W.drewN k) gA gB t n m sn th := h.step (pw_below_drewN (Below.refl _ _) k)
theorem VS.add {w W : World} {gA gB : Value} {t n m : Nat} {sn th : Lit → Bool} (h : VS w W gA gB t n m sn th) (k : Nat) (v : Value) (hv : v = .int .i64 ((t + k : Nat) : Int)) : VS w (W.setCell ⟨w.heap.size + 1, 0, none⟩ v) gA gB (t + k) n m sn th := by
 subst hv
 have hl := h.ops.lt
 have c0 : ∀ j, (W.setCell ⟨w.heap.size + 1, 0, none⟩ (.int .i64 ((t + k : Nat) : Int))).cell? ⟨w.heap.size, j, none⟩ = W.cell? ⟨w.heap.size, j, none⟩ := fun j => World.cell?_of_block (Below.heap_setCell _ _ _ _ (by simp <;> omega))
 exact ⟨(c0 0).trans h.g0, (c0 1).trans h.g1, h.ops.set _, h.seen.setCell (by simp <;> omega) _, h.thr.setCell (by simp <;> omega) _, (Below.heap_setCell _ _ _ _ (by simp <;> omega)).trans h.tbox, h.bel.setCell (by simp <;> omega) _⟩
theorem VS.throw {w W W' : World} {gA gB : Value} {t n m : Nat} {sn th th' : Lit → Bool} (h : VS w W gA gB t n m sn th) (hm : MapB Try.prog W' 3 4 (w.heap.size + 1 + 1 + 1) (m + 1) th') (hg : W.grownBy W' (some (w.heap.size + 1 + 1 + 1))) : VS w W' gA gB t n (m + 1) sn th' := by
 have hl := h.thr.lt
 have c0 : ∀ j, W'.cell? ⟨w.heap.size, j, none⟩ = W.cell? ⟨w.heap.size, j, none⟩ := fun j => World.cell?_of_block (hg.block _ (by simp <;> omega) (by simp <;> omega))
 exact ⟨(c0 0).trans h.g0, (c0 1).trans h.g1, h.ops.kept hg (by simp <;> omega), h.seen.kept hg (by simp <;> omega), hm, h.tbox.kept hg (by simp <;> omega), h.bel.grown hg h.bel.size (fun k hk => by cases hk; omega)⟩
theorem VS.see {w W W' : World} {gA gB : Value} {t n m : Nat} {sn sn' th : Lit → Bool} (h : VS w W gA gB t n m sn th) (hm : MapB Try.prog W' 9 4 (w.heap.size + 1 + 1) (n + 1) sn') (hg : W.grownBy W' (some (w.heap.size + 1 + 1))) : VS w W' gA gB t (n + 1) m sn' th := by
 have hl := h.seen.lt
 have c0 : ∀ j, W'.cell? ⟨w.heap.size, j, none⟩ = W.cell? ⟨w.heap.size, j, none⟩ := fun j => World.cell?_of_block (hg.block _ (by simp <;> omega) (by simp <;> omega))
 exact ⟨(c0 0).trans h.g0, (c0 1).trans h.g1, h.ops.kept hg (by simp <;> omega), hm, h.thr.kept hg (by simp <;> omega), h.tbox.kept hg (by simp <;> omega), h.bel.grown hg h.bel.size (fun k hk => by cases hk; omega)⟩
theorem wf64 {q : Int} (h0 : 0 ≤ q) (h1 : q ≤ 1099511627776) : (Lit.int .i64 q).wf = true := by
 have e1 : IntKind.i64.min = -9223372036854775808 := by decide
 have e2 : IntKind.i64.max = 9223372036854775807 := by decide
 simp [Lit.wf, e1, e2]
 omega
def thF (th : Lit → Bool) (ops : List Op) : Lit → Bool
 | .int .i64 a => th (.int .i64 a) || throwsB ops a
 | k => th k
def MarkPost (w : World) (gA gB : Value) (t n m : Nat) (sn th : Lit → Bool) (e : Ending) (W : World) : Prop := ∃ v m', e = .returned v ∧ m' ≤ m ∧ VS w W gA gB t n m' sn th
theorem keyI : Keyed Try.prog 3 := int_keyed Try.underlying3
theorem keyS : Keyed Try.prog 9 := string_keyed Try.underlying9
theorem thF_nil (th : Lit → Bool) : thF th [] = th := by
 funext k
 unfold thF throwsB
 split <;> simp
theorem thF_snoc (th : Lit → Bool) (ops : List Op) (o : Op) (h : o.f0 ≠ 3) : thF th (ops ++ [o]) = thF th ops := by
 funext k
 unfold thF throwsB
 split <;> simp [h]
theorem thF_put (th : Lit → Bool) (ops : List Op) (o : Op) (h : o.f0 = 3) (k : Lit) : thF th (ops ++ [o]) k = true ↔ k = .int .i64 o.f2 ∨ thF th ops k = true := by
 unfold thF throwsB
 split
 ·rename_i a
  simp only [List.any_append, List.any_cons, List.any_nil, h, Bool.or_eq_true, Bool.or_false, decide_eq_true_eq, Lit.int.injEq, true_and]
  constructor
  ·rintro (h | h | h)
   ·exact .inr (.inl h)
   ·exact .inr (.inr h)
   exact .inl h.symm
  rintro (h | h | h)
  ·exact .inr (.inr h.symm)
  ·exact .inl h
  exact .inr (.inl h)
 rename_i hk
 constructor
 ·exact .inr
 rintro (h | h)
 ·exact absurd h (hk _)
 exact h
set_option maxRecDepth 100000 in
set_option maxHeartbeats 8000000 in
theorem mark_in (w W : World) (gA gB : Value) (t n m : Nat) (sn th : Lit → Bool) (A : Option Addr) (c : Nat) (ops : List Op) (hV : VS w W gA gB t n m sn th) (hr : Kd.C k79 w A ops.length ops) (hc : ops.length ≤ c)
 (hm : ops.length ≤ 1099511627776) (ht : t ≤ 1125899906842624) (hmm : m ≤ 1125899906842624) (ha : ∀ o ∈ ops, 0 ≤ o.f2 ∧ o.f2 ≤ 1099511627776) :
 Calls Try.prog 52 #[.slice A ops.length c, .pointer (some ⟨w.heap.size + 1, 0, none⟩), .pointer (some ⟨w.heap.size + 1 + 1 + 1 + 1, 0, none⟩)] W (MarkPost w gA gB (t + ops.length) n (m + ops.length) sn (thF th ops)) := by
 have cb := hV.ops.cell
 have fb := hV.ops.frozen
 have lb := hV.ops.lt
 have HA := Aside0.mk ha
 clear ha
 go_enter Try.func52, Try.ntmps52
 go_wp2
 have hV0 := hV.add ops.length (.int .i64 ((t : Int) + (ops.length : Int))) (by simp)
 clear cb fb lb hV
 generalize hW0 : W.setCell ⟨w.heap.size + 1, 0, none⟩ (.int .i64 ((t : Int) + (ops.length : Int))) = W0 at *
 clear hW0
 go_loopg [12] (ops.length + 1) (fun kq v12 W' => ∃ (i m' : Nat), v12 = .int .i64 (i : Int) ∧ Aside0 (i ≤ ops.length ∧ ops.length < i + kq ∧ m' ≤ m + i) ∧ VS w W' gA gB (t + ops.length) n m' sn (thF th (ops.take i)))
 case atStart => exact ⟨0, m, rfl, ⟨by omega, by omega, by omega⟩, by rw [List.take_zero, thF_nil]; exact hV0⟩
 case round =>
  obtain ⟨i, m', rfl, HI, hVi⟩ := hrel
  obtain ⟨i1, i2, i3⟩ := HI.out
  clear HI
  cases gk with
  | zero => omega
  | succ k1 =>
   by_cases hi : i < ops.length
   rotate_left
   ·have d1 : decide ((i : Int) < (ops.length : Int)) = false := decide_eq_false (by omega)
    have e : i = ops.length := by omega
    have E := Lib.hid e
    clear e
    go_wp2
    go_end0
    exact ⟨_, m', rfl, by omega, by rw [E.out, List.take_length] at hVi; exact hVi⟩
   have d1 : decide ((i : Int) < (ops.length : Int)) = true := decide_eq_true (by omega)
   obtain ⟨ad, AS, cS, rfl, x0, x1, x2, y1, y2⟩ := at_T79 hr (i : Int) (by omega) (by omega)
   rw [Int.toNat_natCast] at x0 x1 x2
   replace x0 := pw_cell_below hVi.bel x0
   replace x1 := pw_cell_below hVi.bel x1
   replace x2 := pw_cell_below hVi.bel x2
   have d2 : (0 ≤ (i : Int)) = True := eq_true (by omega)
   have d3 : ((i : Int) < (ops.length : Int)) = True := eq_true (by omega)
   have hsz := HA.out (rd_T79 ops (i : Int)) (by
    have := drop_op (ops := ops) (i := i) (by omega)
    exact List.mem_of_mem_drop (by rw [this]; exact List.mem_cons_self))
   have htk : ops.take (i + 1) = ops.take i ++ [rd_T79 ops (i : Int)] := by
    rw [List.take_succ_eq_append_getElem hi]
    congr 2
    simp [rd_T79, List.getD_eq_getElem?_getD, hi]
   generalize ho : rd_T79 ops (i : Int) = o at *
   obtain ⟨k, s, q⟩ := o
   simp only at x0 x1 x2 y1 y2 hsz
   have HT := Lib.hid htk
   clear htk ho y2 hr
   have hVa := hVi.alloc (.cells #[.int .i64 k, .slice AS s.length cS, .int .i64 q] 79)
   by_cases hk : k = 3
   ·subst hk
    have ct := hVa.tbox.cell
    have ct0 := hVi.tbox.cell
    have lt0 := hVi.tbox.lt
    have hkey : keyOf Try.prog 3 (.int .i64 q) = some (.int .i64 q) := keyOf_int_mk Try.underlying3 (wf64 (by omega) (by omega))
    have HKEY := Lib.hid hkey
    clear hkey
    go_wp2_with (first
     | (at_mapUpdate; go_must (refine mapB_put hVa.thr keyI rfl _ _ _ _ rfl Try.underlying77 Try.underlying4 rfl (by unfold maxLen; omega) _ rfl rfl _ HKEY.out (thF th (ops.take i ++ [⟨3, s, q⟩])) (thF_put th (ops.take i) ⟨3, s, q⟩ rfl) ?_); intro W1 hM1 hG1; have hV1 := hVa.throw hM1 hG1))
    go_roundg k1
    case measure => omega
    case rel => exact ⟨i + 1, m' + 1, by first | rfl | (simp; done) | (rw [wid (by omega) (by omega)]; simp), ⟨by omega, by omega, by omega⟩, by rw [HT.out]; exact hV1⟩
   have f3 : (k == 3) = false := by simpa using hk
   have HK := Lib.hid hk
   clear hk
   go_wp2
   go_roundg k1
   case measure => omega
   case rel => exact ⟨i + 1, m', by first | rfl | (simp; done) | (rw [wid (by omega) (by omega)]; simp), ⟨by omega, by omega, by omega⟩, by rw [HT.out, thF_snoc _ _ _ HK.out]; exact hVa⟩
end Go.Proofs.Ytdiilocgjnlmiaa.Tre
end
section
namespace Go.Proofs.Ytdiilocgjnlmiaa.Tre
open Go.RowKit Go.Proofs.YtdiilocgjnlmiaaW.PrintWords Go.Proofs.YtdiilocgjnlmiaaW.PrintLast Go.Proofs.YtdiilocgjnlmiaaW.PrintMore
open Go.Proofs.Ytdiilocgjnlmiaa.PAll Go.Maps
set_option linter.unusedVariables false
set_option linter.unusedSimpArgs false
section
variable {P : Program} {w : World} {K E : TypeId} {b n : Nat} {f : Lit → Bool}
end
def nodesV (xs : List Nat) : List Value := xs.map fun (x : Nat) => Value.int .i64 (x : Int)
structure WkSt (W : World) (wb : Nat) (v mp : Value) (items : List Nat) (p : Nat) : Prop where
 box : W.heap[wb]? = some (.cells #[v, mp] 181 (0, 0))
 q : QRow W wb 125 1 v items.length (nodesV items)
 map : (mp = .map none ∧ items = []) ∨ ∃ mb f, mp = .map (some mb) ∧ wb < mb ∧ MapB Try.prog W 125 4 mb p f ∧ ∀ x : Nat, f (.int .i64 (x : Int)) = decide (x ∈ items)
theorem WkSt.below {W W' : World} {wb : Nat} {v mp : Value} {items : List Nat} {p : Nat} (h : WkSt W wb v mp items p) (hb : Below W.heap.size W W') : WkSt W' wb v mp items p :=
 ⟨blk_below h.box hb, q_move h.q fun k hk => hb.block k (q_lt h.q k hk), h.map.imp id fun ⟨mb, f, h1, h2, h3, h4⟩ => ⟨mb, f, h1, h2, h3.below hb, h4⟩⟩
structure WkRun (w W : World) (wb mb : Nat) (v0 v : Value) (items : List Nat) (p : Nat) : Prop where
 box : W.heap[wb]? = some (.cells #[v, .map (some mb)] 181 (0, 0))
 q : QRow W wb 125 1 v items.length (nodesV items)
 map : ∃ f, MapB Try.prog W 125 4 mb p f ∧ ∀ x : Nat, f (.int .i64 (x : Int)) = decide (x ∈ items)
 lt : wb < mb
 bel : Below wb w W
 size : w.heap.size ≤ W.heap.size
 same : ∀ b, b < w.heap.size → b ≠ wb → b ≠ mb → some b ≠ v0.ownBlock → W.heap[b]? = w.heap[b]?
 own : v.ownBlock = v0.ownBlock ∨ ∃ b, v.ownBlock = some b ∧ w.heap.size ≤ b
theorem add_block (ad : Addr) (j : Nat) : (ad.add j).block = ad.block := by unfold Addr.add; split <;> rfl
theorem WkRun.st {w W : World} {wb mb : Nat} {v0 v : Value} {items : List Nat} {p : Nat} (h : WkRun w W wb mb v0 v items p) : WkSt W wb v (.map (some mb)) items p := by
 obtain ⟨f, h1, h2⟩ := h.map
 exact ⟨h.box, h.q, .inr ⟨mb, f, rfl, h.lt, h1, h2⟩⟩
theorem WkRun.mono {w W : World} {wb mb : Nat} {v0 v : Value} {items : List Nat} {p p' : Nat} (h : WkRun w W wb mb v0 v items p) (hp : p ≤ p') : WkRun w W wb mb v0 v items p' := by
 obtain ⟨f, h1, h2⟩ := h.map
 exact ⟨h.box, h.q, ⟨f, h1.mono hp, h2⟩, h.lt, h.bel, h.size, h.same, h.own⟩
theorem WkRun.apart {w W W1 : World} {wb mb : Nat} {v0 v : Value} {items : List Nat} {p : Nat} (h : WkRun w W wb mb v0 v items p) (hwb : wb < w.heap.size) (hg : W.grownBy W1 (some mb)) : some wb ≠ v.ownBlock := fun e => by
 obtain ⟨_, cells, hc⟩ := q_typed h.q wb e.symm
 rw [h.box] at hc
 injection hc with hc
 injection hc with _ hc _
 exact absurd hc (by decide)
end Go.Proofs.Ytdiilocgjnlmiaa.Tre
end
section
namespace Go.Proofs.Ytdiilocgjnlmiaa.Tre
open Go.RowKit Go.Proofs.YtdiilocgjnlmiaaW.PrintWords Go.Proofs.YtdiilocgjnlmiaaW.PrintLast Go.Proofs.YtdiilocgjnlmiaaW.PrintMore
open Go.Proofs.Ytdiilocgjnlmiaa.PAll
set_option linter.unusedVariables false
set_option linter.unusedSimpArgs false
structure UsC (W : World) (base ob og gb n : Nat) (gA : Value) (R : Int) (vs : Nat → Value) (us : List (List Nat)) : Prop where
 box : W.heap[ob]? = some (.cells #[.slice (some ⟨og, 0, none⟩) n n] 176 (0, 0))
 gbx : W.heap[gb]? = some (.cells #[gA, .int .i64 R] 116 (0, 0))
 row : ∃ cs, W.heap[og]? = some (.cells cs 178 (0, 0)) ∧ cs.size = n ∧ ∀ j, j < n → cs[j]? = some (vs j)
 own : ∀ j, j < n → QRow W base 125 1 (vs j) (us.getD j []).length (nodesV (us.getD j []))
 apart : ∀ i j, i < n → j < n → i ≠ j → (vs i).ownBlock = none ∨ (vs i).ownBlock ≠ (vs j).ownBlock
 len : us.length = n
 bo : base ≤ og
theorem UsC.rest {W : World} {base ob og gb n : Nat} {gA : Value} {R : Int} {vs : Nat → Value} {us : List (List Nat)} (h : UsC W base ob og gb n gA R vs us) {j k : Nat} (hj : j < n) {t : TypeId} {cs : Array Value} (hk : W.heap[k]? = some (.cells cs t (0, 0))) (ht : 125 ≠ t) : some k ≠ (vs j).ownBlock := fun e => by
 obtain ⟨_, cells, hc⟩ := q_typed (h.own j hj) k e.symm
 rw [hk] at hc
 injection hc with hc
 injection hc with _ hc _
 exact ht hc.symm
theorem UsC.below {W W' : World} {base ob og gb n : Nat} {gA : Value} {R : Int} {vs : Nat → Value} {us : List (List Nat)} (h : UsC W base ob og gb n gA R vs us) (hb : Below W.heap.size W W') : UsC W' base ob og gb n gA R vs us := by
 obtain ⟨cs, h1, h2⟩ := h.row
 exact ⟨blk_below h.box hb, blk_below h.gbx hb, ⟨cs, blk_below h1 hb, h2⟩, fun j hj => q_move (h.own j hj) fun k hk => hb.block k (q_lt (h.own j hj) k hk), h.apart, h.len, h.bo⟩
def usRef.T : Bool × List (List Nat × List Nat) := (true, [([], []), ([], []), ([1], [1]), ([], []), ([], []), ([4], [4]), ([3, 5], [3, 5]), ([6], [6]), ([], []), ([8], [8]), ([7, 9], [7, 9]), ([0, 2, 0, 1, 2, 3, 4, 5, 6, 7, 8, 9, 10], [0, 2]), ([11, 10, 10, 0, 1, 2, 3, 4, 5, 6, 7, 8, 9, 10], [10, 11])])
def usRef.B : List Nat := [0, 0, 2, 0, 0, 16, 56, 120, 0, 256, 1016, 2047, 4095]
def usThr.T : Bool × List (List Nat × List Nat) := (true, [([], []), ([], []), ([1], [1]), ([], []), ([3], [3]), ([2, 4], [2, 4]), ([], []), ([], []), ([7], [7]), ([], []), ([9], [9]), ([8, 10], [8, 10]), ([6, 11], [6, 11]), ([12], [12]), ([], []), ([14], [14]), ([13, 15], [13, 15]), ([0, 5, 0, 1, 2, 3, 4, 5, 6, 7, 8, 9, 10, 11, 12, 13, 14, 15, 16], [0, 5]), ([17, 16, 16, 0, 1, 2, 3, 4, 5, 6, 7, 8, 9, 10, 11, 12, 13, 14, 15, 16], [16, 17])])
def usThr.B : List Nat := [0, 0, 2, 0, 8, 30, 0, 0, 128, 0, 512, 1920, 4032, 8128, 0, 16384, 65472, 131071, 262143]
structure UsW (W : World) (ob og gb nb wk n : Nat) (gA : Value) (R : Int) (i : Nat) (vs : Nat → Value) (us : List (List Nat)) : Prop where
 c : UsC W og ob og gb n gA R vs us
 nbx : W.heap[nb]? = some (.cells #[.int .i64 (i : Int)] 3 (0, 0))
 wkx : W.heap[wk]? = some (.cells #[(Value.func (Fn.func 163) #[] #[.pointer (some ⟨ob, 0, none⟩), .pointer (some ⟨nb, 0, none⟩), .pointer (some ⟨gb, 0, none⟩), .pointer (some ⟨wk, 0, none⟩)])] 209 (0, 0))
theorem UsW.below {W W' : World} {ob og gb nb wk n : Nat} {gA : Value} {R : Int} {i : Nat} {vs : Nat → Value} {us : List (List Nat)} (h : UsW W ob og gb nb wk n gA R i vs us) (hb : Below W.heap.size W W') : UsW W' ob og gb nb wk n gA R i vs us :=
 ⟨h.c.below hb, blk_below h.nbx hb, blk_below h.wkx hb⟩
def Keep (w w' : World) : Prop := ∀ (b : Nat) (t : TypeId) (cs : Array Value), 125 ≠ t → 178 ≠ t → w.heap[b]? = some (.cells cs t (0, 0)) → w'.heap[b]? = some (.cells cs t (0, 0))
theorem Keep.trans {a b c : World} (h : Keep a b) (k : Keep b c) : Keep a c := fun x t cs h1 h2 hx => k x t cs h1 h2 (h x t cs h1 h2 hx)
theorem keep_below {w w' : World} (hb : Below w.heap.size w w') : Keep w w' := fun x t cs _ _ hx => blk_below hx hb
def WalkPost (w : World) (ob og gb nb wk n : Nat) (gA : Value) (R : Int) (i : Nat) (us : List (List Nat)) (e : Ending) (w' : World) : Prop := e = .returned (.tuple #[]) ∧ ∃ vs, UsW w' ob og gb nb wk n gA R i vs us ∧ Below og w w' ∧ w.heap.size ≤ w'.heap.size ∧ Keep w w'
theorem UsW.same {w : World} {ob og gb nb wk n : Nat} {gA : Value} {R : Int} {i : Nat} {vs : Nat → Value} {us : List (List Nat)} {W : World} (h : UsW w ob og gb nb wk n gA R i vs us) (hb : Below w.heap.size w W) : WalkPost w ob og gb nb wk n gA R i us (.returned (.tuple #[])) W := by
 obtain ⟨cs, h1, _⟩ := h.c.row
 exact ⟨rfl, vs, h.below hb, ⟨hb.os, hb.tape, hb.output, hb.size, fun b hbl => hb.block b (Nat.lt_trans hbl (blk_lt h1))⟩, hb.size, keep_below hb⟩
end Go.Proofs.Ytdiilocgjnlmiaa.Tre
end
section
namespace Go.Proofs.Ytdiilocgjnlmiaa.Tre
open Go.RowKit Go.Proofs.YtdiilocgjnlmiaaW.PrintWords Go.Proofs.YtdiilocgjnlmiaaW.PrintLast Go.Proofs.YtdiilocgjnlmiaaW.PrintMore
open Go.Proofs.Ytdiilocgjnlmiaa.PAll
set_option linter.unusedVariables false
set_option linter.unusedSimpArgs false
structure UsR (W : World) (base og n : Nat) (vs : Nat → Value) (us : List (List Nat)) : Prop where
 row : ∃ cs, W.heap[og]? = some (.cells cs 178 (0, 0)) ∧ cs.size = n ∧ ∀ j, j < n → cs[j]? = some (vs j)
 own : ∀ j, j < n → QRow W base 125 1 (vs j) (us.getD j []).length (nodesV (us.getD j []))
 len : us.length = n
theorem UsR.below {W W' : World} {B base og n : Nat} {vs : Nat → Value} {us : List (List Nat)} (h : UsR W base og n vs us) (hs : B ≤ W.heap.size) (hB : og < B) (hv : ∀ j, j < n → ∀ k, (vs j).ownBlock = some k → k < B) (hb : Below B W W') : UsR W' base og n vs us := by
 obtain ⟨cs, h1, h2⟩ := h.row
 exact ⟨⟨cs, (hb.block og hB).trans h1, h2⟩, fun j hj => q_move (h.own j hj) fun k hk => hb.block k (hv j hj k hk), h.len⟩
end Go.Proofs.Ytdiilocgjnlmiaa.Tre
end
section
namespace Go.Proofs.Ytdiilocgjnlmiaa.Tre
open Go.RowKit Go.Proofs.YtdiilocgjnlmiaaW.PrintWords Go.Proofs.YtdiilocgjnlmiaaW.PrintLast Go.Proofs.YtdiilocgjnlmiaaW.PrintMore
open Go.Proofs.Ytdiilocgjnlmiaa.PAll
set_option linter.unusedVariables false
set_option linter.unusedSimpArgs false
def boolsV (m : List Bool) : List Value := m.map Value.bool
structure NlSt (w W : World) (A : Option Addr) (c R : Nat) (ts : List (Option Tr)) (og wb : Nat) (vs : Nat → Value) (m : List Bool) (v mp : Value) (items : List Nat) (p : Nat) : Prop where
 gbx : W.heap[w.heap.size]? = some (.cells #[.slice A ts.length c, .int .i64 (R : Int)] 116 (0, 0))
 mkx : W.heap[w.heap.size + 1]? = some (.cells (boolsV m).toArray 4 (0, 0))
 us : UsR W (w.heap.size + 1 + 1 + 1) og ts.length vs (usN R ts ts.length)
 og : og < wb
 vsl : ∀ j, j < ts.length → ∀ k, (vs j).ownBlock = some k → k < wb
 lt : w.heap.size + 1 < wb
 wk : WkSt W wb v mp items p
 bel : Below w.heap.size w W
theorem NlSt.step {w W W' : World} {A : Option Addr} {c R : Nat} {ts : List (Option Tr)} {og wb : Nat} {vs : Nat → Value} {m : List Bool} {v mp v' mp' : Value} {items items' : List Nat} {p p' : Nat} (h : NlSt w W A c R ts og wb vs m v mp items p) (hb : Below wb W W') (hs : W.heap.size ≤ W'.heap.size) (hk : WkSt W' wb v' mp' items' p') : NlSt w W' A c R ts og wb vs m v' mp' items' p' := by
 have hl := h.lt
 have hwl := blk_lt h.wk.box
 exact ⟨(hb.block _ (by omega)).trans h.gbx, (hb.block _ hl).trans h.mkx, h.us.below (Nat.le_of_lt hwl) h.og h.vsl hb, h.og, h.vsl, hl, hk, h.bel.trans ⟨hb.os, hb.tape, hb.output, hb.size, fun i hi => hb.block i (by omega)⟩⟩
theorem NlSt.below {w W W' : World} {A : Option Addr} {c R : Nat} {ts : List (Option Tr)} {og wb : Nat} {vs : Nat → Value} {m : List Bool} {v mp : Value} {items : List Nat} {p : Nat} (h : NlSt w W A c R ts og wb vs m v mp items p) (hb : Below W.heap.size W W') : NlSt w W' A c R ts og wb vs m v mp items p :=
 h.step ⟨hb.os, hb.tape, hb.output, hb.size, fun i hi => hb.block i (Nat.lt_trans hi (blk_lt h.wk.box))⟩ hb.size (h.wk.below hb)
theorem NlSt.drew {w W : World} {A : Option Addr} {c R : Nat} {ts : List (Option Tr)} {og wb : Nat} {vs : Nat → Value} {m : List Bool} {v mp : Value} {items : List Nat} {p : Nat} (h : NlSt w W A c R ts og wb vs m v mp items p) : NlSt w W.drew A c R ts og wb vs m v mp items p := h.below (Below.refl _ _).drew
def nlTest.T : Bool × List (List Nat × List Nat) := (true, [([], []), ([], []), ([0, 1], [0, 1]), ([2], [2]), ([3], [3]), ([4], [4]), ([5], [5]), ([5], [5]), ([7, 5], [5, 7]), ([5], [5]), ([8, 9, 5], [5, 8, 9]), ([10, 5], [5, 10]), ([5], [5]), ([6, 11, 12, 5, 5], [5, 6, 11, 12]), ([5, 13], [5, 13])])
def nlTest.B : List Nat := [0, 0, 3, 7, 15, 31, 63, 63, 191, 63, 959, 1983, 63, 8191, 16383]
end Go.Proofs.Ytdiilocgjnlmiaa.Tre
end
section
namespace Go.Proofs.Ytdiilocgjnlmiaa.Tre
open Go.RowKit Go.Proofs.YtdiilocgjnlmiaaW.PrintWords Go.Proofs.YtdiilocgjnlmiaaW.PrintLast Go.Proofs.YtdiilocgjnlmiaaW.PrintMore
open Go.Proofs.Ytdiilocgjnlmiaa.PAll
set_option linter.unusedVariables false
set_option linter.unusedSimpArgs false
theorem last_op {W : World} {A : Option Addr} {pre : List Op} {o : Op} (h : Kd.C k79 W A (pre ++ [o]).length (pre ++ [o])) : ∃ ad A1 c1, A = some ad ∧ W.cell? (ad.add (pre.length * 3)) = some (.int .i64 o.f0) ∧ W.cell? ⟨(ad.add (pre.length * 3)).block, (ad.add (pre.length * 3)).off + 1, none⟩ = some (.slice A1 o.f1.length c1) ∧ W.cell? ⟨(ad.add (pre.length * 3)).block, (ad.add (pre.length * 3)).off + 2, none⟩ = some (.int .i64 o.f2) ∧ o.f1.length ≤ c1 ∧ (Kd.int .i64).C W A1 o.f1.length o.f1 := by
 obtain ⟨ad, A1, c1, h1, h2, h3, h4, h5, h6⟩ := at_T79 h (pre.length : Int) (by omega) (by simp; omega)
 have e : rd_T79 (pre ++ [o]) (pre.length : Int) = o := rd_at rfl
 rw [e] at h2 h3 h4 h5 h6
 rw [Int.toNat_natCast] at h2 h3 h4
 exact ⟨ad, A1, c1, h1, h2, h3, h4, h5, h6⟩
structure SRow (U w : World) (b : Nat) (o : List Bool) : Prop where
 row : w.heap[b]? = some (.cells (boolsV o).toArray 4 (0, 0))
 bel : Below U.heap.size U w
def BegPost (U w : World) (b : Nat) (o : List Bool) (e : Ending) (w' : World) : Prop := e = .returned (.tuple #[]) ∧ SRow U w' b o ∧ w.heap.size ≤ w'.heap.size ∧ ∀ k, k < w.heap.size → k ≠ b → w'.heap[k]? = w.heap[k]?
theorem SRow.below {U w w' : World} {b : Nat} {o : List Bool} (h : SRow U w b o) (hb : Below w.heap.size w w') : SRow U w' b o := ⟨blk_below h.row hb, below_then h.bel h.bel.size hb⟩
theorem SRow.same {U w W : World} {b : Nat} {o : List Bool} (h : SRow U w b o) (hb : Below w.heap.size w W) : BegPost U w b o (.returned (.tuple #[])) W := ⟨rfl, h.below hb, hb.size, fun k hk _ => hb.block k hk⟩
theorem target_thr (Rs : List Ru) (Ls : List La) (s : List Int) (a : Nat) (h1 : Rs.length ≤ 100) (h2 : a ≤ 100) : spec_l3target.f Rs Ls 3 s (a : Int) = some ((Rs.length + a : Nat) : Int) := by
 rw [spec_l3target.f, if_neg (by decide), wid (by omega) (by omega)]; simp
def sbU.T : Bool × List (List Nat × List Nat) := (true, [([], []), ([], []), ([], []), ([2], [2]), ([1, 3], [1, 3]), ([], []), ([], []), ([0, 4, 5, 6], [0, 4, 5, 6])])
def sbU.B : List Nat := [0, 0, 0, 4, 14, 0, 0, 127]
def sbL.T : Bool × List (List Nat × List Nat) := (true, [([], []), ([], []), ([], []), ([1, 2], [1, 2]), ([], []), ([], []), ([0, 3, 4, 5], [0, 3, 4, 5])])
def sbL.B : List Nat := [0, 0, 0, 6, 0, 0, 63]
def sbG.T : Bool × List (List Nat × List Nat) := (true, [([], []), ([0], [0]), ([1], [1]), ([2], [2]), ([3], [3]), ([3], [3]), ([3], [3]), ([5, 6, 3], [3, 5, 6]), ([3], [3]), ([4, 7, 8, 3, 3], [3, 4, 7, 8]), ([3, 9], [3, 9])])
def sbG.B : List Nat := [0, 1, 3, 7, 15, 15, 15, 111, 15, 511, 1023]
def sbR.T : Bool × List (List Nat × List Nat) := (true, [([], []), ([], []), ([], []), ([], []), ([3], [3]), ([1, 2, 4], [1, 2, 4]), ([], []), ([], []), ([0, 5, 6, 7], [0, 5, 6, 7])])
def sbR.B : List Nat := [0, 0, 0, 0, 8, 30, 0, 0, 255]
end Go.Proofs.Ytdiilocgjnlmiaa.Tre
end
