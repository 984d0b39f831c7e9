/- Lemmas of the proof, and the walks of functions that it stands on. -/
import Derived.Test.YtdiilocgjnlmiaaCpgFlat
import Derived.Test.YtdiilocgjnlmiaaCpgMarkedC
import Derived.Test.YtdiilocgjnlmiaaCpgVSpec
import Derived.Test.YtdiilocgjnlmiaaCpgMarkFlat
import Derived.Test.YtdiilocgjnlmiaaCpgPAllx1
import Derived.Test.YtdiilocgjnlmiaaCpgPAllx6
import Derived.Test.YtdiilocgjnlmiaaCpgPAllx9
import Derived.Test.YtdiilocgjnlmiaaCpgValid
import Derived.Shelf.Strings.Builder1
import Derived.Shelf.Small.Strs
import Derived.Shelf.Strings.BuilderF
import Derived.Shelf.Strings.Search1
import Derived.Test.YtdiilocgjnlmiaaProg
import Derived.Test.YtdiilocgjnlmiaaCpgClone
section
namespace Go.Proofs.Ytdiilocgjnlmiaa.PAll
open Go.RowKit Go.Proofs.YtdiilocgjnlmiaaW.PrintWords Go.Proofs.YtdiilocgjnlmiaaW.PrintLast Go.Proofs.YtdiilocgjnlmiaaW.PrintMore
attribute [local go_sem] max2_int min2_int max_two min_two max_three min_three max_four min_four   -- for this text's walks alone
set_option linter.unusedVariables false
set_option linter.unusedSimpArgs false
mutual
noncomputable def spec_Erase.l0 : Nat → Int → List (S68) → List (S72) → List (S68) → Option ((List (S68)) × (List (S72)))
 | 0, _, _, _, _ => none
 | k + 1, x4, x1061000, x1061001, x1064000 => if x4 < (x1061000.length : Int) then (if 0 ≤ x4 then ((spec_l2copy.f k ((rd_T68 x1061000 x4).f1)).bind fun t1065 => (spec_Erase.l1 k x4 t1065 0 x1061000 x1061001 x1064000)) else (none)) else (some (x1064000, ([] : List (S72))))
noncomputable def spec_Erase.l1 : Nat → Int → List (S79) → Int → List (S68) → List (S72) → List (S68) → Option ((List (S68)) × (List (S72)))
 | 0, _, _, _, _, _, _ => none
 | k + 1, x4, x5, x6, x1061000, x1061001, x1064000 => if x6 < (x5.length : Int) then (if 0 ≤ x6 then (if ((rd_T79 x5 x6).f0) = 3 then (spec_Erase.l1 k x4 (x5.set (x6 : Int).toNat (⟨1, ([] : List Int), 0⟩ : S79)) (wrap64 (x6 + 1)) x1061000 x1061001 x1064000) else (spec_Erase.l1 k x4 x5 (wrap64 (x6 + 1)) x1061000 x1061001 x1064000)) else (none)) else ((some (([] : List Int) : List Int)).bind fun y1070 => (if 0 ≤ x4 then (if x4 < (x1061000.length : Int) then (if y1070.length + ((rd_T68 x1061000 x4).f0).length < 140737488355328 then (if x1064000.length < 2932031007402 then (spec_Erase.l0 k (wrap64 (x4 + 1)) x1061000 x1061001 (x1064000 ++ [(⟨(y1070 ++ ((rd_T68 x1061000 x4).f0)), x5⟩ : S68)])) else (none)) else (none)) else (none)) else (none)))
end
noncomputable def spec_Erase.f (k : Nat) (l0_0 : List (S68)) (l0_1 : List (S72)) : Option ((List (S68)) × (List (S72))) := (spec_ValidGrammar.f l0_0 l0_1).bind fun t1062 => (if t1062 = true then (spec_Erase.l0 k 0 l0_0 l0_1 ([] : List (S68))) else (some (([] : List (S68)), ([] : List (S72)))))
theorem spec_Erase.mono_l : ∀ k, (∀ y0 y1 y2 y3, LeO (spec_Erase.l0 k y0 y1 y2 y3) (spec_Erase.l0 (k + 1) y0 y1 y2 y3)) ∧ (∀ y0 y1 y2 y3 y4 y5, LeO (spec_Erase.l1 k y0 y1 y2 y3 y4 y5) (spec_Erase.l1 (k + 1) y0 y1 y2 y3 y4 y5))
 | 0 => ⟨fun _ _ _ _ r h => by simp [spec_Erase.l0] at h, fun _ _ _ _ _ _ r h => by simp [spec_Erase.l1] at h⟩
 | k + 1 => by
  obtain ⟨ih0, ih1⟩ := spec_Erase.mono_l k
  refine ⟨?_, ?_⟩
  ·intro y0 y1 y2 y3
   unfold spec_Erase.l0
   repeat' first
   | (with_reducible exact ih0 _ _ _ _)
   | (with_reducible exact ih1 _ _ _ _ _ _)
   | (with_reducible exact spec_l2copy.mono _ _)
   | (with_reducible exact LeO.refl _)
   | (with_reducible exact LeO.none _)
   | (with_reducible refine LeO.ite ?_ ?_)
   | (with_reducible refine LeO.bind ?_ (fun _ => ?_))
   | exact ih0 _ _ _ _
   | exact ih1 _ _ _ _ _ _
   | exact spec_l2copy.mono _ _
   | exact LeO.none _
   | refine LeO.ite ?_ ?_
   | refine LeO.bind ?_ (fun _ => ?_)
  intro y0 y1 y2 y3 y4 y5
  unfold spec_Erase.l1
  repeat' first
  | (with_reducible exact ih0 _ _ _ _)
  | (with_reducible exact ih1 _ _ _ _ _ _)
  | (with_reducible exact spec_l2copy.mono _ _)
  | (with_reducible exact LeO.refl _)
  | (with_reducible exact LeO.none _)
  | (with_reducible refine LeO.ite ?_ ?_)
  | (with_reducible refine LeO.bind ?_ (fun _ => ?_))
  | exact ih0 _ _ _ _
  | exact ih1 _ _ _ _ _ _
  | exact spec_l2copy.mono _ _
  | exact LeO.none _
  | refine LeO.ite ?_ ?_
  | refine LeO.bind ?_ (fun _ => ?_)
theorem spec_Erase.mono : ∀ a0 a1 k, LeO (spec_Erase.f k a0 a1) (spec_Erase.f (k + 1) a0 a1) := by
 intro a0 a1 k
 obtain ⟨ih0, ih1⟩ := spec_Erase.mono_l k
 unfold spec_Erase.f
 repeat' first
  | (with_reducible exact ih0 _ _ _ _)
  | (with_reducible exact ih1 _ _ _ _ _ _)
  | (with_reducible exact spec_l2copy.mono _ _)
  | (with_reducible exact LeO.refl _)
  | (with_reducible exact LeO.none _)
  | (with_reducible refine LeO.ite ?_ ?_)
  | (with_reducible refine LeO.bind ?_ (fun _ => ?_))
  | exact ih0 _ _ _ _
  | exact ih1 _ _ _ _ _ _
  | exact spec_l2copy.mono _ _
  | exact LeO.none _
  | refine LeO.ite ?_ ?_
  | refine LeO.bind ?_ (fun _ => ?_)
end Go.Proofs.Ytdiilocgjnlmiaa.PAll
end
section
namespace Go.Proofs.Ytdiilocgjnlmiaa.Tre
open Go.RowKit Go.Proofs.YtdiilocgjnlmiaaW.PrintWords Go.Proofs.YtdiilocgjnlmiaaW.PrintLast Go.Proofs.YtdiilocgjnlmiaaW.PrintMore
open Go.Proofs.Ytdiilocgjnlmiaa.PAll
set_option linter.unusedVariables false
set_option linter.unusedSimpArgs false
end Go.Proofs.Ytdiilocgjnlmiaa.Tre
end
section
namespace Go.Proofs.Ytdiilocgjnlmiaa.Tre
open Go.RowKit Go.Proofs.YtdiilocgjnlmiaaW.PrintWords Go.Proofs.YtdiilocgjnlmiaaW.PrintLast Go.Proofs.YtdiilocgjnlmiaaW.PrintMore
open Go.Proofs.Ytdiilocgjnlmiaa.PAll
set_option linter.unusedVariables false
set_option linter.unusedSimpArgs false
structure GrC (W : World) (A0 : Option Addr) (c0 : Nat) (A1 : Option Addr) (c1 : Nat) (Rs : List Ru) (Ls : List La) : Prop where
 r : Kd.C k68 W A0 Rs.length Rs
 rc : Rs.length ≤ c0
 l : Kd.C k72 W A1 Ls.length Ls
 lc : Ls.length ≤ c1
theorem GrC.below {W W' : World} {A0 A1 : Option Addr} {c0 c1 : Nat} {Rs : List Ru} {Ls : List La} (h : GrC W A0 c0 A1 c1 Rs Ls) (hb : Below W.heap.size W W') : GrC W' A0 c0 A1 c1 Rs Ls := ⟨Kd.C_below h.r hb, h.rc, Kd.C_below h.l hb, h.lc⟩
theorem grc_of_R {W : World} {B : Nat} {ok ok' : Nat → Prop} {v0 v1 : Value} {Rs : List Ru} {Ls : List La} (h0 : Kd.R k68 68 W B ok v0 Rs) (h1 : Kd.R k72 72 W B ok' v1 Ls) : ∃ A0 c0 A1 c1, v0 = .slice A0 Rs.length c0 ∧ v1 = .slice A1 Ls.length c1 ∧ GrC W A0 c0 A1 c1 Rs Ls := by
 obtain ⟨A0, c0, e0, l0, r0⟩ := Kd.R_reads h0
 obtain ⟨A1, c1, e1, l1, r1⟩ := Kd.R_reads h1
 exact ⟨A0, c0, A1, c1, e0, e1, ⟨r0, l0, r1, l1⟩⟩
def TruePost (w : World) (e : Ending) (w' : World) : Prop := e = .returned (.bool true) ∧ Below w.heap.size w w'
theorem eq_in {W : World} {A0 A1 B0 B1 : Option Addr} {c0 c1 d0 d1 : Nat} {Rs : List Ru} {Ls : List La} (h : GrC W A0 c0 A1 c1 Rs Ls) (g : GrC W B0 d0 B1 d1 Rs Ls) (hR : ssRs Rs) (hL : ssLs Ls) :
 Calls Try.prog 14 #[.agg #[.slice A0 Rs.length c0, .slice A1 Ls.length c1], .agg #[.slice B0 Rs.length d0, .slice B1 Ls.length d1]] W (TruePost W) :=
 (laws_eqGrammar.calls 3200001 A0 c0 Rs A1 c1 Ls B0 d0 Rs B1 d1 Ls true W h.r h.rc h.l h.lc g.r g.rc g.l g.lc (eqGrammar_f Rs Ls hR hL _ (by omega))).mono fun e w' h => h
end Go.Proofs.Ytdiilocgjnlmiaa.Tre
end
section
namespace Go.Proofs.Ytdiilocgjnlmiaa.Tre
open Go.RowKit Go.Proofs.YtdiilocgjnlmiaaW.PrintWords Go.Proofs.YtdiilocgjnlmiaaW.PrintLast Go.Proofs.YtdiilocgjnlmiaaW.PrintMore
open Go.Proofs.Ytdiilocgjnlmiaa.PAll
set_option linter.unusedVariables false
set_option linter.unusedSimpArgs false
theorem grX_in {W : World} {X : Nat → Prop} {G : Gr} (h : WGr W X G) {b : Nat} (hb : grX G b) : X b ∧ b < W.heap.size := by
 rcases hb with ⟨j, hj, hb⟩ | hb | ⟨j, hj, hb⟩
 ·obtain ⟨h1, h2, _⟩ := (WRules.it h.1 j hj).types hb
  exact ⟨h1, h2⟩
 ·obtain ⟨hX, cur, hc⟩ := WRow.block h.2 (ownV_slice.2 hb)
  exact ⟨hX, (Array.getElem?_eq_some_iff.1 hc).1⟩
 obtain ⟨h1, h2, _⟩ := (WLabels.it h.2 j hj).types hb
 exact ⟨h1, h2⟩
end Go.Proofs.Ytdiilocgjnlmiaa.Tre
end
section
namespace Go.Proofs.Ytdiilocgjnlmiaa.Tre
open Go.RowKit Go.Proofs.YtdiilocgjnlmiaaW.PrintWords Go.Proofs.YtdiilocgjnlmiaaW.PrintLast Go.Proofs.YtdiilocgjnlmiaaW.PrintMore
open Go.Proofs.Ytdiilocgjnlmiaa.PAll
set_option linter.unusedVariables false
set_option linter.unusedSimpArgs false
def occ (R : Nat) : Tr → List Nat
 | .emp => []
 | .set _ => []
 | .ref n => [n.toNat]
 | .thr n => [R + n.toNat]
 | .seq l r => occ R l ++ occ R r
 | .alt l r => occ R l ++ occ R r
 | .star x => occ R x
 | .neg x => occ R x
def okT (R L : Nat) : Tr → Prop
 | .emp => True
 | .set _ => True
 | .ref n => 0 ≤ n ∧ n < (R : Int)
 | .thr n => 0 ≤ n ∧ n < (L : Int)
 | .seq l r => okT R L l ∧ okT R L r
 | .alt l r => okT R L l ∧ okT R L r
 | .star x => okT R L x
 | .neg x => okT R L x
def mkd (m : List Bool) (k : Nat) : Bool := m.getD k false
def nullT (R : Nat) (m : List Bool) : Tr → Bool
 | .emp => true
 | .set _ => false
 | .ref n => mkd m n.toNat
 | .thr n => mkd m (R + n.toNat)
 | .seq l r => nullT R m l && nullT R m r
 | .alt l r => nullT R m l || nullT R m r
 | .star _ => true
 | .neg _ => true
def nullO (R : Nat) (m : List Bool) : Option Tr → Bool
 | none => false
 | some t => nullT R m t
def occO (R : Nat) : Option Tr → List Nat
 | none => []
 | some t => occ R t
def LeM (m m' : List Bool) : Prop := ∀ k, mkd m k = true → mkd m' k = true
def roundM (R : Nat) (ts : List (Option Tr)) (m : List Bool) : List Bool := ts.map (nullO R m)
def iterM (R : Nat) (ts : List (Option Tr)) : Nat → List Bool
 | 0 => List.replicate ts.length false
 | k + 1 => roundM R ts (iterM R ts k)
def tr (ts : List (Option Tr)) (i : Nat) : Option Tr := ts.getD i none
def Closed (R : Nat) (ts : List (Option Tr)) (m : List Bool) : Prop := ∀ i, i < ts.length → nullO R m (tr ts i) = true → mkd m i = true
structure Work (R : Nat) (ts : List (Option Tr)) (m : List Bool) (items : List Nat) : Prop where
 len : m.length = ts.length
 sound : ∀ x, Closed R ts x → LeM m x
 nodup : items.Nodup
 inn : ∀ i ∈ items, i < ts.length
 done : ∀ i, i < ts.length → mkd m i = false → i ∉ items → nullO R m (tr ts i) = false
theorem Work.skip {R : Nat} {ts : List (Option Tr)} {m : List Bool} {x : Nat} {rest : List Nat} (h : Work R ts m (x :: rest)) (hx : mkd m x = true ∨ nullO R m (tr ts x) = false) : Work R ts m rest := by
 refine ⟨h.len, h.sound, (List.nodup_cons.1 h.nodup).2, fun i hi => h.inn i (List.mem_cons_of_mem _ hi), fun i hi hm hn => ?_⟩
 by_cases e : i = x
 ·subst e
  rcases hx with h1 | h1
  ·rw [hm] at h1; cases h1
  exact h1
 exact h.done i hi hm fun hc => (List.mem_cons.1 hc).elim e hn
def pushU (i : Nat) (us : List (List Nat)) (k : Nat) : List (List Nat) := us.set k (us.getD k [] ++ [i])
def usT (i : Nat) (us : List (List Nat)) (ks : List Nat) : List (List Nat) := ks.foldl (pushU i) us
def usN (R : Nat) (ts : List (Option Tr)) : Nat → List (List Nat)
 | 0 => List.replicate ts.length []
 | i + 1 => usT i (usN R ts i) (occO R (tr ts i))
end Go.Proofs.Ytdiilocgjnlmiaa.Tre
end
section
namespace Go.Proofs.Ytdiilocgjnlmiaa.PAll
open Go.RowKit Go.Proofs.YtdiilocgjnlmiaaW.PrintWords Go.Proofs.YtdiilocgjnlmiaaW.PrintLast Go.Proofs.YtdiilocgjnlmiaaW.PrintMore
attribute [local go_sem] max2_int min2_int max_two min_two max_three min_three max_four min_four   -- for this text's walks alone
set_option linter.unusedVariables false
set_option linter.unusedSimpArgs false
mutual
def spec_l3null.j0 : Nat → List (S79) → List Bool → Int → Bool → List (S68) → List (S72) → Int → List Int → Int → Option (Bool)
 | 0, _, _, _, _, _, _, _, _, _ => none
 | k + 1, x1, x2, x7, x31, x865000, x865001, x867000, x867001, x867002 => if x31 = true then ((spec_l3target.f x865000 x865001 x867000 x867001 x867002).bind fun t867 => (if 0 ≤ t867 then (if t867 < (x2.length : Int) then (some (rdOf false x2 t867)) else (none)) else (none))) else (if x867000 = 4 then (spec_l3null.j1 k x1 x2 x7 true x865000 x865001 x867000 x867001 x867002) else (spec_l3null.j1 k x1 x2 x7 (x867000 == 5) x865000 x865001 x867000 x867001 x867002))
def spec_l3null.j1 : Nat → List (S79) → List Bool → Int → Bool → List (S68) → List (S72) → Int → List Int → Int → Option (Bool)
 | 0, _, _, _, _, _, _, _, _, _ => none
 | k + 1, x1, x2, x7, x45, x865000, x865001, x867000, x867001, x867002 => if x45 = true then ((spec_l2start.f k x1 (wrap64 (x7 - 1))).bind fun t869 => (if 0 ≤ t869 then (if t869 ≤ (wrap64 (x7 - 1)) then (if (wrap64 (x7 - 1)) ≤ (x1.length : Int) then ((spec_l3null.f k x865000 x865001 ((x1.take ((wrap64 (x7 - 1)) : Int).toNat).drop (t869 : Int).toNat) x2).bind fun t874 => (if x867000 = 4 then (if t874 = true then (if t869 ≤ (x1.length : Int) then ((spec_l3null.f k x865000 x865001 (x1.take (t869 : Int).toNat) x2).bind fun t879 => (some t879)) else (none)) else (some false)) else (if t874 = true then (some true) else (if t869 ≤ (x1.length : Int) then ((spec_l3null.f k x865000 x865001 (x1.take (t869 : Int).toNat) x2).bind fun t884 => (some t884)) else (none))))) else (none)) else (none)) else (none))) else (some true)
def spec_l3null.f : Nat → List (S68) → List (S72) → List (S79) → List Bool → Option (Bool)
 | 0, _, _, _, _ => none
 | k + 1, l0_0, l0_1, l1, l2 => if (l1.length : Int) = 0 then (some false) else (if 0 ≤ (wrap64 ((l1.length : Int) - 1)) then (if (wrap64 ((l1.length : Int) - 1)) < (l1.length : Int) then (if ((rd_T79 l1 (wrap64 ((l1.length : Int) - 1))).f0) = 1 then (some false) else (if ((rd_T79 l1 (wrap64 ((l1.length : Int) - 1))).f0) = 2 then (spec_l3null.j0 k l1 l2 (l1.length : Int) true l0_0 l0_1 ((rd_T79 l1 (wrap64 ((l1.length : Int) - 1))).f0) ((rd_T79 l1 (wrap64 ((l1.length : Int) - 1))).f1) ((rd_T79 l1 (wrap64 ((l1.length : Int) - 1))).f2)) else (spec_l3null.j0 k l1 l2 (l1.length : Int) (((rd_T79 l1 (wrap64 ((l1.length : Int) - 1))).f0) == 3) l0_0 l0_1 ((rd_T79 l1 (wrap64 ((l1.length : Int) - 1))).f0) ((rd_T79 l1 (wrap64 ((l1.length : Int) - 1))).f1) ((rd_T79 l1 (wrap64 ((l1.length : Int) - 1))).f2)))) else (none)) else (none))
end
theorem spec_l3null.mono_l : ∀ k, (∀ y0 y1 y2 y3, LeO (spec_l3null.f k y0 y1 y2 y3) (spec_l3null.f (k + 1) y0 y1 y2 y3)) ∧ (∀ y0 y1 y2 y3 y4 y5 y6 y7 y8, LeO (spec_l3null.j0 k y0 y1 y2 y3 y4 y5 y6 y7 y8) (spec_l3null.j0 (k + 1) y0 y1 y2 y3 y4 y5 y6 y7 y8)) ∧ (∀ y0 y1 y2 y3 y4 y5 y6 y7 y8, LeO (spec_l3null.j1 k y0 y1 y2 y3 y4 y5 y6 y7 y8) (spec_l3null.j1 (k + 1) y0 y1 y2 y3 y4 y5 y6 y7 y8))
 | 0 => ⟨fun _ _ _ _ r h => by simp [spec_l3null.f] at h, fun _ _ _ _ _ _ _ _ _ r h => by simp [spec_l3null.j0] at h, fun _ _ _ _ _ _ _ _ _ r h => by simp [spec_l3null.j1] at h⟩
 | k + 1 => by
  obtain ⟨ih0, ih1, ih2⟩ := spec_l3null.mono_l k
  refine ⟨?_, ?_, ?_⟩
  ·intro y0 y1 y2 y3
   unfold spec_l3null.f
   repeat' first
   | (with_reducible exact ih0 _ _ _ _)
   | (with_reducible exact ih1 _ _ _ _ _ _ _ _ _)
   | (with_reducible exact ih2 _ _ _ _ _ _ _ _ _)
   | (with_reducible exact spec_l2start.mono _ _ _)
   | (with_reducible exact LeO.refl _)
   | (with_reducible exact LeO.none _)
   | (with_reducible refine LeO.ite ?_ ?_)
   | (with_reducible refine LeO.bind ?_ (fun _ => ?_))
   | exact ih0 _ _ _ _
   | exact ih1 _ _ _ _ _ _ _ _ _
   | exact ih2 _ _ _ _ _ _ _ _ _
   | exact spec_l2start.mono _ _ _
   | exact LeO.none _
   | refine LeO.ite ?_ ?_
   | refine LeO.bind ?_ (fun _ => ?_)
  ·intro y0 y1 y2 y3 y4 y5 y6 y7 y8
   unfold spec_l3null.j0
   repeat' first
   | (with_reducible exact ih0 _ _ _ _)
   | (with_reducible exact ih1 _ _ _ _ _ _ _ _ _)
   | (with_reducible exact ih2 _ _ _ _ _ _ _ _ _)
   | (with_reducible exact spec_l2start.mono _ _ _)
   | (with_reducible exact LeO.refl _)
   | (with_reducible exact LeO.none _)
   | (with_reducible refine LeO.ite ?_ ?_)
   | (with_reducible refine LeO.bind ?_ (fun _ => ?_))
   | exact ih0 _ _ _ _
   | exact ih1 _ _ _ _ _ _ _ _ _
   | exact ih2 _ _ _ _ _ _ _ _ _
   | exact spec_l2start.mono _ _ _
   | exact LeO.none _
   | refine LeO.ite ?_ ?_
   | refine LeO.bind ?_ (fun _ => ?_)
  intro y0 y1 y2 y3 y4 y5 y6 y7 y8
  unfold spec_l3null.j1
  repeat' first
  | (with_reducible exact ih0 _ _ _ _)
  | (with_reducible exact ih1 _ _ _ _ _ _ _ _ _)
  | (with_reducible exact ih2 _ _ _ _ _ _ _ _ _)
  | (with_reducible exact spec_l2start.mono _ _ _)
  | (with_reducible exact LeO.refl _)
  | (with_reducible exact LeO.none _)
  | (with_reducible refine LeO.ite ?_ ?_)
  | (with_reducible refine LeO.bind ?_ (fun _ => ?_))
  | exact ih0 _ _ _ _
  | exact ih1 _ _ _ _ _ _ _ _ _
  | exact ih2 _ _ _ _ _ _ _ _ _
  | exact spec_l2start.mono _ _ _
  | exact LeO.none _
  | refine LeO.ite ?_ ?_
  | refine LeO.bind ?_ (fun _ => ?_)
theorem spec_l3null.mono : ∀ a0 a1 a2 a3 k, LeO (spec_l3null.f k a0 a1 a2 a3) (spec_l3null.f (k + 1) a0 a1 a2 a3) := by
 intro a0 a1 a2 a3 k
 obtain ⟨ih0, ih1, ih2⟩ := spec_l3null.mono_l k
 exact ih0 a0 a1 a2 a3
end Go.Proofs.Ytdiilocgjnlmiaa.PAll
end
section
namespace Go.Proofs.Ytdiilocgjnlmiaa.Tre
open Go.RowKit Go.Proofs.YtdiilocgjnlmiaaW.PrintWords Go.Proofs.YtdiilocgjnlmiaaW.PrintLast Go.Proofs.YtdiilocgjnlmiaaW.PrintMore
open Go.Proofs.Ytdiilocgjnlmiaa.PAll
set_option linter.unusedVariables false
set_option linter.unusedSimpArgs false
theorem rd_at {pre post : List Op} {o : Op} {i : Int} (hi : i = (pre.length : Int)) : rd_T79 (pre ++ (o :: post)) i = o := by
 subst hi
 simp [rd_T79, List.getD_eq_getElem?_getD]
theorem flat_pos : ∀ (t : Tr), 0 < (flat t).length
 | .emp => Nat.one_pos
 | .set _ => Nat.one_pos
 | .ref _ => Nat.one_pos
 | .thr _ => Nat.one_pos
 | .seq l r => by simp [flat]; omega
 | .alt l r => by simp [flat]; omega
 | .star x => by simp [flat]
 | .neg x => by simp [flat]
theorem start_step (pre post : List Op) (o : Op) (k n : Nat) (hk : 0 < k) (hl : (pre ++ o :: post).length ≤ 1099511627776) (hn : n ≤ 1099511627776) :
 spec_l2start.l0 (k + 1) (pre ++ o :: post) ((n : Int) + 1) (((pre.length + 1 : Nat)) : Int) = spec_l2start.l0 k (pre ++ o :: post) ((n : Int) + (ar o.f0 : Int)) (pre.length : Int) := by
 have h1 : pre.length + 1 ≤ (pre ++ o :: post).length := by simp
 have e : ((pre.length + 1 : Nat) : Int) - 1 = (pre.length : Int) := by omega
 have ha := ar_le o.f0
 rw [spec_l2start.l0, if_pos (by omega), if_pos (by omega), e, wid (by omega) (by omega), if_pos (by omega), if_pos (by omega), rd_at rfl, arity_f _ _ hk, Option.bind_some, wid (x := (ar o.f0 : Int) - 1) (by omega) (by omega), wid (by omega) (by omega)]
 congr 1
 omega
theorem start_tree : ∀ (t : Tr) (pre post : List Op) (k n : Nat), 0 < k → (pre ++ (flat t ++ post)).length ≤ 1099511627776 → n + (flat t).length ≤ 1099511627776 →
 spec_l2start.l0 (k + (flat t).length) (pre ++ (flat t ++ post)) ((n : Int) + 1) (((pre.length + (flat t).length : Nat)) : Int) = spec_l2start.l0 k (pre ++ (flat t ++ post)) (n : Int) (pre.length : Int)
 | .emp, pre, post, k, n, hk, hl, hn => (start_step pre post ⟨0, [], 0⟩ k n hk hl (by simp [flat] at hn; omega)).trans (by simp [ar]; rfl)
 | .set s, pre, post, k, n, hk, hl, hn => (start_step pre post ⟨1, s, 0⟩ k n hk hl (by simp [flat] at hn; omega)).trans (by simp [ar]; rfl)
 | .ref a, pre, post, k, n, hk, hl, hn => (start_step pre post ⟨2, [], a⟩ k n hk hl (by simp [flat] at hn; omega)).trans (by simp [ar]; rfl)
 | .thr a, pre, post, k, n, hk, hl, hn => (start_step pre post ⟨3, [], a⟩ k n hk hl (by simp [flat] at hn; omega)).trans (by simp [ar]; rfl)
 | .star x, pre, post, k, n, hk, hl, hn => by
  have e : pre ++ (flat (.star x) ++ post) = pre ++ (flat x ++ (⟨6, [], 0⟩ :: post)) := by simp [flat]
  have e2 : pre ++ (flat (.star x) ++ post) = (pre ++ flat x) ++ (⟨6, [], 0⟩ : Op) :: post := by simp [flat]
  have e3 : (flat (.star x)).length = (flat x).length + 1 := by simp [flat]
  rw [e] at hl
  rw [e3] at hn
  have h1 := start_step (pre ++ flat x) post ⟨6, [], 0⟩ (k + (flat x).length) n (by omega) (by rw [← e2, e]; exact hl) (by omega)
  rw [← e2, e] at h1
  rw [e, e3, ← start_tree x pre (⟨6, [], 0⟩ :: post) k n hk hl (by omega), ← Nat.add_assoc, ← Nat.add_assoc]
  rw [List.length_append] at h1
  exact h1
 | .neg x, pre, post, k, n, hk, hl, hn => by
  have e : pre ++ (flat (.neg x) ++ post) = pre ++ (flat x ++ (⟨7, [], 0⟩ :: post)) := by simp [flat]
  have e2 : pre ++ (flat (.neg x) ++ post) = (pre ++ flat x) ++ (⟨7, [], 0⟩ : Op) :: post := by simp [flat]
  have e3 : (flat (.neg x)).length = (flat x).length + 1 := by simp [flat]
  rw [e] at hl
  rw [e3] at hn
  have h1 := start_step (pre ++ flat x) post ⟨7, [], 0⟩ (k + (flat x).length) n (by omega) (by rw [← e2, e]; exact hl) (by omega)
  rw [← e2, e] at h1
  rw [e, e3, ← start_tree x pre (⟨7, [], 0⟩ :: post) k n hk hl (by omega), ← Nat.add_assoc, ← Nat.add_assoc]
  rw [List.length_append] at h1
  exact h1
 | .seq l r, pre, post, k, n, hk, hl, hn => by
  have e : pre ++ (flat (.seq l r) ++ post) = pre ++ (flat l ++ (flat r ++ (⟨4, [], 0⟩ :: post))) := by simp [flat]
  have e1 : pre ++ (flat (.seq l r) ++ post) = (pre ++ flat l) ++ (flat r ++ (⟨4, [], 0⟩ :: post)) := by simp [flat]
  have e2 : pre ++ (flat (.seq l r) ++ post) = ((pre ++ flat l) ++ flat r) ++ (⟨4, [], 0⟩ : Op) :: post := by simp [flat]
  have e3 : (flat (.seq l r)).length = (flat l).length + (flat r).length + 1 := by simp [flat]; omega
  rw [e3] at hn
  have h1 := start_step ((pre ++ flat l) ++ flat r) post ⟨4, [], 0⟩ (k + (flat l).length + (flat r).length) n (by omega) (by rw [← e2]; exact hl) (by omega)
  have h2 := start_tree r (pre ++ flat l) (⟨4, [], 0⟩ :: post) (k + (flat l).length) (n + 1) (by omega) (by rw [← e1]; exact hl) (by omega)
  have h3 := start_tree l pre (flat r ++ (⟨4, [], 0⟩ :: post)) k n hk (by rw [← e]; exact hl) (by omega)
  rw [← e2] at h1
  rw [← e1] at h2
  rw [← e] at h3
  simp only [List.length_append] at h1 h2
  rw [e3, ← h3, ← Nat.add_assoc, ← Nat.add_assoc, ← Nat.add_assoc, ← Nat.add_assoc, h1]
  exact h2
 | .alt l r, pre, post, k, n, hk, hl, hn => by
  have e : pre ++ (flat (.alt l r) ++ post) = pre ++ (flat l ++ (flat r ++ (⟨5, [], 0⟩ :: post))) := by simp [flat]
  have e1 : pre ++ (flat (.alt l r) ++ post) = (pre ++ flat l) ++ (flat r ++ (⟨5, [], 0⟩ :: post)) := by simp [flat]
  have e2 : pre ++ (flat (.alt l r) ++ post) = ((pre ++ flat l) ++ flat r) ++ (⟨5, [], 0⟩ : Op) :: post := by simp [flat]
  have e3 : (flat (.alt l r)).length = (flat l).length + (flat r).length + 1 := by simp [flat]; omega
  rw [e3] at hn
  have h1 := start_step ((pre ++ flat l) ++ flat r) post ⟨5, [], 0⟩ (k + (flat l).length + (flat r).length) n (by omega) (by rw [← e2]; exact hl) (by omega)
  have h2 := start_tree r (pre ++ flat l) (⟨5, [], 0⟩ :: post) (k + (flat l).length) (n + 1) (by omega) (by rw [← e1]; exact hl) (by omega)
  have h3 := start_tree l pre (flat r ++ (⟨5, [], 0⟩ :: post)) k n hk (by rw [← e]; exact hl) (by omega)
  rw [← e2] at h1
  rw [← e1] at h2
  rw [← e] at h3
  simp only [List.length_append] at h1 h2
  rw [e3, ← h3, ← Nat.add_assoc, ← Nat.add_assoc, ← Nat.add_assoc, ← Nat.add_assoc, h1]
  exact h2
theorem start_f (t : Tr) (pre post : List Op) (k : Nat) (hk : (flat t).length < k) (hl : (pre ++ (flat t ++ post)).length ≤ 1099511627776) : spec_l2start.f k (pre ++ (flat t ++ post)) (((pre.length + (flat t).length : Nat)) : Int) = some (pre.length : Int) := by
 obtain ⟨j, rfl⟩ : ∃ j, k = (j + 1) + (flat t).length := ⟨k - (flat t).length - 1, by omega⟩
 have h2 : (flat t).length ≤ (pre ++ (flat t ++ post)).length := by simp; omega
 have h := start_tree t pre post (j + 1) 0 (by omega) hl (by omega)
 rw [spec_l2start.f]
 refine Eq.trans h ?_
 rw [spec_l2start.l0]
 split <;> simp
theorem rdOf_mkd {m : List Bool} {i : Int} {k : Nat} (h : i = (k : Int)) : rdOf false m i = mkd m k := by
 subst h; simp [rdOf, mkd]
end Go.Proofs.Ytdiilocgjnlmiaa.Tre
end
section
namespace Go.Proofs.Ytdiilocgjnlmiaa.PAll
open Go.RowKit Go.Proofs.YtdiilocgjnlmiaaW.PrintWords Go.Proofs.YtdiilocgjnlmiaaW.PrintLast Go.Proofs.YtdiilocgjnlmiaaW.PrintMore
attribute [local go_sem] max2_int min2_int max_two min_two max_three min_three max_four min_four   -- for this text's walks alone
set_option linter.unusedVariables false
set_option linter.unusedSimpArgs false
mutual
def spec_l3nullable.l0 : Nat → Int → List Bool → Int → List (S68) → List (S72) → Option (List Bool)
 | 0, _, _, _, _, _ => none
 | k + 1, x3, x4, x5, x974000, x974001 => if x5 < x3 then (if 0 ≤ x3 then (if (x3 : Int).toNat ≤ 281474976710656 then (spec_l3nullable.l1 k x3 x4 x5 (List.replicate (x3 : Int).toNat false) 0 x974000 x974001) else (none)) else (none)) else (some x4)
def spec_l3nullable.l1 : Nat → Int → List Bool → Int → List Bool → Int → List (S68) → List (S72) → Option (List Bool)
 | 0, _, _, _, _, _, _, _ => none
 | k + 1, x3, x4, x5, x6, x7, x974000, x974001 => if x7 < x3 then ((spec_l3body.f x974000 x974001 x7).bind fun t981 => ((spec_l3null.f k x974000 x974001 t981 x4).bind fun t984 => (if 0 ≤ x7 then (if x7 < (x6.length : Int) then (spec_l3nullable.l1 k x3 x4 x5 (x6.set (x7 : Int).toNat t984) (wrap64 (x7 + 1)) x974000 x974001) else (none)) else (none)))) else (spec_l3nullable.l0 k x3 x6 (wrap64 (x5 + 1)) x974000 x974001)
end
def spec_l3nullable.f (k : Nat) (l0_0 : List (S68)) (l0_1 : List (S72)) : Option (List Bool) := (spec_l3nodes.f l0_0 l0_1).bind fun t974 => (if 0 ≤ t974 then (if (t974 : Int).toNat ≤ 281474976710656 then (spec_l3nullable.l0 k t974 (List.replicate (t974 : Int).toNat false) 0 l0_0 l0_1) else (none)) else (none))
theorem spec_l3nullable.mono_l : ∀ k, (∀ y0 y1 y2 y3 y4, LeO (spec_l3nullable.l0 k y0 y1 y2 y3 y4) (spec_l3nullable.l0 (k + 1) y0 y1 y2 y3 y4)) ∧ (∀ y0 y1 y2 y3 y4 y5 y6, LeO (spec_l3nullable.l1 k y0 y1 y2 y3 y4 y5 y6) (spec_l3nullable.l1 (k + 1) y0 y1 y2 y3 y4 y5 y6))
 | 0 => ⟨fun _ _ _ _ _ r h => by simp [spec_l3nullable.l0] at h, fun _ _ _ _ _ _ _ r h => by simp [spec_l3nullable.l1] at h⟩
 | k + 1 => by
  obtain ⟨ih0, ih1⟩ := spec_l3nullable.mono_l k
  refine ⟨?_, ?_⟩
  ·intro y0 y1 y2 y3 y4
   unfold spec_l3nullable.l0
   repeat' first
   | (with_reducible exact ih0 _ _ _ _ _)
   | (with_reducible exact ih1 _ _ _ _ _ _ _)
   | (with_reducible exact spec_l3null.mono _ _ _ _ _)
   | (with_reducible exact LeO.refl _)
   | (with_reducible exact LeO.none _)
   | (with_reducible refine LeO.ite ?_ ?_)
   | (with_reducible refine LeO.bind ?_ (fun _ => ?_))
   | exact ih0 _ _ _ _ _
   | exact ih1 _ _ _ _ _ _ _
   | exact spec_l3null.mono _ _ _ _ _
   | exact LeO.none _
   | refine LeO.ite ?_ ?_
   | refine LeO.bind ?_ (fun _ => ?_)
  intro y0 y1 y2 y3 y4 y5 y6
  unfold spec_l3nullable.l1
  repeat' first
  | (with_reducible exact ih0 _ _ _ _ _)
  | (with_reducible exact ih1 _ _ _ _ _ _ _)
  | (with_reducible exact spec_l3null.mono _ _ _ _ _)
  | (with_reducible exact LeO.refl _)
  | (with_reducible exact LeO.none _)
  | (with_reducible refine LeO.ite ?_ ?_)
  | (with_reducible refine LeO.bind ?_ (fun _ => ?_))
  | exact ih0 _ _ _ _ _
  | exact ih1 _ _ _ _ _ _ _
  | exact spec_l3null.mono _ _ _ _ _
  | exact LeO.none _
  | refine LeO.ite ?_ ?_
  | refine LeO.bind ?_ (fun _ => ?_)
theorem spec_l3nullable.mono : ∀ a0 a1 k, LeO (spec_l3nullable.f k a0 a1) (spec_l3nullable.f (k + 1) a0 a1) := by
 intro a0 a1 k
 obtain ⟨ih0, ih1⟩ := spec_l3nullable.mono_l k
 unfold spec_l3nullable.f
 repeat' first
  | (with_reducible exact ih0 _ _ _ _ _)
  | (with_reducible exact ih1 _ _ _ _ _ _ _)
  | (with_reducible exact spec_l3null.mono _ _ _ _ _)
  | (with_reducible exact LeO.refl _)
  | (with_reducible exact LeO.none _)
  | (with_reducible refine LeO.ite ?_ ?_)
  | (with_reducible refine LeO.bind ?_ (fun _ => ?_))
  | exact ih0 _ _ _ _ _
  | exact ih1 _ _ _ _ _ _ _
  | exact spec_l3null.mono _ _ _ _ _
  | exact LeO.none _
  | refine LeO.ite ?_ ?_
  | refine LeO.bind ?_ (fun _ => ?_)
end Go.Proofs.Ytdiilocgjnlmiaa.PAll
end
section
namespace Go.Proofs.Ytdiilocgjnlmiaa.PAll
open Go.RowKit Go.Proofs.YtdiilocgjnlmiaaW.PrintWords Go.Proofs.YtdiilocgjnlmiaaW.PrintLast Go.Proofs.YtdiilocgjnlmiaaW.PrintMore
attribute [local go_sem] max2_int min2_int max_two min_two max_three min_three max_four min_four   -- for this text's walks alone
set_option linter.unusedVariables false
set_option linter.unusedSimpArgs false
def spec_l3loops.l0 : Nat → List (S79) → List Bool → Int → List (S68) → List (S72) → Option (Bool)
 | 0, _, _, _, _, _ => none
 | k + 1, x1, x2, x7, x990000, x990001 => if x7 < (x1.length : Int) then (if 0 ≤ x7 then (if ((rd_T79 x1 x7).f0) = 6 then ((spec_l2start.f k x1 x7).bind fun t991 => (if 0 ≤ t991 then (if t991 ≤ x7 then (if x7 ≤ (x1.length : Int) then ((spec_l3null.f k x990000 x990001 ((x1.take (x7 : Int).toNat).drop (t991 : Int).toNat) x2).bind fun t996 => (if t996 = true then (some true) else (spec_l3loops.l0 k x1 x2 (wrap64 (x7 + 1)) x990000 x990001))) else (none)) else (none)) else (none))) else (spec_l3loops.l0 k x1 x2 (wrap64 (x7 + 1)) x990000 x990001)) else (none)) else (some false)
def spec_l3loops.f (k : Nat) (l0_0 : List (S68)) (l0_1 : List (S72)) (l1 : List (S79)) (l2 : List Bool) : Option (Bool) := spec_l3loops.l0 k l1 l2 1 l0_0 l0_1
theorem spec_l3loops.mono_l : ∀ k, (∀ y0 y1 y2 y3 y4, LeO (spec_l3loops.l0 k y0 y1 y2 y3 y4) (spec_l3loops.l0 (k + 1) y0 y1 y2 y3 y4))
 | 0 => fun _ _ _ _ _ r h => by simp [spec_l3loops.l0] at h
 | k + 1 => by
  have ih0 := spec_l3loops.mono_l k
  intro y0 y1 y2 y3 y4
  unfold spec_l3loops.l0
  repeat' first
  | (with_reducible exact ih0 _ _ _ _ _)
  | (with_reducible exact spec_l2start.mono _ _ _)
  | (with_reducible exact spec_l3null.mono _ _ _ _ _)
  | (with_reducible exact LeO.refl _)
  | (with_reducible exact LeO.none _)
  | (with_reducible refine LeO.ite ?_ ?_)
  | (with_reducible refine LeO.bind ?_ (fun _ => ?_))
  | exact ih0 _ _ _ _ _
  | exact spec_l2start.mono _ _ _
  | exact spec_l3null.mono _ _ _ _ _
  | exact LeO.none _
  | refine LeO.ite ?_ ?_
  | refine LeO.bind ?_ (fun _ => ?_)
theorem spec_l3loops.mono : ∀ a0 a1 a2 a3 k, LeO (spec_l3loops.f k a0 a1 a2 a3) (spec_l3loops.f (k + 1) a0 a1 a2 a3) := by
 intro a0 a1 a2 a3 k
 have ih0 := spec_l3loops.mono_l k
 unfold spec_l3loops.f
 repeat' first
  | (with_reducible exact ih0 _ _ _ _ _)
  | (with_reducible exact spec_l2start.mono _ _ _)
  | (with_reducible exact spec_l3null.mono _ _ _ _ _)
  | (with_reducible exact LeO.refl _)
  | (with_reducible exact LeO.none _)
  | (with_reducible refine LeO.ite ?_ ?_)
  | (with_reducible refine LeO.bind ?_ (fun _ => ?_))
  | exact ih0 _ _ _ _ _
  | exact spec_l2start.mono _ _ _
  | exact spec_l3null.mono _ _ _ _ _
  | exact LeO.none _
  | refine LeO.ite ?_ ?_
  | refine LeO.bind ?_ (fun _ => ?_)
end Go.Proofs.Ytdiilocgjnlmiaa.PAll
end
section
namespace Go.Proofs.Ytdiilocgjnlmiaa.Tre
open Go.RowKit Go.Proofs.YtdiilocgjnlmiaaW.PrintWords Go.Proofs.YtdiilocgjnlmiaaW.PrintLast Go.Proofs.YtdiilocgjnlmiaaW.PrintMore
open Go.Proofs.Ytdiilocgjnlmiaa.PAll
set_option linter.unusedVariables false
set_option linter.unusedSimpArgs false
def bodyN (Rs : List Ru) (Ls : List La) (i : Nat) : List Op := (bodies Rs Ls).getD i []
def trees (Rs : List Ru) (Ls : List La) : List (Option Tr) := (bodies Rs Ls).map treeF
theorem len_bodies (Rs : List Ru) (Ls : List La) : (bodies Rs Ls).length = Rs.length + Ls.length := by simp [bodies]
theorem tr_trees {Rs : List Ru} {Ls : List La} {i : Nat} (hi : i < Rs.length + Ls.length) : tr (trees Rs Ls) i = treeF (bodyN Rs Ls i) := by
 have h1 : i < (bodies Rs Ls).length := by rw [len_bodies]; exact hi
 simp [tr, trees, bodyN, List.getD_eq_getElem?_getD, h1]
theorem bodyN_ru {Rs : List Ru} {Ls : List La} {i : Nat} (hi : i < Rs.length) : bodyN Rs Ls i = (ru Rs i).f1 := by
 simp [bodyN, bodies, List.getD_eq_getElem?_getD, List.getElem?_append, hi, ru, rd_T68]
theorem bodyN_la {Rs : List Ru} {Ls : List La} {j : Nat} (hj : j < Ls.length) : bodyN Rs Ls (Rs.length + j) = (la Ls j).f2 := by
 simp [bodyN, bodies, List.getD_eq_getElem?_getD, List.getElem?_append, hj, la, rd_T72]
structure Nice (Rs : List Ru) (Ls : List La) : Prop where
 r : Rs.length ≤ 100
 l : Ls.length ≤ 100
 body : ∀ i, i < Rs.length + Ls.length → (bodyN Rs Ls i = [] ∧ tr (trees Rs Ls) i = none) ∨ ∃ x, tr (trees Rs Ls) i = some x ∧ bodyN Rs Ls i = flat x ∧ okT Rs.length Ls.length x ∧ (flat x).length ≤ 2000
theorem opB_can {R L : Int} {o : Op} (h : opB R L o = true) (h0 : 0 ≤ o.f0) (h7 : o.f0 ≤ 7) : Can o := by
 unfold opB at h
 rw [Bool.and_eq_true, decide_eq_true_eq] at h
 refine ⟨h0, h7, fun h1 => ?_, fun h2 h3 => ?_⟩
 ·have := h.1
  rw [if_neg h1, decide_eq_true_eq] at this
  exact List.length_eq_zero_iff.1 this
 have := h.2
 unfold mostF at this
 rw [if_neg h3, if_neg h2] at this
 omega
theorem okT_flat {R L : Nat} : ∀ (x : Tr), (∀ o ∈ flat x, opB (R : Int) (L : Int) o = true) → okT R L x
 | .emp, _ => trivial
 | .set _, _ => trivial
 | .ref n, h => by
  have := h ⟨2, [], n⟩ List.mem_cons_self
  unfold opB mostF at this
  rw [Bool.and_eq_true, decide_eq_true_eq] at this
  have h2 := this.2
  simp at h2
  exact h2
 | .thr n, h => by
  have := h ⟨3, [], n⟩ List.mem_cons_self
  unfold opB mostF at this
  rw [Bool.and_eq_true, decide_eq_true_eq] at this
  have h2 := this.2
  simp at h2
  exact h2
 | .seq l r, h => ⟨okT_flat l fun o ho => h o (by simp [flat, ho]), okT_flat r fun o ho => h o (by simp [flat, ho])⟩
 | .alt l r, h => ⟨okT_flat l fun o ho => h o (by simp [flat, ho]), okT_flat r fun o ho => h o (by simp [flat, ho])⟩
 | .star x, h => okT_flat x fun o ho => h o (by simp [flat, ho])
 | .neg x, h => okT_flat x fun o ho => h o (by simp [flat, ho])
theorem stepT_kind {st st1 : List Tr} {o : Op} (h : stepT st o = some st1) : 0 ≤ o.f0 ∧ o.f0 ≤ 7 := by
 refine Classical.byContradiction fun hn => ?_
 obtain ⟨k, s, n⟩ := o
 rw [stepT_bad (by simp only at hn; omega)] at h
 cases h
theorem runT_kinds : ∀ (ops : List Op) {st st1 : List Tr}, runT st ops = some st1 → ∀ o ∈ ops, 0 ≤ o.f0 ∧ o.f0 ≤ 7
 | [], _, _, _ => fun o ho => by cases ho
 | o :: ops, st, st1, h => by
  rw [runT] at h
  cases hs : stepT st o with
  | none => rw [hs] at h; cases h
  | some s =>
   rw [hs, Option.bind_some] at h
   intro q hq
   rcases List.mem_cons.1 hq with rfl | hq
   ·exact stepT_kind hs
   exact runT_kinds ops h q hq
theorem body_tree {R L : Nat} {ops : List Op} (h : bodyB (R : Int) (L : Int) ops = true) : ∃ x, treeF ops = some x ∧ ops = flat x ∧ okT R L x := by
 unfold bodyB at h
 rw [Bool.and_eq_true, List.all_eq_true] at h
 obtain ⟨x, hx⟩ := Option.isSome_iff_exists.1 h.2
 have hk : ∀ o ∈ ops, 0 ≤ o.f0 ∧ o.f0 ≤ 7 := by
  unfold treeF at hx
  split at hx
  ·rename_i t ht
   exact runT_kinds ops ht
  cases hx
 have hf := flat_of_treeF (fun o ho => opB_can (h.1 o ho) (hk o ho).1 (hk o ho).2) hx
 exact ⟨x, hx, hf.symm, okT_flat x (by rw [hf]; exact h.1)⟩
theorem len_le_sum {bs : List (List Op)} {i : Nat} : (bs.getD i []).length ≤ sumOps bs := by
 induction bs generalizing i with
 | nil => simp [sumOps]
 | cons b bs ih =>
  have : sumOps (b :: bs) = b.length + sumOps bs := by simp [sumOps]
  rw [this]
  cases i with
  | zero => simp
  | succ i => have := ih (i := i); simp only [List.getD_cons_succ]; omega
theorem Valid.nice {Rs : List Ru} {Ls : List La} (h : Valid Rs Ls) : Nice Rs Ls := by
 refine ⟨h.r2, h.l2, fun i hi => ?_⟩
 rw [tr_trees hi]
 have hlen : (bodyN Rs Ls i).length ≤ 2000 := Nat.le_trans len_le_sum h.ops
 rcases Nat.lt_or_ge i Rs.length with hr | hr
 ·obtain ⟨x, h1, h2, h3⟩ := body_tree (h.rules i hr).body
  rw [← bodyN_ru (Ls := Ls) hr] at h1 h2
  exact .inr ⟨x, h1, h2, h3, by rw [← h2]; exact hlen⟩
 obtain ⟨j, rfl⟩ : ∃ j, i = Rs.length + j := ⟨i - Rs.length, by omega⟩
 have hj : j < Ls.length := by omega
 have hb := h.labels j hj
 cases hh : (la Ls j).f1 with
 | true =>
  obtain ⟨x, h1, h2, h3⟩ := body_tree (hb.body hh)
  rw [← bodyN_la (Rs := Rs) hj] at h1 h2
  exact .inr ⟨x, h1, h2, h3, by rw [← h2]; exact hlen⟩
 | false =>
  have := List.length_eq_zero_iff.1 (hb.none hh)
  rw [← bodyN_la (Rs := Rs) hj] at this
  rw [this]
  exact .inl ⟨rfl, rfl⟩
section
variable {Rs : List Ru} {Ls : List La}
end
end Go.Proofs.Ytdiilocgjnlmiaa.Tre
end
section
namespace Go.Proofs.Ytdiilocgjnlmiaa.Tre
open Go.RowKit Go.Proofs.YtdiilocgjnlmiaaW.PrintWords Go.Proofs.YtdiilocgjnlmiaaW.PrintLast Go.Proofs.YtdiilocgjnlmiaaW.PrintMore
open Go.Proofs.Ytdiilocgjnlmiaa.PAll
set_option linter.unusedVariables false
set_option linter.unusedSimpArgs false
def oneB (b : Int) : ByteArray := strOfNums [b]
def hexS : ByteArray := ⟨#[48, 49, 50, 51, 52, 53, 54, 55, 56, 57, 97, 98, 99, 100, 101, 102]⟩
def hexB (v : Nat) : ByteArray := hexS.extract v (v + 1)
def esc (b : Int) : Bool := b == 92 || b == 34 || b == 91 || b == 93 || b == 45 || b == 94
def btF (b : Int) : ByteArray :=
 if b = 10 then ⟨#[92, 110]⟩ else if b = 9 then ⟨#[92, 116]⟩ else if b = 13 then ⟨#[92, 114]⟩ else if esc b = true then ⟨#[92]⟩ ++ oneB b else if 32 ≤ b ∧ b ≤ 126 then oneB b else (⟨#[92, 120]⟩ ++ hexB (b / 16).toNat) ++ hexB (b % 16).toNat
def rgF : List Int → ByteArray
 | lo :: hi :: s => (btF lo ++ (if hi > lo + 1 then ⟨#[45]⟩ else ByteArray.empty)) ++ (if hi > lo then btF hi else ByteArray.empty) ++ rgF s
 | _ => ByteArray.empty
def stF (s : List Int) : ByteArray := match s with
 | [lo, hi] => if lo = 0 ∧ hi = 255 then ⟨#[46]⟩ else if lo = hi then (⟨#[34]⟩ ++ btF lo) ++ ⟨#[34]⟩ else (⟨#[91]⟩ ++ rgF s) ++ ⟨#[93]⟩
 | _ => (⟨#[91]⟩ ++ rgF s) ++ ⟨#[93]⟩
def bndT : Tr → Nat
 | .alt _ _ => 0
 | .seq _ _ => 1
 | .neg _ => 2
 | .star _ => 3
 | _ => 4
def grB (yes : Bool) (s : ByteArray) : ByteArray := if yes = true then (⟨#[40]⟩ ++ s) ++ ⟨#[41]⟩ else s
def txT (rn ln : Nat → ByteArray) : Tr → ByteArray
 | .emp => ⟨#[34, 34]⟩
 | .set s => stF s
 | .ref n => rn n.toNat
 | .thr n => ⟨#[94]⟩ ++ ln n.toNat
 | .seq l r => (grB (decide (bndT l < 1)) (txT rn ln l) ++ ⟨#[32]⟩) ++ grB (decide (bndT r < 2)) (txT rn ln r)
 | .alt l r => (grB (decide (bndT l < 0)) (txT rn ln l) ++ ⟨#[32, 47, 32]⟩) ++ grB (decide (bndT r < 1)) (txT rn ln r)
 | .star x => grB (decide (bndT x < 4)) (txT rn ln x) ++ ⟨#[42]⟩
 | .neg x => ⟨#[33]⟩ ++ grB (decide (bndT x < 2)) (txT rn ln x)
theorem size_oneB (b : Int) : (oneB b).size = 1 := by simp [oneB, strOfNums, ByteArray.size]
theorem size_hexB (v : Nat) : (hexB v).size ≤ 1 := by
 simp only [hexB, ByteArray.size_extract, hexS]
 omega
theorem size_btF (b : Int) : (btF b).size ≤ 4 := by
 have h1 := size_hexB (b / 16).toNat
 have h2 := size_hexB (b % 16).toNat
 have e1 : (⟨#[92]⟩ : ByteArray).size = 1 := rfl
 have e2 : (⟨#[92, 120]⟩ : ByteArray).size = 2 := rfl
 unfold btF
 by_cases c1 : b = 10
 ·rw [if_pos c1]; exact (by decide : (2 : Nat) ≤ 4)
 rw [if_neg c1]
 by_cases c2 : b = 9
 ·rw [if_pos c2]; exact (by decide : (2 : Nat) ≤ 4)
 rw [if_neg c2]
 by_cases c3 : b = 13
 ·rw [if_pos c3]; exact (by decide : (2 : Nat) ≤ 4)
 rw [if_neg c3]
 by_cases c4 : esc b = true
 ·rw [if_pos c4, ByteArray.size_append, e1, size_oneB]; omega
 rw [if_neg c4]
 by_cases c5 : 32 ≤ b ∧ b ≤ 126
 ·rw [if_pos c5, size_oneB]; omega
 rw [if_neg c5, ByteArray.size_append, ByteArray.size_append, e2]
 omega
theorem size_rgF : ∀ (s : List Int), (rgF s).size ≤ 9 * s.length
 | [] => by simp [rgF]
 | [_] => by simp [rgF]
 | lo :: hi :: s => by
  have h1 := size_btF lo
  have h2 := size_btF hi
  have h3 := size_rgF s
  have e1 : (if hi > lo + 1 then (⟨#[45]⟩ : ByteArray) else ByteArray.empty).size ≤ 1 := by split; exact (by decide : (1 : Nat) ≤ 1); exact (by decide : (0 : Nat) ≤ 1)
  have e2 : (if hi > lo then btF hi else ByteArray.empty).size ≤ 4 := by split; exact h2; exact (by decide : (0 : Nat) ≤ 4)
  rw [rgF, ByteArray.size_append, ByteArray.size_append, ByteArray.size_append]
  simp only [List.length_cons]
  omega
end Go.Proofs.Ytdiilocgjnlmiaa.Tre
end
section
namespace Go.Proofs
open Go.Shelf
def Try.lays169_ren : Go.Shelf.Ren := ⟨fun | 169 => 93 | n => n, fun | 70 => 130 | 9 => 9 | 0 => 0 | 72 => 132 | 37 => 36 | 127 => 207 | 3 => 3 | 5 => 5 | n => n, fun | n => n⟩
theorem Try.lays169 : Go.Proofs.Lays.n169 Try.prog Try.lays169_ren := {
 mixed := by kernel_rfl
 f169 := Try.func93.trans (congrArg some (by kernel_rfl))
 t0 := Try.underlying0
 a0 := Try.isAgg0
 z0 := Try.sizeOf0
 v0 := Try.zeroValue0
 t3 := Try.underlying3
 a3 := Try.isAgg3
 z3 := Try.sizeOf3
 v3 := Try.zeroValue3
 t9 := Try.underlying9
 a9 := Try.isAgg9
 z9 := Try.sizeOf9
 v9 := Try.zeroValue9
 t37 := Try.underlying36
 a37 := Try.isAgg36
 z37 := Try.sizeOf36
 v37 := Try.zeroValue36
 t70 := Try.underlying130
 a70 := Try.isAgg130
 z70 := Try.sizeOf130
 v70 := Try.zeroValue130
 t72 := Try.underlying132
 a72 := Try.isAgg132
 z72 := Try.sizeOf132
 v72 := Try.zeroValue132
 t127 := Try.underlying207
 a127 := Try.isAgg207
 z127 := Try.sizeOf207
 v127 := Try.zeroValue207 }
theorem Try.Builder_Extra_169 : Builder.Extra Try.prog Try.lays169_ren := {
 sizeBuilder := by kernel_rfl
 liesBuilder := by kernel_rfl
 t5 := Try.underlying5
 a5 := Try.isAgg5
 z5 := Try.sizeOf5
 v5 := Try.zeroValue5
 infoByte := by kernel_rfl
 cellsByte := by kernel_rfl
 sizeByte := by kernel_rfl
 neB5 := by decide }
open Go.RowKit in
theorem Try.Builder_String_any (B b : Nat) (l : List UInt8) (w : World) (h : Lib.IsBuilder 132 5 B b (Lib.byteCells l) w) (hBw : B ≤ w.heap.size) :
 Calls Try.prog 93 #[.pointer (some ⟨b, 0, none⟩)] w fun e w' => e = .returned (.string ⟨l.toArray⟩) ∧ Below B w w' := Any.Builder_String_any Try.lays169 Try.Builder_Extra_169 B b l w h hBw
def Try.lays137_ren : Go.Shelf.Ren := ⟨fun | 137 => 179 | 217 => 180 | 266 => 181 | n => n, fun | 9 => 9 | 5 => 5 | 3 => 3 | n => n, fun | n => n⟩
theorem Try.lays137 : Go.Proofs.Lays.n137 Try.prog Try.lays137_ren := {
 mixed := by kernel_rfl
 f137 := Try.func179.trans (congrArg some (by kernel_rfl))
 f217 := Try.func180.trans (congrArg some (by kernel_rfl))
 f266 := Try.func181.trans (congrArg some (by kernel_rfl))
 t3 := Try.underlying3
 a3 := Try.isAgg3
 z3 := Try.sizeOf3
 v3 := Try.zeroValue3
 t5 := Try.underlying5
 a5 := Try.isAgg5
 z5 := Try.sizeOf5
 v5 := Try.zeroValue5
 t9 := Try.underlying9
 a9 := Try.isAgg9
 z9 := Try.sizeOf9
 v9 := Try.zeroValue9 }
open Go.RowKit in
theorem Try.strings_IndexByte (s : ByteArray) (c : Int) (w : World) :
 Calls Try.prog 179 #[.string s, .int .u8 c] w fun e w' => e = .returned (.int .i64 (Lib.indexByte s.data.toList c.toNat.toUInt8)) ∧ w' = w := Any.strings_IndexByte Try.lays137 s c w
end Go.Proofs
end
section
namespace Go.Proofs.Ytdiilocgjnlmiaa.Tre
open Go.RowKit Go.Proofs.YtdiilocgjnlmiaaW.PrintWords Go.Proofs.YtdiilocgjnlmiaaW.PrintLast Go.Proofs.YtdiilocgjnlmiaaW.PrintMore
open Go.Proofs.Ytdiilocgjnlmiaa.PAll
set_option linter.unusedVariables false
set_option linter.unusedSimpArgs false
theorem bd_size : (Try.prog.info? 132).map (fun i => i.size) = some 2 := by kernel_rfl
set_option maxRecDepth 100000 in
set_option maxHeartbeats 4000000 in
theorem copyCheck_in (w : World) (B b : Nat) (bs : List Value) (h : Lib.IsBuilder 132 5 B b bs w) :
 Calls Try.prog 136 #[.pointer (some ⟨b, 0, none⟩)] w fun e w' => e = .returned (.tuple #[]) ∧ Lib.BuilderAt 132 5 B b (.pointer (some ⟨b, 0, none⟩)) bs w' ∧ Below B w w' := by
 obtain ⟨j, hj, hjs⟩ := Option.map_eq_some_iff.1 bd_size
 rcases h with h | h
 ·have c0 := h.cell0
  have hsh := h.shape
  have hfz := h.frozen0
  have H := Aside0.mk h
  clear h
  go_enter Try.func136, Try.ntmps136
  go_wp2
  rw [Lib.run_to_unsafe w ⟨b, 0, none⟩ Try.underlying130 Try.underlying229 hj (by rw [hjs]; decide) hsh (Nat.zero_lt_succ 1)]
  simp only [Result.andThen]
  rw [Oper.upon_value]
  go_wp2
  rw [run_callFunc_extern Try.func165 (by kernel_rfl) (by kernel_rfl) (by kernel_rfl) (e := Extern.AbiNoEscape.same) (by kernel_rfl)]
  rw [Lib.run_noEscape]
  simp only [Result.andThen]
  rw [Oper.upon_value]
  go_wp2
  rw [Lib.run_from_unsafe w ⟨b, 0, none⟩ Try.underlying229 Try.underlying130 hj hsh (by kernel_rfl)]
  simp only [Result.andThen]
  rw [Oper.upon_value]
  go_wp2
  go_end0
  exact ⟨rfl, H.out.used _, (Below.refl B w).setCell (p := ⟨b, 0, none⟩) H.out.1 _⟩
 have c0 := h.cell0
 have H := Aside0.mk h
 clear h
 go_enter Try.func136, Try.ntmps136
 go_wp2
 rw [Lib.run_neq_ptr_same w _ Try.underlying130 hj]
 go_wp2
 go_end0
 exact ⟨rfl, H.out, Below.refl _ _⟩
theorem infoBy : (Try.prog.info? 5).map (fun i => (i.zero, i.size, i.bytes)) = some (some (.int .u8 0), 1, 1) := by kernel_rfl
theorem bd_open {w : World} {B b : Nat} {bs : List Value} (h : Lib.BuilderAt 132 5 B b (.pointer (some ⟨b, 0, none⟩)) bs w) : B ≤ b ∧ ∃ A n c, w.heap[b]? = some (.cells #[.pointer (some ⟨b, 0, none⟩), .slice A n c] 132 (0, 0)) ∧ n = bs.length ∧ w.ownsRow B 5 1 (.slice A n c) n bs ∧ (Value.slice A n c).ownBlock ≠ some b := by
 obtain ⟨hB, v, hb, ho, hn⟩ := h
 obtain ⟨A, c, rfl⟩ := own_form1 ho
 exact ⟨hB, A, bs.length, c, hb, rfl, ho, hn⟩
set_option maxRecDepth 100000 in
set_option maxHeartbeats 4000000 in
theorem writeString_in (w : World) (B b : Nat) (bs : List Value) (s : ByteArray) (h : Lib.IsBuilder 132 5 B b bs w) (hl : bs.length + s.size ≤ 1099511627776) (hBw : B ≤ w.heap.size) :
 Calls Try.prog 91 #[.pointer (some ⟨b, 0, none⟩), .string s] w fun e w' => e = .returned (.tuple #[.int .i64 s.size, .nilIface]) ∧ Lib.BuilderAt 132 5 B b (.pointer (some ⟨b, 0, none⟩)) (bs ++ Lib.strCells s) w' ∧ Below B w w' := by
 obtain ⟨i0, hi, hz, hs1, hby⟩ := info_parts infoBy
 have H := Aside0.mk h
 clear h
 go_enter Try.func91, Try.ntmps91
 go_wp2_with (first
  | ((with_reducible refine gate_dst (N := 14) rfl ?_); go_must (refine Lib.wpList_append_own_string _ rfl _ _ 36 9 rfl B 5 i0 Try.underlying36 Try.underlying9 hi hz hs1 hby _ _ _ rfl HO1.out s rfl (by have := HM1.out; unfold maxLen; omega) (by have := HM1.out; omega) (by have := HB1.out.size; omega) ?_; intro v2 w2 ho hg _; have hb2 := blk_grown HK1.out hg (fun e => hne1 e.symm); obtain ⟨A2, c2, rfl⟩ := own_form1 ho; have d1 := blk_cell hb2 1; have d2 := blk_frozen hb2 1; have HP := Aside0.mk (Lib.BuilderAt.put (T := 132) (e := 5) hB1 hb2 (bs' := bs ++ Lib.strCells s) (by have := HM1.out; simpa [Lib.strCells_length, this] using ho) (by decide)); have HB2 := Aside0.mk ((HB1.out.grown hg (by have := HB1.out.size; omega) (fun k hk => (HO1.out.lt k hk).1)).setCell (p := ⟨b, 1, none⟩) hB1 (.slice A2 (n1 + s.size) c2)); clear ho hg hb2))
  | (go_at_call 136; refine (copyCheck_in w B b bs H.out).mono ?_; go_must (rintro e w1 ⟨rfl, h1, hb⟩; obtain ⟨hB1, A1, n1, c1, hk, hm, ho, hne1⟩ := bd_open h1; have b0 := blk_cell hk 0; have b1 := blk_cell hk 1; have lb := blk_lt hk; have HK1 := Aside0.mk hk; have HM1 := Aside0.mk hm; have HO1 := Aside0.mk ho; have HB1 := Aside0.mk hb; clear h1 hb hk hm ho)))
 go_ret2
 exact ⟨rfl, by rw [HM1.out]; exact HP.out, HB2.out⟩
set_option maxRecDepth 100000 in
set_option maxHeartbeats 4000000 in
theorem writeByte_in (w : World) (B b : Nat) (bs : List Value) (x : Int) (h : Lib.IsBuilder 132 5 B b bs w) (hl : bs.length + 1 ≤ 1099511627776) (hBw : B ≤ w.heap.size) :
 Calls Try.prog 167 #[.pointer (some ⟨b, 0, none⟩), .int .u8 x] w fun e w' => e = .returned .nilIface ∧ Lib.BuilderAt 132 5 B b (.pointer (some ⟨b, 0, none⟩)) (bs ++ [.int .u8 x]) w' ∧ Below B w w' := by
 obtain ⟨i0, hi, hz, hs1, hby⟩ := info_parts infoBy
 have H := Aside0.mk h
 clear h
 go_enter Try.func167, Try.ntmps167
 go_wp2_with (first
  | ((with_reducible refine gate_dst (N := 14) rfl ?_); go_must (refine app_src _ B 36 5 i0 (.int .u8 0) 1 1 Try.underlying36 hi hz hs1 hby rfl (by decide) _ n1 bs (own_same HO1.out fun k _ hk => (below_alloc (Below.refl _ _) _).block k hk) rfl _ _ rfl rfl (some ⟨w1.heap.size, 0, none⟩) 1 1 [.int .u8 x] rfl rfl (src_three _ _ _ _ rfl rfl) (by intro u hu; simp at hu; subst hu; rfl) (by have := HM1.out; unfold maxLen; omega) (by have := HM1.out; omega) (by have := HB1.out.size; simp; omega) ?_; intro v2 w2 ho hg; have hb2 := blk_grown (blk_alloc HK1.out _) hg (fun e => hne1 e.symm); obtain ⟨A2, c2, rfl⟩ := own_form1 ho; have d1 := blk_cell hb2 1; have d2 := blk_frozen hb2 1; have HP := Aside0.mk (Lib.BuilderAt.put (T := 132) (e := 5) hB1 hb2 (bs' := bs ++ [.int .u8 x]) (by have := HM1.out; simpa [this] using ho) (by decide)); have HB2 := Aside0.mk (((HB1.out.alloc (by have := HB1.out.size; omega) _).grown hg (by have := HB1.out.size; simp; omega) (fun k hk => (HO1.out.lt k hk).1)).setCell (p := ⟨b, 1, none⟩) hB1 (.slice A2 (n1 + 1) c2)); clear ho hg hb2))
  | (go_at_call 136; refine (copyCheck_in w B b bs H.out).mono ?_; go_must (rintro e w1 ⟨rfl, h1, hb⟩; obtain ⟨hB1, A1, n1, c1, hk, hm, ho, hne1⟩ := bd_open h1; have b0 := blk_cell hk 0; have b1 := blk_cell hk 1; have lb := blk_lt hk; have HK1 := Aside0.mk hk; have HM1 := Aside0.mk hm; have HO1 := Aside0.mk ho; have HB1 := Aside0.mk hb; clear h1 hb hk hm ho)))
 go_ret
 exact ⟨rfl, by rw [HM1.out]; exact HP.out, HB2.out⟩
end Go.Proofs.Ytdiilocgjnlmiaa.Tre
end
section
-- Printed by a program of this session (printall.sh, over the kit's print.py).
namespace Go.Proofs.Ytdiilocgjnlmiaa.PAll
open Go.RowKit Go.Proofs.YtdiilocgjnlmiaaW.PrintWords Go.Proofs.YtdiilocgjnlmiaaW.PrintLast Go.Proofs.YtdiilocgjnlmiaaW.PrintMore
attribute [local go_sem] max2_int min2_int max_two min_two max_three min_three max_four min_four   -- for this text's walks alone
set_option linter.unusedVariables false
set_option linter.unusedSimpArgs false
def spec_l2hex.f (a0 : Int) : Option (ByteArray) := if 0 ≤ a0 then (if a0 ≤ (wrap64 (a0 + 1)) then (if (wrap64 (a0 + 1)) ≤ 16 then (some ((⟨#[48, 49, 50, 51, 52, 53, 54, 55, 56, 57, 97, 98, 99, 100, 101, 102]⟩ : ByteArray).extract (a0 : Int).toNat ((wrap64 (a0 + 1)) : Int).toNat)) else (none)) else (none)) else (none)
set_option maxHeartbeats 8000000 in
set_option maxRecDepth 100000 in
theorem spec_l2hex.calls (a0 : Int) (r : ByteArray) (w : World) (h : spec_l2hex.f a0 = some r) :
 Calls Try.prog 178 #[.int .i64 a0] w fun e w' => e = .returned (.string r) ∧ Drawn0 w w' := by
 have H : (if 0 ≤ a0 then (if a0 ≤ (wrap64 (a0 + 1)) then (if (wrap64 (a0 + 1)) ≤ 16 then (some ((⟨#[48, 49, 50, 51, 52, 53, 54, 55, 56, 57, 97, 98, 99, 100, 101, 102]⟩ : ByteArray).extract (a0 : Int).toNat ((wrap64 (a0 + 1)) : Int).toNat)) else (none)) else (none)) else (none)) = some r := h
 clear h
 by_cases c2 : 0 ≤ a0
 rotate_left
 ·rw [if_neg c2] at H
  exact absurd H (by simp)
 rw [if_pos c2] at H
 have c2b0 := eq_true c2
 have c2b1 : decide (0 ≤ a0) = true := decide_eq_true c2
 clear c2
 by_cases c3 : a0 ≤ (wrap64 (a0 + 1))
 rotate_left
 ·rw [if_neg c3] at H
  exact absurd H (by simp)
 rw [if_pos c3] at H
 have c3b0 := eq_true c3
 have c3b1 : decide (a0 ≤ (wrap64 (a0 + 1))) = true := decide_eq_true c3
 by_cases c4 : (wrap64 (a0 + 1)) ≤ 16
 ·rw [if_pos c4] at H
  have c4b0 := eq_true c4
  have c4b1 : decide ((wrap64 (a0 + 1)) ≤ 16) = true := decide_eq_true c4
  obtain rfl := Option.some.inj H
  go_enter Try.func178, Try.ntmps178
  go_wp2
  go_ret
  exact ⟨by first | rfl | (simp; done) | (simp [*]; done), by repeat (first | exact Drawn0.refl _ | apply Drawn0.step)⟩
 rw [if_neg c4] at H
 exact absurd H (by simp)
end Go.Proofs.Ytdiilocgjnlmiaa.PAll
end
section
namespace Go.Proofs.Ytdiilocgjnlmiaa.Tre
open Go.RowKit Go.Proofs.YtdiilocgjnlmiaaW.PrintWords Go.Proofs.YtdiilocgjnlmiaaW.PrintLast Go.Proofs.YtdiilocgjnlmiaaW.PrintMore
open Go.Proofs.Ytdiilocgjnlmiaa.PAll
set_option linter.unusedVariables false
set_option linter.unusedSimpArgs false
def StrPost (w : World) (s : ByteArray) (e : Ending) (w' : World) : Prop := e = .returned (.string s) ∧ Below w.heap.size w w'
theorem hex_in (v : Nat) (hv : v < 16) (w : World) : Calls Try.prog 178 #[.int .i64 (v : Int)] w (StrPost w (hexB v)) := by
 refine (spec_l2hex.calls (v : Int) (hexB v) w ?_).mono fun e w' h => ⟨h.1, h.2.below⟩
 have e1 : wrap64 ((v : Int) + 1) = (v : Int) + 1 := wid (by omega) (by omega)
 rw [spec_l2hex.f, e1, if_pos (by omega), if_pos (by omega), if_pos (by omega)]
 congr 1
theorem C_one (w : World) (b : Int) : Kd.C (Kd.int .u8) (w.alloc (Obj.cells #[.int .u8 b] 5)) (some ⟨w.heap.size, 0, none⟩) 1 [b] := by
 have h := World.ownsRow_lit (base := w.heap.size) (e := 5) (size := 1) w #[.int .u8 b] 1 (Nat.le_refl _) (by unfold maxLen; omega) (by simp)
 obtain ⟨A, c, e, hc, hC⟩ := own_C_int (k := .u8) (l := [b]) (show (w.alloc (Obj.cells #[.int .u8 b] 5)).ownsRow w.heap.size 5 1 (.slice (some ⟨w.heap.size, 0, none⟩) 1 1) 1 (nums .u8 [b]) from h) (by simp)
 injection e with e1 e2 e3
 subst e1
 exact hC
theorem esc_no {b : Int} (h : esc b = false) : b ≠ 92 ∧ b ≠ 34 ∧ b ≠ 91 ∧ b ≠ 93 ∧ b ≠ 45 ∧ b ≠ 94 := by
 unfold esc at h
 simp at h
 omega
theorem esc_yes {b : Int} (h : esc b = true) : b = 92 ∨ b = 34 ∨ b = 91 ∨ b = 93 ∨ b = 45 ∨ b = 94 := by
 unfold esc at h
 simp at h
 omega
set_option maxRecDepth 100000 in
set_option maxHeartbeats 8000000 in
theorem sbyte_in (b : Int) (h0 : 0 ≤ b) (h1 : b ≤ 255) (w : World) : Calls Try.prog 164 #[.int .i64 b] w (StrPost w (btF b)) := by
 by_cases c1 : b = 10
 ·subst c1
  go_enter Try.func164, Try.ntmps164
  go_wp2_with fail
  go_ret
  exact ⟨rfl, Below.refl _ _⟩
 by_cases c2 : b = 9
 ·subst c2
  go_enter Try.func164, Try.ntmps164
  go_wp2_with fail
  go_ret
  exact ⟨rfl, Below.refl _ _⟩
 by_cases c3 : b = 13
 ·subst c3
  go_enter Try.func164, Try.ntmps164
  go_wp2_with fail
  go_ret
  exact ⟨rfl, Below.refl _ _⟩
 have b1 : (b == 10) = false := beq_eq_false_iff_ne.mpr c1
 have b2 : (b == 9) = false := beq_eq_false_iff_ne.mpr c2
 have b3 : (b == 13) = false := beq_eq_false_iff_ne.mpr c3
 have hw : IntKind.u8.wrap b = b := by
  have : IntKind.u8.wrap b = b % 256 := rfl
  rw [this]; omega
 have hcv := Kd.C_string (P := Try.prog) (dst := 9) (c := 1) Try.underlying36 Try.underlying5 Try.underlying9 (C_one w b)
 cases c4 : esc b with
 | true =>
  have HE : Aside0 (btF b = ⟨#[92]⟩ ++ oneB b) := ⟨by unfold btF; rw [if_neg c1, if_neg c2, if_neg c3, if_pos c4]⟩
  rcases esc_yes c4 with rfl | rfl | rfl | rfl | rfl | rfl
  all_goals (
   clear c4 c1 c2 c3 b1 b2 b3
   go_enter Try.func164, Try.ntmps164
   go_wp2_with fail
   go_ret
   rw [HE.out]
   exact ⟨rfl, below_alloc (Below.refl _ _) _⟩)
 | false =>
  obtain ⟨d1, d2, d3, d4, d5, d6⟩ := esc_no c4
  have n1 : (b == 92) = false := beq_eq_false_iff_ne.mpr d1
  have n2 : (b == 34) = false := beq_eq_false_iff_ne.mpr d2
  have n3 : (b == 91) = false := beq_eq_false_iff_ne.mpr d3
  have n4 : (b == 93) = false := beq_eq_false_iff_ne.mpr d4
  have n5 : (b == 45) = false := beq_eq_false_iff_ne.mpr d5
  have n6 : (b == 94) = false := beq_eq_false_iff_ne.mpr d6
  by_cases c5 : 32 ≤ b ∧ b ≤ 126
  ·have HE : Aside0 (btF b = oneB b) := ⟨by unfold btF; rw [if_neg c1, if_neg c2, if_neg c3, if_neg (by rw [c4]; simp), if_pos c5]⟩
   have g1 : decide (b ≥ 32) = true := decide_eq_true c5.1
   have g2 : decide (b ≤ 126) = true := decide_eq_true c5.2
   clear c4 c1 c2 c3 d1 d2 d3 d4 d5 d6 c5
   go_enter Try.func164, Try.ntmps164
   go_wp2_with fail
   go_ret
   rw [HE.out]
   exact ⟨rfl, below_alloc (Below.refl _ _) _⟩
  have HE : Aside0 (btF b = (⟨#[92, 120]⟩ ++ hexB (b / 16).toNat) ++ hexB (b % 16).toNat) := ⟨by unfold btF; rw [if_neg c1, if_neg c2, if_neg c3, if_neg (by rw [c4]; simp), if_neg c5]⟩
  obtain ⟨v1, hv1⟩ : ∃ v : Nat, b / 16 = (v : Int) := ⟨(b / 16).toNat, by omega⟩
  obtain ⟨v2, hv2⟩ : ∃ v : Nat, b % 16 = (v : Int) := ⟨(b % 16).toNat, by omega⟩
  have l1 : v1 < 16 := by omega
  have l2 : v2 < 16 := by omega
  have t1 : Int.tdiv b 16 = (v1 : Int) := by rw [Int.tdiv_eq_ediv_of_nonneg h0, hv1]
  have t2 : Int.tmod b 16 = (v2 : Int) := by rw [Int.tmod_eq_emod_of_nonneg h0, hv2]
  have w1 : IntKind.i64.wrap (v1 : Int) = (v1 : Int) := (i64_w _).trans (wid (by omega) (by omega))
  rw [hv1, hv2, Int.toNat_natCast, Int.toNat_natCast] at HE
  have s1 : (⟨#[92, 120]⟩ ++ hexB v1 : ByteArray).size ≤ 3 := by
   have := size_hexB v1
   rw [ByteArray.size_append]
   show 2 + _ ≤ 3
   omega
  have s0 := size_hexB v1
  have s2 := size_hexB v2
  have g : decide (b ≥ 32) = false ∨ (decide (b ≥ 32) = true ∧ decide (b ≤ 126) = false) := by
   by_cases h : 32 ≤ b
   ·exact .inr ⟨decide_eq_true h, decide_eq_false (by omega)⟩
   exact .inl (decide_eq_false (by omega))
  clear c4 c1 c2 c3 d1 d2 d3 d4 d5 d6 c5 hv1 hv2 hw hcv
  rcases g with g | ⟨g1, g2⟩
  ·go_enter Try.func164, Try.ntmps164
   go_wp2_with (first
    | (go_at_call 178; refine (hex_in v2 l2 _).mono ?_; go_must (rintro e W2 ⟨rfl, hb⟩; have HB2 := Aside0.mk (below_then HB1.out HB1.out.size hb)))
    | (go_at_call 178; refine (hex_in v1 l1 _).mono ?_; go_must (rintro e W1 ⟨rfl, hb⟩; have HB1 := Aside0.mk hb; clear hb)))
   go_ret
   rw [HE.out]
   exact ⟨rfl, HB2.out⟩
  go_enter Try.func164, Try.ntmps164
  go_wp2_with (first
   | (go_at_call 178; refine (hex_in v2 l2 _).mono ?_; go_must (rintro e W2 ⟨rfl, hb⟩; have HB2 := Aside0.mk (below_then HB1.out HB1.out.size hb)))
   | (go_at_call 178; refine (hex_in v1 l1 _).mono ?_; go_must (rintro e W1 ⟨rfl, hb⟩; have HB1 := Aside0.mk hb; clear hb)))
  go_ret
  rw [HE.out]
  exact ⟨rfl, HB2.out⟩
end Go.Proofs.Ytdiilocgjnlmiaa.Tre
end
