import Derived.Test.YtahfkfdjhpookaaCbtPAllx0
import Derived.Test.YtahfkfdjhpookaaCbtPAllx2
import Derived.Test.YtahfkfdjhpookaaCbtPAllx3
namespace Go.Proofs.Ytahfkfdjhpookaa.PAll
open Go.RowKit Go.Proofs.YtahfkfdjhpookaaW.PrintWords Go.Proofs.YtahfkfdjhpookaaW.PrintLast Go.Proofs.YtahfkfdjhpookaaW.PrintMore
attribute [local go_sem] max2_int min2_int max_two min_two max_three min_three max_four min_four   -- for this text's walks alone
set_option linter.unusedVariables false
set_option linter.unusedSimpArgs false
def laws_eqByteS.l0 : Nat → List Int → List Int → Int → Option (Bool)
  | 0, _, _, _ => none
  | k + 1, x0, x1, x5 => if x5 < (x0.length : Int) then (if 0 ≤ x5 then (if x5 < (x1.length : Int) then (if (rd x0 x5) = (rd x1 x5) then (laws_eqByteS.l0 k x0 x1 (wrap64 (x5 + 1))) else (some false)) else (none)) else (none)) else (some true)
def laws_eqByteS.f (k : Nat) (l0 : List Int) (l1 : List Int) : Option (Bool) := if (l0.length : Int) = (l1.length : Int) then (laws_eqByteS.l0 k l0 l1 0) else (some false)
theorem laws_eqByteS.mono_l : ∀ k, (∀ y0 y1 y2, LeO (laws_eqByteS.l0 k y0 y1 y2) (laws_eqByteS.l0 (k + 1) y0 y1 y2))
  | 0 => fun _ _ _ r h => by simp [laws_eqByteS.l0] at h
  | k + 1 => by
    have ih0 := laws_eqByteS.mono_l k
    · intro y0 y1 y2
      unfold laws_eqByteS.l0
      repeat' first
      | (with_reducible exact ih0 _ _ _)
      | (with_reducible exact LeO.refl _)
      | (with_reducible exact LeO.none _)
      | (with_reducible refine LeO.ite ?_ ?_)
      | (with_reducible refine LeO.bind ?_ (fun _ => ?_))
      | exact ih0 _ _ _
      | exact LeO.none _
      | refine LeO.ite ?_ ?_
      | refine LeO.bind ?_ (fun _ => ?_)
theorem laws_eqByteS.mono : ∀ a0 a1 k, LeO (laws_eqByteS.f k a0 a1) (laws_eqByteS.f (k + 1) a0 a1) := by
  intro a0 a1 k
  have ih0 := laws_eqByteS.mono_l k
  unfold laws_eqByteS.f
  repeat' first
      | (with_reducible exact ih0 _ _ _)
      | (with_reducible exact LeO.refl _)
      | (with_reducible exact LeO.none _)
      | (with_reducible refine LeO.ite ?_ ?_)
      | (with_reducible refine LeO.bind ?_ (fun _ => ?_))
      | exact ih0 _ _ _
      | exact LeO.none _
      | refine LeO.ite ?_ ?_
      | refine LeO.bind ?_ (fun _ => ?_)
def laws_FnExactCharLen.f (k : Nat) (l0 : List Int) (a1 : Int) : Option (Bool) := if (l0.length : Int) > 1048576 then (some true) else ((laws_toByteS.f k l0).bind fun t114 => ((spec_CharLen.f k t114 a1).bind fun t117 => ((laws_toByteS.f k l0).bind fun t118 => ((impl_CharLen.f k t118 a1).bind fun t121 => (if t121 = t117 then ((laws_toByteS.f k l0).bind fun t122 => ((laws_eqByteS.f k t118 t122).bind fun t125 => (if t125 = true then (some true) else (some false)))) else (some false))))))
theorem laws_FnExactCharLen.mono : ∀ a0 a1 k, LeO (laws_FnExactCharLen.f k a0 a1) (laws_FnExactCharLen.f (k + 1) a0 a1) := by
  intro a0 a1 k
  unfold laws_FnExactCharLen.f
  repeat' first
      | (with_reducible exact impl_CharLen.mono _ _ _)
      | (with_reducible exact laws_eqByteS.mono _ _ _)
      | (with_reducible exact laws_toByteS.mono _ _)
      | (with_reducible exact spec_CharLen.mono _ _ _)
      | (with_reducible exact LeO.refl _)
      | (with_reducible exact LeO.none _)
      | (with_reducible refine LeO.ite ?_ ?_)
      | (with_reducible refine LeO.bind ?_ (fun _ => ?_))
      | exact impl_CharLen.mono _ _ _
      | exact laws_eqByteS.mono _ _ _
      | exact laws_toByteS.mono _ _
      | exact spec_CharLen.mono _ _ _
      | exact LeO.none _
      | refine LeO.ite ?_ ?_
      | refine LeO.bind ?_ (fun _ => ?_)
mutual
def spec_OffsetOf.l0 : Nat → List Int → Int → Int → Int → Int → Int → Option (Int)
  | 0, _, _, _, _, _, _ => none
  | k + 1, x0, x1, x2, x7, x8, x9 => if x7 = x1 then (spec_OffsetOf.j1 k x0 x1 x2 x7 x8 x9 (x8 != x2)) else (spec_OffsetOf.j1 k x0 x1 x2 x7 x8 x9 true)
def spec_OffsetOf.j1 : Nat → List Int → Int → Int → Int → Int → Int → Bool → Option (Int)
  | 0, _, _, _, _, _, _, _ => none
  | k + 1, x0, x1, x2, x7, x8, x9, x17 => if x17 = true then (if x9 = (x0.length : Int) then (some (-1)) else (if 0 ≤ x9 then (if x9 < (x0.length : Int) then (if (rd x0 x9) = 10 then ((spec_CharLen.f k x0 x9).bind fun t127 => (spec_OffsetOf.l0 k x0 x1 x2 (wrap64 (x7 + 1)) 1 (wrap64 (x9 + t127)))) else ((spec_CharLen.f k x0 x9).bind fun t128 => (spec_OffsetOf.l0 k x0 x1 x2 x7 (wrap64 (x8 + 1)) (wrap64 (x9 + t128))))) else (none)) else (none))) else (some x9)
end
def spec_OffsetOf.f (k : Nat) (l0 : List Int) (a1 : Int) (a2 : Int) : Option (Int) := spec_OffsetOf.l0 k l0 a1 a2 1 1 0
theorem spec_OffsetOf.mono_l : ∀ k, (∀ y0 y1 y2 y3 y4 y5, LeO (spec_OffsetOf.l0 k y0 y1 y2 y3 y4 y5) (spec_OffsetOf.l0 (k + 1) y0 y1 y2 y3 y4 y5)) ∧ (∀ y0 y1 y2 y3 y4 y5 y6, LeO (spec_OffsetOf.j1 k y0 y1 y2 y3 y4 y5 y6) (spec_OffsetOf.j1 (k + 1) y0 y1 y2 y3 y4 y5 y6))
  | 0 => ⟨fun _ _ _ _ _ _ r h => by simp [spec_OffsetOf.l0] at h, fun _ _ _ _ _ _ _ r h => by simp [spec_OffsetOf.j1] at h⟩
  | k + 1 => by
    obtain ⟨ih0, ih1⟩ := spec_OffsetOf.mono_l k
    refine ⟨?_, ?_⟩
    · intro y0 y1 y2 y3 y4 y5
      unfold spec_OffsetOf.l0
      repeat' first
      | (with_reducible exact ih0 _ _ _ _ _ _)
      | (with_reducible exact ih1 _ _ _ _ _ _ _)
      | (with_reducible exact spec_CharLen.mono _ _ _)
      | (with_reducible exact LeO.refl _)
      | (with_reducible exact LeO.none _)
      | (with_reducible refine LeO.ite ?_ ?_)
      | (with_reducible refine LeO.bind ?_ (fun _ => ?_))
      | exact ih0 _ _ _ _ _ _
      | exact ih1 _ _ _ _ _ _ _
      | exact spec_CharLen.mono _ _ _
      | exact LeO.none _
      | refine LeO.ite ?_ ?_
      | refine LeO.bind ?_ (fun _ => ?_)
    · intro y0 y1 y2 y3 y4 y5 y6
      unfold spec_OffsetOf.j1
      repeat' first
      | (with_reducible exact ih0 _ _ _ _ _ _)
      | (with_reducible exact ih1 _ _ _ _ _ _ _)
      | (with_reducible exact spec_CharLen.mono _ _ _)
      | (with_reducible exact LeO.refl _)
      | (with_reducible exact LeO.none _)
      | (with_reducible refine LeO.ite ?_ ?_)
      | (with_reducible refine LeO.bind ?_ (fun _ => ?_))
      | exact ih0 _ _ _ _ _ _
      | exact ih1 _ _ _ _ _ _ _
      | exact spec_CharLen.mono _ _ _
      | exact LeO.none _
      | refine LeO.ite ?_ ?_
      | refine LeO.bind ?_ (fun _ => ?_)
theorem spec_OffsetOf.mono : ∀ a0 a1 a2 k, LeO (spec_OffsetOf.f k a0 a1 a2) (spec_OffsetOf.f (k + 1) a0 a1 a2) := by
  intro a0 a1 a2 k
  obtain ⟨ih0, ih1⟩ := spec_OffsetOf.mono_l k
  unfold spec_OffsetOf.f
  repeat' first
      | (with_reducible exact ih0 _ _ _ _ _ _)
      | (with_reducible exact ih1 _ _ _ _ _ _ _)
      | (with_reducible exact spec_CharLen.mono _ _ _)
      | (with_reducible exact LeO.refl _)
      | (with_reducible exact LeO.none _)
      | (with_reducible refine LeO.ite ?_ ?_)
      | (with_reducible refine LeO.bind ?_ (fun _ => ?_))
      | exact ih0 _ _ _ _ _ _
      | exact ih1 _ _ _ _ _ _ _
      | exact spec_CharLen.mono _ _ _
      | exact LeO.none _
      | refine LeO.ite ?_ ?_
      | refine LeO.bind ?_ (fun _ => ?_)
def impl_lines_end.l0 : Nat → List Int → Int → Option (Int)
  | 0, _, _ => none
  | k + 1, x0, x5 => if x5 < (x0.length : Int) then (if 0 ≤ x5 then (if (rd x0 x5) = 10 then (some x5) else (impl_lines_end.l0 k x0 (wrap64 (x5 + 1)))) else (none)) else (some (x0.length : Int))
def impl_lines_end.f (k : Nat) (l0 : List Int) (a1 : Int) : Option (Int) := impl_lines_end.l0 k l0 a1
theorem impl_lines_end.mono_l : ∀ k, (∀ y0 y1, LeO (impl_lines_end.l0 k y0 y1) (impl_lines_end.l0 (k + 1) y0 y1))
  | 0 => fun _ _ r h => by simp [impl_lines_end.l0] at h
  | k + 1 => by
    have ih0 := impl_lines_end.mono_l k
    · intro y0 y1
      unfold impl_lines_end.l0
      repeat' first
      | (with_reducible exact ih0 _ _)
      | (with_reducible exact LeO.refl _)
      | (with_reducible exact LeO.none _)
      | (with_reducible refine LeO.ite ?_ ?_)
      | (with_reducible refine LeO.bind ?_ (fun _ => ?_))
      | exact ih0 _ _
      | exact LeO.none _
      | refine LeO.ite ?_ ?_
      | refine LeO.bind ?_ (fun _ => ?_)
theorem impl_lines_end.mono : ∀ a0 a1 k, LeO (impl_lines_end.f k a0 a1) (impl_lines_end.f (k + 1) a0 a1) := by
  intro a0 a1 k
  have ih0 := impl_lines_end.mono_l k
  unfold impl_lines_end.f
  repeat' first
      | (with_reducible exact ih0 _ _)
      | (with_reducible exact LeO.refl _)
      | (with_reducible exact LeO.none _)
      | (with_reducible refine LeO.ite ?_ ?_)
      | (with_reducible refine LeO.bind ?_ (fun _ => ?_))
      | exact ih0 _ _
      | exact LeO.none _
      | refine LeO.ite ?_ ?_
      | refine LeO.bind ?_ (fun _ => ?_)
def spec_l1lineStart.l0 : Nat → List Int → Int → Int → Int → Option (Int)
  | 0, _, _, _, _ => none
  | k + 1, x0, x1, x5, x6 => if x6 < x1 then (if 0 ≤ x6 then (if x6 < (x0.length : Int) then (if (rd x0 x6) = 10 then (spec_l1lineStart.l0 k x0 x1 (wrap64 (x6 + 1)) (wrap64 (x6 + 1))) else (spec_l1lineStart.l0 k x0 x1 x5 (wrap64 (x6 + 1)))) else (none)) else (none)) else (some x5)
def spec_l1lineStart.f (k : Nat) (l0 : List Int) (a1 : Int) : Option (Int) := spec_l1lineStart.l0 k l0 a1 0 0
theorem spec_l1lineStart.mono_l : ∀ k, (∀ y0 y1 y2 y3, LeO (spec_l1lineStart.l0 k y0 y1 y2 y3) (spec_l1lineStart.l0 (k + 1) y0 y1 y2 y3))
  | 0 => fun _ _ _ _ r h => by simp [spec_l1lineStart.l0] at h
  | k + 1 => by
    have ih0 := spec_l1lineStart.mono_l k
    · intro y0 y1 y2 y3
      unfold spec_l1lineStart.l0
      repeat' first
      | (with_reducible exact ih0 _ _ _ _)
      | (with_reducible exact LeO.refl _)
      | (with_reducible exact LeO.none _)
      | (with_reducible refine LeO.ite ?_ ?_)
      | (with_reducible refine LeO.bind ?_ (fun _ => ?_))
      | exact ih0 _ _ _ _
      | exact LeO.none _
      | refine LeO.ite ?_ ?_
      | refine LeO.bind ?_ (fun _ => ?_)
theorem spec_l1lineStart.mono : ∀ a0 a1 k, LeO (spec_l1lineStart.f k a0 a1) (spec_l1lineStart.f (k + 1) a0 a1) := by
  intro a0 a1 k
  have ih0 := spec_l1lineStart.mono_l k
  unfold spec_l1lineStart.f
  repeat' first
      | (with_reducible exact ih0 _ _ _ _)
      | (with_reducible exact LeO.refl _)
      | (with_reducible exact LeO.none _)
      | (with_reducible refine LeO.ite ?_ ?_)
      | (with_reducible refine LeO.bind ?_ (fun _ => ?_))
      | exact ih0 _ _ _ _
      | exact LeO.none _
      | refine LeO.ite ?_ ?_
      | refine LeO.bind ?_ (fun _ => ?_)
end Go.Proofs.Ytahfkfdjhpookaa.PAll
