/- Lemmas of the proof, and the walks of functions that it stands on. -/
import Derived.Test.YtdiilocgjnlmiaaCpgWWords
import Derived.Test.YtdiilocgjnlmiaaCpgWEqStruct
import Derived.Test.YtdiilocgjnlmiaaProg
import Derived.Below
import Derived.Deep.Draws
import Derived.Deep.AppendLies
import Derived.Maps.AppendAt
import Derived.OwnWalk
import Derived.Laws.BytesArg
import Derived.Laws.MakeOwn
import Derived.Laws.OwnMore
import Derived.Deep.OwnRows
import Derived.Tactics
import Derived.Lib.ConvBytes
import Derived.Laws.Slices
import Derived.WalkKit
import Derived.KernelRfl
import Derived.RowKit3
import Derived.Deep.LoopGhost
import Derived.Deep.QuietTactic
import Derived.BigQuiet
import Derived.WideLaws
import Derived.Deep.DeepCutAuto
import Derived.Deep.CutBlock
import Derived.Deep.RegionHeld3
import Derived.Laws.Rows
import Derived.Lib.AppendStr
import Derived.ArgAppend
import Derived.Laws.IdiomCopy
import Derived.OrdersHeld
import Derived.Laws.BitsLemmas
import Derived.RowKit
import Derived.Test.YtdiilocgjnlmiaaRows
import Derived.ProofKit
import Derived.Deep.Slices
import Derived.RangeFuncBox
import Derived.OneCell
import Derived.Lib.Hide
import Derived.Handy
section
namespace Go.Proofs.YtdiilocgjnlmiaaW.PrintWords
theorem Reps.one {α : Type} {R : α → List Value → Prop} {ps : List α} {cs : List Value} {p : α} {v : Value} (hp : R p [v]) (h : Reps R 1 ps cs) : Reps R 1 (p :: ps) (v :: cs) := by
 refine ⟨by simp [h.1], fun j q hq => ?_⟩
 cases j with
 | zero =>
  simp only [List.getElem?_cons_zero, Option.some.injEq] at hq
  subst hq
  simpa using hp
 | succ j =>
  simp only [List.getElem?_cons_succ] at hq
  have h1 := h.2 j q hq
  simpa [Nat.mul_one] using h1
theorem Reps.front {α : Type} {R : α → List Value → Prop} {size : Nat} {ps : List α} {cs c all : List Value} {p : α} (hp : R p c) (hc : c.length = size) (h : Reps R size ps cs) (ha : c ++ cs = all) : Reps R size (p :: ps) all := by
 subst ha
 refine ⟨by rw [List.length_append, hc, h.1, List.length_cons, Nat.succ_mul, Nat.add_comm], fun j q hq => ?_⟩
 cases j with
 | zero =>
  simp only [List.getElem?_cons_zero, Option.some.injEq] at hq
  subst hq
  rw [Nat.zero_mul, List.drop_zero, List.take_append_of_le_length (by omega), List.take_of_length_le (by omega)]
  exact hp
 | succ j =>
  simp only [List.getElem?_cons_succ] at hq
  have h1 := h.2 j q hq
  rw [Nat.succ_mul, List.drop_append, List.drop_of_length_le (by rw [hc]; exact Nat.le_add_left _ _), List.nil_append, hc, Nat.add_sub_cancel]
  exact h1
theorem Reps.c2 {α : Type} {R : α → List Value → Prop} {ps : List α} {cs : List Value} {p : α} {va vb : Value} (hp : R p [va, vb]) (h : Reps R 2 ps cs) : Reps R 2 (p :: ps) (va :: vb :: cs) := Reps.front hp rfl h rfl
theorem Reps.c3 {α : Type} {R : α → List Value → Prop} {ps : List α} {cs : List Value} {p : α} {va vb vc : Value} (hp : R p [va, vb, vc]) (h : Reps R 3 ps cs) : Reps R 3 (p :: ps) (va :: vb :: vc :: cs) := Reps.front hp rfl h rfl
theorem Reps.c4 {α : Type} {R : α → List Value → Prop} {ps : List α} {cs : List Value} {p : α} {va vb vc vd : Value} (hp : R p [va, vb, vc, vd]) (h : Reps R 4 ps cs) : Reps R 4 (p :: ps) (va :: vb :: vc :: vd :: cs) := Reps.front hp rfl h rfl
theorem Reps.c5 {α : Type} {R : α → List Value → Prop} {ps : List α} {cs : List Value} {p : α} {va vb vc vd ve : Value} (hp : R p [va, vb, vc, vd, ve]) (h : Reps R 5 ps cs) : Reps R 5 (p :: ps) (va :: vb :: vc :: vd :: ve :: cs) := Reps.front hp rfl h rfl
theorem Reps.c6 {α : Type} {R : α → List Value → Prop} {ps : List α} {cs : List Value} {p : α} {va vb vc vd ve vf : Value} (hp : R p [va, vb, vc, vd, ve, vf]) (h : Reps R 6 ps cs) : Reps R 6 (p :: ps) (va :: vb :: vc :: vd :: ve :: vf :: cs) := Reps.front hp rfl h rfl
theorem Reps.c7 {α : Type} {R : α → List Value → Prop} {ps : List α} {cs : List Value} {p : α} {va vb vc vd ve vf vg : Value} (hp : R p [va, vb, vc, vd, ve, vf, vg]) (h : Reps R 7 ps cs) : Reps R 7 (p :: ps) (va :: vb :: vc :: vd :: ve :: vf :: vg :: cs) := Reps.front hp rfl h rfl
theorem Reps.c8 {α : Type} {R : α → List Value → Prop} {ps : List α} {cs : List Value} {p : α} {va vb vc vd ve vf vg vh : Value} (hp : R p [va, vb, vc, vd, ve, vf, vg, vh]) (h : Reps R 8 ps cs) : Reps R 8 (p :: ps) (va :: vb :: vc :: vd :: ve :: vf :: vg :: vh :: cs) := Reps.front hp rfl h rfl
theorem Reps.c9 {α : Type} {R : α → List Value → Prop} {ps : List α} {cs : List Value} {p : α} {va vb vc vd ve vf vg vh vi : Value} (hp : R p [va, vb, vc, vd, ve, vf, vg, vh, vi]) (h : Reps R 9 ps cs) : Reps R 9 (p :: ps) (va :: vb :: vc :: vd :: ve :: vf :: vg :: vh :: vi :: cs) := Reps.front hp rfl h rfl
theorem Reps.c10 {α : Type} {R : α → List Value → Prop} {ps : List α} {cs : List Value} {p : α} {va vb vc vd ve vf vg vh vi vj : Value} (hp : R p [va, vb, vc, vd, ve, vf, vg, vh, vi, vj]) (h : Reps R 10 ps cs) : Reps R 10 (p :: ps) (va :: vb :: vc :: vd :: ve :: vf :: vg :: vh :: vi :: vj :: cs) := Reps.front hp rfl h rfl
end Go.Proofs.YtdiilocgjnlmiaaW.PrintWords
end
section
namespace Go.Proofs.YtdiilocgjnlmiaaW.PrintLast
section
variable {P : Program} {ops : Array Oper} {Q : Exit → Act → World → Prop} {md : Region.Mode} {T : Bool × List (List Nat × List Nat)} {B : List Nat} {O : List Nat} {b : Nat → Bool} {i j n : Nat}
def Closed (T : List (List Nat × List Nat)) (O : List Nat) (b : Nat → Bool) : Prop := ∀ d r, T[d]? = some r → O.contains d = true → b d = true → ∀ n ∈ r.1, O.contains n = true → b n = true
end
end Go.Proofs.YtdiilocgjnlmiaaW.PrintLast
end
section
namespace Go.Proofs.YtdiilocgjnlmiaaW.PrintWords
open Go.RowKit
end Go.Proofs.YtdiilocgjnlmiaaW.PrintWords
namespace Go.Proofs.YtdiilocgjnlmiaaW.PrintLast
section
variable {ops : Array Oper} {a : Act} {o og : Oper} {g : Nat} {t : Tmp} {u : Bool}
end
end Go.Proofs.YtdiilocgjnlmiaaW.PrintLast
end
section
namespace Go.Proofs.YtdiilocgjnlmiaaW.PrintWords
open Go.RowKit
section
variable {P : Program} {ops : Array Oper} {rest : List Oper} {o : Oper} {a : Act} {Q : Exit → Act → World → Prop} {W : World}
theorem gate_guard (hw : Region.wanted o (yielded ops a.tmps) = true) (h : wpList P ops Q ({ o with guard := none } :: rest) a W) : wpList P ops Q (o :: rest) a W := by
 have h1 : Region.wanted { o with guard := none } (yielded ops a.tmps) = true := rfl
 unfold wpList at h ⊢
 rw [if_pos h1] at h
 rw [if_pos hw]
 exact h
end
end Go.Proofs.YtdiilocgjnlmiaaW.PrintWords
end
section
namespace Go.Proofs.YtdiilocgjnlmiaaW.PrintWords
open Go.RowKit
namespace Kd
section
variable {α : Type} {d : Kd α} {e base n cap g : Nat} {ok ok' okp : Nat → Prop} {w w1 W : World} {v v1 : Value} {xs ys : List α}
end
section
variable {P : Program} {ops : Array Oper} {rest : List Oper} {o : Oper} {a : Act} {Q : Exit → Act → World → Prop} {Kc : Act → World → Prop} {α : Type}
end
end Kd
end Go.Proofs.YtdiilocgjnlmiaaW.PrintWords
end
section
namespace Go.Proofs.YtdiilocgjnlmiaaW.PrintMore
open Go.RowKit Go.Proofs.YtdiilocgjnlmiaaW.PrintWords
namespace Kd
open Go.Proofs.YtdiilocgjnlmiaaW.PrintWords.Kd
end Kd
namespace Kd
open Go.Proofs.YtdiilocgjnlmiaaW.PrintWords.Kd
section
variable {α : Type} {d : Kd α} {e base g N : Nat} {ok : Nat → Prop} {W w1 : World} {u v : Value} {xs : List α}
theorem R_old (hu : d.R e W base ok u xs) (hb : Below W.heap.size W w1) : d.R e w1 base (fun k => ok k ∧ k < W.heap.size) u xs :=
 R_mono (R_below (R_bound hu) hb) (fun _ h => ⟨h.1, h.2.2.1⟩)
theorem R_told (h : d.R e w1 base (fun k => ok k ∧ k < N) u xs) (hbase : ∀ k, v.ownBlock = some k → N ≤ k) : d.R e w1 base (fun k => (ok k ∧ some k ≠ v.ownBlock) ∧ k < N) u xs :=
 R_mono h (fun k hk => ⟨⟨hk.1, fun e => Nat.lt_irrefl _ (Nat.lt_of_lt_of_le hk.2 (hbase k e.symm))⟩, hk.2⟩)
end
end Kd
theorem max2_int (k k' : IntKind) (x y : Int) : Builtin.max2 (.int k x) (.int k' y) = pure (.int k (if x < y then y else x)) := by simp only [Builtin.max2, gt_iff_lt]
theorem min2_int (k k' : IntKind) (x y : Int) : Builtin.min2 (.int k x) (.int k' y) = pure (.int k (if y < x then y else x)) := by simp only [Builtin.min2]
theorem max_two (ats : Array TypeId) (ty : TypeId) (a b : Value) : Builtin.max_ ats ty #[a, b] = (Builtin.max2 a b >>= fun s => pure s) := by simp only [Builtin.max_, List.foldlM_cons, List.foldlM_nil]
theorem min_two (ats : Array TypeId) (ty : TypeId) (a b : Value) : Builtin.min_ ats ty #[a, b] = (Builtin.min2 a b >>= fun s => pure s) := by simp only [Builtin.min_, List.foldlM_cons, List.foldlM_nil]
theorem max_three (ats : Array TypeId) (ty : TypeId) (a b c : Value) : Builtin.max_ ats ty #[a, b, c] = (Builtin.max2 a b >>= fun s => Builtin.max2 s c >>= fun s => pure s) := by simp only [Builtin.max_, List.foldlM_cons, List.foldlM_nil]
theorem min_three (ats : Array TypeId) (ty : TypeId) (a b c : Value) : Builtin.min_ ats ty #[a, b, c] = (Builtin.min2 a b >>= fun s => Builtin.min2 s c >>= fun s => pure s) := by simp only [Builtin.min_, List.foldlM_cons, List.foldlM_nil]
theorem max_four (ats : Array TypeId) (ty : TypeId) (a b c d : Value) : Builtin.max_ ats ty #[a, b, c, d] = (Builtin.max2 a b >>= fun s => Builtin.max2 s c >>= fun s => Builtin.max2 s d >>= fun s => pure s) := by simp only [Builtin.max_, List.foldlM_cons, List.foldlM_nil]
theorem min_four (ats : Array TypeId) (ty : TypeId) (a b c d : Value) : Builtin.min_ ats ty #[a, b, c, d] = (Builtin.min2 a b >>= fun s => Builtin.min2 s c >>= fun s => Builtin.min2 s d >>= fun s => pure s) := by simp only [Builtin.min_, List.foldlM_cons, List.foldlM_nil]
end Go.Proofs.YtdiilocgjnlmiaaW.PrintMore
namespace Go.Proofs.YtdiilocgjnlmiaaW.PrintWords
open Go.RowKit
section
variable {P : Program} {ops : Array Oper} {rest : List Oper} {o : Oper} {a : Act} {Q : Exit → Act → World → Prop} {W : World}
theorem gate_callee {f : FuncId} {as1 : Array Operand} {ts : Array TypeId} (_ho : o.op = .call { callee := .value (.func f), args := as1, argTypes := ts }) (h : wpList P ops Q (o :: rest) a W) : wpList P ops Q (o :: rest) a W := h
end
namespace Kd
section
variable {α : Type} {d : Kd α} {e base : Nat} {ok : Nat → Prop} {W w1 : World} {v : Value} {xs : List α}
end
section
variable {α : Type} {d : Kd α} {e base g n cap : Nat} {ok oki okp : Nat → Prop} {W : World} {xs : List α} {i : Int} {c : List Value}
end
section
variable {α : Type} {d : Kd α} {e base b b' g N : Nat} {ok ok1 : Nat → Prop} {W W2 w1 : World} {u v : Value} {xs ys : List α} {S : Nat → Prop}
end
end Kd
end Go.Proofs.YtdiilocgjnlmiaaW.PrintWords
namespace Go.Proofs.YtdiilocgjnlmiaaW.PrintWords
open Go.RowKit
namespace Kd
section
variable {α β : Type} {d : Kd α} {e base base' n m c g N' lo hi : Nat} {ok ok' S : Nat → Prop} {w W w1 : World} {A : Option Addr} {ad : Addr} {u v v1 : Value} {xs : List α}
theorem foot_int {k : IntKind} {l : List Int} (h : (Kd.int k).C w (some ad) n l) (i : Int) (h0 : 0 ≤ i) (h1 : i < n) : w.cell? (ad.add i.toNat) = some (.int k (rd l i)) := by
 obtain ⟨ad', he, hc⟩ := at_int h i h0 h1
 injection he with he
 subst he
 exact hc
end
end Kd
end Go.Proofs.YtdiilocgjnlmiaaW.PrintWords
end
section
namespace Go.Proofs.Ytdiilocgjnlmiaa.PAll
open Go.RowKit Go.Proofs.YtdiilocgjnlmiaaW.PrintWords Go.Proofs.YtdiilocgjnlmiaaW.PrintLast Go.Proofs.YtdiilocgjnlmiaaW.PrintMore
attribute [local go_sem] max2_int min2_int max_two min_two max_three min_three max_four min_four   -- for this text's walks alone
set_option linter.unusedVariables false
set_option linter.unusedSimpArgs false
def errW : Option Int → Value
 | none => .nilIface
 | some c => .iface 0 (.int .i64 c)
theorem errW_none : errW none = .nilIface := rfl
theorem errW_some (c : Int) : errW (some c) = .iface 0 (.int .i64 c) := rfl
theorem info3 : (Try.prog.info? 3).map (fun i => (i.zero, i.size, i.bytes)) = some (some (.int .i64 0), 1, 8) := by kernel_rfl
theorem info5 : (Try.prog.info? 5).map (fun i => (i.zero, i.size, i.bytes)) = some (some (.int .u8 0), 1, 1) := by kernel_rfl
theorem info68 : (Try.prog.info? 68).map (fun i => (i.zero, i.size, i.bytes)) = some (some (.agg #[(.slice none 0 0), (.slice none 0 0)]), 2, 48) := by kernel_rfl
theorem info72 : (Try.prog.info? 72).map (fun i => (i.zero, i.size, i.bytes)) = some (some (.agg #[(.slice none 0 0), (.bool false), (.slice none 0 0)]), 3, 56) := by kernel_rfl
theorem info79 : (Try.prog.info? 79).map (fun i => (i.zero, i.size, i.bytes)) = some (some (.agg #[(.int .i64 0), (.slice none 0 0), (.int .i64 0)]), 3, 40) := by kernel_rfl
structure S234 where
 f0 : Int
 f1 : (List Int)
 f2 : Int
def z234 : S234 := ⟨(0 : Int), ([] : List Int), (0 : Int)⟩
def k234 : Kd S234 := Kd.iso (Kd.pair (Kd.int .i64) (Kd.pair (Kd.slice 3 (Kd.int .i64)) (Kd.int .i64))) (fun x : S234 => (x.f0, x.f1, x.f2))
theorem k234_open {w : World} {x : S234} {cs : List Value} (h : k234.K w x cs) : ∃ A1 c1, cs = [.int .i64 x.f0, .slice A1 x.f1.length c1, .int .i64 x.f2] ∧ x.f1.length ≤ c1 ∧ (Kd.int .i64).C w A1 x.f1.length x.f1 := by
 obtain ⟨_, _, rfl, rfl, ⟨_, _, rfl, ⟨A1, c1, rfl, l1, g1⟩, rfl⟩⟩ := h
 exact ⟨A1, c1, rfl, l1, g1⟩
def rd_T234 (xs : List S234) (i : Int) : S234 := xs.getD i.toNat z234
theorem at_T234 {w : World} {A : Option Addr} {n : Nat} {xs : List S234} (h : Kd.C k234 w A n xs) (i : Int) (h0 : 0 ≤ i) (h1 : i < n) : ∃ ad A1 c1, A = some ad ∧ w.cell? (ad.add (i.toNat * 3)) = some (.int .i64 (rd_T234 xs i).f0) ∧ w.cell? ⟨(ad.add (i.toNat * 3)).block, (ad.add (i.toNat * 3)).off + 1, none⟩ = some (.slice A1 (rd_T234 xs i).f1.length c1) ∧ w.cell? ⟨(ad.add (i.toNat * 3)).block, (ad.add (i.toNat * 3)).off + 2, none⟩ = some (.int .i64 (rd_T234 xs i).f2) ∧ (rd_T234 xs i).f1.length ≤ c1 ∧ (Kd.int .i64).C w A1 (rd_T234 xs i).f1.length (rd_T234 xs i).f1 := by
 obtain ⟨ad, c, e, _, hK, hc0⟩ := Kd.C_get h z234 i h0 h1
 have hc : ∀ j u, c[j]? = some u → w.cell? (ad.add (i.toNat * 3 + j)) = some u := hc0
 obtain ⟨A1, c1, rfl, l1, g1⟩ := k234_open hK
 exact ⟨ad, A1, c1, e, hc 0 _ rfl, by rw [← add_field _ _ 1 (by omega)]; exact hc 1 _ rfl, by rw [← add_field _ _ 2 (by omega)]; exact hc 2 _ rfl, l1, g1⟩
structure S153 where
 f0 : (List Int)
 f1 : (List S234)
def z153 : S153 := ⟨([] : List Int), ([] : List S234)⟩
def k153 : Kd S153 := Kd.iso (Kd.pair (Kd.slice 5 (Kd.int .u8)) (Kd.slice 234 k234)) (fun x : S153 => (x.f0, x.f1))
theorem k153_open {w : World} {x : S153} {cs : List Value} (h : k153.K w x cs) : ∃ A0 c0 A1 c1, cs = [.slice A0 x.f0.length c0, .slice A1 x.f1.length c1] ∧ x.f0.length ≤ c0 ∧ (Kd.int .u8).C w A0 x.f0.length x.f0 ∧ x.f1.length ≤ c1 ∧ k234.C w A1 x.f1.length x.f1 := by
 obtain ⟨_, _, rfl, ⟨A0, c0, rfl, l0, g0⟩, ⟨A1, c1, rfl, l1, g1⟩⟩ := h
 exact ⟨A0, c0, A1, c1, rfl, l0, g0, l1, g1⟩
def rd_T153 (xs : List S153) (i : Int) : S153 := xs.getD i.toNat z153
theorem at_T153 {w : World} {A : Option Addr} {n : Nat} {xs : List S153} (h : Kd.C k153 w A n xs) (i : Int) (h0 : 0 ≤ i) (h1 : i < n) : ∃ ad A0 c0 A1 c1, A = some ad ∧ w.cell? (ad.add (i.toNat * 2)) = some (.slice A0 (rd_T153 xs i).f0.length c0) ∧ w.cell? ⟨(ad.add (i.toNat * 2)).block, (ad.add (i.toNat * 2)).off + 1, none⟩ = some (.slice A1 (rd_T153 xs i).f1.length c1) ∧ (rd_T153 xs i).f0.length ≤ c0 ∧ (Kd.int .u8).C w A0 (rd_T153 xs i).f0.length (rd_T153 xs i).f0 ∧ (rd_T153 xs i).f1.length ≤ c1 ∧ k234.C w A1 (rd_T153 xs i).f1.length (rd_T153 xs i).f1 := by
 obtain ⟨ad, c, e, _, hK, hc0⟩ := Kd.C_get h z153 i h0 h1
 have hc : ∀ j u, c[j]? = some u → w.cell? (ad.add (i.toNat * 2 + j)) = some u := hc0
 obtain ⟨A0, c0, A1, c1, rfl, l0, g0, l1, g1⟩ := k153_open hK
 exact ⟨ad, A0, c0, A1, c1, e, hc 0 _ rfl, by rw [← add_field _ _ 1 (by omega)]; exact hc 1 _ rfl, l0, g0, l1, g1⟩
structure S156 where
 f0 : (List Int)
 f1 : Bool
 f2 : (List S234)
def z156 : S156 := ⟨([] : List Int), false, ([] : List S234)⟩
def k156 : Kd S156 := Kd.iso (Kd.pair (Kd.slice 5 (Kd.int .u8)) (Kd.pair Kd.bool (Kd.slice 234 k234))) (fun x : S156 => (x.f0, x.f1, x.f2))
theorem k156_open {w : World} {x : S156} {cs : List Value} (h : k156.K w x cs) : ∃ A0 c0 A2 c2, cs = [.slice A0 x.f0.length c0, .bool x.f1, .slice A2 x.f2.length c2] ∧ x.f0.length ≤ c0 ∧ (Kd.int .u8).C w A0 x.f0.length x.f0 ∧ x.f2.length ≤ c2 ∧ k234.C w A2 x.f2.length x.f2 := by
 obtain ⟨_, _, rfl, ⟨A0, c0, rfl, l0, g0⟩, ⟨_, _, rfl, rfl, ⟨A2, c2, rfl, l2, g2⟩⟩⟩ := h
 exact ⟨A0, c0, A2, c2, rfl, l0, g0, l2, g2⟩
def rd_T156 (xs : List S156) (i : Int) : S156 := xs.getD i.toNat z156
theorem at_T156 {w : World} {A : Option Addr} {n : Nat} {xs : List S156} (h : Kd.C k156 w A n xs) (i : Int) (h0 : 0 ≤ i) (h1 : i < n) : ∃ ad A0 c0 A2 c2, A = some ad ∧ w.cell? (ad.add (i.toNat * 3)) = some (.slice A0 (rd_T156 xs i).f0.length c0) ∧ w.cell? ⟨(ad.add (i.toNat * 3)).block, (ad.add (i.toNat * 3)).off + 1, none⟩ = some (.bool (rd_T156 xs i).f1) ∧ w.cell? ⟨(ad.add (i.toNat * 3)).block, (ad.add (i.toNat * 3)).off + 2, none⟩ = some (.slice A2 (rd_T156 xs i).f2.length c2) ∧ (rd_T156 xs i).f0.length ≤ c0 ∧ (Kd.int .u8).C w A0 (rd_T156 xs i).f0.length (rd_T156 xs i).f0 ∧ (rd_T156 xs i).f2.length ≤ c2 ∧ k234.C w A2 (rd_T156 xs i).f2.length (rd_T156 xs i).f2 := by
 obtain ⟨ad, c, e, _, hK, hc0⟩ := Kd.C_get h z156 i h0 h1
 have hc : ∀ j u, c[j]? = some u → w.cell? (ad.add (i.toNat * 3 + j)) = some u := hc0
 obtain ⟨A0, c0, A2, c2, rfl, l0, g0, l2, g2⟩ := k156_open hK
 exact ⟨ad, A0, c0, A2, c2, e, hc 0 _ rfl, by rw [← add_field _ _ 1 (by omega)]; exact hc 1 _ rfl, by rw [← add_field _ _ 2 (by omega)]; exact hc 2 _ rfl, l0, g0, l2, g2⟩
structure S79 where
 f0 : Int
 f1 : (List Int)
 f2 : Int
def z79 : S79 := ⟨(0 : Int), ([] : List Int), (0 : Int)⟩
def k79 : Kd S79 := Kd.iso (Kd.pair (Kd.int .i64) (Kd.pair (Kd.slice 3 (Kd.int .i64)) (Kd.int .i64))) (fun x : S79 => (x.f0, x.f1, x.f2))
theorem k79_open {w : World} {x : S79} {cs : List Value} (h : k79.K w x cs) : ∃ A1 c1, cs = [.int .i64 x.f0, .slice A1 x.f1.length c1, .int .i64 x.f2] ∧ x.f1.length ≤ c1 ∧ (Kd.int .i64).C w A1 x.f1.length x.f1 := by
 obtain ⟨_, _, rfl, rfl, ⟨_, _, rfl, ⟨A1, c1, rfl, l1, g1⟩, rfl⟩⟩ := h
 exact ⟨A1, c1, rfl, l1, g1⟩
theorem k79_openM {w : World} {base : Nat} {ok : Nat → Prop} {x : S79} {cs : List Value} (h : k79.M w base ok x cs) : ∃ v1, cs = [.int .i64 x.f0, v1, .int .i64 x.f2] ∧ (Kd.int .i64).R 3 w base ok v1 x.f1 := by
 obtain ⟨_, _, rfl, rfl, ⟨_, _, rfl, ⟨v1, rfl, g1⟩, rfl⟩⟩ := h
 exact ⟨v1, rfl, g1⟩
theorem k79_mkM (w : World) (base : Nat) (ok : Nat → Prop) (x : S79) {v1 : Value} (g1 : (Kd.int .i64).R 3 w base ok v1 x.f1) : k79.M w base ok x [.int .i64 x.f0, v1, .int .i64 x.f2] := ⟨[.int .i64 x.f0], [v1, .int .i64 x.f2], rfl, rfl, ⟨[v1], [.int .i64 x.f2], rfl, ⟨v1, rfl, g1⟩, rfl⟩⟩
def rd_T79 (xs : List S79) (i : Int) : S79 := xs.getD i.toNat z79
theorem at_T79 {w : World} {A : Option Addr} {n : Nat} {xs : List S79} (h : Kd.C k79 w A n xs) (i : Int) (h0 : 0 ≤ i) (h1 : i < n) : ∃ ad A1 c1, A = some ad ∧ w.cell? (ad.add (i.toNat * 3)) = some (.int .i64 (rd_T79 xs i).f0) ∧ w.cell? ⟨(ad.add (i.toNat * 3)).block, (ad.add (i.toNat * 3)).off + 1, none⟩ = some (.slice A1 (rd_T79 xs i).f1.length c1) ∧ w.cell? ⟨(ad.add (i.toNat * 3)).block, (ad.add (i.toNat * 3)).off + 2, none⟩ = some (.int .i64 (rd_T79 xs i).f2) ∧ (rd_T79 xs i).f1.length ≤ c1 ∧ (Kd.int .i64).C w A1 (rd_T79 xs i).f1.length (rd_T79 xs i).f1 := by
 obtain ⟨ad, c, e, _, hK, hc0⟩ := Kd.C_get h z79 i h0 h1
 have hc : ∀ j u, c[j]? = some u → w.cell? (ad.add (i.toNat * 3 + j)) = some u := hc0
 obtain ⟨A1, c1, rfl, l1, g1⟩ := k79_open hK
 exact ⟨ad, A1, c1, e, hc 0 _ rfl, by rw [← add_field _ _ 1 (by omega)]; exact hc 1 _ rfl, by rw [← add_field _ _ 2 (by omega)]; exact hc 2 _ rfl, l1, g1⟩
structure S68 where
 f0 : (List Int)
 f1 : (List S79)
def z68 : S68 := ⟨([] : List Int), ([] : List S79)⟩
def k68 : Kd S68 := Kd.iso (Kd.pair (Kd.slice 5 (Kd.int .u8)) (Kd.slice 79 k79)) (fun x : S68 => (x.f0, x.f1))
theorem k68_open {w : World} {x : S68} {cs : List Value} (h : k68.K w x cs) : ∃ A0 c0 A1 c1, cs = [.slice A0 x.f0.length c0, .slice A1 x.f1.length c1] ∧ x.f0.length ≤ c0 ∧ (Kd.int .u8).C w A0 x.f0.length x.f0 ∧ x.f1.length ≤ c1 ∧ k79.C w A1 x.f1.length x.f1 := by
 obtain ⟨_, _, rfl, ⟨A0, c0, rfl, l0, g0⟩, ⟨A1, c1, rfl, l1, g1⟩⟩ := h
 exact ⟨A0, c0, A1, c1, rfl, l0, g0, l1, g1⟩
theorem k68_openM {w : World} {base : Nat} {ok : Nat → Prop} {x : S68} {cs : List Value} (h : k68.M w base ok x cs) : ∃ v0 v1, cs = [v0, v1] ∧ (Kd.int .u8).R 5 w base ok v0 x.f0 ∧ k79.R 79 w base ok v1 x.f1 := by
 obtain ⟨_, _, rfl, ⟨v0, rfl, g0⟩, ⟨v1, rfl, g1⟩⟩ := h
 exact ⟨v0, v1, rfl, g0, g1⟩
theorem k68_mkM (w : World) (base : Nat) (ok : Nat → Prop) (x : S68) {v0 : Value} (g0 : (Kd.int .u8).R 5 w base ok v0 x.f0) {v1 : Value} (g1 : k79.R 79 w base ok v1 x.f1) : k68.M w base ok x [v0, v1] := ⟨[v0], [v1], rfl, ⟨v0, rfl, g0⟩, ⟨v1, rfl, g1⟩⟩
def rd_T68 (xs : List S68) (i : Int) : S68 := xs.getD i.toNat z68
theorem at_T68 {w : World} {A : Option Addr} {n : Nat} {xs : List S68} (h : Kd.C k68 w A n xs) (i : Int) (h0 : 0 ≤ i) (h1 : i < n) : ∃ ad A0 c0 A1 c1, A = some ad ∧ w.cell? (ad.add (i.toNat * 2)) = some (.slice A0 (rd_T68 xs i).f0.length c0) ∧ w.cell? ⟨(ad.add (i.toNat * 2)).block, (ad.add (i.toNat * 2)).off + 1, none⟩ = some (.slice A1 (rd_T68 xs i).f1.length c1) ∧ (rd_T68 xs i).f0.length ≤ c0 ∧ (Kd.int .u8).C w A0 (rd_T68 xs i).f0.length (rd_T68 xs i).f0 ∧ (rd_T68 xs i).f1.length ≤ c1 ∧ k79.C w A1 (rd_T68 xs i).f1.length (rd_T68 xs i).f1 := by
 obtain ⟨ad, c, e, _, hK, hc0⟩ := Kd.C_get h z68 i h0 h1
 have hc : ∀ j u, c[j]? = some u → w.cell? (ad.add (i.toNat * 2 + j)) = some u := hc0
 obtain ⟨A0, c0, A1, c1, rfl, l0, g0, l1, g1⟩ := k68_open hK
 exact ⟨ad, A0, c0, A1, c1, e, hc 0 _ rfl, by rw [← add_field _ _ 1 (by omega)]; exact hc 1 _ rfl, l0, g0, l1, g1⟩
structure S72 where
 f0 : (List Int)
 f1 : Bool
 f2 : (List S79)
def z72 : S72 := ⟨([] : List Int), false, ([] : List S79)⟩
def k72 : Kd S72 := Kd.iso (Kd.pair (Kd.slice 5 (Kd.int .u8)) (Kd.pair Kd.bool (Kd.slice 79 k79))) (fun x : S72 => (x.f0, x.f1, x.f2))
theorem k72_open {w : World} {x : S72} {cs : List Value} (h : k72.K w x cs) : ∃ A0 c0 A2 c2, cs = [.slice A0 x.f0.length c0, .bool x.f1, .slice A2 x.f2.length c2] ∧ x.f0.length ≤ c0 ∧ (Kd.int .u8).C w A0 x.f0.length x.f0 ∧ x.f2.length ≤ c2 ∧ k79.C w A2 x.f2.length x.f2 := by
 obtain ⟨_, _, rfl, ⟨A0, c0, rfl, l0, g0⟩, ⟨_, _, rfl, rfl, ⟨A2, c2, rfl, l2, g2⟩⟩⟩ := h
 exact ⟨A0, c0, A2, c2, rfl, l0, g0, l2, g2⟩
theorem k72_openM {w : World} {base : Nat} {ok : Nat → Prop} {x : S72} {cs : List Value} (h : k72.M w base ok x cs) : ∃ v0 v2, cs = [v0, .bool x.f1, v2] ∧ (Kd.int .u8).R 5 w base ok v0 x.f0 ∧ k79.R 79 w base ok v2 x.f2 := by
 obtain ⟨_, _, rfl, ⟨v0, rfl, g0⟩, ⟨_, _, rfl, rfl, ⟨v2, rfl, g2⟩⟩⟩ := h
 exact ⟨v0, v2, rfl, g0, g2⟩
theorem k72_mkM (w : World) (base : Nat) (ok : Nat → Prop) (x : S72) {v0 : Value} (g0 : (Kd.int .u8).R 5 w base ok v0 x.f0) {v2 : Value} (g2 : k79.R 79 w base ok v2 x.f2) : k72.M w base ok x [v0, .bool x.f1, v2] := ⟨[v0], [.bool x.f1, v2], rfl, ⟨v0, rfl, g0⟩, ⟨[.bool x.f1], [v2], rfl, rfl, ⟨v2, rfl, g2⟩⟩⟩
def rd_T72 (xs : List S72) (i : Int) : S72 := xs.getD i.toNat z72
theorem at_T72 {w : World} {A : Option Addr} {n : Nat} {xs : List S72} (h : Kd.C k72 w A n xs) (i : Int) (h0 : 0 ≤ i) (h1 : i < n) : ∃ ad A0 c0 A2 c2, A = some ad ∧ w.cell? (ad.add (i.toNat * 3)) = some (.slice A0 (rd_T72 xs i).f0.length c0) ∧ w.cell? ⟨(ad.add (i.toNat * 3)).block, (ad.add (i.toNat * 3)).off + 1, none⟩ = some (.bool (rd_T72 xs i).f1) ∧ w.cell? ⟨(ad.add (i.toNat * 3)).block, (ad.add (i.toNat * 3)).off + 2, none⟩ = some (.slice A2 (rd_T72 xs i).f2.length c2) ∧ (rd_T72 xs i).f0.length ≤ c0 ∧ (Kd.int .u8).C w A0 (rd_T72 xs i).f0.length (rd_T72 xs i).f0 ∧ (rd_T72 xs i).f2.length ≤ c2 ∧ k79.C w A2 (rd_T72 xs i).f2.length (rd_T72 xs i).f2 := by
 obtain ⟨ad, c, e, _, hK, hc0⟩ := Kd.C_get h z72 i h0 h1
 have hc : ∀ j u, c[j]? = some u → w.cell? (ad.add (i.toNat * 3 + j)) = some u := hc0
 obtain ⟨A0, c0, A2, c2, rfl, l0, g0, l2, g2⟩ := k72_open hK
 exact ⟨ad, A0, c0, A2, c2, e, hc 0 _ rfl, by rw [← add_field _ _ 1 (by omega)]; exact hc 1 _ rfl, by rw [← add_field _ _ 2 (by omega)]; exact hc 2 _ rfl, l0, g0, l2, g2⟩
structure S87 where
 f0 : Int
 f1 : Int
 f2 : Int
 f3 : (List Int)
def z87 : S87 := ⟨(0 : Int), (0 : Int), (0 : Int), ([] : List Int)⟩
def rd_T87 (xs : List S87) (i : Int) : S87 := xs.getD i.toNat z87
structure S165 where
 f0 : Int
 f1 : Int
 f2 : Int
 f3 : Int
structure S103 where
 f0 : Int
 f1 : Int
 f2 : Int
def z103 : S103 := ⟨(0 : Int), (0 : Int), (0 : Int)⟩
def rd_T103 (xs : List S103) (i : Int) : S103 := xs.getD i.toNat z103
structure S88 where
 f0 : Int
 f1 : Int
 f2 : Int
 f3 : (List Int)
def z88 : S88 := ⟨(0 : Int), (0 : Int), (0 : Int), ([] : List Int)⟩
def k88 : Kd S88 := Kd.iso (Kd.pair (Kd.int .i64) (Kd.pair (Kd.int .i64) (Kd.pair (Kd.int .i64) (Kd.slice 3 (Kd.int .i64))))) (fun x : S88 => (x.f0, x.f1, x.f2, x.f3))
theorem k88_mk (w : World) (x : S88) {A3 : Option Addr} {c3 : Nat} (l3 : x.f3.length ≤ c3) (g3 : (Kd.int .i64).C w A3 x.f3.length x.f3) : k88.K w x [.int .i64 x.f0, .int .i64 x.f1, .int .i64 x.f2, .slice A3 x.f3.length c3] := ⟨[.int .i64 x.f0], [.int .i64 x.f1, .int .i64 x.f2, .slice A3 x.f3.length c3], rfl, rfl, ⟨[.int .i64 x.f1], [.int .i64 x.f2, .slice A3 x.f3.length c3], rfl, rfl, ⟨[.int .i64 x.f2], [.slice A3 x.f3.length c3], rfl, rfl, ⟨A3, c3, rfl, l3, g3⟩⟩⟩⟩
def rd_T88 (xs : List S88) (i : Int) : S88 := xs.getD i.toNat z88
end Go.Proofs.Ytdiilocgjnlmiaa.PAll
end
section
namespace Go.Proofs.Ytdiilocgjnlmiaa.Open
open Go.RowKit Go.Deep Go.Proofs.YtdiilocgjnlmiaaW.PrintWords Go.Proofs.YtdiilocgjnlmiaaW.PrintLast
section
variable {H : Type} {enc : TypeId × Value → H} {P : Program} {w : World} {base : Nat} {spare : Nat → Bool} {held : Bool}
def Opens {α : Type} (enc : TypeId × Value → H) (P : Program) (w : World) (base : Nat) (spare : Nat → Bool) (held : Bool) (t : TypeId) (k : Kd α) (g : α → Prop) : Prop :=
 ∀ fuel cs x, DataW.trod enc P w base spare held fuel t cs = some x → ∃ a : α, k.K w a cs ∧ g a
theorem opens_int {t : TypeId} {ik : IntKind} (ht : P.underlying t = some (.int ik)) : Opens enc P w base spare held t (Kd.int ik) (fun n => (Lit.int ik n).wf = true) := by
 intro fuel cs x h
 obtain ⟨n, rfl, _, hw⟩ := DataW.trod_int ht h
 exact ⟨n, rfl, hw⟩
theorem opens_bool {t : TypeId} (ht : P.underlying t = some .bool) : Opens enc P w base spare held t Kd.bool (fun _ => True) := by
 intro fuel cs x h
 obtain ⟨b, rfl, _⟩ := DataW.trod_bool ht h
 exact ⟨b, rfl, trivial⟩
theorem choose_list {α : Type} {p : Nat → α → Prop} : ∀ (n : Nat), (∀ i, i < n → ∃ a, p i a) → ∃ l : List α, l.length = n ∧ ∀ i a, l[i]? = some a → p i a
 | 0, _ => ⟨[], rfl, fun i a h => by simp at h⟩
 | n + 1, h => by
  obtain ⟨l, hl, hp⟩ := choose_list n (fun i hi => h i (by omega))
  obtain ⟨a, ha⟩ := h n (by omega)
  refine ⟨l ++ [a], by simp [hl], fun i b hb => ?_⟩
  by_cases c : i < l.length
  ·rw [List.getElem?_append_left c] at hb
   exact hp i b hb
  rw [List.getElem?_append_right (by omega)] at hb
  have : i - l.length = 0 := by
   by_cases z : i - l.length = 0
   ·exact z
   rw [List.getElem?_eq_none (by simp; omega)] at hb; cases hb
  rw [this] at hb
  simp at hb
  subst hb
  rw [show i = n by omega]
  exact ha
theorem opens_slice {α : Type} {k : Kd α} {g : α → Prop} {t e : TypeId} (ht : P.underlying t = some (.slice e)) (hc : P.cellsOf e = k.sz) (hk : Opens enc P w base spare held e k g) :
 Opens enc P w base spare held t (Kd.slice e k) (fun l => (∀ a ∈ l, g a) ∧ l.length ≤ 9223372036854775807) := by
 intro fuel cs x h
 rcases open_slice ht h with ⟨rfl, _⟩ | ⟨a, len, cap, m, n, D, Pl, rfl, hb, hl, hm, hmm, _, hx⟩
 ·refine ⟨[], ⟨none, 0, rfl, Nat.le_refl _, rfl, by simp, fun h => by simp at h⟩, ?_⟩
  show (∀ a ∈ ([] : List α), g a) ∧ _
  exact ⟨fun a h => (by cases h), by simp⟩
 have hle : len ≤ m := by rw [hmm]; split <;> omega
 have hmx : maxLen = 9223372036854775807 := by unfold maxLen; rfl
 obtain ⟨l, hll, hp⟩ := choose_list (p := fun i (y : α) => (∃ c, c.length = k.sz ∧ k.K w y c ∧ ∀ j u, c[j]? = some u → w.cell? (a.add (i * k.sz + j)) = some u) ∧ g y) len (fun i hi => by
  obtain ⟨cs', h1, h2⟩ := hx i (by omega)
  obtain ⟨y, hy, hgy⟩ := hk n cs' _ h2
  obtain ⟨_, hlen, hcell⟩ := World.cells?_some h1
  rw [hc] at hlen hcell
  refine ⟨y, ⟨cs', hlen, hy, fun j u hj => ?_⟩, hgy⟩
  have hjl : j < cs'.length := by
   by_cases z : j < cs'.length
   ·exact z
   rw [List.getElem?_eq_none (by omega)] at hj; cases hj
  have := hcell j (by omega)
  rw [← hj, ← this, Addr.add_add])
 refine ⟨l, ⟨some a, cap, by rw [hll], by omega, rfl, by omega, fun _ => ⟨a, rfl, fun j p hj => (hp j p hj).1⟩⟩, ?_⟩
 show (∀ a ∈ l, g a) ∧ _
 refine ⟨fun y hy => ?_, by omega⟩
 obtain ⟨i, hi⟩ := List.getElem?_of_mem hy
 exact (hp i y hi).2
theorem K_pair {α β : Type} {a : Kd α} {b : Kd β} {cs : List Value} {x : α} {y : β} (h0 : a.K w x (cs.take a.sz)) (h1 : b.K w y (cs.drop a.sz)) : (Kd.pair a b).K w (x, y) cs :=
 ⟨_, _, (List.take_append_drop _ _).symm, h0, h1⟩
theorem opens_2 {α β : Type} {a : Kd α} {b : Kd β} {ga : α → Prop} {gb : β → Prop} {t : TypeId} {f0 f1 : Field} (ht : P.underlying t = some (.struct #[f0, f1]))
 (hT : P.cellsOf t = a.sz + b.sz) (o0 : f0.offset = 0) (o1 : f1.offset = a.sz) (s0 : P.cellsOf f0.type = a.sz) (s1 : P.cellsOf f1.type = b.sz)
 (h0 : Opens enc P w base spare held f0.type a ga) (h1 : Opens enc P w base spare held f1.type b gb) :
 Opens enc P w base spare held t (Kd.pair a b) (fun x => ga x.1 ∧ gb x.2) := by
 intro fuel cs x h
 obtain ⟨xs, n, _, _, hl, hlen, hf⟩ := DataW.trod_struct ht h
 have e0 := hf 0 f0 rfl
 have e1 := hf 1 f1 rfl
 have l0 : xs[0]? = some (xs[0]'(by simp [hlen])) := by simp [hlen]
 have l1 : xs[1]? = some (xs[1]'(by simp [hlen])) := by simp [hlen]
 rw [l0, o0, s0, List.drop_zero] at e0
 rw [l1, o1, s1, List.take_of_length_le (by simp; omega)] at e1
 obtain ⟨p, hp, gp⟩ := h0 _ _ _ e0
 obtain ⟨q, hq, gq⟩ := h1 _ _ _ e1
 exact ⟨(p, q), K_pair hp hq, gp, gq⟩
theorem opens_3 {α β γ : Type} {a : Kd α} {b : Kd β} {c : Kd γ} {ga : α → Prop} {gb : β → Prop} {gc : γ → Prop} {t : TypeId} {f0 f1 f2 : Field} (ht : P.underlying t = some (.struct #[f0, f1, f2]))
 (hT : P.cellsOf t = a.sz + b.sz + c.sz) (o0 : f0.offset = 0) (o1 : f1.offset = a.sz) (o2 : f2.offset = a.sz + b.sz) (s0 : P.cellsOf f0.type = a.sz) (s1 : P.cellsOf f1.type = b.sz) (s2 : P.cellsOf f2.type = c.sz)
 (h0 : Opens enc P w base spare held f0.type a ga) (h1 : Opens enc P w base spare held f1.type b gb) (h2 : Opens enc P w base spare held f2.type c gc) :
 Opens enc P w base spare held t (Kd.pair a (Kd.pair b c)) (fun x => ga x.1 ∧ gb x.2.1 ∧ gc x.2.2) := by
 intro fuel cs x h
 obtain ⟨xs, n, _, _, hl, hlen, hf⟩ := DataW.trod_struct ht h
 have e0 := hf 0 f0 rfl
 have e1 := hf 1 f1 rfl
 have e2 := hf 2 f2 rfl
 have l0 : xs[0]? = some (xs[0]'(by simp [hlen])) := by simp [hlen]
 have l1 : xs[1]? = some (xs[1]'(by simp [hlen])) := by simp [hlen]
 have l2 : xs[2]? = some (xs[2]'(by simp [hlen])) := by simp [hlen]
 rw [l0, o0, s0, List.drop_zero] at e0
 rw [l1, o1, s1] at e1
 rw [l2, o2, s2, List.take_of_length_le (by simp; omega)] at e2
 obtain ⟨p, hp, gp⟩ := h0 _ _ _ e0
 obtain ⟨q, hq, gq⟩ := h1 _ _ _ e1
 obtain ⟨r, hr, gr⟩ := h2 _ _ _ e2
 exact ⟨(p, q, r), K_pair hp (K_pair hq (by rw [List.drop_drop]; exact hr)), gp, gq, gr⟩
theorem opens_iso {α β : Type} {d : Kd α} {g : α → Prop} {t : TypeId} (f : β → α) (m : α → β) (hm : ∀ x, f (m x) = x) (h : Opens enc P w base spare held t d g) : Opens enc P w base spare held t (Kd.iso d f) (fun y => g (f y)) := by
 intro fuel cs x hx
 obtain ⟨a, hk, hg⟩ := h fuel cs x hx
 refine ⟨m a, ?_, by show g (f (m a)); rw [hm]; exact hg⟩
 show d.K w (f (m a)) cs
 rw [hm]; exact hk
end
end Go.Proofs.Ytdiilocgjnlmiaa.Open
end
section
namespace Go.Proofs.Ytdiilocgjnlmiaa.Tre
open Go.RowKit Go.Proofs.YtdiilocgjnlmiaaW.PrintWords Go.Proofs.YtdiilocgjnlmiaaW.PrintLast Go.Proofs.YtdiilocgjnlmiaaW.PrintMore
open Go.Proofs.Ytdiilocgjnlmiaa.PAll
set_option linter.unusedVariables false
theorem wid {x : Int} (h0 : -9223372036854775808 ≤ x) (h1 : x < 9223372036854775808) : wrap64 x = x := by unfold wrap64; omega
end Go.Proofs.Ytdiilocgjnlmiaa.Tre
end
section
namespace Go.Proofs.Ytdiilocgjnlmiaa.Tre
open Go.RowKit Go.Proofs.YtdiilocgjnlmiaaW.PrintWords Go.Proofs.YtdiilocgjnlmiaaW.PrintLast Go.Proofs.YtdiilocgjnlmiaaW.PrintMore
open Go.Proofs.Ytdiilocgjnlmiaa.PAll
set_option linter.unusedVariables false
set_option linter.unusedSimpArgs false
set_option maxRecDepth 100000 in
set_option maxHeartbeats 4000000 in
theorem pop_none (w : World) (B : Nat) (A : Option Addr) (c n : Nat) (hn : n = 0) (hb : Boxed w B 114 (.slice A n c)) :
 Calls Try.prog 135 #[.pointer (some ⟨B, 0, none⟩)] w fun e w' => e = .returned .nilIface ∧ w' = w := by
 subst hn
 have hc := hb.cell
 go_enter Try.func135, Try.ntmps135
 go_wp2
 go_ret
 exact ⟨rfl, rfl⟩
set_option maxRecDepth 100000 in
set_option maxHeartbeats 4000000 in
theorem pop_some (w : World) (B g : Nat) (n c : Nat) (x : Value) (hb : Boxed w B 114 (.slice (some ⟨g, 0, none⟩) (n + 1) c)) (hn : n + 1 ≤ c) (hm : c ≤ 9223372036854775807) (hx : w.cell? ⟨g, n, none⟩ = some x) :
 Calls Try.prog 135 #[.pointer (some ⟨B, 0, none⟩)] w fun e w' => e = .returned x ∧ w' = w.setCell ⟨B, 0, none⟩ (.slice (some ⟨g, 0, none⟩) n c) := by
 have hc := hb.cell
 have hf := hb.frozen
 have hw := wid (x := (n : Int)) (by omega) (by omega)
 have z : ((n : Int) + 1 == 0) = false := by simp; omega
 have z0 : (0 ≤ (n : Int)) = True := eq_true (by omega)
 have z1 : ((n : Int) < (n : Int) + 1) = True := eq_true (by omega)
 have z2 : ((n : Int) ≤ (c : Int)) = True := eq_true (by omega)
 go_enter Try.func135, Try.ntmps135
 go_wp2
 go_ret
 exact ⟨rfl, rfl⟩
end Go.Proofs.Ytdiilocgjnlmiaa.Tre
end
section
namespace Go.Proofs.Ytdiilocgjnlmiaa.Tre
open Go.RowKit Go.Proofs.YtdiilocgjnlmiaaW.PrintWords Go.Proofs.YtdiilocgjnlmiaaW.PrintLast Go.Proofs.YtdiilocgjnlmiaaW.PrintMore
open Go.Proofs.Ytdiilocgjnlmiaa.PAll
set_option linter.unusedVariables false
set_option linter.unusedSimpArgs false
inductive Tr where
 | emp | set (s : List Int) | ref (n : Int) | thr (n : Int) | seq (l r : Tr) | alt (l r : Tr) | star (x : Tr) | neg (x : Tr)
def TrV (W : World) : Tr → Value → Prop
 | .emp, v => v = .iface 198 (.agg #[])
 | .set s, v => ∃ A c, v = .iface 200 (.agg #[.slice A s.length c]) ∧ s.length ≤ c ∧ Kd.C (Kd.int .i64) W A s.length s
 | .ref n, v => v = .iface 202 (.agg #[.int .i64 n])
 | .thr n, v => v = .iface 204 (.agg #[.int .i64 n])
 | .seq l r, v => ∃ a b, v = .iface 189 (.agg #[a, b]) ∧ TrV W l a ∧ TrV W r b
 | .alt l r, v => ∃ a b, v = .iface 190 (.agg #[a, b]) ∧ TrV W l a ∧ TrV W r b
 | .star x, v => ∃ a, v = .iface 192 (.agg #[a]) ∧ TrV W x a
 | .neg x, v => ∃ a, v = .iface 193 (.agg #[a]) ∧ TrV W x a
theorem TrV.below {W W' : World} (hb : Below W.heap.size W W') : ∀ {t : Tr} {v : Value}, TrV W t v → TrV W' t v
 | .emp, v, h => h
 | .set s, v, ⟨A, c, h1, h2, h3⟩ => ⟨A, c, h1, h2, Kd.C_below h3 hb⟩
 | .ref n, v, h => h
 | .thr n, v, h => h
 | .seq l r, v, ⟨a, b, h, h1, h2⟩ => ⟨a, b, h, TrV.below hb h1, TrV.below hb h2⟩
 | .alt l r, v, ⟨a, b, h, h1, h2⟩ => ⟨a, b, h, TrV.below hb h1, TrV.below hb h2⟩
 | .star x, v, ⟨a, h, h1⟩ => ⟨a, h, TrV.below hb h1⟩
 | .neg x, v, ⟨a, h, h1⟩ => ⟨a, h, TrV.below hb h1⟩
theorem TrV.iface {W : World} : ∀ {t : Tr} {v : Value}, TrV W t v → ∃ T u, v = .iface T u
 | .emp, v, h => ⟨_, _, h⟩
 | .set s, v, ⟨A, c, h, _⟩ => ⟨_, _, h⟩
 | .ref n, v, h => ⟨_, _, h⟩
 | .thr n, v, h => ⟨_, _, h⟩
 | .seq l r, v, ⟨a, b, h, _⟩ => ⟨_, _, h⟩
 | .alt l r, v, ⟨a, b, h, _⟩ => ⟨_, _, h⟩
 | .star x, v, ⟨a, h, _⟩ => ⟨_, _, h⟩
 | .neg x, v, ⟨a, h, _⟩ => ⟨_, _, h⟩
def SV (W : World) : List Tr → List Value → Prop
 | [], xs => xs = []
 | t :: st, xs => ∃ ys x, xs = ys ++ [x] ∧ TrV W t x ∧ SV W st ys
theorem SV.below {W W' : World} (hb : Below W.heap.size W W') : ∀ {st : List Tr} {xs : List Value}, SV W st xs → SV W' st xs
 | [], xs, h => h
 | t :: st, xs, ⟨ys, x, h, h1, h2⟩ => ⟨ys, x, h, TrV.below hb h1, SV.below hb h2⟩
theorem SV.length {W : World} : ∀ {st : List Tr} {xs : List Value}, SV W st xs → xs.length = st.length
 | [], xs, h => by rw [show xs = [] from h]; rfl
 | t :: st, xs, ⟨ys, x, h, _, h2⟩ => by rw [h, List.length_append, SV.length h2]; rfl
def stepT (st : List Tr) (o : S79) : Option (List Tr) :=
 if o.f0 = 0 then some (.emp :: st) else if o.f0 = 1 then some (.set o.f1 :: st) else if o.f0 = 2 then some (.ref o.f2 :: st) else if o.f0 = 3 then some (.thr o.f2 :: st)
 else if o.f0 = 4 then (match st with | r :: l :: st => some (.seq l r :: st) | _ => none)
 else if o.f0 = 5 then (match st with | r :: l :: st => some (.alt l r :: st) | _ => none)
 else if o.f0 = 6 then (match st with | x :: st => some (.star x :: st) | _ => none)
 else if o.f0 = 7 then (match st with | x :: st => some (.neg x :: st) | _ => none)
 else none
def runT : List Tr → List S79 → Option (List Tr)
 | st, [] => some st
 | st, o :: ops => (stepT st o).bind fun st => runT st ops
def treeF (ops : List S79) : Option Tr := match runT [] ops with | some [t] => some t | _ => none
end Go.Proofs.Ytdiilocgjnlmiaa.Tre
end
section
namespace Go.Proofs.Ytdiilocgjnlmiaa.Tre
open Go.RowKit Go.Proofs.YtdiilocgjnlmiaaW.PrintWords Go.Proofs.YtdiilocgjnlmiaaW.PrintLast Go.Proofs.YtdiilocgjnlmiaaW.PrintMore
open Go.Proofs.Ytdiilocgjnlmiaa.PAll
set_option linter.unusedVariables false
set_option linter.unusedSimpArgs false
abbrev Op := S79
def flat : Tr → List Op
 | .emp => [⟨0, [], 0⟩]
 | .set s => [⟨1, s, 0⟩]
 | .ref n => [⟨2, [], n⟩]
 | .thr n => [⟨3, [], n⟩]
 | .seq l r => flat l ++ (flat r ++ [⟨4, [], 0⟩])
 | .alt l r => flat l ++ (flat r ++ [⟨5, [], 0⟩])
 | .star x => flat x ++ [⟨6, [], 0⟩]
 | .neg x => flat x ++ [⟨7, [], 0⟩]
def flats : List Tr → List Op
 | [] => []
 | t :: st => flats st ++ flat t
def ar (k : Int) : Nat := if k = 4 ∨ k = 5 then 2 else if k = 6 ∨ k = 7 then 1 else 0
structure Can (o : Op) : Prop where
 lo : 0 ≤ o.f0
 hi : o.f0 ≤ 7
 set : o.f0 ≠ 1 → o.f1 = []
 arg : o.f0 ≠ 2 → o.f0 ≠ 3 → o.f2 = 0
theorem runT_append : ∀ (st : List Tr) (a b : List Op), runT st (a ++ b) = (runT st a).bind fun st => runT st b
 | st, [], b => rfl
 | st, o :: a, b => by
  simp only [List.cons_append, runT]
  cases h : stepT st o with
  | none => rfl
  | some s => simp only [Option.bind_some]; exact runT_append s a b
theorem stepT_flats {st st1 : List Tr} {o : Op} (hc : Can o) (h : stepT st o = some st1) : flats st1 = flats st ++ [o] := by
 obtain ⟨k, s, n⟩ := o
 have hlo := hc.lo
 have hhi := hc.hi
 have hs := hc.set
 have ha := hc.arg
 simp only at hlo hhi hs ha
 have hk : k = 0 ∨ k = 1 ∨ k = 2 ∨ k = 3 ∨ k = 4 ∨ k = 5 ∨ k = 6 ∨ k = 7 := by omega
 rcases hk with rfl | rfl | rfl | rfl | rfl | rfl | rfl | rfl
 ·have e1 := hs (by decide)
  have e2 := ha (by decide) (by decide)
  subst e1 e2
  cases h
  rfl
 ·have e2 := ha (by decide) (by decide)
  subst e2
  cases h
  rfl
 ·have e1 := hs (by decide)
  subst e1
  cases h
  rfl
 ·have e1 := hs (by decide)
  subst e1
  cases h
  rfl
 ·have e1 := hs (by decide)
  have e2 := ha (by decide) (by decide)
  subst e1 e2
  match st, h with
  | r :: l :: st, h => cases h; simp [flats, flat]
  | [], h => cases h
  | [x], h => cases h
 ·have e1 := hs (by decide)
  have e2 := ha (by decide) (by decide)
  subst e1 e2
  match st, h with
  | r :: l :: st, h => cases h; simp [flats, flat]
  | [], h => cases h
  | [x], h => cases h
 ·have e1 := hs (by decide)
  have e2 := ha (by decide) (by decide)
  subst e1 e2
  match st, h with
  | x :: st, h => cases h; simp [flats, flat]
  | [], h => cases h
 have e1 := hs (by decide)
 have e2 := ha (by decide) (by decide)
 subst e1 e2
 match st, h with
 | x :: st, h => cases h; simp [flats, flat]
 | [], h => cases h
theorem runT_flats : ∀ (ops : List Op) {st st1 : List Tr}, (∀ o ∈ ops, Can o) → runT st ops = some st1 → flats st1 = flats st ++ ops
 | [], st, st1, _, h => by cases h; rw [List.append_nil]
 | o :: ops, st, st1, hc, h => by
  rw [runT] at h
  cases hs : stepT st o with
  | none => rw [hs] at h; cases h
  | some s =>
   rw [hs, Option.bind_some] at h
   rw [runT_flats ops (fun o ho => hc o (List.mem_cons_of_mem _ ho)) h, stepT_flats (hc o List.mem_cons_self) hs, List.append_assoc]
   rfl
theorem flat_of_treeF {ops : List Op} {t : Tr} (hc : ∀ o ∈ ops, Can o) (h : treeF ops = some t) : flat t = ops := by
 unfold treeF at h
 split at h
 ·rename_i t' ht
  cases h
  have e := runT_flats ops hc ht
  simpa [flats] using e
 cases h
theorem stepT_none {st : List Tr} {o : Op} (hlo : 0 ≤ o.f0) (hhi : o.f0 ≤ 7) (h : stepT st o = none) : st.length < ar o.f0 := by
 obtain ⟨k, s, n⟩ := o
 simp only at hlo hhi
 have hk : k = 0 ∨ k = 1 ∨ k = 2 ∨ k = 3 ∨ k = 4 ∨ k = 5 ∨ k = 6 ∨ k = 7 := by omega
 rcases hk with rfl | rfl | rfl | rfl | rfl | rfl | rfl | rfl
 ·cases h
 ·cases h
 ·cases h
 ·cases h
 ·match st, h with
  | [], h => simp [ar]
  | [x], h => simp [ar]
 ·match st, h with
  | [], h => simp [ar]
  | [x], h => simp [ar]
 ·match st, h with
  | [], h => simp [ar]
 match st, h with
 | [], h => simp [ar]
theorem stepT_some {st st1 : List Tr} {o : Op} (h : stepT st o = some st1) : ar o.f0 ≤ st.length ∧ st1.length + ar o.f0 = st.length + 1 := by
 unfold stepT at h
 unfold ar
 repeat' split at h
 all_goals first | (cases h; done) | (cases h; simp_all <;> omega)
def shB : Int → List Op → Bool
 | n, [] => n == 0
 | n, o :: os => if n = 0 then false else shB (n + ((ar o.f0 : Int) - 1)) os
theorem shB_iff : ∀ (r : List Op) (n : Int), (∀ o ∈ r, 0 ≤ o.f0 ∧ o.f0 ≤ 7) → 0 ≤ n → (shB n r = true ↔ ∃ st, runT [] r.reverse = some st ∧ (st.length : Int) = n)
 | [], n, _, _ => by
  rw [shB]
  constructor
  ·intro h
   have h := eq_of_beq h
   exact ⟨[], rfl, h.symm⟩
  rintro ⟨st, h, h2⟩
  have h : some [] = some st := h
  cases h
  subst h2
  rfl
 | o :: r, n, hr, hn => by
  rw [shB, List.reverse_cons, runT_append]
  by_cases h0 : n = 0
  ·rw [if_pos h0]
   constructor
   ·intro h; cases h
   rintro ⟨st, h, h2⟩
   exfalso
   cases hs : runT [] r.reverse with
   | none => rw [hs] at h; cases h
   | some s =>
    rw [hs, Option.bind_some, runT] at h
    cases hs2 : stepT s o with
    | none => rw [hs2] at h; cases h
    | some s2 =>
     rw [hs2] at h
     cases h
     have := stepT_some hs2
     omega
  rw [if_neg h0, shB_iff r _ (fun o ho => hr o (List.mem_cons_of_mem _ ho)) (by omega)]
  constructor
  ·rintro ⟨st, h, h2⟩
   cases hs2 : stepT st o with
   | none =>
    have h3 := stepT_none (hr o List.mem_cons_self).1 (hr o List.mem_cons_self).2 hs2
    omega
   | some s2 =>
    have h3 := stepT_some hs2
    refine ⟨s2, ?_, by omega⟩
    rw [h, Option.bind_some, runT, hs2]
    rfl
  rintro ⟨st, h, h2⟩
  cases hs : runT [] r.reverse with
  | none => rw [hs] at h; cases h
  | some s =>
   rw [hs, Option.bind_some, runT] at h
   cases hs2 : stepT s o with
   | none => rw [hs2] at h; cases h
   | some s2 =>
    rw [hs2] at h
    cases h
    have h3 := stepT_some hs2
    exact ⟨s, rfl, by omega⟩
theorem treeF_isSome {ops : List Op} (hr : ∀ o ∈ ops, 0 ≤ o.f0 ∧ o.f0 ≤ 7) : (treeF ops).isSome = shB 1 ops.reverse := by
 rw [Bool.eq_iff_iff, shB_iff ops.reverse 1 (fun o ho => hr o (List.mem_reverse.1 ho)) (by omega), List.reverse_reverse]
 unfold treeF
 constructor
 ·intro h
  split at h
  ·rename_i t ht
   exact ⟨_, ht, rfl⟩
  cases h
 rintro ⟨st, h, h2⟩
 match st, h2 with
 | [t], _ => rw [h]; rfl
end Go.Proofs.Ytdiilocgjnlmiaa.Tre
end
