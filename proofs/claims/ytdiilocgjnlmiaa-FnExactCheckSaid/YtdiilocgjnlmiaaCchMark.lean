import Derived.Test.YtdiilocgjnlmiaaCchMapB
import Derived.Test.YtdiilocgjnlmiaaCchGoodBody
namespace Go.Proofs.Ytdiilocgjnlmiaa.Tre
open Go.RowKit Go.Proofs.YtdiilocgjnlmiaaW.PrintWords Go.Proofs.YtdiilocgjnlmiaaW.PrintLast Go.Proofs.YtdiilocgjnlmiaaW.PrintMore
open Go.Proofs.Ytdiilocgjnlmiaa.PAll Go.Maps
set_option linter.unusedVariables false
set_option linter.unusedSimpArgs false
structure VS (w W : World) (gA gB : Value) (t n m : Nat) (sn th : Lit → Bool) : Prop where
 g0 : W.cell? ⟨w.heap.size, 0, none⟩ = some gA
 g1 : W.cell? ⟨w.heap.size, 1, none⟩ = some gB
 ops : Boxed W (w.heap.size + 1) 3 (.int .i64 (t : Int))
 seen : MapB Try.prog W 9 4 (w.heap.size + 1 + 1) n sn
 thr : MapB Try.prog W 3 4 (w.heap.size + 1 + 1 + 1) m th
 tbox : Boxed W (w.heap.size + 1 + 1 + 1 + 1) 77 (.map (some (w.heap.size + 1 + 1 + 1)))
 bel : Below w.heap.size w W
theorem VS.step {w W W' : World} {gA gB : Value} {t n m : Nat} {sn th : Lit → Bool} (h : VS w W gA gB t n m sn th) (hb : Below W.heap.size W W') : VS w W' gA gB t n m sn th :=
 ⟨pw_cell_below hb h.g0, pw_cell_below hb h.g1, (hb.block _ h.ops.lt).trans h.ops, h.seen.below hb, h.thr.below hb, (hb.block _ h.tbox.lt).trans h.tbox, below_then h.bel h.bel.size hb⟩
theorem VS.alloc {w W : World} {gA gB : Value} {t n m : Nat} {sn th : Lit → Bool} (h : VS w W gA gB t n m sn th) (o : Obj) : VS w (W.alloc o) gA gB t n m sn th := h.step (below_alloc (Below.refl _ _) o)
theorem VS.drewN {w W : World} {gA gB : Value} {t n m : Nat} {sn th : Lit → Bool} (h : VS w W gA gB t n m sn th) (k : Nat) : VS w (W.drewN k) gA gB t n m sn th := h.step (pw_below_drewN (Below.refl _ _) k)
theorem VS.add {w W : World} {gA gB : Value} {t n m : Nat} {sn th : Lit → Bool} (h : VS w W gA gB t n m sn th) (k : Nat) (v : Value) (hv : v = .int .i64 ((t + k : Nat) : Int)) : VS w (W.setCell ⟨w.heap.size + 1, 0, none⟩ v) gA gB (t + k) n m sn th := by
 subst hv
 have hl := h.ops.lt
 have c0 : ∀ j, (W.setCell ⟨w.heap.size + 1, 0, none⟩ (.int .i64 ((t + k : Nat) : Int))).cell? ⟨w.heap.size, j, none⟩ = W.cell? ⟨w.heap.size, j, none⟩ := fun j => World.cell?_of_block (Below.heap_setCell _ _ _ _ (by simp <;> omega))
 exact ⟨(c0 0).trans h.g0, (c0 1).trans h.g1, h.ops.set _, h.seen.setCell (by simp <;> omega) _, h.thr.setCell (by simp <;> omega) _, (Below.heap_setCell _ _ _ _ (by simp <;> omega)).trans h.tbox, h.bel.setCell (by simp <;> omega) _⟩
theorem VS.throw {w W W' : World} {gA gB : Value} {t n m : Nat} {sn th th' : Lit → Bool} (h : VS w W gA gB t n m sn th) (hm : MapB Try.prog W' 3 4 (w.heap.size + 1 + 1 + 1) (m + 1) th') (hg : W.grownBy W' (some (w.heap.size + 1 + 1 + 1))) : VS w W' gA gB t n (m + 1) sn th' := by
 have hl := h.thr.lt
 have c0 : ∀ j, W'.cell? ⟨w.heap.size, j, none⟩ = W.cell? ⟨w.heap.size, j, none⟩ := fun j => World.cell?_of_block (hg.block _ (by simp <;> omega) (by simp <;> omega))
 exact ⟨(c0 0).trans h.g0, (c0 1).trans h.g1, h.ops.kept hg (by simp <;> omega), h.seen.kept hg (by simp <;> omega), hm, h.tbox.kept hg (by simp <;> omega), h.bel.grown hg h.bel.size (fun k hk => by cases hk; omega)⟩
theorem VS.see {w W W' : World} {gA gB : Value} {t n m : Nat} {sn sn' th : Lit → Bool} (h : VS w W gA gB t n m sn th) (hm : MapB Try.prog W' 9 4 (w.heap.size + 1 + 1) (n + 1) sn') (hg : W.grownBy W' (some (w.heap.size + 1 + 1))) : VS w W' gA gB t (n + 1) m sn' th := by
 have hl := h.seen.lt
 have c0 : ∀ j, W'.cell? ⟨w.heap.size, j, none⟩ = W.cell? ⟨w.heap.size, j, none⟩ := fun j => World.cell?_of_block (hg.block _ (by simp <;> omega) (by simp <;> omega))
 exact ⟨(c0 0).trans h.g0, (c0 1).trans h.g1, h.ops.kept hg (by simp <;> omega), hm, h.thr.kept hg (by simp <;> omega), h.tbox.kept hg (by simp <;> omega), h.bel.grown hg h.bel.size (fun k hk => by cases hk; omega)⟩
theorem wf64 {q : Int} (h0 : 0 ≤ q) (h1 : q ≤ 1099511627776) : (Lit.int .i64 q).wf = true := by
 have e1 : IntKind.i64.min = -9223372036854775808 := by decide
 have e2 : IntKind.i64.max = 9223372036854775807 := by decide
 simp [Lit.wf, e1, e2]
 omega
def thF (th : Lit → Bool) (ops : List Op) : Lit → Bool
 | .int .i64 a => th (.int .i64 a) || throwsB ops a
 | k => th k
def MarkPost (w : World) (gA gB : Value) (t n m : Nat) (sn th : Lit → Bool) (e : Ending) (W : World) : Prop := ∃ v m', e = .returned v ∧ m' ≤ m ∧ VS w W gA gB t n m' sn th
theorem keyI : Keyed Try.prog 3 := int_keyed Try.underlying3
theorem keyS : Keyed Try.prog 9 := string_keyed Try.underlying9
theorem thF_nil (th : Lit → Bool) : thF th [] = th := by
 funext k
 unfold thF throwsB
 split <;> simp
theorem thF_snoc (th : Lit → Bool) (ops : List Op) (o : Op) (h : o.f0 ≠ 3) : thF th (ops ++ [o]) = thF th ops := by
 funext k
 unfold thF throwsB
 split <;> simp [h]
theorem thF_put (th : Lit → Bool) (ops : List Op) (o : Op) (h : o.f0 = 3) (k : Lit) : thF th (ops ++ [o]) k = true ↔ k = .int .i64 o.f2 ∨ thF th ops k = true := by
 unfold thF throwsB
 split
 ·rename_i a
  simp only [List.any_append, List.any_cons, List.any_nil, h, Bool.or_eq_true, Bool.or_false, decide_eq_true_eq, Lit.int.injEq, true_and]
  constructor
  ·rintro (h | h | h)
   ·exact .inr (.inl h)
   ·exact .inr (.inr h)
   exact .inl h.symm
  rintro (h | h | h)
  ·exact .inr (.inr h.symm)
  ·exact .inl h
  exact .inr (.inl h)
 rename_i hk
 constructor
 ·exact .inr
 rintro (h | h)
 ·exact absurd h (hk _)
 exact h
set_option maxRecDepth 100000 in
set_option maxHeartbeats 8000000 in
theorem mark_in (w W : World) (gA gB : Value) (t n m : Nat) (sn th : Lit → Bool) (A : Option Addr) (c : Nat) (ops : List Op) (hV : VS w W gA gB t n m sn th) (hr : Kd.C k79 w A ops.length ops) (hc : ops.length ≤ c)
 (hm : ops.length ≤ 1099511627776) (ht : t ≤ 1125899906842624) (hmm : m ≤ 1125899906842624) (ha : ∀ o ∈ ops, 0 ≤ o.f2 ∧ o.f2 ≤ 1099511627776) :
 Calls Try.prog 52 #[.slice A ops.length c, .pointer (some ⟨w.heap.size + 1, 0, none⟩), .pointer (some ⟨w.heap.size + 1 + 1 + 1 + 1, 0, none⟩)] W (MarkPost w gA gB (t + ops.length) n (m + ops.length) sn (thF th ops)) := by
 have cb := hV.ops.cell
 have fb := hV.ops.frozen
 have lb := hV.ops.lt
 have HA := Aside0.mk ha
 clear ha
 go_enter Try.func52, Try.ntmps52
 go_wp2
 have hV0 := hV.add ops.length (.int .i64 ((t : Int) + (ops.length : Int))) (by simp)
 clear cb fb lb hV
 generalize hW0 : W.setCell ⟨w.heap.size + 1, 0, none⟩ (.int .i64 ((t : Int) + (ops.length : Int))) = W0 at *
 clear hW0
 go_loopg [12] (ops.length + 1) (fun kq v12 W' => ∃ (i m' : Nat), v12 = .int .i64 (i : Int) ∧ Aside0 (i ≤ ops.length ∧ ops.length < i + kq ∧ m' ≤ m + i) ∧ VS w W' gA gB (t + ops.length) n m' sn (thF th (ops.take i)))
 case atStart => exact ⟨0, m, rfl, ⟨by omega, by omega, by omega⟩, by rw [List.take_zero, thF_nil]; exact hV0⟩
 case round =>
  obtain ⟨i, m', rfl, HI, hVi⟩ := hrel
  obtain ⟨i1, i2, i3⟩ := HI.out
  clear HI
  cases gk with
  | zero => omega
  | succ k1 =>
   by_cases hi : i < ops.length
   rotate_left
   ·have d1 : decide ((i : Int) < (ops.length : Int)) = false := decide_eq_false (by omega)
    have e : i = ops.length := by omega
    have E := Lib.hid e
    clear e
    go_wp2
    go_end0
    exact ⟨_, m', rfl, by omega, by rw [E.out, List.take_length] at hVi; exact hVi⟩
   have d1 : decide ((i : Int) < (ops.length : Int)) = true := decide_eq_true (by omega)
   obtain ⟨ad, AS, cS, rfl, x0, x1, x2, y1, y2⟩ := at_T79 hr (i : Int) (by omega) (by omega)
   rw [Int.toNat_natCast] at x0 x1 x2
   replace x0 := pw_cell_below hVi.bel x0
   replace x1 := pw_cell_below hVi.bel x1
   replace x2 := pw_cell_below hVi.bel x2
   have d2 : (0 ≤ (i : Int)) = True := eq_true (by omega)
   have d3 : ((i : Int) < (ops.length : Int)) = True := eq_true (by omega)
   have hsz := HA.out (rd_T79 ops (i : Int)) (by
    have := drop_op (ops := ops) (i := i) (by omega)
    exact List.mem_of_mem_drop (by rw [this]; exact List.mem_cons_self))
   have htk : ops.take (i + 1) = ops.take i ++ [rd_T79 ops (i : Int)] := by
    rw [List.take_succ_eq_append_getElem hi]
    congr 2
    simp [rd_T79, List.getD_eq_getElem?_getD, hi]
   generalize ho : rd_T79 ops (i : Int) = o at *
   obtain ⟨k, s, q⟩ := o
   simp only at x0 x1 x2 y1 y2 hsz
   have HT := Lib.hid htk
   clear htk ho y2 hr
   have hVa := hVi.alloc (.cells #[.int .i64 k, .slice AS s.length cS, .int .i64 q] 79)
   by_cases hk : k = 3
   ·subst hk
    have ct := hVa.tbox.cell
    have ct0 := hVi.tbox.cell
    have lt0 := hVi.tbox.lt
    have hkey : keyOf Try.prog 3 (.int .i64 q) = some (.int .i64 q) := keyOf_int_mk Try.underlying3 (wf64 (by omega) (by omega))
    have HKEY := Lib.hid hkey
    clear hkey
    go_wp2_with (first
     | (at_mapUpdate; go_must (refine mapB_put hVa.thr keyI rfl _ _ _ _ rfl Try.underlying77 Try.underlying4 rfl (by unfold maxLen; omega) _ rfl rfl _ HKEY.out (thF th (ops.take i ++ [⟨3, s, q⟩])) (thF_put th (ops.take i) ⟨3, s, q⟩ rfl) ?_); intro W1 hM1 hG1; have hV1 := hVa.throw hM1 hG1))
    go_roundg k1
    case measure => omega
    case rel => exact ⟨i + 1, m' + 1, by first | rfl, ⟨by omega, by omega, by omega⟩, by rw [HT.out]; exact hV1⟩
   have f3 : (k == 3) = false := by simpa using hk
   have HK := Lib.hid hk
   clear hk
   go_wp2
   go_roundg k1
   case measure => omega
   case rel => exact ⟨i + 1, m', by first | rfl, ⟨by omega, by omega, by omega⟩, by rw [HT.out, thF_snoc _ _ _ HK.out]; exact hVa⟩
end Go.Proofs.Ytdiilocgjnlmiaa.Tre
