import Derived.Test.YtdiilocgjnlmiaaCpgFlat
import Derived.Deep.DeepMust
namespace Go.Proofs.Ytdiilocgjnlmiaa.Tre
open Go.RowKit Go.Proofs.YtdiilocgjnlmiaaW.PrintWords Go.Proofs.YtdiilocgjnlmiaaW.PrintLast Go.Proofs.YtdiilocgjnlmiaaW.PrintMore
open Go.Proofs.Ytdiilocgjnlmiaa.PAll
set_option linter.unusedVariables false
set_option linter.unusedSimpArgs false
structure Stk (w0 w W : World) (B : Nat) (st : List Tr) (v : Value) (xs : List Value) : Prop where
 box : Boxed W B 114 v
 own : W.ownsRow w.heap.size 127 1 v st.length xs
 apart : v.ownBlock ≠ some B
 sv : SV w0 st xs
 bel : Below w.heap.size w W
theorem infoE : (Try.prog.info? 127).map (fun i => (i.zero, i.size, i.bytes)) = some (some .nilIface, 1, 16) := by kernel_rfl
theorem stk_append {ops : Array Oper} {rest : List Oper} {o : Oper} {a : Act} {Q : Exit → Act → World → Prop} (w0 w W : World) {B : Nat} {st : List Tr} {v x : Value} {xs : List Value} {t : Tr} (hS : Stk w0 w W B st v xs) (hx : TrV w0 t x) (hB : w.heap.size ≤ B) (hBl : B < W.heap.size)
 (hgd : o.guard = none) (sl y : Operand) (ho : o.op = .call { callee := .builtin .append, args := #[sl, y], argTypes := #[114, 114] })
 (hs : a.eval sl = v) (ob : Obj) (hob : ob = .cells #[x] 127) (c m : Nat) (hy : a.eval y = .slice (some ⟨m, 0, none⟩) 1 c) (hm : m = W.heap.size) (hl : st.length ≤ 1099511627776)
 (h : ∀ A' c' W' v', v' = .slice A' (st.length + 1) c' → Boxed W' B 114 v → W'.ownsRow w.heap.size 127 1 v' (t :: st).length (xs ++ [x]) → SV w0 (t :: st) (xs ++ [x]) → v'.ownBlock ≠ some B → Below w.heap.size w W' → wpList Try.prog ops Q rest (a.put o.dst v') W') : wpList Try.prog ops Q (o :: rest) a (W.alloc ob) := by
 obtain ⟨i, hi, hz, hs1, hby⟩ := info_parts infoE
 obtain ⟨T, u, hxx⟩ := hx.iface
 have hc1 : x.oneCell' = true := by rw [hxx]; rfl
 subst hob hm
 refine wpList_append_own (W.alloc _) hgd sl y 114 ho w.heap.size 127 i .nilIface 1 16 Try.underlying114 hi hz hs1 hby rfl (by decide) v _ xs hs (hS.own.alloc _) ⟨W.heap.size, 0, none⟩ 1 c [x] hy rfl ?_ ?_ ?_ ?_ ?_ ?_
 ·intro j u hu
  match j, hu with
  | 0, hu => cases hu; exact (Boxed.new W _ _).cell
  | j + 1, hu => cases hu
 ·intro u hu
  rw [List.mem_singleton] at hu
  rw [hu]; exact hc1
 ·unfold maxLen; omega
 ·omega
 ·have := hS.bel.size; simp; omega
 intro v' w' hown' hgrow _
 obtain ⟨hB1, -⟩ := Boxed.appended hS.box (by decide : (114 : TypeId) ≠ 127) hS.own hS.bel.size hB hown' hgrow
 obtain ⟨A', c', rfl⟩ : ∃ A' c', v' = .slice A' (st.length + 1) c' := by
  rcases hown'.2 with ⟨_, h0⟩ | ⟨g, cap, cur, rfl, _⟩
  ·omega
  exact ⟨_, _, rfl⟩
 refine h A' c' w' _ rfl hB1 hown' ⟨xs, x, rfl, hx, hS.sv⟩ (hB1.not_row (by decide : (114 : TypeId) ≠ 127) hown').symm ?_
 refine (below_alloc hS.bel _).grown hgrow (by have := hS.bel.size; simp; omega) fun k hk => ?_
 exact (hS.own.lt k hk).1
theorem Stk.alloc {w0 w W : World} {B : Nat} {st : List Tr} {v : Value} {xs : List Value} (h : Stk w0 w W B st v xs) (o : Obj) : Stk w0 w (W.alloc o) B st v xs :=
 ⟨h.box.alloc o, h.own.alloc o, h.apart, h.sv, below_alloc h.bel o⟩
theorem stk_nil {w0 w W : World} {B : Nat} {v : Value} {xs : List Value} (h : Stk w0 w W B [] v xs) : ∃ A c, v = .slice A 0 c := by
 rcases h.own.2 with ⟨rfl, _⟩ | ⟨g, cap, cur, rfl, _⟩
 ·exact ⟨_, _, rfl⟩
 exact ⟨_, _, rfl⟩
theorem stk_pop {w0 w W : World} {B : Nat} {t : Tr} {st : List Tr} {v : Value} {xs : List Value} (h : Stk w0 w W B (t :: st) v xs) (hB : w.heap.size ≤ B) :
 ∃ g m c x ys, v = .slice (some ⟨g, 0, none⟩) (m + 1) c ∧ m + 1 ≤ c ∧ c ≤ 9223372036854775807 ∧ (∀ o, (W.alloc o).cell? ⟨g, m, none⟩ = some x) ∧ W.cell? ⟨g, m, none⟩ = some x ∧ TrV w0 t x ∧ g ≠ B ∧ m = st.length ∧
  Stk w0 w (W.setCell ⟨B, 0, none⟩ (.slice (some ⟨g, 0, none⟩) m c)) B st (.slice (some ⟨g, 0, none⟩) m c) ys := by
 obtain ⟨ys, x, rfl, hx, hs⟩ := h.sv
 have hlen := hs.length
 rcases h.own.2 with ⟨_, h0⟩ | ⟨g, cap, cur, rfl, hbg, hg, hnc, hcm, hcs, htake⟩
 ·simp at h0
 have hne : g ≠ B := fun e => h.apart (by simp [Value.ownBlock, e])
 simp only [List.length_cons] at hnc
 simp only [List.length_cons, Nat.mul_one] at htake hcs
 have hcell := h.own.cells (g := g) rfl st.length x (by rw [List.getElem?_append_right (by omega)]; simp [hlen])
 have hadd : (⟨g, 0, none⟩ : Addr).add st.length = ⟨g, st.length, none⟩ := by unfold Addr.add; split <;> simp_all
 rw [hadd] at hcell
 refine ⟨g, st.length, cap, x, ys, rfl, hnc, by unfold maxLen at hcm; omega, fun o => (World.cell?_alloc_lt _ _ _ (Array.getElem?_eq_some_iff.1 hg).1).trans hcell, hcell, hx, hne, rfl, h.box.set _, ⟨by simpa using hlen, .inr ⟨g, cap, cur, rfl, hbg, ?_, by omega, hcm, by simpa using hcs, ?_⟩⟩, h.apart, hs, h.bel.setCell hB _⟩
 ·rw [Below.heap_setCell _ _ _ _ hne]; exact hg
 rw [Nat.mul_one]
 have e := congrArg (List.take st.length) htake
 rw [List.take_take, Nat.min_eq_left (by omega), List.take_left' hlen] at e
 exact e
def TreePost (w0 w : World) (ops : List S79) (e : Ending) (w' : World) : Prop :=
 ∃ v b, e = .returned (.tuple #[v, .bool b]) ∧ Below w.heap.size w w' ∧ b = (treeF ops).isSome ∧ (treeF ops = none → v = .nilIface) ∧ ∀ t, treeF ops = some t → TrV w0 t v
theorem drop_op {ops : List S79} {i : Nat} (hi : i < ops.length) : ops.drop i = rd_T79 ops (i : Int) :: ops.drop (i + 1) := by
 rw [List.drop_eq_getElem_cons hi]
 congr 1
 simp [rd_T79, List.getD_eq_getElem?_getD, hi]
theorem tree_bad {w0 w W : World} {ops : List S79} (h : treeF ops = none) (hb : Below w.heap.size w W) : TreePost w0 w ops (.returned (.tuple #[.nilIface, .bool false])) W :=
 ⟨_, _, rfl, hb, by rw [h]; rfl, fun _ => rfl, fun t ht => by rw [h] at ht; cases ht⟩
theorem tree_good {w0 w W : World} {ops : List S79} {t : Tr} {x : Value} (h : treeF ops = some t) (hx : TrV w0 t x) (hb : Below w.heap.size w W) : TreePost w0 w ops (.returned (.tuple #[x, .bool true])) W :=
 ⟨_, _, rfl, hb, by rw [h]; rfl, fun e => (by rw [h] at e; cases e), fun t' ht => (by rw [h] at ht; cases ht; exact hx)⟩
theorem treeF_none {ops : List S79} {st : List Tr} {o : S79} {rest : List S79} (h : runT [] ops = runT st (o :: rest)) (hs : stepT st o = none) : treeF ops = none := by
 rw [treeF, h, runT, hs]; rfl
theorem run_step {ops : List S79} {st st1 : List Tr} {o : S79} {rest : List S79} (h : runT [] ops = runT st (o :: rest)) (hs : stepT st o = some st1) : runT [] ops = runT st1 rest := by
 rw [h, runT, hs]; rfl
theorem stepT_bad {k : Int} {s : List Int} {n : Int} {st : List Tr} (hk : k < 0 ∨ 7 < k) : stepT st ⟨k, s, n⟩ = none := by
 unfold stepT
 simp only
 rw [if_neg (by omega), if_neg (by omega), if_neg (by omega), if_neg (by omega), if_neg (by omega), if_neg (by omega), if_neg (by omega), if_neg (by omega)]
set_option maxRecDepth 100000 in
set_option maxHeartbeats 8000000 in
theorem tree_at (w0 w : World) (hb0 : Aside0 (Below w0.heap.size w0 w)) (A : Option Addr) (c : Nat) (ops : List S79) (hr : Kd.C k79 w0 A ops.length ops) (hc : ops.length ≤ c) (hm : ops.length ≤ 1099511627776) :
 Calls Try.prog 90 #[.slice A ops.length c] w (TreePost w0 w ops) := by
 go_enter Try.func90, Try.ntmps90
 go_wp2
 have hS0 : Stk w0 w (w.alloc (Obj.cells #[Value.slice none 0 0] 114)) w.heap.size [] (.slice none 0 0) [] :=
  ⟨Boxed.new w _ _, own_nil _ _ _ _, by simp [Value.ownBlock], rfl, below_alloc (Below.refl _ _) _⟩
 go_loopg [15] (ops.length + 1) (fun kq v15 w' => ∃ (i : Nat) (st : List Tr) (v : Value) (xs : List Value), v15 = .int .i64 (i : Int) ∧ Aside0 (i ≤ ops.length ∧ ops.length < i + kq ∧ st.length ≤ i ∧ runT [] ops = runT st (ops.drop i)) ∧ Stk w0 w w' w.heap.size st v xs)
 case atStart => exact ⟨0, [], _, [], rfl, ⟨by omega, by omega, by simp, rfl⟩, hS0⟩
 case round =>
  obtain ⟨i, st, v, xs, rfl, HI, hS⟩ := hrel
  obtain ⟨i1, i2, i4, i3⟩ := HI.out
  clear HI
  cases gk with
  | zero => omega
  | succ k1 =>
   have cb := hS.box.cell
   have fb := hS.box.frozen
   have lb := hS.box.lt
   by_cases hi : i < ops.length
   rotate_left
   ·have d1 : decide ((i : Int) < (ops.length : Int)) = false := decide_eq_false (by omega)
    rw [List.drop_eq_nil_of_le (by omega)] at i3
    have I3 := Lib.hid i3
    clear i3
    match st, hS, I3 with
    | [], hS, I3 =>
     obtain ⟨Ap, cp, rfl⟩ := stk_nil hS
     go_wp2
     go_ret2
     exact tree_bad (by rw [treeF, I3.out]; rfl) hS.bel
    | [t], hS, I3 =>
     obtain ⟨g, m1, cp, x, ys, rfl, q1, q2, q3, q6, q4, gB, mE, hSb0⟩ := stk_pop hS (Nat.le_refl _)
     obtain rfl : m1 = 0 := mE
     have q5 := q6
     go_wp2
     go_ret2
     exact tree_good (by rw [treeF, I3.out]; rfl) q4 hS.bel
    | t1 :: t2 :: st, hS, I3 =>
     obtain ⟨g, m1, cp, x, ys, rfl, q1, q2, q3, q6, q4, gB, mE, hSb0⟩ := stk_pop hS (Nat.le_refl _)
     have f1 : (((m1 : Int) + 1) != 1) = true := by simp at mE; simp; omega
     have ME := Lib.hid mE
     clear mE
     go_wp2
     go_ret2
     exact tree_bad (by rw [treeF, I3.out]; rfl) hS.bel
   have d1 : decide ((i : Int) < (ops.length : Int)) = true := decide_eq_true (by omega)
   obtain ⟨ad, A1, c1, rfl, x0, x1, x2, y1, y2⟩ := at_T79 hr (i : Int) (by omega) (by omega)
   rw [Int.toNat_natCast] at x0 x1 x2
   replace x0 := pw_cell_below (below_then hb0.out hb0.out.size hS.bel) x0
   replace x1 := pw_cell_below (below_then hb0.out hb0.out.size hS.bel) x1
   replace x2 := pw_cell_below (below_then hb0.out hb0.out.size hS.bel) x2
   have d2 : (0 ≤ (i : Int)) = True := eq_true (by omega)
   have d3 : ((i : Int) < (ops.length : Int)) = True := eq_true (by omega)
   rw [drop_op hi] at i3
   generalize ho : rd_T79 ops (i : Int) = o at *
   obtain ⟨k, s, n⟩ := o
   simp only at x0 x1 x2 y1 y2
   have I3 := Lib.hid i3
   clear i3 ho
   have hw := wid (x := (i : Int) + 1) (by omega) (by omega)
   have hSa := hS.alloc (.cells #[.int .i64 k, .slice A1 s.length c1, .int .i64 n] 79)
   have HY := Aside0.mk y2
   clear y2 hr
   rcases (by omega : k = 0 ∨ k = 1 ∨ k = 2 ∨ k = 3 ∨ k = 4 ∨ k = 5 ∨ k = 6 ∨ k = 7 ∨ (k < 0 ∨ 7 < k)) with rfl | rfl | rfl | rfl | rfl | rfl | rfl | rfl | hk
   ·go_wp2_with (first
     | ((with_reducible refine gate_dst (N := 82) rfl ?_); go_must (refine stk_append w0 w _ hSa (t := .emp) (rfl) (Nat.le_refl _) (by simp; omega) rfl _ _ rfl rfl _ rfl _ _ rfl (by simp) (by first | omega | (simp only [List.length_cons] at i4; omega)) ?_); rintro A' c' W' v' rfl hB' hO' hV' hA' hL'; have cb' := hB'.cell; have fb' := hB'.frozen; have lb' := hB'.lt))
    go_roundg k1
    case measure => omega
    case rel => exact ⟨i + 1, .emp :: st, _, _, by first | rfl | (simp; done) | (rw [hw]; simp), ⟨by omega, by omega, by first | omega | (simp only [List.length_cons] at i4 ⊢; omega), run_step I3.out rfl⟩, hB'.set _, ownsRow_setCell_other hO' hA' _, hA', hV', hL'.setCell (Nat.le_refl _) _⟩
   ·go_wp2_with (first
     | ((with_reducible refine gate_dst (N := 82) rfl ?_); go_must (refine stk_append w0 w _ hSa (t := (.set s)) (⟨A1, c1, rfl, y1, HY.out⟩) (Nat.le_refl _) (by simp; omega) rfl _ _ rfl rfl _ rfl _ _ rfl (by simp) (by first | omega | (simp only [List.length_cons] at i4; omega)) ?_); rintro A' c' W' v' rfl hB' hO' hV' hA' hL'; have cb' := hB'.cell; have fb' := hB'.frozen; have lb' := hB'.lt))
    go_roundg k1
    case measure => omega
    case rel => exact ⟨i + 1, (.set s) :: st, _, _, by first | rfl | (simp; done) | (rw [hw]; simp), ⟨by omega, by omega, by first | omega | (simp only [List.length_cons] at i4 ⊢; omega), run_step I3.out rfl⟩, hB'.set _, ownsRow_setCell_other hO' hA' _, hA', hV', hL'.setCell (Nat.le_refl _) _⟩
   ·go_wp2_with (first
     | ((with_reducible refine gate_dst (N := 82) rfl ?_); go_must (refine stk_append w0 w _ hSa (t := (.ref n)) (rfl) (Nat.le_refl _) (by simp; omega) rfl _ _ rfl rfl _ rfl _ _ rfl (by simp) (by first | omega | (simp only [List.length_cons] at i4; omega)) ?_); rintro A' c' W' v' rfl hB' hO' hV' hA' hL'; have cb' := hB'.cell; have fb' := hB'.frozen; have lb' := hB'.lt))
    go_roundg k1
    case measure => omega
    case rel => exact ⟨i + 1, (.ref n) :: st, _, _, by first | rfl | (simp; done) | (rw [hw]; simp), ⟨by omega, by omega, by first | omega | (simp only [List.length_cons] at i4 ⊢; omega), run_step I3.out rfl⟩, hB'.set _, ownsRow_setCell_other hO' hA' _, hA', hV', hL'.setCell (Nat.le_refl _) _⟩
   ·go_wp2_with (first
     | ((with_reducible refine gate_dst (N := 82) rfl ?_); go_must (refine stk_append w0 w _ hSa (t := (.thr n)) (rfl) (Nat.le_refl _) (by simp; omega) rfl _ _ rfl rfl _ rfl _ _ rfl (by simp) (by first | omega | (simp only [List.length_cons] at i4; omega)) ?_); rintro A' c' W' v' rfl hB' hO' hV' hA' hL'; have cb' := hB'.cell; have fb' := hB'.frozen; have lb' := hB'.lt))
    go_roundg k1
    case measure => omega
    case rel => exact ⟨i + 1, (.thr n) :: st, _, _, by first | rfl | (simp; done) | (rw [hw]; simp), ⟨by omega, by omega, by first | omega | (simp only [List.length_cons] at i4 ⊢; omega), run_step I3.out rfl⟩, hB'.set _, ownsRow_setCell_other hO' hA' _, hA', hV', hL'.setCell (Nat.le_refl _) _⟩
   ·match st, hS, hSa, i4, I3 with
    | [], hS, hSa, i4, I3 =>
     obtain ⟨Ap, cp, rfl⟩ := stk_nil hSa
     have hbx := hSa.box
     go_wp2_with (first
      | (go_at_call 135; (with_reducible refine (pop_none _ _ _ _ _ rfl hbx).mono ?_); rintro e w' ⟨rfl, rfl⟩))
     go_ret2
     exact tree_bad (treeF_none I3.out rfl) hSa.bel
    | [r], hS, hSa, i4, I3 =>
     obtain ⟨g, m1, cp, x, ys, rfl, q1, q2, q3, q6, q4, gB, mE, hSb0⟩ := stk_pop hS (Nat.le_refl _)
     have hSb := hSb0.alloc (.cells #[.int .i64 4, .slice A1 s.length c1, .int .i64 n] 79)
     replace q3 := q3 (.cells #[.int .i64 4, .slice A1 s.length c1, .int .i64 n] 79)
     have hbx := hSa.box
     have hbx2 := hSb.box
     obtain ⟨T1, u1, rfl⟩ := q4.iface
     have ME := Lib.hid mE
     clear mE
     go_wp2_with (first
      | (go_at_call 135; (with_reducible refine (pop_some _ _ _ _ _ _ hbx q1 q2 q3).mono ?_); rintro e w' ⟨rfl, rfl⟩)
      | (go_at_call 135; (with_reducible refine (pop_none _ _ _ _ _ ME.out hbx2).mono ?_); rintro e w' ⟨rfl, rfl⟩))
     go_ret2
     exact tree_bad (treeF_none I3.out rfl) hSb.bel
    | r :: l :: st, hS, hSa, i4, I3 =>
     obtain ⟨g, m1, cp, x, ys, rfl, q1, q2, q3, q6, q4, gB, mE, hSb0⟩ := stk_pop hS (Nat.le_refl _)
     have hSb := hSb0.alloc (.cells #[.int .i64 4, .slice A1 s.length c1, .int .i64 n] 79)
     replace q3 := q3 (.cells #[.int .i64 4, .slice A1 s.length c1, .int .i64 n] 79)
     obtain ⟨g2, m2, cp2, x2, ys2, e2, p1, p2, p3, p6, p4, gB2, mE2, hSc0⟩ := stk_pop hSb0 (Nat.le_refl _)
     have hSc := hSc0.alloc (.cells #[.int .i64 4, .slice A1 s.length c1, .int .i64 n] 79)
     replace p3 := p3 (.cells #[.int .i64 4, .slice A1 s.length c1, .int .i64 n] 79)
     obtain ⟨rfl, rfl, rfl⟩ : g = g2 ∧ m1 = m2 + 1 ∧ cp = cp2 := by simp only [Value.slice.injEq, Option.some.injEq, Addr.mk.injEq] at e2; exact ⟨e2.1.1, e2.2.1, e2.2.2⟩
     clear e2
     have hbx := hSa.box
     have hbx2 := hSb.box
     obtain ⟨T1, u1, rfl⟩ := q4.iface
     have ME := Lib.hid mE
     clear mE
     obtain ⟨T2, u2, rfl⟩ := p4.iface
     have ME2 := Lib.hid mE2
     clear mE2
     go_wp2_with (first
      | (go_at_call 135; (with_reducible refine (pop_some _ _ _ _ _ _ hbx q1 q2 q3).mono ?_); rintro e w' ⟨rfl, rfl⟩)
      | (go_at_call 135; (with_reducible refine (pop_some _ _ _ _ _ _ hbx2 p1 p2 p3).mono ?_); rintro e w' ⟨rfl, rfl⟩)
      | ((with_reducible refine gate_dst (N := 82) rfl ?_); go_must (refine stk_append w0 w _ hSc (t := (.seq l r)) (⟨_, _, rfl, p4, q4⟩) (Nat.le_refl _) (by simp; omega) rfl _ _ rfl rfl _ rfl _ _ rfl (by simp) (by first | omega | (simp only [List.length_cons] at i4; omega)) ?_); rintro A' c' W' v' rfl hB' hO' hV' hA' hL'; have cb' := hB'.cell; have fb' := hB'.frozen; have lb' := hB'.lt))
     go_roundg k1
     case measure => omega
     case rel => exact ⟨i + 1, (.seq l r) :: st, _, _, by first | rfl | (simp; done) | (rw [hw]; simp), ⟨by omega, by omega, by first | omega | (simp only [List.length_cons] at i4 ⊢; omega), run_step I3.out rfl⟩, hB'.set _, ownsRow_setCell_other hO' hA' _, hA', hV', hL'.setCell (Nat.le_refl _) _⟩
   ·match st, hS, hSa, i4, I3 with
    | [], hS, hSa, i4, I3 =>
     obtain ⟨Ap, cp, rfl⟩ := stk_nil hSa
     have hbx := hSa.box
     go_wp2_with (first
      | (go_at_call 135; (with_reducible refine (pop_none _ _ _ _ _ rfl hbx).mono ?_); rintro e w' ⟨rfl, rfl⟩))
     go_ret2
     exact tree_bad (treeF_none I3.out rfl) hSa.bel
    | [r], hS, hSa, i4, I3 =>
     obtain ⟨g, m1, cp, x, ys, rfl, q1, q2, q3, q6, q4, gB, mE, hSb0⟩ := stk_pop hS (Nat.le_refl _)
     have hSb := hSb0.alloc (.cells #[.int .i64 5, .slice A1 s.length c1, .int .i64 n] 79)
     replace q3 := q3 (.cells #[.int .i64 5, .slice A1 s.length c1, .int .i64 n] 79)
     have hbx := hSa.box
     have hbx2 := hSb.box
     obtain ⟨T1, u1, rfl⟩ := q4.iface
     have ME := Lib.hid mE
     clear mE
     go_wp2_with (first
      | (go_at_call 135; (with_reducible refine (pop_some _ _ _ _ _ _ hbx q1 q2 q3).mono ?_); rintro e w' ⟨rfl, rfl⟩)
      | (go_at_call 135; (with_reducible refine (pop_none _ _ _ _ _ ME.out hbx2).mono ?_); rintro e w' ⟨rfl, rfl⟩))
     go_ret2
     exact tree_bad (treeF_none I3.out rfl) hSb.bel
    | r :: l :: st, hS, hSa, i4, I3 =>
     obtain ⟨g, m1, cp, x, ys, rfl, q1, q2, q3, q6, q4, gB, mE, hSb0⟩ := stk_pop hS (Nat.le_refl _)
     have hSb := hSb0.alloc (.cells #[.int .i64 5, .slice A1 s.length c1, .int .i64 n] 79)
     replace q3 := q3 (.cells #[.int .i64 5, .slice A1 s.length c1, .int .i64 n] 79)
     obtain ⟨g2, m2, cp2, x2, ys2, e2, p1, p2, p3, p6, p4, gB2, mE2, hSc0⟩ := stk_pop hSb0 (Nat.le_refl _)
     have hSc := hSc0.alloc (.cells #[.int .i64 5, .slice A1 s.length c1, .int .i64 n] 79)
     replace p3 := p3 (.cells #[.int .i64 5, .slice A1 s.length c1, .int .i64 n] 79)
     obtain ⟨rfl, rfl, rfl⟩ : g = g2 ∧ m1 = m2 + 1 ∧ cp = cp2 := by simp only [Value.slice.injEq, Option.some.injEq, Addr.mk.injEq] at e2; exact ⟨e2.1.1, e2.2.1, e2.2.2⟩
     clear e2
     have hbx := hSa.box
     have hbx2 := hSb.box
     obtain ⟨T1, u1, rfl⟩ := q4.iface
     have ME := Lib.hid mE
     clear mE
     obtain ⟨T2, u2, rfl⟩ := p4.iface
     have ME2 := Lib.hid mE2
     clear mE2
     go_wp2_with (first
      | (go_at_call 135; (with_reducible refine (pop_some _ _ _ _ _ _ hbx q1 q2 q3).mono ?_); rintro e w' ⟨rfl, rfl⟩)
      | (go_at_call 135; (with_reducible refine (pop_some _ _ _ _ _ _ hbx2 p1 p2 p3).mono ?_); rintro e w' ⟨rfl, rfl⟩)
      | ((with_reducible refine gate_dst (N := 82) rfl ?_); go_must (refine stk_append w0 w _ hSc (t := (.alt l r)) (⟨_, _, rfl, p4, q4⟩) (Nat.le_refl _) (by simp; omega) rfl _ _ rfl rfl _ rfl _ _ rfl (by simp) (by first | omega | (simp only [List.length_cons] at i4; omega)) ?_); rintro A' c' W' v' rfl hB' hO' hV' hA' hL'; have cb' := hB'.cell; have fb' := hB'.frozen; have lb' := hB'.lt))
     go_roundg k1
     case measure => omega
     case rel => exact ⟨i + 1, (.alt l r) :: st, _, _, by first | rfl | (simp; done) | (rw [hw]; simp), ⟨by omega, by omega, by first | omega | (simp only [List.length_cons] at i4 ⊢; omega), run_step I3.out rfl⟩, hB'.set _, ownsRow_setCell_other hO' hA' _, hA', hV', hL'.setCell (Nat.le_refl _) _⟩
   ·match st, hS, hSa, i4, I3 with
    | [], hS, hSa, i4, I3 =>
     obtain ⟨Ap, cp, rfl⟩ := stk_nil hSa
     have hbx := hSa.box
     go_wp2_with (first
      | (go_at_call 135; (with_reducible refine (pop_none _ _ _ _ _ rfl hbx).mono ?_); rintro e w' ⟨rfl, rfl⟩))
     go_ret2
     exact tree_bad (treeF_none I3.out rfl) hSa.bel
    | r :: st, hS, hSa, i4, I3 =>
     obtain ⟨g, m1, cp, x, ys, rfl, q1, q2, q3, q6, q4, gB, mE, hSb0⟩ := stk_pop hS (Nat.le_refl _)
     have hSb := hSb0.alloc (.cells #[.int .i64 6, .slice A1 s.length c1, .int .i64 n] 79)
     replace q3 := q3 (.cells #[.int .i64 6, .slice A1 s.length c1, .int .i64 n] 79)
     have hbx := hSa.box
     obtain ⟨T1, u1, rfl⟩ := q4.iface
     have ME := Lib.hid mE
     clear mE
     go_wp2_with (first
      | (go_at_call 135; (with_reducible refine (pop_some _ _ _ _ _ _ hbx q1 q2 q3).mono ?_); rintro e w' ⟨rfl, rfl⟩)
      | ((with_reducible refine gate_dst (N := 82) rfl ?_); go_must (refine stk_append w0 w _ hSb (t := (.star r)) (⟨_, rfl, q4⟩) (Nat.le_refl _) (by simp; omega) rfl _ _ rfl rfl _ rfl _ _ rfl (by simp) (by first | omega | (simp only [List.length_cons] at i4; omega)) ?_); rintro A' c' W' v' rfl hB' hO' hV' hA' hL'; have cb' := hB'.cell; have fb' := hB'.frozen; have lb' := hB'.lt))
     go_roundg k1
     case measure => omega
     case rel => exact ⟨i + 1, (.star r) :: st, _, _, by first | rfl | (simp; done) | (rw [hw]; simp), ⟨by omega, by omega, by first | omega | (simp only [List.length_cons] at i4 ⊢; omega), run_step I3.out rfl⟩, hB'.set _, ownsRow_setCell_other hO' hA' _, hA', hV', hL'.setCell (Nat.le_refl _) _⟩
   ·match st, hS, hSa, i4, I3 with
    | [], hS, hSa, i4, I3 =>
     obtain ⟨Ap, cp, rfl⟩ := stk_nil hSa
     have hbx := hSa.box
     go_wp2_with (first
      | (go_at_call 135; (with_reducible refine (pop_none _ _ _ _ _ rfl hbx).mono ?_); rintro e w' ⟨rfl, rfl⟩))
     go_ret2
     exact tree_bad (treeF_none I3.out rfl) hSa.bel
    | r :: st, hS, hSa, i4, I3 =>
     obtain ⟨g, m1, cp, x, ys, rfl, q1, q2, q3, q6, q4, gB, mE, hSb0⟩ := stk_pop hS (Nat.le_refl _)
     have hSb := hSb0.alloc (.cells #[.int .i64 7, .slice A1 s.length c1, .int .i64 n] 79)
     replace q3 := q3 (.cells #[.int .i64 7, .slice A1 s.length c1, .int .i64 n] 79)
     have hbx := hSa.box
     obtain ⟨T1, u1, rfl⟩ := q4.iface
     have ME := Lib.hid mE
     clear mE
     go_wp2_with (first
      | (go_at_call 135; (with_reducible refine (pop_some _ _ _ _ _ _ hbx q1 q2 q3).mono ?_); rintro e w' ⟨rfl, rfl⟩)
      | ((with_reducible refine gate_dst (N := 82) rfl ?_); go_must (refine stk_append w0 w _ hSb (t := (.neg r)) (⟨_, rfl, q4⟩) (Nat.le_refl _) (by simp; omega) rfl _ _ rfl rfl _ rfl _ _ rfl (by simp) (by first | omega | (simp only [List.length_cons] at i4; omega)) ?_); rintro A' c' W' v' rfl hB' hO' hV' hA' hL'; have cb' := hB'.cell; have fb' := hB'.frozen; have lb' := hB'.lt))
     go_roundg k1
     case measure => omega
     case rel => exact ⟨i + 1, (.neg r) :: st, _, _, by first | rfl | (simp; done) | (rw [hw]; simp), ⟨by omega, by omega, by first | omega | (simp only [List.length_cons] at i4 ⊢; omega), run_step I3.out rfl⟩, hB'.set _, ownsRow_setCell_other hO' hA' _, hA', hV', hL'.setCell (Nat.le_refl _) _⟩
   have f0 : (k == 0) = false := by simp; omega
   have f1 : (k == 1) = false := by simp; omega
   have f2 : (k == 2) = false := by simp; omega
   have f3 : (k == 3) = false := by simp; omega
   have f4 : (k == 4) = false := by simp; omega
   have f5 : (k == 5) = false := by simp; omega
   have f6 : (k == 6) = false := by simp; omega
   have f7 : (k == 7) = false := by simp; omega
   go_wp2
   go_ret2
   exact tree_bad (treeF_none I3.out (stepT_bad hk)) hSa.bel
theorem tree_in (w : World) (A : Option Addr) (c : Nat) (ops : List S79) (hr : Kd.C k79 w A ops.length ops) (hc : ops.length ≤ c) (hm : ops.length ≤ 1099511627776) :
 Calls Try.prog 90 #[.slice A ops.length c] w (TreePost w w ops) := tree_at w w ⟨Below.refl _ _⟩ A c ops hr hc hm
end Go.Proofs.Ytdiilocgjnlmiaa.Tre
