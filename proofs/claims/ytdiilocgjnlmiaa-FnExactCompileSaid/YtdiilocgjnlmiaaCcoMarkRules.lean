/- Lemmas of the proof, and the walks of functions that it stands on. -/
import Derived.Test.YtdiilocgjnlmiaaCcoValid
import Derived.Test.YtdiilocgjnlmiaaCcoFlat
import Derived.Deep.DeepMust
import Derived.Deep.RegionHeld
section
namespace Go.Proofs.Ytdiilocgjnlmiaa.Tre
open Go.RowKit Go.Proofs.YtdiilocgjnlmiaaW.PrintWords Go.Proofs.YtdiilocgjnlmiaaW.PrintLast Go.Proofs.YtdiilocgjnlmiaaW.PrintMore
open Go.Proofs.Ytdiilocgjnlmiaa.PAll
set_option linter.unusedVariables false
set_option linter.unusedSimpArgs false
def BoolPost (w : World) (b : Bool) (e : Ending) (w' : World) : Prop := e = .returned (.bool b) ∧ Below w.heap.size w w'
theorem opB_cases (R L k : Int) (s : List Int) (n : Int) : opB R L ⟨k, s, n⟩ = ((if k = 1 then canonB s else decide (s.length = 0)) && decide (0 ≤ n ∧ n < mostF R L k)) := rfl
theorem all_false {R L : Int} {ops : List Op} {i : Nat} {o : Op} (h : ops.all (opB R L) = (o :: ops.drop (i + 1)).all (opB R L)) (ho : opB R L o = false) : bodyB R L ops = false := by
 unfold bodyB
 rw [h, List.all_cons, ho]; rfl
theorem all_step {R L : Int} {ops : List Op} {i : Nat} {o : Op} (h : ops.all (opB R L) = (o :: ops.drop (i + 1)).all (opB R L)) (ho : opB R L o = true) : ops.all (opB R L) = (ops.drop (i + 1)).all (opB R L) := by
 rw [h, List.all_cons, ho]; rfl
theorem good_no {w W : World} {b : Bool} (h : b = false) (hb : Below w.heap.size w W) : BoolPost w b (.returned (.bool false)) W := ⟨by rw [h], hb⟩
theorem good_yes {w W : World} {b c : Bool} (h : b = c) (hb : Below w.heap.size w W) : BoolPost w b (.returned (.bool c)) W := ⟨by rw [h], hb⟩
theorem cell_new (w : World) (cs : Array Value) (t : TypeId) (j : Nat) (v : Value) (h : cs[j]? = some v) : (w.alloc (.cells cs t)).cell? ⟨w.heap.size, j, none⟩ = some v := by
 rw [cell_of_row _ _ _ _ _ _ (World.alloc_heap_new w _)]
 exact h
set_option maxRecDepth 100000 in
set_option maxHeartbeats 8000000 in
theorem goodBody_in (w : World) (A A0 A1 : Option Addr) (c R L c0 cL : Nat) (ops : List Op) (hr : Kd.C k79 w A ops.length ops) (hc : ops.length ≤ c) (hm : ops.length ≤ 1099511627776) (hs : ∀ o ∈ ops, o.f1.length ≤ 1099511627776) (hR : R ≤ 1099511627776) (hL : L ≤ 1099511627776) :
 Calls Try.prog 54 #[.agg #[.slice A0 R c0, .slice A1 L cL], .slice A ops.length c] w (BoolPost w (bodyB R L ops)) := by
 obtain ⟨K, hK⟩ : ∃ K : Nat, 1099511627776 < K := ⟨_, Nat.lt_succ_self _⟩
 have HK := Aside0.mk hK
 clear hK
 go_enter Try.func54, Try.ntmps54
 go_wp2
 have hw0 : Below w.heap.size w (w.alloc (Obj.cells #[.slice A0 R c0, .slice A1 L cL] 31)) := below_alloc (Below.refl _ _) _
 have g0 : (w.alloc (Obj.cells #[.slice A0 R c0, .slice A1 L cL] 31)).cell? ⟨w.heap.size, 0, none⟩ = some (.slice A0 R c0) := cell_new w _ _ 0 _ rfl
 have g1 : (w.alloc (Obj.cells #[.slice A0 R c0, .slice A1 L cL] 31)).cell? ⟨w.heap.size, 1, none⟩ = some (.slice A1 L cL) := cell_new w _ _ 1 _ rfl
 generalize hww : w.alloc (Obj.cells #[.slice A0 R c0, .slice A1 L cL] 31) = w0 at *
 have hr0 := Kd.C_below hr hw0
 have HW0 := Aside0.mk hw0
 clear hww hw0
 go_loopg [12] (ops.length + 1) (fun kq v12 w' => ∃ (i : Nat), v12 = .int .i64 (i : Int) ∧ Aside0 (i ≤ ops.length ∧ ops.length < i + kq ∧ ops.all (opB R L) = (ops.drop i).all (opB R L)) ∧ Aside0 (Below w0.heap.size w0 w'))
 case atStart => exact ⟨0, rfl, ⟨by omega, by omega, rfl⟩, ⟨Below.refl _ _⟩⟩
 case round =>
  obtain ⟨i, rfl, HI, hB0⟩ := hrel
  have hB := hB0.out
  clear hB0
  obtain ⟨i1, i2, i3⟩ := HI.out
  clear HI
  cases gk with
  | zero => omega
  | succ k1 =>
   replace g0 := pw_cell_below hB g0
   replace g1 := pw_cell_below hB g1
   have lb : w.heap.size < wr.heap.size := World.block_lt_of_cell? wr ⟨w.heap.size, 0, none⟩ g0
   by_cases hi : i < ops.length
   rotate_left
   ·have d1 : decide ((i : Int) < (ops.length : Int)) = false := decide_eq_false (by omega)
    rw [List.drop_eq_nil_of_le (by omega)] at i3
    have I3 := Lib.hid i3
    have HB := Aside0.mk hB
    have hr1 := Kd.C_below hr0 hB
    have HR := Aside0.mk hr1
    clear i3 hB hr hr0 hr1
    go_wp2_with (first
     | ((with_reducible refine gate_dst (N := 57) rfl ?_); go_must (refine goesL_ (some 57) rfl rfl Try.func90 (by kernel_rfl) rfl #[.slice A ops.length c] rfl (by (try simp only [List.map_toArray, List.map_cons, List.map_nil]); first | done | rfl) ?_; refine (tree_in _ A c ops HR.out hc hm).mono ?_); rintro e w' ⟨v, b, rfl, hb1, hb2, -, -⟩; have HB1 := Aside0.mk hb1; have HB2 := Lib.hid hb2; clear hb1 hb2; refine ⟨_, rfl, ?_⟩))
    go_ret
    refine good_yes ?_ (below_then HW0.out HW0.out.size (below_then HB.out HB.out.size HB1.out))
    rw [HB2.out]
    unfold bodyB
    rw [I3.out]; rfl
   have d1 : decide ((i : Int) < (ops.length : Int)) = true := decide_eq_true (by omega)
   obtain ⟨ad, AS, cS, rfl, x0, x1, x2, y1, y2⟩ := at_T79 hr0 (i : Int) (by omega) (by omega)
   rw [Int.toNat_natCast] at x0 x1 x2
   replace x0 := pw_cell_below hB x0
   replace x1 := pw_cell_below hB x1
   replace x2 := pw_cell_below hB x2
   replace y2 := Kd.C_below y2 hB
   have d2 : (0 ≤ (i : Int)) = True := eq_true (by omega)
   have d3 : ((i : Int) < (ops.length : Int)) = True := eq_true (by omega)
   have hsz := hs (rd_T79 ops (i : Int)) (by
    have := drop_op (ops := ops) (i := i) (by omega)
    exact List.mem_of_mem_drop (by rw [this]; exact List.mem_cons_self))
   rw [drop_op hi] at i3
   generalize ho : rd_T79 ops (i : Int) = o at *
   obtain ⟨k, s, n⟩ := o
   simp only at x0 x1 x2 y1 y2 hsz
   have I3 := Lib.hid i3
   clear i3 ho
   have HY := Aside0.mk y2
   have HB := Aside0.mk hB
   clear y2 hr hB hr0 hs
   have fin : ∀ (W : World), Below w0.heap.size w0 W → Below w.heap.size w W := fun W h => below_then HW0.out HW0.out.size h
   have FIN := Aside0.mk fin
   clear fin
   rcases (by omega : k = 1 ∨ k = 2 ∨ k = 3 ∨ (k ≠ 1 ∧ k ≠ 2 ∧ k ≠ 3)) with rfl | rfl | rfl | ⟨ka, kb, kc⟩
   ·have hf := canonical_f s hsz K (by have := HK.out; omega)
    have hop := opB_cases R L 1 s n
    rw [if_pos rfl, show mostF R L 1 = 1 from rfl] at hop
    cases hcb : canonB s
    ·rw [hcb] at hf hop
     have HO : Hid (opB R L ⟨1, s, n⟩ = false) := hop
     clear hop hcb
     go_wp2_with (first
      | ((with_reducible refine gate_dst (N := 22) rfl ?_); go_must (refine goesL_ (some 22) rfl rfl Try.func107 (by kernel_rfl) rfl #[.slice AS s.length cS] rfl (by (try simp only [List.map_toArray, List.map_cons, List.map_nil]); first | done | rfl) ?_; refine (impl_canonical.calls K _ cS s _ _ (Kd.C_alloc HY.out _) y1 hf).mono ?_); rintro e w' ⟨rfl, ⟨nd, rfl⟩⟩; refine ⟨_, rfl, ?_⟩))
     go_ret
     exact good_no (all_false I3.out HO.out) (FIN.out _ (by repeat (with_reducible first | exact HB.out | apply below_alloc | apply pw_below_drewN | apply below_drew1)))
    rw [hcb] at hf hop
    clear hcb
    by_cases ca : n < 0
    ·have fa : decide (n < 0) = true := decide_eq_true ca
     have HO : Hid (opB R L ⟨1, s, n⟩ = false) := by rw [hop, decide_eq_false (by omega)]; rfl
     clear hop
     go_wp2_with (first
      | ((with_reducible refine gate_dst (N := 22) rfl ?_); go_must (refine goesL_ (some 22) rfl rfl Try.func107 (by kernel_rfl) rfl #[.slice AS s.length cS] rfl (by (try simp only [List.map_toArray, List.map_cons, List.map_nil]); first | done | rfl) ?_; refine (impl_canonical.calls K _ cS s _ _ (Kd.C_alloc HY.out _) y1 hf).mono ?_); rintro e w' ⟨rfl, ⟨nd, rfl⟩⟩; refine ⟨_, rfl, ?_⟩))
     go_ret
     exact good_no (all_false I3.out HO.out) (FIN.out _ (by repeat (with_reducible first | exact HB.out | apply below_alloc | apply pw_below_drewN | apply below_drew1)))
    have fa : decide (n < 0) = false := decide_eq_false ca
    by_cases cb : n ≥ 1
    ·have fb : decide (n ≥ 1) = true := decide_eq_true cb
     have HO : Hid (opB R L ⟨1, s, n⟩ = false) := by rw [hop, decide_eq_false (by omega)]; rfl
     clear hop
     go_wp2_with (first
      | ((with_reducible refine gate_dst (N := 22) rfl ?_); go_must (refine goesL_ (some 22) rfl rfl Try.func107 (by kernel_rfl) rfl #[.slice AS s.length cS] rfl (by (try simp only [List.map_toArray, List.map_cons, List.map_nil]); first | done | rfl) ?_; refine (impl_canonical.calls K _ cS s _ _ (Kd.C_alloc HY.out _) y1 hf).mono ?_); rintro e w' ⟨rfl, ⟨nd, rfl⟩⟩; refine ⟨_, rfl, ?_⟩))
     go_ret
     exact good_no (all_false I3.out HO.out) (FIN.out _ (by repeat (with_reducible first | exact HB.out | apply below_alloc | apply pw_below_drewN | apply below_drew1)))
    have fb : decide (n ≥ 1) = false := decide_eq_false cb
    have HO : Hid (opB R L ⟨1, s, n⟩ = true) := by rw [hop, decide_eq_true (by omega)]; rfl
    clear hop
    go_wp2_with (first
     | ((with_reducible refine gate_dst (N := 22) rfl ?_); go_must (refine goesL_ (some 22) rfl rfl Try.func107 (by kernel_rfl) rfl #[.slice AS s.length cS] rfl (by (try simp only [List.map_toArray, List.map_cons, List.map_nil]); first | done | rfl) ?_; refine (impl_canonical.calls K _ cS s _ _ (Kd.C_alloc HY.out _) y1 hf).mono ?_); rintro e w' ⟨rfl, ⟨nd, rfl⟩⟩; refine ⟨_, rfl, ?_⟩))
    go_roundg k1
    case measure => omega
    case rel => exact ⟨i + 1, by first | rfl | (simp; done) | (rw [wid (by omega) (by omega)]; simp), ⟨by omega, by omega, all_step I3.out HO.out⟩, ⟨by repeat (with_reducible first | exact HB.out | apply below_alloc | apply pw_below_drewN | apply below_drew1)⟩⟩
   ·have hop := opB_cases R L 2 s n
    rw [if_neg (by decide), show mostF (R : Int) L 2 = (R : Int) from rfl] at hop
    by_cases cs : s.length = 0
    rotate_left
    ·have fs : ((s.length : Int) != 0) = true := by rw [bne_iff_ne]; omega
     have HO : Hid (opB R L ⟨2, s, n⟩ = false) := by rw [hop, decide_eq_false cs]; rfl
     clear hop
     go_wp2
     go_ret
     exact good_no (all_false I3.out HO.out) (FIN.out _ (by repeat (with_reducible first | exact HB.out | apply below_alloc | apply pw_below_drewN | apply below_drew1)))
    have fs : ((s.length : Int) != 0) = false := by rw [bne_eq_false_iff_eq]; omega
    rw [decide_eq_true cs] at hop
    clear cs
    by_cases ca : n < 0
    ·have fa : decide (n < 0) = true := decide_eq_true ca
     have HO : Hid (opB R L ⟨2, s, n⟩ = false) := by rw [hop, decide_eq_false (by omega)]; rfl
     clear hop
     go_wp2
     go_ret
     exact good_no (all_false I3.out HO.out) (FIN.out _ (by repeat (with_reducible first | exact HB.out | apply below_alloc | apply pw_below_drewN | apply below_drew1)))
    have fa : decide (n < 0) = false := decide_eq_false ca
    by_cases cb : n ≥ (R : Int)
    ·have fb : decide (n ≥ (R : Int)) = true := decide_eq_true cb
     have HO : Hid (opB R L ⟨2, s, n⟩ = false) := by rw [hop, decide_eq_false (by omega)]; rfl
     clear hop
     go_wp2
     go_ret
     exact good_no (all_false I3.out HO.out) (FIN.out _ (by repeat (with_reducible first | exact HB.out | apply below_alloc | apply pw_below_drewN | apply below_drew1)))
    have fb : decide (n ≥ (R : Int)) = false := decide_eq_false cb
    have HO : Hid (opB R L ⟨2, s, n⟩ = true) := by rw [hop, decide_eq_true (by omega)]; rfl
    clear hop
    go_wp2
    go_roundg k1
    case measure => omega
    case rel => exact ⟨i + 1, by first | rfl | (simp; done) | (rw [wid (by omega) (by omega)]; simp), ⟨by omega, by omega, all_step I3.out HO.out⟩, ⟨by repeat (with_reducible first | exact HB.out | apply below_alloc | apply pw_below_drewN | apply below_drew1)⟩⟩
   ·have hop := opB_cases R L 3 s n
    rw [if_neg (by decide), show mostF (R : Int) L 3 = (L : Int) from rfl] at hop
    by_cases cs : s.length = 0
    rotate_left
    ·have fs : ((s.length : Int) != 0) = true := by rw [bne_iff_ne]; omega
     have HO : Hid (opB R L ⟨3, s, n⟩ = false) := by rw [hop, decide_eq_false cs]; rfl
     clear hop
     go_wp2
     go_ret
     exact good_no (all_false I3.out HO.out) (FIN.out _ (by repeat (with_reducible first | exact HB.out | apply below_alloc | apply pw_below_drewN | apply below_drew1)))
    have fs : ((s.length : Int) != 0) = false := by rw [bne_eq_false_iff_eq]; omega
    rw [decide_eq_true cs] at hop
    clear cs
    by_cases ca : n < 0
    ·have fa : decide (n < 0) = true := decide_eq_true ca
     have HO : Hid (opB R L ⟨3, s, n⟩ = false) := by rw [hop, decide_eq_false (by omega)]; rfl
     clear hop
     go_wp2
     go_ret
     exact good_no (all_false I3.out HO.out) (FIN.out _ (by repeat (with_reducible first | exact HB.out | apply below_alloc | apply pw_below_drewN | apply below_drew1)))
    have fa : decide (n < 0) = false := decide_eq_false ca
    by_cases cb : n ≥ (L : Int)
    ·have fb : decide (n ≥ (L : Int)) = true := decide_eq_true cb
     have HO : Hid (opB R L ⟨3, s, n⟩ = false) := by rw [hop, decide_eq_false (by omega)]; rfl
     clear hop
     go_wp2
     go_ret
     exact good_no (all_false I3.out HO.out) (FIN.out _ (by repeat (with_reducible first | exact HB.out | apply below_alloc | apply pw_below_drewN | apply below_drew1)))
    have fb : decide (n ≥ (L : Int)) = false := decide_eq_false cb
    have HO : Hid (opB R L ⟨3, s, n⟩ = true) := by rw [hop, decide_eq_true (by omega)]; rfl
    clear hop
    go_wp2
    go_roundg k1
    case measure => omega
    case rel => exact ⟨i + 1, by first | rfl | (simp; done) | (rw [wid (by omega) (by omega)]; simp), ⟨by omega, by omega, all_step I3.out HO.out⟩, ⟨by repeat (with_reducible first | exact HB.out | apply below_alloc | apply pw_below_drewN | apply below_drew1)⟩⟩
   have fk1 : (k == 1) = false := by simpa using ka
   have fk2 : (k == 2) = false := by simpa using kb
   have fk3 : (k == 3) = false := by simpa using kc
   have fk4 : (k != 1) = true := by simpa using ka
   have hop := opB_cases R L k s n
   rw [if_neg ka, show mostF R L k = 1 by unfold mostF; rw [if_neg kc, if_neg kb]] at hop
   by_cases cs : s.length = 0
   rotate_left
   ·have fs : ((s.length : Int) != 0) = true := by rw [bne_iff_ne]; omega
    have HO : Hid (opB R L ⟨k, s, n⟩ = false) := by rw [hop, decide_eq_false cs]; rfl
    clear hop
    go_wp2
    go_ret
    exact good_no (all_false I3.out HO.out) (FIN.out _ (by repeat (with_reducible first | exact HB.out | apply below_alloc | apply pw_below_drewN | apply below_drew1)))
   have fs : ((s.length : Int) != 0) = false := by rw [bne_eq_false_iff_eq]; omega
   rw [decide_eq_true cs] at hop
   clear cs
   by_cases ca : n < 0
   ·have fa : decide (n < 0) = true := decide_eq_true ca
    have HO : Hid (opB R L ⟨k, s, n⟩ = false) := by rw [hop, decide_eq_false (by omega)]; rfl
    clear hop
    go_wp2
    go_ret
    exact good_no (all_false I3.out HO.out) (FIN.out _ (by repeat (with_reducible first | exact HB.out | apply below_alloc | apply pw_below_drewN | apply below_drew1)))
   have fa : decide (n < 0) = false := decide_eq_false ca
   by_cases cb : n ≥ 1
   ·have fb : decide (n ≥ 1) = true := decide_eq_true cb
    have HO : Hid (opB R L ⟨k, s, n⟩ = false) := by rw [hop, decide_eq_false (by omega)]; rfl
    clear hop
    go_wp2
    go_ret
    exact good_no (all_false I3.out HO.out) (FIN.out _ (by repeat (with_reducible first | exact HB.out | apply below_alloc | apply pw_below_drewN | apply below_drew1)))
   have fb : decide (n ≥ 1) = false := decide_eq_false cb
   have HO : Hid (opB R L ⟨k, s, n⟩ = true) := by rw [hop, decide_eq_true (by omega)]; rfl
   clear hop
   go_wp2
   go_roundg k1
   case measure => omega
   case rel => exact ⟨i + 1, by first | rfl | (simp; done) | (rw [wid (by omega) (by omega)]; simp), ⟨by omega, by omega, all_step I3.out HO.out⟩, ⟨by repeat (with_reducible first | exact HB.out | apply below_alloc | apply pw_below_drewN | apply below_drew1)⟩⟩
end Go.Proofs.Ytdiilocgjnlmiaa.Tre
end
section
namespace Go.Proofs.Ytdiilocgjnlmiaa.Tre
open Go.RowKit Go.Proofs.YtdiilocgjnlmiaaW.PrintWords Go.Proofs.YtdiilocgjnlmiaaW.PrintLast Go.Proofs.YtdiilocgjnlmiaaW.PrintMore
open Go.Proofs.Ytdiilocgjnlmiaa.PAll
set_option linter.unusedVariables false
set_option linter.unusedSimpArgs false
def Like (v v' : Value) : Prop := v' = v ∨ (∃ k a b, v = .int k a ∧ v' = .int k b) ∨ (∃ a b, v = .bool a ∧ v' = .bool b)
theorem Like.refl (v : Value) : Like v v := .inl rfl
theorem Like.trans {a b c : Value} (h : Like a b) (k : Like b c) : Like a c := by
 rcases h with rfl | ⟨q, x, y, rfl, rfl⟩ | ⟨x, y, rfl, rfl⟩
 ·exact k
 ·rcases k with rfl | ⟨q', x', y', h', rfl⟩ | ⟨x', y', h', rfl⟩
  ·exact .inr (.inl ⟨_, _, _, rfl, rfl⟩)
  ·cases h'; exact .inr (.inl ⟨_, _, _, rfl, rfl⟩)
  cases h'
 rcases k with rfl | ⟨q', x', y', h', rfl⟩ | ⟨x', y', h', rfl⟩
 ·exact .inr (.inr ⟨_, _, rfl, rfl⟩)
 ·cases h'
 exact .inr (.inr ⟨_, _, rfl, rfl⟩)
theorem Like.slice {A : Option Addr} {n c : Nat} {v : Value} (h : Like (.slice A n c) v) : v = .slice A n c := by
 rcases h with rfl | ⟨q, x, y, h, rfl⟩ | ⟨x, y, h, rfl⟩
 ·rfl
 ·cases h
 cases h
theorem Like.int {k : IntKind} {a : Int} {v : Value} (h : Like (.int k a) v) : ∃ b, v = .int k b := by
 rcases h with rfl | ⟨q, x, y, h, rfl⟩ | ⟨x, y, h, rfl⟩
 ·exact ⟨_, rfl⟩
 ·cases h; exact ⟨_, rfl⟩
 cases h
theorem Like.bool {a : Bool} {v : Value} (h : Like (.bool a) v) : ∃ b, v = .bool b := by
 rcases h with rfl | ⟨q, x, y, h, rfl⟩ | ⟨x, y, h, rfl⟩
 ·exact ⟨_, rfl⟩
 ·cases h
 cases h; exact ⟨_, rfl⟩
structure Evo (X : Nat → Prop) (W W' : World) : Prop where
 os : W'.os = W.os
 tape : W'.tape = W.tape
 output : W'.output = W.output
 size : W.heap.size ≤ W'.heap.size
 same : ∀ k, k < W.heap.size → ¬ X k → W'.heap[k]? = W.heap[k]?
 like : ∀ (k : Nat) (cur : Array Value) (t : TypeId) (fz : Nat × Nat), W.heap[k]? = some (Obj.cells cur t fz) → ∃ cur' : Array Value, W'.heap[k]? = some (Obj.cells cur' t fz) ∧ cur'.size = cur.size ∧ ∀ (j : Nat) (v : Value), cur[j]? = some v → ∃ v' : Value, cur'[j]? = some v' ∧ Like v v'
theorem Evo.refl (X : Nat → Prop) (W : World) : Evo X W W := ⟨rfl, rfl, rfl, Nat.le_refl _, fun _ _ _ => rfl, fun k cur t fz h => ⟨cur, h, rfl, fun j v hv => ⟨v, hv, Like.refl v⟩⟩⟩
theorem Evo.mono {X Y : Nat → Prop} {W W' : World} (h : Evo X W W') (hX : ∀ k, X k → Y k) : Evo Y W W' := ⟨h.os, h.tape, h.output, h.size, fun k hk hy => h.same k hk fun hx => hy (hX k hx), h.like⟩
theorem Evo.trans {X : Nat → Prop} {A B C : World} (h : Evo X A B) (k : Evo X B C) : Evo X A C :=
 ⟨k.os.trans h.os, k.tape.trans h.tape, k.output.trans h.output, Nat.le_trans h.size k.size, fun b hb hx => (k.same b (Nat.lt_of_lt_of_le hb h.size) hx).trans (h.same b hb hx), fun b cur t fz hb => by
  obtain ⟨c1, e1, s1, l1⟩ := h.like b cur t fz hb
  obtain ⟨c2, e2, s2, l2⟩ := k.like b c1 t fz e1
  refine ⟨c2, e2, s2.trans s1, fun j v hv => ?_⟩
  obtain ⟨v1, hv1, g1⟩ := l1 j v hv
  obtain ⟨v2, hv2, g2⟩ := l2 j v1 hv1
  exact ⟨v2, hv2, g1.trans g2⟩⟩
theorem Evo.of_below {X : Nat → Prop} {W W' : World} (h : Below W.heap.size W W') : Evo X W W' :=
 ⟨h.os, h.tape, h.output, h.size, fun k hk _ => h.block k hk, fun k cur t fz hk => by
  have hlt : k < W.heap.size := (Array.getElem?_eq_some_iff.1 hk).1
  exact ⟨cur, (h.block k hlt).trans hk, rfl, fun j v hv => ⟨v, hv, Like.refl v⟩⟩⟩
theorem Evo.below {X : Nat → Prop} {B : Nat} {W W' : World} (h : Evo X W W') (hB : B ≤ W.heap.size) (hX : ∀ k, X k → B ≤ k) : Below B W W' :=
 ⟨h.os, h.tape, h.output, h.size, fun k hk => h.same k (by omega) fun hx => by have := hX k hx; omega⟩
theorem Evo.set {X : Nat → Prop} {W : World} {g j : Nat} {cur : Array Value} {t : TypeId} {fz : Nat × Nat} {v u : Value} (hg : W.heap[g]? = some (Obj.cells cur t fz)) (hj : cur[j]? = some v) (hX : X g) (hl : Like v u) : Evo X W (W.setCell ⟨g, j, none⟩ u) := by
 have hs := setCell_eq_setRow W g j cur t fz u hg
 rw [hs]
 refine ⟨rfl, rfl, rfl, by simp, fun k hk hx => setRow_other W g k _ fun e => hx (e ▸ hX), fun k c t' fz' hk => ?_⟩
 by_cases e : k = g
 rotate_left
 ·exact ⟨c, (setRow_other W g k _ e).trans hk, rfl, fun i x hx => ⟨x, hx, Like.refl x⟩⟩
 subst e
 rw [hg] at hk
 cases hk
 refine ⟨_, setRow_heap W k cur _ t _ hg, by simp, fun i x hx => ?_⟩
 by_cases e : i = j
 ·subst e
  rw [hj] at hx
  cases hx
  have hi : i < cur.size := (Array.getElem?_eq_some_iff.1 hj).1
  exact ⟨u, by simp [hi], hl⟩
 exact ⟨x, by rw [Array.getElem?_setIfInBounds_ne (fun h => e h.symm)]; exact hx, Like.refl x⟩
def WRow (W : World) (X : Nat → Prop) (t : TypeId) (sz : Nat) (p : Nat → List Value → Prop) (v : Value) (n : Nat) : Prop :=
 ∃ A c, v = .slice A n c ∧ n ≤ c ∧ n ≤ 1099511627776 ∧ ((A = none ∧ n = 0) ∨ ∃ (g : Nat) (cur : Array Value), A = some ⟨g, 0, none⟩ ∧ X g ∧ W.heap[g]? = some (Obj.cells cur t (0, 0)) ∧ ∀ i, i < n → ∃ cs : List Value, cs.length = sz ∧ (∀ (j : Nat) (u : Value), cs[j]? = some u → cur[i * sz + j]? = some u) ∧ p i cs)
theorem WRow.evo {W W' : World} {X Y : Nat → Prop} {t : TypeId} {sz : Nat} {p p' : Nat → List Value → Prop} {v : Value} {n : Nat} (h : WRow W X t sz p v n) (he : Evo Y W W') (hp : ∀ (i : Nat) (cs cs' : List Value), p i cs → cs'.length = cs.length → (∀ (j : Nat) (u : Value), cs[j]? = some u → ∃ u' : Value, cs'[j]? = some u' ∧ Like u u') → p' i cs') : WRow W' X t sz p' v n := by
 obtain ⟨A, c, rfl, hc, hn, h⟩ := h
 refine ⟨A, c, rfl, hc, hn, ?_⟩
 rcases h with h | ⟨g, cur, rfl, hX, hg, h⟩
 ·exact .inl h
 obtain ⟨cur', hg', hs, hl⟩ := he.like g cur t _ hg
 refine .inr ⟨g, cur', rfl, hX, hg', fun i hi => ?_⟩
 obtain ⟨cs, hcs, hcell, hpi⟩ := h i hi
 have hx : ∀ j, j < sz → ∃ u u' : Value, cs[j]? = some u ∧ cur'[i * sz + j]? = some u' ∧ Like u u' := fun j hj => by
  have hu : cs[j]? = some cs[j] := List.getElem?_eq_getElem (by omega)
  obtain ⟨u', h1, h2⟩ := hl _ _ (hcell j _ hu)
  exact ⟨_, u', hu, h1, h2⟩
 refine ⟨(List.range sz).map fun j => (cur'[i * sz + j]?).getD undef, by simp, fun j u hu => ?_, hp i cs _ hpi (by simp [hcs]) fun j u hu => ?_⟩
 ·have hj : j < sz := by
   have := (List.getElem?_eq_some_iff.1 hu).1
   simpa using this
  obtain ⟨_, u', _, h2, _⟩ := hx j hj
  simp [hj, h2] at hu
  rw [h2, hu]
 have hj : j < sz := by
  have := (List.getElem?_eq_some_iff.1 hu).1
  omega
 obtain ⟨u0, u', h1, h2, h3⟩ := hx j hj
 rw [h1] at hu
 cases hu
 exact ⟨u', by simp [hj, h2], h3⟩
def pInt (k : IntKind) : Nat → List Value → Prop := fun _ cs => ∃ a, cs = [.int k a]
abbrev WInts (W : World) (X : Nat → Prop) (t : TypeId) (k : IntKind) (v : Value) (n : Nat) : Prop := WRow W X t 1 (pInt k) v n
theorem like_one {cs cs' : List Value} {x : Value} (h : cs = [x]) (hl : cs'.length = cs.length) (hh : ∀ (j : Nat) (u : Value), cs[j]? = some u → ∃ u' : Value, cs'[j]? = some u' ∧ Like u u') : ∃ x', cs' = [x'] ∧ Like x x' := by
 subst h
 obtain ⟨x', h1, h2⟩ := hh 0 x rfl
 match cs', hl, h1 with
 | [y], _, h1 => cases h1; exact ⟨_, rfl, h2⟩
theorem WInts.evo {W W' : World} {X Y : Nat → Prop} {t : TypeId} {k : IntKind} {v : Value} {n : Nat} (h : WInts W X t k v n) (he : Evo Y W W') : WInts W' X t k v n :=
 WRow.evo h he fun i cs cs' ⟨a, e⟩ hl hh => by
  obtain ⟨x', rfl, h2⟩ := like_one e hl hh
  obtain ⟨b, rfl⟩ := h2.int
  exact ⟨b, rfl⟩
theorem WInts.at {W : World} {X : Nat → Prop} {t : TypeId} {k : IntKind} {A : Option Addr} {c n i : Nat} (h : WInts W X t k (.slice A n c) n) (hi : i < n) : ∃ g cur a, A = some ⟨g, 0, none⟩ ∧ X g ∧ W.heap[g]? = some (Obj.cells cur t (0, 0)) ∧ cur[i]? = some (.int k a) ∧ W.cell? ⟨g, i, none⟩ = some (.int k a) ∧ W.frozen? ⟨g, i, none⟩ = false := by
 obtain ⟨A', c', e, hc, hn, h⟩ := h
 cases e
 rcases h with h | ⟨g, cur, rfl, hX, hg, h⟩
 ·omega
 obtain ⟨cs, _, h2, ⟨a, rfl⟩⟩ := h i hi
 have h3 := h2 0 _ rfl
 rw [Nat.mul_one, Nat.add_zero] at h3
 refine ⟨g, cur, a, rfl, hX, hg, h3, ?_, ?_⟩
 ·rw [cell_of_row _ _ _ _ _ _ hg]; exact h3
 simp [World.frozen?, hg]
theorem WRow.block {W : World} {X : Nat → Prop} {t : TypeId} {sz : Nat} {p : Nat → List Value → Prop} {v : Value} {n b : Nat} (h : WRow W X t sz p v n) (hb : v.ownBlock = some b) : X b ∧ ∃ cur, W.heap[b]? = some (Obj.cells cur t (0, 0)) := by
 obtain ⟨A, c, rfl, hc, hn, h⟩ := h
 rcases h with ⟨rfl, _⟩ | ⟨g, cur, rfl, hX, hg, h⟩
 ·simp [Value.ownBlock] at hb
 simp [Value.ownBlock] at hb
 subst hb
 exact ⟨hX, cur, hg⟩
end Go.Proofs.Ytdiilocgjnlmiaa.Tre
end
section
namespace Go.Proofs.Ytdiilocgjnlmiaa.Tre
open Go.RowKit Go.Proofs.YtdiilocgjnlmiaaW.PrintWords Go.Proofs.YtdiilocgjnlmiaaW.PrintLast Go.Proofs.YtdiilocgjnlmiaaW.PrintMore
open Go.Proofs.Ytdiilocgjnlmiaa.PAll
set_option linter.unusedVariables false
set_option linter.unusedSimpArgs false
def ownX (A : Option Addr) (b : Nat) : Prop := ∃ a, A = some a ∧ a.block = b
structure FlatSt (W W' : World) (A : Option Addr) (i : Nat) (f : Nat → Value) : Prop where
 evo : Evo (ownX A) W W'
 cont : ∀ g, A = some ⟨g, 0, none⟩ → ∀ j, j < i → W'.cell? ⟨g, j, none⟩ = some (f j)
def FlatPost (W : World) (A : Option Addr) (n : Nat) (f : Nat → Value) (k' : Int) (e : Ending) (W' : World) : Prop := e = .returned (.int .i64 k') ∧ FlatSt W W' A n f
theorem FlatSt.start (W : World) (A : Option Addr) (f : Nat → Value) : FlatSt W W A 0 f := ⟨Evo.refl _ _, fun g hg j hj => absurd hj (Nat.not_lt_zero _)⟩
theorem FlatSt.next {W W' : World} {g i : Nat} {f : Nat → Value} {cur : Array Value} {t : TypeId} {v : Value} (h : FlatSt W W' (some ⟨g, 0, none⟩) i f) (hg : W'.heap[g]? = some (Obj.cells cur t (0, 0))) (hj : cur[i]? = some v) (hl : Like v (f i)) :
 FlatSt W (W'.setCell ⟨g, i, none⟩ (f i)) (some ⟨g, 0, none⟩) (i + 1) f := by
 refine ⟨h.evo.trans (Evo.set hg hj ⟨_, rfl, rfl⟩ hl), fun g' e j hj' => ?_⟩
 cases e
 have hi : i < cur.size := (Array.getElem?_eq_some_iff.1 hj).1
 have hs := setCell_eq_setRow W' g i cur t (0, 0) (f i) hg
 rw [hs, cell_of_row _ _ _ _ _ _ (setRow_heap W' g cur _ t _ hg)]
 by_cases e : j = i
 ·subst e
  simp [hi]
 rw [Array.getElem?_setIfInBounds_ne (fun h => e h.symm)]
 have := h.cont g rfl j (by omega)
 rw [cell_of_row _ _ _ _ _ _ hg] at this
 exact this
set_option maxRecDepth 100000 in
set_option maxHeartbeats 4000000 in
theorem markInt_in (W : World) (X : Nat → Prop) (A : Option Addr) (n c : Nat) (k : Int) (hV : WInts W X 3 .i64 (.slice A n c) n) (hn : n ≤ 1099511627776) (h0 : 0 ≤ k) (h1 : k ≤ 4611686018427387904) :
 Calls Try.prog 68 #[.slice A n c, .int .i64 k] W (FlatPost W A n (fun j => .int .i64 (k + j)) (k + n)) := by
 have HV := Aside0.mk hV
 clear hV
 go_enter Try.func68, Try.ntmps68
 go_wp2
 go_loopg [1, 5] (n + 1) (fun kq v1 v5 W' => ∃ (i : Nat), v1 = .int .i64 (k + (i : Int)) ∧ v5 = .int .i64 (i : Int) ∧ Aside0 (i ≤ n ∧ n < i + kq) ∧ FlatSt W W' A i (fun j => .int .i64 (k + (j : Int))))
 case atStart => exact ⟨0, by simp, rfl, ⟨by omega, by omega⟩, FlatSt.start _ _ _⟩
 case round =>
  obtain ⟨i, rfl, rfl, HI, hS⟩ := hrel
  obtain ⟨i1, i2⟩ := HI.out
  clear HI
  cases gk with
  | zero => omega
  | succ k1 =>
   by_cases hi : i < n
   ·have d1 : decide ((i : Int) < (n : Int)) = true := decide_eq_true (by omega)
    have d1n : decide (i < n) = true := decide_eq_true hi
    obtain ⟨g, cur, a, rfl, -, hg, hj, hc, hf⟩ := WInts.at (WInts.evo HV.out hS.evo) hi
    have e2 : (0 ≤ (i : Int)) = True := eq_true (by omega)
    have e3 : ((i : Int) < (n : Int)) = True := eq_true (by omega)
    have HG := Aside0.mk hg
    have HJ := Aside0.mk hj
    clear hg hj
    go_wp2
    go_roundg k1
    case measure => omega
    case rel => exact ⟨i + 1, by first | (simp; omega) | (rw [wid (by omega) (by omega)]; simp; omega), by first | rfl | (simp; done) | (rw [wid (by omega) (by omega)]; simp), ⟨by omega, by omega⟩, hS.next HG.out HJ.out (.inr (.inl ⟨_, _, _, rfl, rfl⟩))⟩
   have d1 : decide ((i : Int) < (n : Int)) = false := decide_eq_false (by omega)
   have e : i = n := by omega
   subst e
   go_wp2
   go_ret
   exact ⟨rfl, hS⟩
set_option maxRecDepth 100000 in
set_option maxHeartbeats 4000000 in
theorem markByte_in (W : World) (X : Nat → Prop) (A : Option Addr) (n c : Nat) (k : Int) (hV : WInts W X 5 .u8 (.slice A n c) n) (hn : n ≤ 1099511627776) (h0 : 0 ≤ k) (h1 : k ≤ 4611686018427387904) :
 Calls Try.prog 24 #[.slice A n c, .int .i64 k] W (FlatPost W A n (fun j => .int .u8 ((k + j) % 256)) (k + n)) := by
 have HV := Aside0.mk hV
 clear hV
 go_enter Try.func24, Try.ntmps24
 go_wp2
 go_loopg [1, 5] (n + 1) (fun kq v1 v5 W' => ∃ (i : Nat), v1 = .int .i64 (k + (i : Int)) ∧ v5 = .int .i64 (i : Int) ∧ Aside0 (i ≤ n ∧ n < i + kq) ∧ FlatSt W W' A i (fun j => .int .u8 ((k + (j : Int)) % 256)))
 case atStart => exact ⟨0, by simp, rfl, ⟨by omega, by omega⟩, FlatSt.start _ _ _⟩
 case round =>
  obtain ⟨i, rfl, rfl, HI, hS⟩ := hrel
  obtain ⟨i1, i2⟩ := HI.out
  clear HI
  cases gk with
  | zero => omega
  | succ k1 =>
   by_cases hi : i < n
   ·have d1 : decide ((i : Int) < (n : Int)) = true := decide_eq_true (by omega)
    have d1n : decide (i < n) = true := decide_eq_true hi
    obtain ⟨g, cur, a, rfl, -, hg, hj, hc, hf⟩ := WInts.at (WInts.evo HV.out hS.evo) hi
    have e2 : (0 ≤ (i : Int)) = True := eq_true (by omega)
    have e3 : ((i : Int) < (n : Int)) = True := eq_true (by omega)
    have HG := Aside0.mk hg
    have HJ := Aside0.mk hj
    clear hg hj
    go_wp2
    go_roundg k1
    case measure => omega
    case rel => exact ⟨i + 1, by first | (simp; omega) | (rw [wid (by omega) (by omega)]; simp; omega), by first | rfl | (simp; done) | (rw [wid (by omega) (by omega)]; simp), ⟨by omega, by omega⟩, hS.next HG.out HJ.out (.inr (.inl ⟨_, _, _, rfl, rfl⟩))⟩
   have d1 : decide ((i : Int) < (n : Int)) = false := decide_eq_false (by omega)
   have e : i = n := by omega
   subst e
   go_wp2
   go_ret
   exact ⟨rfl, hS⟩
end Go.Proofs.Ytdiilocgjnlmiaa.Tre
end
section
namespace Go.Proofs.Ytdiilocgjnlmiaa.Tre
open Go.RowKit Go.Proofs.YtdiilocgjnlmiaaW.PrintWords Go.Proofs.YtdiilocgjnlmiaaW.PrintLast Go.Proofs.YtdiilocgjnlmiaaW.PrintMore
open Go.Proofs.Ytdiilocgjnlmiaa.PAll
set_option linter.unusedVariables false
set_option linter.unusedSimpArgs false
def ownV (v : Value) (b : Nat) : Prop := v.ownBlock = some b
theorem ownV_slice {A : Option Addr} {n c b : Nat} : ownV (.slice A n c) b ↔ ownX A b := by
 unfold ownV ownX Value.ownBlock
 cases A with
 | none => simp
 | some a => simp
def cntO (m : Nat → Nat) : Nat → Nat
 | 0 => 0
 | n + 1 => cntO m n + (2 + m n)
theorem cntO_mono (m : Nat → Nat) {i n : Nat} (h : i ≤ n) : cntO m i ≤ cntO m n := by
 induction n with
 | zero => obtain rfl : i = 0 := by omega
           exact Nat.le_refl _
 | succ n ih =>
  rcases (by omega : i ≤ n ∨ i = n + 1) with h' | rfl
  ·have := ih h'
   rw [cntO]; omega
  exact Nat.le_refl _
def pOp (W : World) (X : Nat → Prop) (sv : Nat → Value) (m : Nat → Nat) (i : Nat) (cs : List Value) : Prop := ∃ x y, cs = [.int .i64 x, sv i, .int .i64 y] ∧ WInts W X 3 .i64 (sv i) (m i)
abbrev WOps (W : World) (X : Nat → Prop) (v : Value) (n : Nat) (sv : Nat → Value) (m : Nat → Nat) : Prop := WRow W X 79 3 (pOp W X sv m) v n
theorem three_like {cs cs' : List Value} {x y z : Value} (h : cs = [x, y, z]) (hl : cs'.length = cs.length) (hh : ∀ (j : Nat) (u : Value), cs[j]? = some u → ∃ u' : Value, cs'[j]? = some u' ∧ Like u u') : ∃ x' y' z', cs' = [x', y', z'] ∧ Like x x' ∧ Like y y' ∧ Like z z' := by
 subst h
 obtain ⟨x', h1, g1⟩ := hh 0 x rfl
 obtain ⟨y', h2, g2⟩ := hh 1 y rfl
 obtain ⟨z', h3, g3⟩ := hh 2 z rfl
 match cs', hl, h1, h2, h3 with
 | [a, b, c], _, h1, h2, h3 => cases h1; cases h2; cases h3; exact ⟨_, _, _, rfl, g1, g2, g3⟩
theorem WOps.evo {W W' : World} {X Y : Nat → Prop} {v : Value} {n : Nat} {sv : Nat → Value} {m : Nat → Nat} (h : WOps W X v n sv m) (he : Evo Y W W') : WOps W' X v n sv m :=
 WRow.evo h he fun i cs cs' ⟨x, y, e, hi⟩ hl hh => by
  obtain ⟨x', s', y', rfl, g1, g2, g3⟩ := three_like e hl hh
  obtain ⟨a, rfl⟩ := g1.int
  obtain ⟨b, rfl⟩ := g3.int
  obtain ⟨A, c, hs, _⟩ := id hi
  rw [hs] at g2
  rw [g2.slice, ← hs]
  exact ⟨a, b, rfl, hi.evo he⟩
theorem WOps.at {W : World} {X : Nat → Prop} {A : Option Addr} {c n i : Nat} {sv : Nat → Value} {m : Nat → Nat} (h : WOps W X (.slice A n c) n sv m) (hi : i < n) : ∃ (g : Nat) (cur : Array Value) (x y : Int), A = some ⟨g, 0, none⟩ ∧ X g ∧ W.heap[g]? = some (Obj.cells cur 79 (0, 0)) ∧ cur[i * 3]? = some (.int .i64 x) ∧ cur[i * 3 + 1]? = some (sv i) ∧ cur[i * 3 + 2]? = some (.int .i64 y) ∧ WInts W X 3 .i64 (sv i) (m i) := by
 obtain ⟨A', c', e, hc, hn, h⟩ := h
 cases e
 rcases h with h | ⟨g, cur, rfl, hX, hg, h⟩
 ·omega
 obtain ⟨cs, _, h2, ⟨x, y, rfl, hw⟩⟩ := h i hi
 exact ⟨g, cur, x, y, rfl, hX, hg, h2 0 _ rfl, h2 1 _ rfl, h2 2 _ rfl, hw⟩
def Apart (n : Nat) (sv : Nat → Value) : Prop := ∀ i j, i < n → j < n → i ≠ j → ∀ b, ownV (sv i) b → ¬ ownV (sv j) b
def opsX (A : Option Addr) (n : Nat) (sv : Nat → Value) (b : Nat) : Prop := ownX A b ∨ ∃ i, i < n ∧ ownV (sv i) b
structure OpMarked (W : World) (g j : Nat) (s : Value) (m : Nat) (k : Int) : Prop where
 f0 : W.cell? ⟨g, j * 3, none⟩ = some (.int .i64 k)
 f2 : W.cell? ⟨g, j * 3 + 2, none⟩ = some (.int .i64 (k + 1 + m))
 f1 : ∀ gs c, s = .slice (some ⟨gs, 0, none⟩) m c → ∀ q, q < m → W.cell? ⟨gs, q, none⟩ = some (.int .i64 (k + 1 + q))
theorem OpMarked.keep {W W' : World} {g j : Nat} {s : Value} {m : Nat} {k : Int} (h : OpMarked W g j s m k) (h0 : ∀ o, o = j * 3 ∨ o = j * 3 + 2 → W'.cell? ⟨g, o, none⟩ = W.cell? ⟨g, o, none⟩) (hs : ∀ gs, ownV s gs → ∀ q, W'.cell? ⟨gs, q, none⟩ = W.cell? ⟨gs, q, none⟩) : OpMarked W' g j s m k :=
 ⟨(h0 _ (.inl rfl)).trans h.f0, (h0 _ (.inr rfl)).trans h.f2, fun gs c e q hq => (hs gs (by rw [e]; rfl) q).trans (h.f1 gs c e q hq)⟩
structure OpsSt (W W' : World) (A : Option Addr) (n : Nat) (sv : Nat → Value) (m : Nat → Nat) (k : Int) (i : Nat) : Prop where
 evo : Evo (opsX A n sv) W W'
 cont : Apart n sv → ∀ g, A = some ⟨g, 0, none⟩ → ∀ j, j < i → OpMarked W' g j (sv j) (m j) (k + cntO m j)
def OpsPost (W : World) (A : Option Addr) (n : Nat) (sv : Nat → Value) (m : Nat → Nat) (k : Int) (e : Ending) (W' : World) : Prop := e = .returned (.int .i64 (k + cntO m n)) ∧ OpsSt W W' A n sv m k n
theorem OpsSt.start (W : World) (A : Option Addr) (n : Nat) (sv : Nat → Value) (m : Nat → Nat) (k : Int) : OpsSt W W A n sv m k 0 := ⟨Evo.refl _ _, fun _ g hg j hj => absurd hj (Nat.not_lt_zero _)⟩
theorem cell_other (W : World) (g o1 o2 : Nat) (u : Value) (h : o1 ≠ o2) : (W.setCell ⟨g, o1, none⟩ u).cell? ⟨g, o2, none⟩ = W.cell? ⟨g, o2, none⟩ := World.cell?_setCell_other W _ _ u (fun e => h (congrArg Addr.off e))
theorem cell_same (W : World) (g o : Nat) (u v : Value) (h : W.cell? ⟨g, o, none⟩ = some v) : (W.setCell ⟨g, o, none⟩ u).cell? ⟨g, o, none⟩ = some u := World.cell?_setCell_same W _ u h
theorem OpsSt.next {W W' W2 : World} {X : Nat → Prop} {g n c i : Nat} {sv : Nat → Value} {m : Nat → Nat} {k : Int} {As : Option Addr} {cs : Nat} (hV : WOps W X (.slice (some ⟨g, 0, none⟩) n c) n sv m) (h : OpsSt W W' (some ⟨g, 0, none⟩) n sv m k i) (hi : i < n) (hs : sv i = .slice As (m i) cs)
 (h2 : FlatSt (W'.setCell ⟨g, i * 3, none⟩ (.int .i64 (k + cntO m i))) W2 As (m i) (fun j => .int .i64 (k + cntO m i + 1 + (j : Int)))) :
 OpsSt W (W2.setCell ⟨g, i * 3 + 2, none⟩ (.int .i64 (k + cntO m i + 1 + m i))) (some ⟨g, 0, none⟩) n sv m k (i + 1) := by
 have hV1 := WOps.evo hV h.evo
 obtain ⟨g', cur, x, y, e, hX, hg, c0, c1, c2, hw⟩ := WOps.at hV1 hi
 cases e
 have hlt : g < W'.heap.size := (Array.getElem?_eq_some_iff.1 hg).1
 have hown : ∀ b, ownX As b → ownV (sv i) b := fun b hb => by rw [hs]; exact ownV_slice.2 hb
 have hne : ∀ j, j < n → ∀ b, ownV (sv j) b → b ≠ g ∧ b < W'.heap.size := by
  intro j hj b hb
  obtain ⟨_, _, _, _, e', _, _, _, _, _, hwj⟩ := WOps.at hV1 hj
  obtain ⟨_, cu, hcu⟩ := WRow.block hwj hb
  refine ⟨fun e => ?_, (Array.getElem?_eq_some_iff.1 hcu).1⟩
  subst e
  rw [hg] at hcu
  simp only [Option.some.injEq, Obj.cells.injEq] at hcu
  exact absurd hcu.2.1 (by decide)
 have E1 : Evo (opsX (some ⟨g, 0, none⟩) n sv) W' (W'.setCell ⟨g, i * 3, none⟩ (.int .i64 (k + cntO m i))) := Evo.set hg c0 (.inl ⟨_, rfl, rfl⟩) (.inr (.inl ⟨_, _, _, rfl, rfl⟩))
 have E2 : Evo (opsX (some ⟨g, 0, none⟩) n sv) _ W2 := h2.evo.mono fun b hb => .inr ⟨i, hi, hown b hb⟩
 have E12 := (h.evo.trans E1).trans E2
 obtain ⟨g', cur2, x2, y2, e, _, hg2, _, _, d2, _⟩ := WOps.at (WOps.evo hV E12) hi
 cases e
 have E3 : Evo (opsX (some ⟨g, 0, none⟩) n sv) W2 (W2.setCell ⟨g, i * 3 + 2, none⟩ (.int .i64 (k + cntO m i + 1 + m i))) := Evo.set hg2 d2 (.inl ⟨_, rfl, rfl⟩) (.inr (.inl ⟨_, _, _, rfl, rfl⟩))
 have r2 : ∀ o, W2.cell? ⟨g, o, none⟩ = (W'.setCell ⟨g, i * 3, none⟩ (.int .i64 (k + cntO m i))).cell? ⟨g, o, none⟩ := fun o =>
  World.cell?_of_block (h2.evo.same g (by simpa using hlt) fun hx => (hne i hi g (hown g hx)).1 rfl)
 refine ⟨E12.trans E3, fun hA g' e j hj => ?_⟩
 cases e
 rcases (by omega : j < i ∨ j = i) with hji | rfl
 ·refine OpMarked.keep (h.cont hA g rfl j hji) (fun o ho => ?_) (fun gs hgs q => ?_)
  ·rw [cell_other _ _ _ _ _ (by omega), r2 o, cell_other _ _ _ _ _ (by omega)]
  obtain ⟨hn1, hn2⟩ := hne j (by omega) gs hgs
  rw [World.cell?_setCell_far _ _ _ _ (by exact fun e => hn1 e.symm), World.cell?_of_block (h2.evo.same gs (by simpa using hn2) fun hx => hA i j hi (by omega) (by omega) gs (hown gs hx) hgs), World.cell?_setCell_far _ _ _ _ (by exact fun e => hn1 e.symm)]
 refine ⟨?_, ?_, fun gs c' e q hq => ?_⟩
 ·rw [cell_other _ _ _ _ _ (by omega), r2]
  exact cell_same _ _ _ _ (.int .i64 x) (by rw [cell_of_row _ _ _ _ _ _ hg]; exact c0)
 ·exact cell_same _ _ _ _ (.int .i64 y2) (by rw [cell_of_row _ _ _ _ _ _ hg2]; exact d2)
 rw [hs] at e
 cases e
 have hgs : ownV (sv j) gs := by rw [hs]; rfl
 rw [World.cell?_setCell_far _ _ _ _ (by exact fun e => (hne j hi gs hgs).1 e.symm)]
 exact h2.cont gs rfl q hq
theorem ops_second {W W' W2 : World} {X : Nat → Prop} {g n c i : Nat} {sv : Nat → Value} {m : Nat → Nat} {k : Int} {As : Option Addr} {cs : Nat} (hV : WOps W X (.slice (some ⟨g, 0, none⟩) n c) n sv m) (h : OpsSt W W' (some ⟨g, 0, none⟩) n sv m k i) (hi : i < n) (hs : sv i = .slice As (m i) cs)
 (h2 : FlatSt (W'.setCell ⟨g, i * 3, none⟩ (.int .i64 (k + cntO m i))) W2 As (m i) (fun j => .int .i64 (k + cntO m i + 1 + (j : Int)))) : ∃ y : Int, W2.cell? ⟨g, i * 3 + 2, none⟩ = some (.int .i64 y) ∧ W2.frozen? ⟨g, i * 3 + 2, none⟩ = false := by
 obtain ⟨g', cur, x, y, e, hX, hg, c0, c1, c2, hw⟩ := WOps.at (WOps.evo hV h.evo) hi
 cases e
 have E1 : Evo (opsX (some ⟨g, 0, none⟩) n sv) W' (W'.setCell ⟨g, i * 3, none⟩ (.int .i64 (k + cntO m i))) := Evo.set hg c0 (.inl ⟨_, rfl, rfl⟩) (.inr (.inl ⟨_, _, _, rfl, rfl⟩))
 have E2 : Evo (opsX (some ⟨g, 0, none⟩) n sv) _ W2 := h2.evo.mono fun b hb => .inr ⟨i, hi, by rw [hs]; exact ownV_slice.2 hb⟩
 obtain ⟨g', cur2, x2, y2, e, _, hg2, _, _, d2, _⟩ := WOps.at (WOps.evo hV ((h.evo.trans E1).trans E2)) hi
 cases e
 exact ⟨y2, by rw [cell_of_row _ _ _ _ _ _ hg2]; exact d2, by simp [World.frozen?, hg2]⟩
set_option maxRecDepth 100000 in
set_option maxHeartbeats 4000000 in
theorem markOps_in (W : World) (X : Nat → Prop) (A : Option Addr) (n c : Nat) (sv : Nat → Value) (m : Nat → Nat) (k : Int) (hV : WOps W X (.slice A n c) n sv m) (hn : n ≤ 1099511627776) (h0 : 0 ≤ k) (h1 : k + cntO m n ≤ 4611686018427387904) :
 Calls Try.prog 121 #[.slice A n c, .int .i64 k] W (OpsPost W A n sv m k) := by
 have HV := Aside0.mk hV
 clear hV
 go_enter Try.func121, Try.ntmps121
 go_wp2
 go_loopg [1, 5] (n + 1) (fun kq v1 v5 W' => ∃ (i : Nat), v1 = .int .i64 (k + (cntO m i : Int)) ∧ v5 = .int .i64 (i : Int) ∧ Aside0 (i ≤ n ∧ n < i + kq) ∧ OpsSt W W' A n sv m k i)
 case atStart => exact ⟨0, by simp [cntO], rfl, ⟨by omega, by omega⟩, OpsSt.start _ _ _ _ _ _⟩
 case round =>
  obtain ⟨i, rfl, rfl, HI, hS⟩ := hrel
  obtain ⟨i1, i2⟩ := HI.out
  clear HI
  cases gk with
  | zero => omega
  | succ k1 =>
   by_cases hi : i < n
   rotate_left
   ·have d1 : decide ((i : Int) < (n : Int)) = false := decide_eq_false (by omega)
    have e : i = n := by omega
    subst e
    go_wp2
    go_ret
    exact ⟨rfl, hS⟩
   have d1 : decide ((i : Int) < (n : Int)) = true := decide_eq_true (by omega)
   have d1n : decide (i < n) = true := decide_eq_true hi
   obtain ⟨g, cur, x, y, rfl, hX, hg, c0, c1, c2, hw⟩ := WOps.at (WOps.evo HV.out hS.evo) hi
   obtain ⟨As, cs, hs, _, hmi, _⟩ := id hw
   have b0 := cntO_mono m (i := i + 1) (n := n) (by omega)
   rw [cntO] at b0
   have q0 : wr.cell? ⟨g, i * 3, none⟩ = some (.int .i64 x) := by rw [cell_of_row _ _ _ _ _ _ hg]; exact c0
   have q1 : wr.cell? ⟨g, i * 3 + 1, none⟩ = some (.slice As (m i) cs) := by rw [cell_of_row _ _ _ _ _ _ hg, c1, hs]
   have f0 : ∀ o, wr.frozen? ⟨g, o, none⟩ = false := fun o => by simp [World.frozen?, hg]
   have e2 : (0 ≤ (i : Int)) = True := eq_true (by omega)
   have e3 : ((i : Int) < (n : Int)) = True := eq_true (by omega)
   have hw1 := WInts.evo hw (Evo.set hg c0 hX (.inr (.inl ⟨_, _, k + (cntO m i : Int), rfl, rfl⟩)))
   rw [hs] at hw1
   have HW1 := Aside0.mk hw1
   have HS := Lib.hid hs
   have HC := Aside0.mk (show cntO m (i + 1) = cntO m i + (2 + m i) from rfl)
   clear hg c0 c1 c2 hw hw1 hs
   have hkb : k + (cntO m i : Int) + 1 + (m i : Int) + 1 ≤ 4611686018427387904 := by omega
   have hkc : 0 ≤ k + (cntO m i : Int) := by omega
   go_wp2_with (first
    | (go_at_call 68; go_must (refine (markInt_in _ _ As (m i) cs _ HW1.out hmi (by omega) (by omega)).mono ?_; rintro e W2 ⟨rfl, hF⟩; have HN := Aside0.mk (OpsSt.next HV.out hS hi HS.out hF); obtain ⟨y2, p2, p3⟩ := ops_second HV.out hS hi HS.out hF; clear hF)))
   go_roundg k1
   case measure => omega
   case rel => exact ⟨i + 1, by rw [HC.out]; first | (simp; omega) | (rw [wid (by omega) (by omega)]; simp; omega), by first | rfl | (simp; done) | (rw [wid (by omega) (by omega)]; simp), ⟨by omega, by omega⟩, HN.out⟩
end Go.Proofs.Ytdiilocgjnlmiaa.Tre
end
section
namespace Go.Proofs.Ytdiilocgjnlmiaa.Tre
open Go.RowKit Go.Proofs.YtdiilocgjnlmiaaW.PrintWords Go.Proofs.YtdiilocgjnlmiaaW.PrintLast Go.Proofs.YtdiilocgjnlmiaaW.PrintMore
open Go.Proofs.Ytdiilocgjnlmiaa.PAll
set_option linter.unusedVariables false
set_option linter.unusedSimpArgs false
structure It where
 nm : Value
 ln : Nat
 bv : Value
 bn : Nat
 sv : Nat → Value
 m : Nat → Nat
def WIt (W : World) (X : Nat → Prop) (t : It) : Prop := WInts W X 5 .u8 t.nm t.ln ∧ WOps W X t.bv t.bn t.sv t.m
theorem WIt.evo {W W' : World} {X Y : Nat → Prop} {t : It} (h : WIt W X t) (he : Evo Y W W') : WIt W' X t := ⟨WInts.evo h.1 he, WOps.evo h.2 he⟩
def itX (t : It) (b : Nat) : Prop := ownV t.nm b ∨ ownV t.bv b ∨ ∃ q, q < t.bn ∧ ownV (t.sv q) b
def cntB (t : It) : Nat := cntO t.m t.bn
structure ItMarked (W : World) (t : It) (k kb : Int) : Prop where
 nm : ∀ g c, t.nm = .slice (some ⟨g, 0, none⟩) t.ln c → ∀ q, q < t.ln → W.cell? ⟨g, q, none⟩ = some (.int .u8 ((k + q) % 256))
 bd : ∀ g c, t.bv = .slice (some ⟨g, 0, none⟩) t.bn c → ∀ q, q < t.bn → OpMarked W g q (t.sv q) (t.m q) (kb + cntO t.m q)
theorem ItMarked.keep {W W' : World} {t : It} {k kb : Int} (h : ItMarked W t k kb) (hs : ∀ b, itX t b → ∀ q, W'.cell? ⟨b, q, none⟩ = W.cell? ⟨b, q, none⟩) : ItMarked W' t k kb :=
 ⟨fun g c e q hq => (hs g (.inl (by rw [e]; rfl)) q).trans (h.nm g c e q hq), fun g c e q hq => (h.bd g c e q hq).keep (fun o _ => hs g (.inr (.inl (by rw [e]; rfl))) o) fun gs hgs o => hs gs (.inr (.inr ⟨q, hq, hgs⟩)) o⟩
def ApartI (n : Nat) (its : Nat → It) : Prop := (∀ i j, i < n → j < n → i ≠ j → ∀ b, itX (its i) b → ¬ itX (its j) b) ∧ ∀ i, i < n → Apart (its i).bn (its i).sv
theorem WIt.types {W : World} {X : Nat → Prop} {t : It} (h : WIt W X t) {b : Nat} (hb : itX t b) : X b ∧ b < W.heap.size ∧ ∃ (cur : Array Value) (ty : TypeId), W.heap[b]? = some (Obj.cells cur ty (0, 0)) ∧ (ty = 5 ∨ ty = 79 ∨ ty = 3) := by
 rcases hb with hb | hb | ⟨q, hq, hb⟩
 ·obtain ⟨hX, cur, hc⟩ := WRow.block h.1 hb
  exact ⟨hX, (Array.getElem?_eq_some_iff.1 hc).1, cur, _, hc, .inl rfl⟩
 ·obtain ⟨hX, cur, hc⟩ := WRow.block h.2 hb
  exact ⟨hX, (Array.getElem?_eq_some_iff.1 hc).1, cur, _, hc, .inr (.inl rfl)⟩
 obtain ⟨A, c, e, _⟩ := id h.2
 have hw := h.2
 rw [e] at hw
 obtain ⟨_, _, _, _, _, _, _, _, _, _, hs⟩ := WOps.at hw hq
 obtain ⟨hX, cur, hc⟩ := WRow.block hs hb
 exact ⟨hX, (Array.getElem?_eq_some_iff.1 hc).1, cur, _, hc, .inr (.inr rfl)⟩
theorem WIt.name_apart {W : World} {X : Nat → Prop} {t : It} (h : WIt W X t) {b : Nat} (hb : ownV t.nm b) : ¬ (ownV t.bv b ∨ ∃ q, q < t.bn ∧ ownV (t.sv q) b) := by
 obtain ⟨_, cur, hc⟩ := WRow.block h.1 hb
 rintro (hx | ⟨q, hq, hx⟩)
 ·obtain ⟨_, cur2, hc2⟩ := WRow.block h.2 hx
  rw [hc] at hc2
  simp only [Option.some.injEq, Obj.cells.injEq] at hc2
  exact absurd hc2.2.1 (by decide)
 obtain ⟨A, c, e, _⟩ := id h.2
 have hw := h.2
 rw [e] at hw
 obtain ⟨_, _, _, _, _, _, _, _, _, _, hs⟩ := WOps.at hw hq
 obtain ⟨_, cur2, hc2⟩ := WRow.block hs hx
 rw [hc] at hc2
 simp only [Option.some.injEq, Obj.cells.injEq] at hc2
 exact absurd hc2.2.1 (by decide)
theorem opsX_it {A : Option Addr} {t : It} {c b : Nat} (e : t.bv = .slice A t.bn c) (h : opsX A t.bn t.sv b) : ownV t.bv b ∨ ∃ q, q < t.bn ∧ ownV (t.sv q) b := by
 rcases h with h | h
 ·left; rw [e]; exact ownV_slice.2 h
 right; exact h
theorem it_marked {W0 W1 W1' W2 : World} {X : Nat → Prop} {t : It} {An Ab : Option Addr} {cn cb : Nat} {k kb : Int} (h : WIt W0 X t) (en : t.nm = .slice An t.ln cn) (eb : t.bv = .slice Ab t.bn cb)
 (h1 : FlatSt W0 W1 An t.ln (fun j => .int .u8 ((k + (j : Int)) % 256))) (hm : Evo (fun b => ¬ itX t b) W1 W1') (h2 : OpsSt W1' W2 Ab t.bn t.sv t.m kb t.bn) (hA : Apart t.bn t.sv) : ItMarked W2 t k kb := by
 refine ⟨fun g c e q hq => ?_, fun g c e q hq => ?_⟩
 ·rw [en] at e
  cases e
  have hg : ownV t.nm g := by rw [en]; rfl
  have hlt := (WIt.types h (.inl hg)).2.1
  rw [World.cell?_of_block (h2.evo.same g (Nat.lt_of_lt_of_le hlt (Nat.le_trans h1.evo.size hm.size)) fun hx => WIt.name_apart h hg (opsX_it eb hx)), World.cell?_of_block (hm.same g (Nat.lt_of_lt_of_le hlt h1.evo.size) fun hx => hx (.inl hg))]
  exact h1.cont g rfl q hq
 rw [eb] at e
 cases e
 exact h2.cont hA g rfl q hq
def cntR (its : Nat → It) : Nat → Nat
 | 0 => 0
 | n + 1 => cntR its n + ((its n).ln + cntB (its n))
def cntL (its : Nat → It) : Nat → Nat
 | 0 => 0
 | n + 1 => cntL its n + ((its n).ln + 1 + cntB (its n))
theorem cntR_mono (its : Nat → It) {i n : Nat} (h : i ≤ n) : cntR its i ≤ cntR its n := by
 induction n with
 | zero => obtain rfl : i = 0 := by omega
           exact Nat.le_refl _
 | succ n ih =>
  rcases (by omega : i ≤ n ∨ i = n + 1) with h' | rfl
  ·have := ih h'
   rw [cntR]; omega
  exact Nat.le_refl _
theorem cntL_mono (its : Nat → It) {i n : Nat} (h : i ≤ n) : cntL its i ≤ cntL its n := by
 induction n with
 | zero => obtain rfl : i = 0 := by omega
           exact Nat.le_refl _
 | succ n ih =>
  rcases (by omega : i ≤ n ∨ i = n + 1) with h' | rfl
  ·have := ih h'
   rw [cntL]; omega
  exact Nat.le_refl _
def pRu (W : World) (X : Nat → Prop) (its : Nat → It) (i : Nat) (cs : List Value) : Prop := cs = [(its i).nm, (its i).bv] ∧ WIt W X (its i)
def pLa (W : World) (X : Nat → Prop) (its : Nat → It) (i : Nat) (cs : List Value) : Prop := (∃ b, cs = [(its i).nm, .bool b, (its i).bv]) ∧ WIt W X (its i)
abbrev WRules (W : World) (X : Nat → Prop) (v : Value) (n : Nat) (its : Nat → It) : Prop := WRow W X 68 2 (pRu W X its) v n
abbrev WLabels (W : World) (X : Nat → Prop) (v : Value) (n : Nat) (its : Nat → It) : Prop := WRow W X 72 3 (pLa W X its) v n
theorem two_like {cs cs' : List Value} {x y : Value} (h : cs = [x, y]) (hl : cs'.length = cs.length) (hh : ∀ (j : Nat) (u : Value), cs[j]? = some u → ∃ u' : Value, cs'[j]? = some u' ∧ Like u u') : ∃ x' y', cs' = [x', y'] ∧ Like x x' ∧ Like y y' := by
 subst h
 obtain ⟨x', h1, g1⟩ := hh 0 x rfl
 obtain ⟨y', h2, g2⟩ := hh 1 y rfl
 match cs', hl, h1, h2 with
 | [a, b], _, h1, h2 => cases h1; cases h2; exact ⟨_, _, rfl, g1, g2⟩
theorem WRules.evo {W W' : World} {X Y : Nat → Prop} {v : Value} {n : Nat} {its : Nat → It} (h : WRules W X v n its) (he : Evo Y W W') : WRules W' X v n its :=
 WRow.evo h he fun i cs cs' ⟨e, hi⟩ hl hh => by
  obtain ⟨x', y', rfl, g1, g2⟩ := two_like e hl hh
  obtain ⟨A, c, hs, _⟩ := id hi.1
  obtain ⟨B, d, ht, _⟩ := id hi.2
  rw [hs] at g1
  rw [ht] at g2
  exact ⟨by rw [g1.slice, g2.slice, hs, ht], hi.evo he⟩
theorem WLabels.evo {W W' : World} {X Y : Nat → Prop} {v : Value} {n : Nat} {its : Nat → It} (h : WLabels W X v n its) (he : Evo Y W W') : WLabels W' X v n its :=
 WRow.evo h he fun i cs cs' ⟨⟨b, e⟩, hi⟩ hl hh => by
  obtain ⟨x', b', y', rfl, g1, g3, g2⟩ := three_like e hl hh
  obtain ⟨A, c, hs, _⟩ := id hi.1
  obtain ⟨B, d, ht, _⟩ := id hi.2
  obtain ⟨b2, rfl⟩ := g3.bool
  rw [hs] at g1
  rw [ht] at g2
  exact ⟨⟨b2, by rw [g1.slice, g2.slice, hs, ht]⟩, hi.evo he⟩
theorem WRules.at {W : World} {X : Nat → Prop} {A : Option Addr} {c n i : Nat} {its : Nat → It} (h : WRules W X (.slice A n c) n its) (hi : i < n) : ∃ (g : Nat) (cur : Array Value), A = some ⟨g, 0, none⟩ ∧ X g ∧ W.heap[g]? = some (Obj.cells cur 68 (0, 0)) ∧ cur[i * 2]? = some (its i).nm ∧ cur[i * 2 + 1]? = some (its i).bv ∧ WIt W X (its i) := by
 obtain ⟨A', c', e, hc, hn, h⟩ := h
 cases e
 rcases h with h | ⟨g, cur, rfl, hX, hg, h⟩
 ·omega
 obtain ⟨cs, _, h2, ⟨rfl, hw⟩⟩ := h i hi
 exact ⟨g, cur, rfl, hX, hg, h2 0 _ rfl, h2 1 _ rfl, hw⟩
theorem WLabels.at {W : World} {X : Nat → Prop} {A : Option Addr} {c n i : Nat} {its : Nat → It} (h : WLabels W X (.slice A n c) n its) (hi : i < n) : ∃ (g : Nat) (cur : Array Value) (b : Bool), A = some ⟨g, 0, none⟩ ∧ X g ∧ W.heap[g]? = some (Obj.cells cur 72 (0, 0)) ∧ cur[i * 3]? = some (its i).nm ∧ cur[i * 3 + 1]? = some (.bool b) ∧ cur[i * 3 + 2]? = some (its i).bv ∧ WIt W X (its i) := by
 obtain ⟨A', c', e, hc, hn, h⟩ := h
 cases e
 rcases h with h | ⟨g, cur, rfl, hX, hg, h⟩
 ·omega
 obtain ⟨cs, _, h2, ⟨⟨b, rfl⟩, hw⟩⟩ := h i hi
 exact ⟨g, cur, b, rfl, hX, hg, h2 0 _ rfl, h2 1 _ rfl, h2 2 _ rfl, hw⟩
def itsX (n : Nat) (its : Nat → It) (b : Nat) : Prop := ∃ j, j < n ∧ itX (its j) b
structure RulesSt (W W' : World) (n : Nat) (its : Nat → It) (k : Int) (i : Nat) : Prop where
 evo : Evo (itsX n its) W W'
 cont : ApartI n its → ∀ j, j < i → ItMarked W' (its j) (k + cntR its j) (k + cntR its j + (its j).ln)
theorem RulesSt.start (W : World) (n : Nat) (its : Nat → It) (k : Int) : RulesSt W W n its k 0 := ⟨Evo.refl _ _, fun _ j hj => absurd hj (Nat.not_lt_zero _)⟩
theorem it_keep {W0 W1 W1' W2 : World} {X : Nat → Prop} {t u : It} {An Ab : Option Addr} {cn cb : Nat} {k kb k' : Int} {f : Nat → Value} (hu : WIt W0 X u) (en : t.nm = .slice An t.ln cn) (eb : t.bv = .slice Ab t.bn cb)
 (h1 : FlatSt W0 W1 An t.ln f) (hm : Evo (fun b => ¬ itX u b) W1 W1') (h2 : OpsSt W1' W2 Ab t.bn t.sv t.m k' t.bn) (hA : ∀ b, itX t b → ¬ itX u b) (h : ItMarked W0 u k kb) : ItMarked W2 u k kb := by
 refine h.keep fun b hb q => ?_
 have hlt := (WIt.types hu hb).2.1
 rw [World.cell?_of_block (h2.evo.same b (Nat.lt_of_lt_of_le hlt (Nat.le_trans h1.evo.size hm.size)) fun hx => hA b (by rcases opsX_it eb hx with h | h; exact .inr (.inl h); exact .inr (.inr h)) hb),
  World.cell?_of_block (hm.same b (Nat.lt_of_lt_of_le hlt h1.evo.size) fun hx => hx hb), World.cell?_of_block (h1.evo.same b hlt fun hx => hA b (.inl (by rw [en]; exact ownV_slice.2 hx)) hb)]
theorem RulesSt.next {W W' W1 W2 : World} {X : Nat → Prop} {n i : Nat} {its : Nat → It} {k : Int} {An Ab : Option Addr} {cn cb : Nat} (hall : ∀ j, j < n → WIt W X (its j)) (h : RulesSt W W' n its k i) (hi : i < n) (en : (its i).nm = .slice An (its i).ln cn) (eb : (its i).bv = .slice Ab (its i).bn cb)
 (h1 : FlatSt W' W1 An (its i).ln (fun j => .int .u8 ((k + cntR its i + (j : Int)) % 256))) (h2 : OpsSt W1 W2 Ab (its i).bn (its i).sv (its i).m (k + cntR its i + (its i).ln) (its i).bn) : RulesSt W W2 n its k (i + 1) := by
 refine ⟨(h.evo.trans (h1.evo.mono fun b hb => ⟨i, hi, .inl (by rw [en]; exact ownV_slice.2 hb)⟩)).trans (h2.evo.mono fun b hb => ⟨i, hi, by rcases opsX_it eb hb with h | h; exact .inr (.inl h); exact .inr (.inr h)⟩), fun hA j hj => ?_⟩
 rcases (by omega : j < i ∨ j = i) with hji | rfl
 ·exact it_keep ((hall j (by omega)).evo h.evo) en eb h1 (Evo.refl _ _) h2 (hA.1 i j hi (by omega) (by omega)) (h.cont hA j hji)
 exact it_marked ((hall j hi).evo h.evo) en eb h1 (Evo.refl _ _) h2 (hA.2 j hi)
def RulesPost (W : World) (n : Nat) (its : Nat → It) (k : Int) (e : Ending) (W' : World) : Prop := e = .returned (.int .i64 (k + cntR its n)) ∧ RulesSt W W' n its k n
set_option maxRecDepth 100000 in
set_option maxHeartbeats 4000000 in
theorem markRules_in (W : World) (X : Nat → Prop) (A : Option Addr) (n c : Nat) (its : Nat → It) (k : Int) (hV : WRules W X (.slice A n c) n its) (hn : n ≤ 1099511627776) (h0 : 0 ≤ k) (h1 : k + cntR its n ≤ 4611686018427387904) :
 Calls Try.prog 75 #[.slice A n c, .int .i64 k] W (RulesPost W n its k) := by
 have hall : ∀ j, j < n → WIt W X (its j) := fun j hj => by
  obtain ⟨_, _, _, _, _, _, _, h⟩ := WRules.at hV hj
  exact h
 have HALL := Aside0.mk hall
 have HV := Aside0.mk hV
 clear hV hall
 go_enter Try.func75, Try.ntmps75
 go_wp2
 go_loopg [1, 5] (n + 1) (fun kq v1 v5 W' => ∃ (i : Nat), v1 = .int .i64 (k + (cntR its i : Int)) ∧ v5 = .int .i64 (i : Int) ∧ Aside0 (i ≤ n ∧ n < i + kq) ∧ RulesSt W W' n its k i)
 case atStart => exact ⟨0, by simp [cntR], rfl, ⟨by omega, by omega⟩, RulesSt.start _ _ _ _⟩
 case round =>
  obtain ⟨i, rfl, rfl, HI, hS⟩ := hrel
  obtain ⟨i1, i2⟩ := HI.out
  clear HI
  cases gk with
  | zero => omega
  | succ k1 =>
   by_cases hi : i < n
   rotate_left
   ·have d1 : decide ((i : Int) < (n : Int)) = false := decide_eq_false (by omega)
    have e : i = n := by omega
    subst e
    go_wp2
    go_ret
    exact ⟨rfl, hS⟩
   have d1 : decide ((i : Int) < (n : Int)) = true := decide_eq_true (by omega)
   have d1n : decide (i < n) = true := decide_eq_true hi
   obtain ⟨g, cur, rfl, hX, hg, c0, c1, hw⟩ := WRules.at (WRules.evo HV.out hS.evo) hi
   obtain ⟨An, cn, en, _, hln, _⟩ := id hw.1
   obtain ⟨Ab, cb, eb, _, hbn, _⟩ := id hw.2
   have b0 := cntR_mono its (i := i + 1) (n := n) (by omega)
   rw [cntR] at b0
   have q0 : wr.cell? ⟨g, i * 2, none⟩ = some (.slice An (its i).ln cn) := by rw [cell_of_row _ _ _ _ _ _ hg, c0, en]
   have e2 : (0 ≤ (i : Int)) = True := eq_true (by omega)
   have e3 : ((i : Int) < (n : Int)) = True := eq_true (by omega)
   have hw1 := hw.1
   have hw2 := hw.2
   rw [en] at hw1
   rw [eb] at hw2
   have HW1 := Aside0.mk hw1
   have HW2 := Aside0.mk hw2
   have HG := Aside0.mk hg
   have HC1 := Aside0.mk c1
   have EN := Lib.hid en
   have EB := Lib.hid eb
   have HC := Aside0.mk (show cntR its (i + 1) = cntR its i + ((its i).ln + cntB (its i)) from rfl)
   have hkc : 0 ≤ k + (cntR its i : Int) := by omega
   unfold cntB at b0
   clear hg c0 c1 hw hw1 hw2 en eb
   go_wp2_with (first
    | (go_at_call 24; go_must (refine (markByte_in _ _ An (its i).ln cn _ HW1.out hln (by omega) (by omega)).mono ?_; rintro e W1 ⟨rfl, hF⟩; obtain ⟨cur1, hg1, _, hl1⟩ := hF.evo.like g cur _ _ HG.out; obtain ⟨u1, hu1, hu2⟩ := hl1 _ _ HC1.out; rw [EB.out] at hu2; have p1 : W1.cell? ⟨g, i * 2 + 1, none⟩ = some (.slice Ab (its i).bn cb) := (cell_of_row _ _ _ _ _ _ hg1).trans (hu1.trans (congrArg some hu2.slice)); have HF := Aside0.mk hF; clear hF hg1 hl1 hu1 hu2))
    | (go_at_call 121; go_must (refine (markOps_in _ _ Ab (its i).bn cb _ _ _ (WOps.evo HW2.out HF.out.evo) hbn (by omega) (by omega)).mono ?_; rintro e W2 ⟨rfl, hO⟩; have HN := Aside0.mk (RulesSt.next HALL.out hS hi EN.out EB.out HF.out hO); clear hO)))
   go_roundg k1
   case measure => omega
   case rel => exact ⟨i + 1, by rw [HC.out, cntB]; first | (simp; omega) | (rw [wid (by omega) (by omega)]; simp; omega), by first | rfl | (simp; done) | (rw [wid (by omega) (by omega)]; simp), ⟨by omega, by omega⟩, HN.out⟩
end Go.Proofs.Ytdiilocgjnlmiaa.Tre
end
