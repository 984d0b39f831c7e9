import Derived.Test.YtdiilocgjnlmiaaCvgNameLaw
namespace Go.Proofs.Ytdiilocgjnlmiaa.Tre
open Go.RowKit Go.Proofs.YtdiilocgjnlmiaaW.PrintWords Go.Proofs.YtdiilocgjnlmiaaW.PrintLast Go.Proofs.YtdiilocgjnlmiaaW.PrintMore
open Go.Proofs.Ytdiilocgjnlmiaa.PAll
set_option linter.unusedVariables false
set_option linter.unusedSimpArgs false
def BoolPost (w : World) (b : Bool) (e : Ending) (w' : World) : Prop := e = .returned (.bool b) ∧ Below w.heap.size w w'
theorem opB_cases (R L k : Int) (s : List Int) (n : Int) : opB R L ⟨k, s, n⟩ = ((if k = 1 then canonB s else decide (s.length = 0)) && decide (0 ≤ n ∧ n < mostF R L k)) := rfl
theorem all_false {R L : Int} {ops : List Op} {i : Nat} {o : Op} (h : ops.all (opB R L) = (o :: ops.drop (i + 1)).all (opB R L)) (ho : opB R L o = false) : bodyB R L ops = false := by
  unfold bodyB
  rw [h, List.all_cons, ho]; rfl
theorem all_step {R L : Int} {ops : List Op} {i : Nat} {o : Op} (h : ops.all (opB R L) = (o :: ops.drop (i + 1)).all (opB R L)) (ho : opB R L o = true) : ops.all (opB R L) = (ops.drop (i + 1)).all (opB R L) := by
  rw [h, List.all_cons, ho]; rfl
theorem good_no {w W : World} {b : Bool} (h : b = false) (hb : Below w.heap.size w W) : BoolPost w b (.returned (.bool false)) W := ⟨by rw [h], hb⟩
theorem good_yes {w W : World} {b c : Bool} (h : b = c) (hb : Below w.heap.size w W) : BoolPost w b (.returned (.bool c)) W := ⟨by rw [h], hb⟩
theorem cell_new (w : World) (cs : Array Value) (t : TypeId) (j : Nat) (v : Value) (h : cs[j]? = some v) : (w.alloc (.cells cs t)).cell? ⟨w.heap.size, j, none⟩ = some v := by
  rw [cell_of_row _ _ _ _ _ _ (World.alloc_heap_new w _)]
  exact h
set_option maxRecDepth 100000 in
set_option maxHeartbeats 8000000 in
theorem goodBody_in (w : World) (A A0 A1 : Option Addr) (c R L c0 cL : Nat) (ops : List Op) (hr : Kd.C k79 w A ops.length ops) (hc : ops.length ≤ c) (hm : ops.length ≤ 1099511627776) (hs : ∀ o ∈ ops, o.f1.length ≤ 1099511627776) (hR : R ≤ 1099511627776) (hL : L ≤ 1099511627776) :
    Calls Try.prog 54 #[.agg #[.slice A0 R c0, .slice A1 L cL], .slice A ops.length c] w (BoolPost w (bodyB R L ops)) := by
  obtain ⟨K, hK⟩ : ∃ K : Nat, 1099511627776 < K := ⟨_, Nat.lt_succ_self _⟩
  have HK := Aside0.mk hK
  clear hK
  go_enter Try.func54, Try.ntmps54
  go_wp2
  have hw0 : Below w.heap.size w (w.alloc (Obj.cells #[.slice A0 R c0, .slice A1 L cL] 31)) := below_alloc (Below.refl _ _) _
  have g0 : (w.alloc (Obj.cells #[.slice A0 R c0, .slice A1 L cL] 31)).cell? ⟨w.heap.size, 0, none⟩ = some (.slice A0 R c0) := cell_new w _ _ 0 _ rfl
  have g1 : (w.alloc (Obj.cells #[.slice A0 R c0, .slice A1 L cL] 31)).cell? ⟨w.heap.size, 1, none⟩ = some (.slice A1 L cL) := cell_new w _ _ 1 _ rfl
  generalize hww : w.alloc (Obj.cells #[.slice A0 R c0, .slice A1 L cL] 31) = w0 at *
  have hr0 := Kd.C_below hr hw0
  have HW0 := Aside0.mk hw0
  clear hww hw0
  go_loopg [12] (ops.length + 1) (fun kq v12 w' => ∃ (i : Nat), v12 = .int .i64 (i : Int) ∧ Aside0 (i ≤ ops.length ∧ ops.length < i + kq ∧ ops.all (opB R L) = (ops.drop i).all (opB R L)) ∧ Aside0 (Below w0.heap.size w0 w'))
  case atStart => exact ⟨0, rfl, ⟨by omega, by omega, rfl⟩, ⟨Below.refl _ _⟩⟩
  case round =>
    obtain ⟨i, rfl, HI, hB0⟩ := hrel
    have hB := hB0.out
    clear hB0
    obtain ⟨i1, i2, i3⟩ := HI.out
    clear HI
    cases gk with
    | zero => omega
    | succ k1 =>
      replace g0 := pw_cell_below hB g0
      replace g1 := pw_cell_below hB g1
      have lb : w.heap.size < wr.heap.size := World.block_lt_of_cell? wr ⟨w.heap.size, 0, none⟩ g0
      by_cases hi : i < ops.length
      · have d1 : decide ((i : Int) < (ops.length : Int)) = true := decide_eq_true (by omega)
        obtain ⟨ad, AS, cS, rfl, x0, x1, x2, y1, y2⟩ := at_T79 hr0 (i : Int) (by omega) (by omega)
        rw [Int.toNat_natCast] at x0 x1 x2
        replace x0 := pw_cell_below hB x0
        replace x1 := pw_cell_below hB x1
        replace x2 := pw_cell_below hB x2
        replace y2 := Kd.C_below y2 hB
        have d2 : (0 ≤ (i : Int)) = True := eq_true (by omega)
        have d3 : ((i : Int) < (ops.length : Int)) = True := eq_true (by omega)
        have hsz := hs (rd_T79 ops (i : Int)) (by
          have := drop_op (ops := ops) (i := i) (by omega)
          exact List.mem_of_mem_drop (by rw [this]; exact List.mem_cons_self))
        rw [drop_op hi] at i3
        generalize ho : rd_T79 ops (i : Int) = o at *
        obtain ⟨k, s, n⟩ := o
        simp only at x0 x1 x2 y1 y2 hsz
        have I3 := Lib.hid i3
        clear i3 ho
        have HY := Aside0.mk y2
        have HB := Aside0.mk hB
        clear y2 hr hB hr0 hs
        have fin : ∀ (W : World), Below w0.heap.size w0 W → Below w.heap.size w W := fun W h => below_then HW0.out HW0.out.size h
        have FIN := Aside0.mk fin
        clear fin
        rcases (by omega : k = 1 ∨ k = 2 ∨ k = 3 ∨ (k ≠ 1 ∧ k ≠ 2 ∧ k ≠ 3)) with rfl | rfl | rfl | ⟨ka, kb, kc⟩
        · have hf := canonical_f s hsz K (by have := HK.out; omega)
          have hop := opB_cases R L 1 s n
          rw [if_pos rfl, show mostF R L 1 = 1 from rfl] at hop
          cases hcb : canonB s
          · rw [hcb] at hf hop
            have HO : Hid (opB R L ⟨1, s, n⟩ = false) := hop
            clear hop hcb
            go_wp2_with (first
              | ((with_reducible refine gate_dst (N := 22) rfl ?_); go_must (refine goesL_ (some 22) rfl rfl Try.func107 (by kernel_rfl) rfl #[.slice AS s.length cS] rfl (by (try simp only [List.map_toArray, List.map_cons, List.map_nil]); first | done | rfl) ?_; refine (impl_canonical.calls K _ cS s _ _ (Kd.C_alloc HY.out _) y1 hf).mono ?_); rintro e w' ⟨rfl, ⟨nd, rfl⟩⟩; refine ⟨_, rfl, ?_⟩))
            go_ret
            exact good_no (all_false I3.out HO.out) (FIN.out _ (by repeat (with_reducible first | exact HB.out | apply below_alloc | apply pw_below_drewN | apply below_drew1)))
          · rw [hcb] at hf hop
            clear hcb
            by_cases ca : n < 0
            · have fa : decide (n < 0) = true := decide_eq_true ca
              have HO : Hid (opB R L ⟨1, s, n⟩ = false) := by rw [hop, decide_eq_false (by omega)]; rfl
              clear hop
              go_wp2_with (first
                | ((with_reducible refine gate_dst (N := 22) rfl ?_); go_must (refine goesL_ (some 22) rfl rfl Try.func107 (by kernel_rfl) rfl #[.slice AS s.length cS] rfl (by (try simp only [List.map_toArray, List.map_cons, List.map_nil]); first | done | rfl) ?_; refine (impl_canonical.calls K _ cS s _ _ (Kd.C_alloc HY.out _) y1 hf).mono ?_); rintro e w' ⟨rfl, ⟨nd, rfl⟩⟩; refine ⟨_, rfl, ?_⟩))
              go_ret
              exact good_no (all_false I3.out HO.out) (FIN.out _ (by repeat (with_reducible first | exact HB.out | apply below_alloc | apply pw_below_drewN | apply below_drew1)))
            · have fa : decide (n < 0) = false := decide_eq_false ca
              by_cases cb : n ≥ 1
              · have fb : decide (n ≥ 1) = true := decide_eq_true cb
                have HO : Hid (opB R L ⟨1, s, n⟩ = false) := by rw [hop, decide_eq_false (by omega)]; rfl
                clear hop
                go_wp2_with (first
                  | ((with_reducible refine gate_dst (N := 22) rfl ?_); go_must (refine goesL_ (some 22) rfl rfl Try.func107 (by kernel_rfl) rfl #[.slice AS s.length cS] rfl (by (try simp only [List.map_toArray, List.map_cons, List.map_nil]); first | done | rfl) ?_; refine (impl_canonical.calls K _ cS s _ _ (Kd.C_alloc HY.out _) y1 hf).mono ?_); rintro e w' ⟨rfl, ⟨nd, rfl⟩⟩; refine ⟨_, rfl, ?_⟩))
                go_ret
                exact good_no (all_false I3.out HO.out) (FIN.out _ (by repeat (with_reducible first | exact HB.out | apply below_alloc | apply pw_below_drewN | apply below_drew1)))
              · have fb : decide (n ≥ 1) = false := decide_eq_false cb
                have HO : Hid (opB R L ⟨1, s, n⟩ = true) := by rw [hop, decide_eq_true (by omega)]; rfl
                clear hop
                go_wp2_with (first
                  | ((with_reducible refine gate_dst (N := 22) rfl ?_); go_must (refine goesL_ (some 22) rfl rfl Try.func107 (by kernel_rfl) rfl #[.slice AS s.length cS] rfl (by (try simp only [List.map_toArray, List.map_cons, List.map_nil]); first | done | rfl) ?_; refine (impl_canonical.calls K _ cS s _ _ (Kd.C_alloc HY.out _) y1 hf).mono ?_); rintro e w' ⟨rfl, ⟨nd, rfl⟩⟩; refine ⟨_, rfl, ?_⟩))
                go_roundg k1
                case measure => omega
                case rel => exact ⟨i + 1, by first | rfl | (simp; done) | (rw [wid (by omega) (by omega)]; simp), ⟨by omega, by omega, all_step I3.out HO.out⟩, ⟨by repeat (with_reducible first | exact HB.out | apply below_alloc | apply pw_below_drewN | apply below_drew1)⟩⟩
        · have hop := opB_cases R L 2 s n
          rw [if_neg (by decide), show mostF (R : Int) L 2 = (R : Int) from rfl] at hop
          by_cases cs : s.length = 0
          · have fs : ((s.length : Int) != 0) = false := by rw [bne_eq_false_iff_eq]; omega
            rw [decide_eq_true cs] at hop
            clear cs
            by_cases ca : n < 0
            · have fa : decide (n < 0) = true := decide_eq_true ca
              have HO : Hid (opB R L ⟨2, s, n⟩ = false) := by rw [hop, decide_eq_false (by omega)]; rfl
              clear hop
              go_wp2
              go_ret
              exact good_no (all_false I3.out HO.out) (FIN.out _ (by repeat (with_reducible first | exact HB.out | apply below_alloc | apply pw_below_drewN | apply below_drew1)))
            · have fa : decide (n < 0) = false := decide_eq_false ca
              by_cases cb : n ≥ (R : Int)
              · have fb : decide (n ≥ (R : Int)) = true := decide_eq_true cb
                have HO : Hid (opB R L ⟨2, s, n⟩ = false) := by rw [hop, decide_eq_false (by omega)]; rfl
                clear hop
                go_wp2
                go_ret
                exact good_no (all_false I3.out HO.out) (FIN.out _ (by repeat (with_reducible first | exact HB.out | apply below_alloc | apply pw_below_drewN | apply below_drew1)))
              · have fb : decide (n ≥ (R : Int)) = false := decide_eq_false cb
                have HO : Hid (opB R L ⟨2, s, n⟩ = true) := by rw [hop, decide_eq_true (by omega)]; rfl
                clear hop
                go_wp2
                go_roundg k1
                case measure => omega
                case rel => exact ⟨i + 1, by first | rfl | (simp; done) | (rw [wid (by omega) (by omega)]; simp), ⟨by omega, by omega, all_step I3.out HO.out⟩, ⟨by repeat (with_reducible first | exact HB.out | apply below_alloc | apply pw_below_drewN | apply below_drew1)⟩⟩
          · have fs : ((s.length : Int) != 0) = true := by rw [bne_iff_ne]; omega
            have HO : Hid (opB R L ⟨2, s, n⟩ = false) := by rw [hop, decide_eq_false cs]; rfl
            clear hop
            go_wp2
            go_ret
            exact good_no (all_false I3.out HO.out) (FIN.out _ (by repeat (with_reducible first | exact HB.out | apply below_alloc | apply pw_below_drewN | apply below_drew1)))
        · have hop := opB_cases R L 3 s n
          rw [if_neg (by decide), show mostF (R : Int) L 3 = (L : Int) from rfl] at hop
          by_cases cs : s.length = 0
          · have fs : ((s.length : Int) != 0) = false := by rw [bne_eq_false_iff_eq]; omega
            rw [decide_eq_true cs] at hop
            clear cs
            by_cases ca : n < 0
            · have fa : decide (n < 0) = true := decide_eq_true ca
              have HO : Hid (opB R L ⟨3, s, n⟩ = false) := by rw [hop, decide_eq_false (by omega)]; rfl
              clear hop
              go_wp2
              go_ret
              exact good_no (all_false I3.out HO.out) (FIN.out _ (by repeat (with_reducible first | exact HB.out | apply below_alloc | apply pw_below_drewN | apply below_drew1)))
            · have fa : decide (n < 0) = false := decide_eq_false ca
              by_cases cb : n ≥ (L : Int)
              · have fb : decide (n ≥ (L : Int)) = true := decide_eq_true cb
                have HO : Hid (opB R L ⟨3, s, n⟩ = false) := by rw [hop, decide_eq_false (by omega)]; rfl
                clear hop
                go_wp2
                go_ret
                exact good_no (all_false I3.out HO.out) (FIN.out _ (by repeat (with_reducible first | exact HB.out | apply below_alloc | apply pw_below_drewN | apply below_drew1)))
              · have fb : decide (n ≥ (L : Int)) = false := decide_eq_false cb
                have HO : Hid (opB R L ⟨3, s, n⟩ = true) := by rw [hop, decide_eq_true (by omega)]; rfl
                clear hop
                go_wp2
                go_roundg k1
                case measure => omega
                case rel => exact ⟨i + 1, by first | rfl | (simp; done) | (rw [wid (by omega) (by omega)]; simp), ⟨by omega, by omega, all_step I3.out HO.out⟩, ⟨by repeat (with_reducible first | exact HB.out | apply below_alloc | apply pw_below_drewN | apply below_drew1)⟩⟩
          · have fs : ((s.length : Int) != 0) = true := by rw [bne_iff_ne]; omega
            have HO : Hid (opB R L ⟨3, s, n⟩ = false) := by rw [hop, decide_eq_false cs]; rfl
            clear hop
            go_wp2
            go_ret
            exact good_no (all_false I3.out HO.out) (FIN.out _ (by repeat (with_reducible first | exact HB.out | apply below_alloc | apply pw_below_drewN | apply below_drew1)))
        · have fk1 : (k == 1) = false := by simpa using ka
          have fk2 : (k == 2) = false := by simpa using kb
          have fk3 : (k == 3) = false := by simpa using kc
          have fk4 : (k != 1) = true := by simpa using ka
          have hop := opB_cases R L k s n
          rw [if_neg ka, show mostF R L k = 1 by unfold mostF; rw [if_neg kc, if_neg kb]] at hop
          by_cases cs : s.length = 0
          · have fs : ((s.length : Int) != 0) = false := by rw [bne_eq_false_iff_eq]; omega
            rw [decide_eq_true cs] at hop
            clear cs
            by_cases ca : n < 0
            · have fa : decide (n < 0) = true := decide_eq_true ca
              have HO : Hid (opB R L ⟨k, s, n⟩ = false) := by rw [hop, decide_eq_false (by omega)]; rfl
              clear hop
              go_wp2
              go_ret
              exact good_no (all_false I3.out HO.out) (FIN.out _ (by repeat (with_reducible first | exact HB.out | apply below_alloc | apply pw_below_drewN | apply below_drew1)))
            · have fa : decide (n < 0) = false := decide_eq_false ca
              by_cases cb : n ≥ 1
              · have fb : decide (n ≥ 1) = true := decide_eq_true cb
                have HO : Hid (opB R L ⟨k, s, n⟩ = false) := by rw [hop, decide_eq_false (by omega)]; rfl
                clear hop
                go_wp2
                go_ret
                exact good_no (all_false I3.out HO.out) (FIN.out _ (by repeat (with_reducible first | exact HB.out | apply below_alloc | apply pw_below_drewN | apply below_drew1)))
              · have fb : decide (n ≥ 1) = false := decide_eq_false cb
                have HO : Hid (opB R L ⟨k, s, n⟩ = true) := by rw [hop, decide_eq_true (by omega)]; rfl
                clear hop
                go_wp2
                go_roundg k1
                case measure => omega
                case rel => exact ⟨i + 1, by first | rfl | (simp; done) | (rw [wid (by omega) (by omega)]; simp), ⟨by omega, by omega, all_step I3.out HO.out⟩, ⟨by repeat (with_reducible first | exact HB.out | apply below_alloc | apply pw_below_drewN | apply below_drew1)⟩⟩
          · have fs : ((s.length : Int) != 0) = true := by rw [bne_iff_ne]; omega
            have HO : Hid (opB R L ⟨k, s, n⟩ = false) := by rw [hop, decide_eq_false cs]; rfl
            clear hop
            go_wp2
            go_ret
            exact good_no (all_false I3.out HO.out) (FIN.out _ (by repeat (with_reducible first | exact HB.out | apply below_alloc | apply pw_below_drewN | apply below_drew1)))
      · have d1 : decide ((i : Int) < (ops.length : Int)) = false := decide_eq_false (by omega)
        rw [List.drop_eq_nil_of_le (by omega)] at i3
        have I3 := Lib.hid i3
        have HB := Aside0.mk hB
        have hr1 := Kd.C_below hr0 hB
        have HR := Aside0.mk hr1
        clear i3 hB hr hr0 hr1
        go_wp2_with (first
          | ((with_reducible refine gate_dst (N := 57) rfl ?_); go_must (refine goesL_ (some 57) rfl rfl Try.func90 (by kernel_rfl) rfl #[.slice A ops.length c] rfl (by (try simp only [List.map_toArray, List.map_cons, List.map_nil]); first | done | rfl) ?_; refine (tree_in _ A c ops HR.out hc hm).mono ?_); rintro e w' ⟨v, b, rfl, hb1, hb2, -, -⟩; have HB1 := Aside0.mk hb1; have HB2 := Lib.hid hb2; clear hb1 hb2; refine ⟨_, rfl, ?_⟩))
        go_ret
        refine good_yes ?_ (below_then HW0.out HW0.out.size (below_then HB.out HB.out.size HB1.out))
        rw [HB2.out]
        unfold bodyB
        rw [I3.out]; rfl
end Go.Proofs.Ytdiilocgjnlmiaa.Tre
