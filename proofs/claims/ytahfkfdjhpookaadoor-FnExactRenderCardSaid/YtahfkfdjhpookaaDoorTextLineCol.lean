/- LineCol of the program: what it answers, as a plain function of the text and the offset. -/
import Derived.Test.YtahfkfdjhpookaaDoorTextPlace
namespace Go.Proofs.YtahfkfdjhpookaaDoor.Txt
open Go.RowKit Go.Shelf Go.BigFrame Go.Proofs.YtahfkfdjhpookaaDoorW.PrintWords Go.Proofs.YtahfkfdjhpookaaDoorW.PrintLast
open Go.Proofs.YtahfkfdjhpookaaDoor.PAll
attribute [local go_sem] Oper.semAt_some

def cols (l : List Int) (off : Int) : List Nat := (chF l (l.length + 1) ((plc l off).getLastD 0)).takeWhile (fun s : Nat => decide ((s : Int) < off))
def lcol (l : List Int) (off : Int) : Int × Int := if off < 0 ∨ (l.length : Int) < off then (0, 0) else ((plc l off).length, (cols l off).length + 1)

theorem boxed_below {n B : Nat} {W W' : World} {t : TypeId} {v : Value} (h : Boxed W B t v) (hb : Below n W W') (hlt : B < n) : Boxed W' B t v := (hb.block B hlt).trans h

set_option maxRecDepth 100000 in
set_option maxHeartbeats 4000000 in
theorem linecol_out (n : Nat) (w : World) (A : Option Addr) (c : Nat) (l : List Int) (off : Int) (hT : Text w A c l) (ho : off < 0 ∨ (l.length : Int) < off) :
    CallsIn Fence.wide n Tryd.prog 13 #[.slice A l.length c, .int .i64 off] w fun e W' => e = .returned (.tuple #[.int .i64 0, .int .i64 0]) ∧ Below w.heap.size w W' := by
  have hsm := hT.small
  by_cases h0 : off < 0
  · clear ho
    refine callsIn_of_wp Tryd.func13 rfl trivial ?_ rfl
    simp only [Tryd.ntmps13, List.size_toArray, List.length_cons, List.length_nil, Nat.reduceAdd, Nat.reduceSub, Array.replicate_succ, Array.replicate_zero, List.push_toArray, List.append_toArray, List.nil_append, List.cons_append]
    gi_wp2
    repeat (refine ⟨fun _ h => (by cases h), ?_⟩; gi_wp2)
    go_ret2
    exact ⟨rfl, (Below.refl _ _).alloc (Nat.le_refl _) _⟩
  · have h2 : (l.length : Int) < off := by omega
    clear ho
    refine callsIn_of_wp Tryd.func13 rfl trivial ?_ rfl
    simp only [Tryd.ntmps13, List.size_toArray, List.length_cons, List.length_nil, Nat.reduceAdd, Nat.reduceSub, Array.replicate_succ, Array.replicate_zero, List.push_toArray, List.append_toArray, List.nil_append, List.cons_append]
    gi_wp2
    go_ret2
    exact ⟨rfl, (Below.refl _ _).alloc (Nat.le_refl _) _⟩

set_option maxRecDepth 100000 in
set_option maxHeartbeats 4000000 in
theorem linecol_in (n : Nat) (hn : 8 ≤ n) (w : World) (A : Option Addr) (c : Nat) (l : List Int) (off : Int) (hT : Text w A c l) (h0 : 0 ≤ off) (h2 : off ≤ l.length) :
    CallsIn Fence.wide n Tryd.prog 13 #[.slice A l.length c, .int .i64 off] w fun e W' => e = .returned (.tuple #[.int .i64 (plc l off).length, .int .i64 ((cols l off).length + 1)]) ∧ Below w.heap.size w W' := by
  have h1 : 1 ≤ n := by omega
  have hsm := hT.small
  obtain ⟨ps, hps⟩ : ∃ ps, (plc l off).getLastD 0 = ps := ⟨_, rfl⟩
  have HC : Hid (cols l off = (chF l (l.length + 1) ps).takeWhile (fun s : Nat => decide ((s : Int) < off))) := by rw [cols, hps]; rfl
  have hpl := place_in (n - 1) (by omega) (w.alloc (.cells #[.int .i64 off] 3)) A c l off (hT.below ((Below.refl _ w).alloc (Nat.le_refl _) _))
  rw [hps] at hpl
  clear hps
  have d0 : decide (off < 0) = false := decide_eq_false (by omega)
  have d1 : decide ((l.length : Int) < off) = false := decide_eq_false (by omega)
  refine callsIn_of_wp_marks Tryd.func13 rfl trivial ?_ rfl
  simp only [Tryd.ntmps13, List.size_toArray, List.length_cons, List.length_nil, Nat.reduceAdd, Nat.reduceSub, Array.replicate_succ, Array.replicate_zero, List.push_toArray, List.append_toArray, List.nil_append, List.cons_append]
  gi_wp2_with (refine ⟨trivial, ?_⟩; gi_at_call 14; refine hpl.mono ?_; rintro e W1 ⟨rfl, hB1⟩)
  have bO0 := boxed_below (Boxed.new w 3 (.int .i64 off)) hB1 (by simp)
  have hBw : Below w.heap.size w W1 := ((Below.refl _ w).alloc (Nat.le_refl _) _).trans (hB1.mono (by simp))
  have hsW : w.heap.size + 1 ≤ W1.heap.size := by have := hB1.size; simpa using this
  clear hpl hB1
  gi_wp2_with (refine ⟨trivial, ?_⟩; gi_at_call 18; refine (chars_in (n - 1) _ _ _ _ _).mono ?_; rintro e w' ⟨rfl, rfl⟩)
  have bO := ((bO0.alloc (.cells #[.int .i64 1] 3)).alloc (.cells #[.slice A l.length c] 31)).alloc (.cells #[.int .i64 (ps : Int)] 3)
  have bC := ((Boxed.new W1 3 (.int .i64 1)).alloc (.cells #[.slice A l.length c] 31)).alloc (.cells #[.int .i64 (ps : Int)] 3)
  have bI := (Boxed.new (W1.alloc (.cells #[.int .i64 1] 3)) 31 (.slice A l.length c)).alloc (.cells #[.int .i64 (ps : Int)] 3)
  have bS := Boxed.new ((W1.alloc (.cells #[.int .i64 1] 3)).alloc (.cells #[.slice A l.length c] 31)) 3 (.int .i64 (ps : Int))
  simp only [World.size_alloc] at bI bS
  have hB0 : Below w.heap.size w (((W1.alloc (.cells #[.int .i64 1] 3)).alloc (.cells #[.slice A l.length c] 31)).alloc (.cells #[.int .i64 (ps : Int)] 3)) :=
    ((hBw.alloc (by omega) _).alloc (by simp; omega) _).alloc (by simp; omega) _
  have hsz : (((W1.alloc (.cells #[.int .i64 1] 3)).alloc (.cells #[.slice A l.length c] 31)).alloc (.cells #[.int .i64 (ps : Int)] 3)).heap.size = W1.heap.size + 3 := by simp
  obtain ⟨W0, hW0⟩ : ∃ W0, ((W1.alloc (.cells #[.int .i64 1] 3)).alloc (.cells #[.slice A l.length c] 31)).alloc (.cells #[.int .i64 (ps : Int)] 3) = W0 := ⟨_, rfl⟩
  rw [hW0] at bO bC bI bS hB0 hsz ⊢
  clear hW0 bO0 hBw
  have hlx := chF_size l (l.length + 1) ps
  refine wpIn_rangeFunc_ownH rfl h1 (gf := 23) (lb := #[.pointer (some ⟨W1.heap.size + 1 + 1, 0, none⟩), .pointer (some ⟨W1.heap.size + 1, 0, none⟩)]) rfl trivial (enters_of Tryd.func23 (by kernel_rfl) rfl)
    (chars_stops (n - 1) (by omega) (W1.heap.size + 1 + 1) (W1.heap.size + 1) w W0 A c l ps hT hB0 bI.cell (by omega) bS.cell (by omega)) kpB_t (kpB_b (by omega) (by omega)) (Below.refl _ _) (fun _ => rfl)
    (fun pre W => (((((∀ s ∈ pre, ((s : Nat) : Int) < off) ∧ pre.length ≤ l.length + 1) ∧ Boxed W W1.heap.size 3 (.int .i64 ((pre.length : Int) + 1))) ∧ Boxed W w.heap.size 3 (.int .i64 off)) ∧ Boxed W (W1.heap.size + 1) 31 (.slice A l.length c)) ∧ Below w.heap.size w W)
    (fun c pre W => ((c = .exit 0 ∧ 0 < pre.length ∧ (∀ s ∈ pre.dropLast, ((s : Nat) : Int) < off) ∧ ¬ ((pre.getLastD 0 : Nat) : Int) < off) ∧ Boxed W W1.heap.size 3 (.int .i64 ((pre.dropLast.length : Int) + 1))) ∧ Below w.heap.size w W)
    (OwnFrom.and (OwnFrom.and (OwnFrom.and (OwnFrom.and (ownFrom_pure _ _) (Own.from (boxed_own _ _ (fun pre : List Nat => .int .i64 ((pre.length : Int) + 1))) _)) (Own.from (boxed_own _ _ _) _)) (Own.from (boxed_own _ _ _) _)) (ownFrom_below (Nat.le_refl _) (by omega)))
    (fun c => OwnFrom.and (OwnFrom.and (ownFrom_pure _ _) (Own.from (boxed_own _ _ (fun pre : List Nat => .int .i64 ((pre.dropLast.length : Int) + 1))) _)) (ownFrom_below (Nat.le_refl _) (by omega)))
    ⟨⟨⟨⟨⟨by simp, by simp⟩, bC⟩, bO⟩, bI⟩, hB0⟩
    (fun x a' _ => a' = { tmps := #[Value.slice A l.length c, Value.int IntKind.i64 off, undef, Value.pointer (some ⟨w.heap.size, 0, none⟩), .int .i64 0, .int .i64 0, Value.slice A l.length c, .int .i64 ((plc l off).length : Int), .int .i64 (ps : Int), Value.pointer (some ⟨W1.heap.size, 0, none⟩), .int .i64 (x : Int),
          .int .i64 off, .bool false, .bool false, .int .i64 off, Value.slice A l.length c, .int .i64 (l.length : Int), .bool false, .bool false, Value.slice A l.length c,
          .tuple #[.int .i64 ((plc l off).length : Int), .int .i64 (ps : Int)], Value.slice A l.length c, .int .i64 off, .tuple #[.int .i64 ((plc l off).length : Int), .int .i64 (ps : Int)], .int .i64 ((plc l off).length : Int), .int .i64 (ps : Int), Value.slice A l.length c, .int .i64 (ps : Int),
          Value.func (Fn.func 23) #[] #[Value.pointer (some ⟨W1.heap.size + 1 + 1, 0, none⟩), Value.pointer (some ⟨W1.heap.size + 1, 0, none⟩)], .int .i64 (x : Int), undef, undef, undef, undef, undef, undef, undef], defers := [] })
    (fun _ _ _ _ _ _ hs _ _ => hs)
    ?assign ?body ?done ?stop
  case assign =>
    rintro l pre x W K hi hK
    gi_wp2
    exact hK _ _ (KeepsFrom.refl _ _) (KpB.refl _ _ _) hi rfl
  case body =>
    rintro lid pre x a' W hl _ ⟨⟨⟨⟨⟨hp, hp2⟩, bC1⟩, bO1⟩, bI1⟩, hBX⟩ rfl hlt
    have cO := bO1.cell
    have cC := bC1.cell
    have fC := bC1.frozen
    by_cases hx : (x : Int) < off
    · gi_wp2
      exact ⟨(KeepsOthers.setCell _ _ _).from _,
        KpB.of_boxed ((Below.refl _ W).setCell (p := ⟨W1.heap.size, 0, none⟩) (by simp; omega) _) bI1 (bI1.other (by omega) _),
        ⟨⟨⟨⟨fun s hs => (List.mem_append.1 hs).elim (hp s) (fun e => by simp at e; subst e; exact hx), by simp; omega⟩, by simpa using bC1.set (.int .i64 ((pre.length : Int) + 1 + 1))⟩, bO1.other (by omega) _⟩, bI1.other (by omega) _⟩,
        hBX.setCell (p := ⟨W1.heap.size, 0, none⟩) (by simp; omega) _⟩
    · gi_wp2
      exact ⟨KeepsFrom.refl _ _, ⟨⟨rfl, by simp, by simpa using hp, by simpa using hx⟩, by simpa using bC1⟩, hBX⟩
  case done =>
    rintro D zs W hD rfl ⟨⟨⟨⟨⟨hp, _⟩, bC1⟩, bO1⟩, _⟩, hBX⟩ hK
    have cC := bC1.cell
    have hr : cols l off = chF l (l.length + 1) ps := by rw [HC.out]; exact takeWhile_all (fun s hs => by simpa using hp s hs)
    have HR := Lib.hid hr
    clear hr HC
    gi_wp2
    refine QR.wpIn_region_quiet_lit_nd (by rfl) (by kernel_rfl) (by kernel_rfl) ?_
    repeat (gi_big_quiet_step (fail))
    refine wpQuietIn_nil ?_
    rintro _ ⟨nq, rfl⟩
    gi_wp2
    refine ⟨by simp, .inl ⟨_, _, rfl, run_takeDeferred (show (W.drewN nq).heap[D]? = _ from hK), ?_⟩⟩
    exact ⟨.tuple #[.int .i64 ((plc l off).length : Int), .int .i64 (((chF l (l.length + 1) ps).length : Int) + 1)], by simp [results, Tryd.f13, go_sem], by rw [HR.out], (pw_below_drewN hBX nq).trans (belowK_b (w := w) (Nat.le_refl _) _ D _ _ (by omega) (show (W.drewN nq).heap[D]? = _ from hK) rfl rfl)⟩
  case stop =>
    rintro D c pre W hD hpre ⟨⟨⟨rfl, hpos, hp, hx⟩, bC1⟩, hBX⟩ hK
    have cC := bC1.cell
    have hr : cols l off = pre.dropLast := by rw [HC.out]; exact takeWhile_prefix hpre hpos (fun s hs => by simpa using hp s hs) (by simpa using hx)
    have HR := Lib.hid hr
    clear hr HC
    gi_wp2
    refine QR.wpIn_region_quiet_lit_nd (by rfl) (by kernel_rfl) (by kernel_rfl) ?_
    repeat (gi_big_quiet_step (fail))
    refine wpQuietIn_nil ?_
    rintro _ ⟨nq, rfl⟩
    gi_wp2
    refine ⟨by simp, .inl ⟨_, _, rfl, run_takeDeferred (show (W.drewN nq).heap[D]? = _ from hK), ?_⟩⟩
    exact ⟨.tuple #[.int .i64 ((plc l off).length : Int), .int .i64 ((pre.dropLast.length : Int) + 1)], by simp [results, Tryd.f13, go_sem], by rw [HR.out], (pw_below_drewN hBX nq).trans (belowK_b (w := w) (Nat.le_refl _) _ D _ _ (by omega) (show (W.drewN nq).heap[D]? = _ from hK) rfl rfl)⟩
end Go.Proofs.YtahfkfdjhpookaaDoor.Txt

namespace Go.Proofs.YtahfkfdjhpookaaDoor.PAll
open Go.RowKit Go.Proofs.YtahfkfdjhpookaaDoorW.PrintWords Go.Proofs.YtahfkfdjhpookaaDoorW.PrintLast Go.Proofs.YtahfkfdjhpookaaDoor.Txt
def impl_LineCol.f (l0 : List Int) (a1 : Int) : Option (Int × Int) := if okText l0 = true then some (lcol l0 a1) else none
theorem impl_LineCol.calls (A0 : Option Addr) (c0 : Nat) (l0 : List Int) (a1 : Int) (r1 : Int) (r2 : Int) (w : World) (hr0 : Kd.C (Kd.int .u8) w A0 l0.length l0) (hc0 : l0.length ≤ c0) (h : impl_LineCol.f l0 a1 = some (r1, r2)) :
    Calls Tryd.prog 13 #[.slice A0 l0.length c0, .int .i64 a1] w fun e w' => e = .returned (.tuple #[.int .i64 r1, .int .i64 r2]) ∧ Below w.heap.size w w' := by
  unfold impl_LineCol.f at h
  by_cases ht : okText l0 = true
  · rw [if_pos ht] at h
    have h := Option.some.inj h
    have hT := Text.of hr0 hc0 ht
    unfold lcol at h
    by_cases ho : a1 < 0 ∨ (l0.length : Int) < a1
    · rw [if_pos ho] at h
      obtain ⟨rfl, rfl⟩ := Prod.mk.inj h
      exact callsIn_wide.1 (linecol_out 8 w A0 c0 l0 a1 hT ho)
    · rw [if_neg ho] at h
      obtain ⟨rfl, rfl⟩ := Prod.mk.inj h
      exact callsIn_wide.1 (linecol_in 8 (Nat.le_refl _) w A0 c0 l0 a1 hT (by omega) (by omega))
  · rw [if_neg ht] at h
    cases h
end Go.Proofs.YtahfkfdjhpookaaDoor.PAll
