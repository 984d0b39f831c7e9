/- place of the program: the number of the line of an offset, and its beginning. -/
import Derived.Test.YtahfkfdjhpookaaDoorTextEnd
namespace Go.Proofs.YtahfkfdjhpookaaDoor.Txt
open Go.RowKit Go.Shelf Go.BigFrame Go.Proofs.YtahfkfdjhpookaaDoorW.PrintWords Go.Proofs.YtahfkfdjhpookaaDoorW.PrintLast
open Go.Proofs.YtahfkfdjhpookaaDoor.PAll
attribute [local go_sem] Oper.semAt_some

def plc (l : List Int) (off : Int) : List Nat := (upS l l.length).takeWhile (fun s => decide ((s : Int) ≤ off))

theorem takeWhile_all {p : Nat → Bool} : ∀ {xs : List Nat}, (∀ x ∈ xs, p x = true) → xs.takeWhile p = xs
  | [], _ => rfl
  | x :: xs, h => by rw [List.takeWhile_cons, if_pos (h x (by simp)), takeWhile_all (fun y hy => h y (by simp [hy]))]
theorem takeWhile_stop {p : Nat → Bool} : ∀ {pre rest : List Nat} {x : Nat}, (∀ y ∈ pre, p y = true) → p x = false → (pre ++ x :: rest).takeWhile p = pre
  | [], rest, x, _, hx => by rw [List.nil_append, List.takeWhile_cons, if_neg (by simp [hx])]
  | y :: pre, rest, x, h, hx => by rw [List.cons_append, List.takeWhile_cons, if_pos (h y (by simp)), takeWhile_stop (fun z hz => h z (by simp [hz])) hx]
theorem takeWhile_prefix {p : Nat → Bool} {pre all : List Nat} (h : pre <+: all) (h0 : 0 < pre.length) (h1 : ∀ y ∈ pre.dropLast, p y = true) (h2 : p (pre.getLastD 0) = false) : all.takeWhile p = pre.dropLast := by
  obtain ⟨q, rfl⟩ := h
  have e : pre = pre.dropLast ++ [pre.getLastD 0] := by
    have hne : pre ≠ [] := by intro e; rw [e] at h0; simp at h0
    rw [List.getLastD_eq_getLast?, List.getLast?_eq_some_getLast hne, Option.getD_some, List.dropLast_concat_getLast]
  have e2 : pre ++ q = pre.dropLast ++ (pre.getLastD 0 :: q) := by
    conv => lhs; rw [e]
    simp
  rw [e2]
  exact takeWhile_stop h1 h2

set_option maxRecDepth 100000 in
set_option maxHeartbeats 4000000 in
theorem place_in (n : Nat) (hn : 6 ≤ n) (w : World) (A : Option Addr) (c : Nat) (l : List Int) (off : Int) (hT : Text w A c l) :
    CallsIn Fence.wide n Tryd.prog 14 #[.slice A l.length c, .int .i64 off] w fun e W' => e = .returned (.tuple #[.int .i64 (plc l off).length, .int .i64 ((plc l off).getLastD 0 : Nat)]) ∧ Below w.heap.size w W' := by
  have h1 : 1 ≤ n := by omega
  refine callsIn_of_wp_marks Tryd.func14 rfl trivial ?_ rfl
  simp only [Tryd.ntmps14, List.size_toArray, List.length_cons, List.length_nil, Nat.reduceAdd, Nat.reduceSub, Array.replicate_succ, Array.replicate_zero, List.push_toArray, List.append_toArray, List.nil_append, List.cons_append]
  gi_wp2_with (refine ⟨trivial, ?_⟩; gi_at_call 19; refine (starts_in (n - 1) _ _ _ _).mono ?_; rintro e w' ⟨rfl, rfl⟩)
  have bO := (((Boxed.new w 3 (.int .i64 off)).alloc (.cells #[.int .i64 0] 3)).alloc (.cells #[.int .i64 0] 3)).alloc (.cells #[.slice A l.length c] 31)
  have bN := ((Boxed.new (w.alloc (.cells #[.int .i64 off] 3)) 3 (.int .i64 0)).alloc (.cells #[.int .i64 0] 3)).alloc (.cells #[.slice A l.length c] 31)
  have bS := (Boxed.new ((w.alloc (.cells #[.int .i64 off] 3)).alloc (.cells #[.int .i64 0] 3)) 3 (.int .i64 0)).alloc (.cells #[.slice A l.length c] 31)
  have bI := Boxed.new (((w.alloc (.cells #[.int .i64 off] 3)).alloc (.cells #[.int .i64 0] 3)).alloc (.cells #[.int .i64 0] 3)) 31 (.slice A l.length c)
  simp only [World.size_alloc] at bO bN bS bI
  have hB0 : Below w.heap.size w ((((w.alloc (.cells #[.int .i64 off] 3)).alloc (.cells #[.int .i64 0] 3)).alloc (.cells #[.int .i64 0] 3)).alloc (.cells #[.slice A l.length c] 31)) :=
    ((((Below.refl _ w).alloc (Nat.le_refl _) _).alloc (by simp) _).alloc (by simp; omega) _).alloc (by simp; omega) _
  have hsz : ((((w.alloc (.cells #[.int .i64 off] 3)).alloc (.cells #[.int .i64 0] 3)).alloc (.cells #[.int .i64 0] 3)).alloc (.cells #[.slice A l.length c] 31)).heap.size = w.heap.size + 4 := by simp
  obtain ⟨W0, hW0⟩ : ∃ W0, (((w.alloc (.cells #[.int .i64 off] 3)).alloc (.cells #[.int .i64 0] 3)).alloc (.cells #[.int .i64 0] 3)).alloc (.cells #[.slice A l.length c] 31) = W0 := ⟨_, rfl⟩
  rw [hW0] at bO bN bS bI hB0 hsz ⊢
  clear hW0
  have hsm := hT.small
  have hus := upS_size l l.length
  refine wpIn_rangeFunc_ownH rfl h1 (gf := 25) (lb := #[.pointer (some ⟨w.heap.size + 1 + 1 + 1, 0, none⟩)]) rfl trivial (enters_of Tryd.func25 (by kernel_rfl) rfl)
    (starts_stops (n - 1) (by omega) (w.heap.size + 1 + 1 + 1) w W0 A c l hT hB0 bI.cell (by omega)) kpB_t (kpB_b (by omega) (by omega)) (Below.refl _ _) (fun _ => rfl)
    (fun pre W => (((((∀ s ∈ pre, ((s : Nat) : Int) ≤ off) ∧ Boxed W (w.heap.size + 1) 3 (.int .i64 (pre.length : Int))) ∧ Boxed W (w.heap.size + 1 + 1) 3 (.int .i64 (pre.getLastD 0 : Nat))) ∧ Boxed W w.heap.size 3 (.int .i64 off)) ∧ Boxed W (w.heap.size + 1 + 1 + 1) 31 (.slice A l.length c)) ∧ Below w.heap.size w W)
    (fun c pre W => (((c = .exit 0 ∧ 0 < pre.length ∧ (∀ s ∈ pre.dropLast, ((s : Nat) : Int) ≤ off) ∧ ¬ ((pre.getLastD 0 : Nat) : Int) ≤ off) ∧ Boxed W (w.heap.size + 1) 3 (.int .i64 (pre.dropLast.length : Int))) ∧ Boxed W (w.heap.size + 1 + 1) 3 (.int .i64 (pre.dropLast.getLastD 0 : Nat))) ∧ Below w.heap.size w W)
    (OwnFrom.and (OwnFrom.and (OwnFrom.and (OwnFrom.and (OwnFrom.and (ownFrom_pure _ _) (Own.from (boxed_own _ _ (fun pre : List Nat => .int .i64 (pre.length : Int))) _)) (Own.from (boxed_own _ _ (fun pre : List Nat => .int .i64 (pre.getLastD 0 : Nat))) _)) (Own.from (boxed_own _ _ _) _)) (Own.from (boxed_own _ _ _) _)) (ownFrom_below (Nat.le_refl _) (by omega)))
    (fun c => OwnFrom.and (OwnFrom.and (OwnFrom.and (ownFrom_pure _ _) (Own.from (boxed_own _ _ (fun pre : List Nat => .int .i64 (pre.dropLast.length : Int))) _)) (Own.from (boxed_own _ _ (fun pre : List Nat => .int .i64 (pre.dropLast.getLastD 0 : Nat))) _)) (ownFrom_below (Nat.le_refl _) (by omega)))
    ⟨⟨⟨⟨⟨by simp, bN⟩, bS⟩, bO⟩, bI⟩, hB0⟩
    (fun x a' _ => a' = { tmps := #[Value.slice A l.length c, Value.int IntKind.i64 off, undef, Value.pointer (some ⟨w.heap.size, 0, none⟩), .int .i64 0, .int .i64 0, Value.pointer (some ⟨w.heap.size + 1, 0, none⟩), Value.pointer (some ⟨w.heap.size + 1 + 1, 0, none⟩), .int .i64 (x : Int),
          Value.slice A l.length c, Value.func (Fn.func 25) #[] #[Value.pointer (some ⟨w.heap.size + 1 + 1 + 1, 0, none⟩)], .int .i64 (x : Int), undef, undef, undef, undef, undef, undef, undef, undef], defers := [] })
    (fun _ _ _ _ _ _ hs _ _ => hs)
    ?assign ?body ?done ?stop
  case assign =>
    rintro l pre x W K hi hK
    gi_wp2
    exact hK _ _ (KeepsFrom.refl _ _) (KpB.refl _ _ _) hi rfl
  case body =>
    rintro lid pre x a' W hl _ ⟨⟨⟨⟨⟨hp, bN1⟩, bS1⟩, bO1⟩, bI1⟩, hB1⟩ rfl hlt
    have cO := bO1.cell
    have cN := bN1.cell
    have fN := bN1.frozen
    have ltS := bS1.lt
    have cS := (bS1.other (B' := w.heap.size + 1) (by omega) (.int .i64 ((pre.length : Int) + 1))).cell
    have fS := (bS1.other (B' := w.heap.size + 1) (by omega) (.int .i64 ((pre.length : Int) + 1))).frozen
    have hsW := hB1.size
    by_cases hx : (x : Int) ≤ off
    · gi_wp2
      exact ⟨((KeepsOthers.setCell _ _ _).trans (KeepsOthers.setCell _ _ _)).from _,
        KpB.of_boxed (((Below.refl _ W).setCell (p := ⟨w.heap.size + 1, 0, none⟩) (by simp) _).setCell (p := ⟨w.heap.size + 1 + 1, 0, none⟩) (by simp; omega) _) bI1 ((bI1.other (by omega) _).other (by omega) _),
        ⟨⟨⟨⟨fun s hs => (List.mem_append.1 hs).elim (hp s) (fun e => by simp at e; subst e; exact hx), by simpa using (bN1.set (.int .i64 ((pre.length : Int) + 1))).other (B' := w.heap.size + 1 + 1) (by omega) (.int .i64 (x : Int))⟩,
          by simpa using (bS1.other (B' := w.heap.size + 1) (by omega) (.int .i64 ((pre.length : Int) + 1))).set (.int .i64 (x : Int))⟩, (bO1.other (by omega) _).other (by omega) _⟩, (bI1.other (by omega) _).other (by omega) _⟩,
        (hB1.setCell (p := ⟨w.heap.size + 1, 0, none⟩) (by simp) _).setCell (p := ⟨w.heap.size + 1 + 1, 0, none⟩) (by simp; omega) _⟩
    · gi_wp2
      exact ⟨KeepsFrom.refl _ _, ⟨⟨⟨rfl, by simp, by simpa using hp, by simpa using hx⟩, by simpa using bN1⟩, by simpa using bS1⟩, hB1⟩
  case done =>
    rintro D zs W hD rfl ⟨⟨⟨⟨⟨hp, bN1⟩, bS1⟩, bO1⟩, _⟩, hB1⟩ hK
    have cN := bN1.cell
    have cS := bS1.cell
    have hr : plc l off = upS l l.length := takeWhile_all (fun s hs => by simpa using hp s hs)
    have HR := Lib.hid hr
    clear hr
    gi_wp2
    refine QR.wpIn_region_quiet_lit_nd (by rfl) (by kernel_rfl) (by kernel_rfl) ?_
    repeat (gi_big_quiet_step (fail))
    refine wpQuietIn_nil ?_
    rintro _ ⟨nq, rfl⟩
    gi_wp2
    refine ⟨by simp, .inl ⟨_, _, rfl, run_takeDeferred (show (W.drewN nq).heap[D]? = _ from hK), ?_⟩⟩
    exact ⟨.tuple #[.int .i64 ((upS l l.length).length : Int), .int .i64 ((upS l l.length).getLastD 0 : Nat)], by simp [results, Tryd.f14, go_sem], by rw [HR.out], (pw_below_drewN hB1 nq).trans (belowK_b (w := w) (Nat.le_refl _) _ D _ _ (by omega) (show (W.drewN nq).heap[D]? = _ from hK) rfl rfl)⟩
  case stop =>
    rintro D c pre W hD hpre ⟨⟨⟨⟨rfl, hpos, hp, hx⟩, bN1⟩, bS1⟩, hB1⟩ hK
    have cN := bN1.cell
    have cS := bS1.cell
    have hr : plc l off = pre.dropLast := takeWhile_prefix hpre hpos (fun s hs => by simpa using hp s hs) (by simpa using hx)
    have HR := Lib.hid hr
    clear hr
    gi_wp2
    refine QR.wpIn_region_quiet_lit_nd (by rfl) (by kernel_rfl) (by kernel_rfl) ?_
    repeat (gi_big_quiet_step (fail))
    refine wpQuietIn_nil ?_
    rintro _ ⟨nq, rfl⟩
    gi_wp2
    refine ⟨by simp, .inl ⟨_, _, rfl, run_takeDeferred (show (W.drewN nq).heap[D]? = _ from hK), ?_⟩⟩
    exact ⟨.tuple #[.int .i64 (pre.dropLast.length : Int), .int .i64 (pre.dropLast.getLastD 0 : Nat)], by simp [results, Tryd.f14, go_sem], by rw [HR.out], (pw_below_drewN hB1 nq).trans (belowK_b (w := w) (Nat.le_refl _) _ D _ _ (by omega) (show (W.drewN nq).heap[D]? = _ from hK) rfl rfl)⟩
end Go.Proofs.YtahfkfdjhpookaaDoor.Txt

namespace Go.Proofs.YtahfkfdjhpookaaDoor.PAll
open Go.RowKit Go.Proofs.YtahfkfdjhpookaaDoorW.PrintWords Go.Proofs.YtahfkfdjhpookaaDoorW.PrintLast Go.Proofs.YtahfkfdjhpookaaDoor.Txt
def impl_lines_place.f (l0 : List Int) (a1 : Int) : Option (Int × Int) := if okText l0 = true then some (((plc l0 a1).length : Int), ((plc l0 a1).getLastD 0 : Nat)) else none
theorem impl_lines_place.calls (A0 : Option Addr) (c0 : Nat) (l0 : List Int) (a1 : Int) (r1 : Int) (r2 : Int) (w : World) (hr0 : Kd.C (Kd.int .u8) w A0 l0.length l0) (hc0 : l0.length ≤ c0) (h : impl_lines_place.f l0 a1 = some (r1, r2)) :
    Calls Tryd.prog 14 #[.slice A0 l0.length c0, .int .i64 a1] w fun e w' => e = .returned (.tuple #[.int .i64 r1, .int .i64 r2]) ∧ Below w.heap.size w w' := by
  unfold impl_lines_place.f at h
  by_cases ht : okText l0 = true
  · rw [if_pos ht] at h
    obtain ⟨rfl, rfl⟩ := Prod.mk.inj (Option.some.inj h)
    exact callsIn_wide.1 (place_in 6 (Nat.le_refl _) w A0 c0 l0 a1 (Text.of hr0 hc0 ht))
  · rw [if_neg ht] at h
    cases h
end Go.Proofs.YtahfkfdjhpookaaDoor.PAll
