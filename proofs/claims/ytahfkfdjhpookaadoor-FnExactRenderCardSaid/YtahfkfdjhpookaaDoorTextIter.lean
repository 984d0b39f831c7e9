/- The two iterators over a text (its lines' beginnings; a line's characters): what they yield, for every loop body that keeps what lay before. No condition but that the text's numbers are bytes. -/
import Derived.RangeFuncNested
import Derived.RangeFuncBound
import Derived.RangeFuncCalls
import Derived.RangeFuncLeaves
import Derived.Shelf.Abstract
import Derived.Shelf.RegionOpen
import Derived.WalkKit
import Derived.OwnWalkIn
import Derived.TacticsInMore
import Derived.LoopNIn
import Derived.LoopIn
import Derived.Lib.Hide
import Derived.Test.YtahfkfdjhpookaaDoorTextChar
namespace Go.Proofs.YtahfkfdjhpookaaDoor.Txt
open Go.RowKit Go.Shelf Go.Proofs.YtahfkfdjhpookaaDoorW.PrintWords Go.Proofs.YtahfkfdjhpookaaDoorW.PrintLast
open Go.Proofs.YtahfkfdjhpookaaDoor.PAll
attribute [local go_sem] Oper.semAt_some

/-- The beginnings of lines, the first i bytes having been looked at. -/
def upS (l : List Int) (i : Nat) : List Nat := 0 :: ((List.range i).filter (fun (j : Nat) => rd l (j : Int) = 10)).map (· + 1)
theorem upS_zero (l : List Int) : upS l 0 = [0] := rfl
theorem upS_yes {l : List Int} {i : Nat} (h : rd l (i : Int) = 10) : upS l (i + 1) = upS l i ++ [i + 1] := by
  simp [upS, List.range_succ, List.filter_append, h]
theorem upS_no {l : List Int} {i : Nat} (h : ¬ rd l (i : Int) = 10) : upS l (i + 1) = upS l i := by
  simp [upS, List.range_succ, List.filter_append, h]
theorem upS_step (l : List Int) (i : Nat) : upS l i <+: upS l (i + 1) := by
  by_cases h : rd l (i : Int) = 10
  · rw [upS_yes h]; exact List.prefix_append _ _
  · rw [upS_no h]; exact List.prefix_refl _
theorem upS_le (l : List Int) {i j : Nat} (h : i ≤ j) : upS l i <+: upS l j := by
  induction j with
  | zero => obtain rfl : i = 0 := by omega
            exact List.prefix_refl _
  | succ j ih =>
    by_cases e : i = j + 1
    · subst e; exact List.prefix_refl _
    · exact (ih (by omega)).trans (upS_step l j)
theorem upS_lt {l : List Int} {i : Nat} (hi : i < l.length) (h : rd l (i : Int) = 10) : (upS l i).length < (upS l l.length).length := by
  have := (upS_le l (show i + 1 ≤ l.length by omega)).length_le
  rw [upS_yes h] at this
  simp at this ⊢
  omega
theorem upS_size (l : List Int) (i : Nat) : (upS l i).length ≤ i + 1 := by
  unfold upS
  simp only [List.length_cons, List.length_map]
  have := List.length_filter_le (fun (j : Nat) => decide (rd l (j : Int) = 10)) (List.range i)
  simp at this
  omega

/-- The offsets of the characters of a line, from a on. -/
def chF (l : List Int) : Nat → Nat → List Nat
  | 0, _ => []
  | f + 1, a => if a < l.length then a :: (if rd l (a : Int) = 10 then [] else chF l f (a + (chl l a).toNat)) else []
theorem chF_size (l : List Int) : ∀ f a, (chF l f a).length ≤ f
  | 0, _ => by simp [chF]
  | f + 1, a => by
    unfold chF
    split
    · split
      · simp
      · simp; exact chF_size l f _
    · simp
theorem chl_pos {l : List Int} {a : Nat} (h : a < l.length) : 1 ≤ chl l a ∧ (a : Int) + chl l a ≤ l.length := by
  unfold chl
  rw [if_neg (by omega)]
  split
  · rename_i h2; unfold R2 at h2; omega
  split
  · rename_i h2; unfold R3 at h2; omega
  split
  · rename_i h2; unfold R4 at h2; omega
  · omega

theorem grown_drewN (w : World) (n : Nat) (row : Option Nat) : w.grownBy (w.drewN n) row := ⟨rfl, rfl, rfl, Nat.le_refl _, fun _ _ _ => rfl⟩

/-- The text lies in the elder world. -/
structure Text (w : World) (A : Option Addr) (c : Nat) (l : List Int) : Prop where
  reads : Kd.C (Kd.int .u8) w A l.length l
  cap : l.length ≤ c
  byt : Byt l
  small : l.length < 281474976710657

theorem Text.below {w W : World} {A : Option Addr} {c : Nat} {l : List Int} (h : Text w A c l) (hb : Below w.heap.size w W) : Text W A c l := ⟨Kd.C_below h.reads hb, h.cap, h.byt, h.small⟩

/-- a byte of the text, in whatever world that keeps it -/
theorem Text.at {w : World} {A : Option Addr} {c : Nat} {l : List Int} (h : Text w A c l) {i : Nat} (hi : i < l.length) : ∃ ad, A = some ad ∧ w.cell? (ad.add i) = some (.int .u8 (rd l i)) := by
  obtain ⟨ad, e, hc⟩ := Kd.at_int h.reads (i : Int) (by omega) (by omega)
  exact ⟨ad, e, by simpa using hc⟩

/-- What a round must keep: what lay below n₀, and the box B that the iterator reads. -/
def KpB (n₀ B : Nat) (W W' : World) : Prop := Below n₀ W W' ∧ W'.heap[B]? = W.heap[B]?
theorem KpB.refl (n₀ B : Nat) (W : World) : KpB n₀ B W W := ⟨Below.refl _ _, rfl⟩
theorem KpB.cell {n₀ B : Nat} {W W' : World} (h : KpB n₀ B W W') : W'.cell? ⟨B, 0, none⟩ = W.cell? ⟨B, 0, none⟩ := by
  unfold World.cell?; simp only [h.2]
theorem kpB_t {n₀ B : Nat} {X Y Z : World} (h : KpB n₀ B X Y) (k : KpB n₀ B Y Z) : KpB n₀ B X Z := ⟨h.1.trans k.1, k.2.trans h.2⟩
theorem kpB_b {n₀ B : Nat} {w : World} (hn : n₀ ≤ w.heap.size) (hB : B < w.heap.size) (W : World) (l : Nat) (o o' : Obj) (hl : w.heap.size ≤ l) (h : W.heap[l]? = some o) (hc : o.isCells = false) (hw : o.isWalk = false) : KpB n₀ B W (W.putObj l o') :=
  ⟨belowK_b hn W l o o' hl h hc hw, World.putObj_heap_other (by omega)⟩
theorem KpB.of_boxed {n₀ B : Nat} {W W' : World} {t : TypeId} {v : Value} (hb : Below n₀ W W') (h : Boxed W B t v) (h' : Boxed W' B t v) : KpB n₀ B W W' := ⟨hb, Eq.trans h' (Eq.symm h)⟩

set_option maxRecDepth 100000 in
set_option maxHeartbeats 1000000 in
theorem starts1_in (n : Nat) (hn : 1 ≤ n) (lid Bn : Nat) (w0 : World) (A : Option Addr) (c : Nat) (l : List Int) (hT : Text w0 A c l) (J Jx : List Nat → World → Prop)
    (hY : ∀ pre (x : Nat) W, J pre W → pre.length < (upS l l.length).length → YieldAt Fence.wide (n - 1) Tryd.prog lid #[.int .i64 (x : Int)] W fun e W' =>
      (e = .returned (.bool true) ∧ J (pre ++ [x]) W' ∧ KpB w0.heap.size Bn W W') ∨ (e = .returned (.bool false) ∧ Jx (pre ++ [x]) W'))
    (W : World) (hB : Below w0.heap.size w0 W) (hBn : W.cell? ⟨Bn, 0, none⟩ = some (.slice A l.length c)) (h0 : J [] W) :
    CallsIn Fence.wide n Tryd.prog 25 #[.func (.yield lid) #[] #[], .pointer (some ⟨Bn, 0, none⟩)] W fun e W' => (∃ v, e = .returned v) ∧
      ((∃ ys, ys = upS l l.length ∧ J ys W') ∨ (∃ pre, pre <+: upS l l.length ∧ Jx pre W')) := by
  refine callsIn_of_wp Tryd.func25 rfl trivial ?_ rfl
  simp only [Tryd.ntmps25, List.size_toArray, List.length_cons, List.length_nil, Nat.reduceAdd, Nat.reduceSub, Array.replicate_succ, Array.replicate_zero, List.push_toArray, List.append_toArray, List.nil_append, List.cons_append]
  obtain ⟨fn, tmps, assign, body, hy, hR⟩ := hY [] 0 W h0 (by simp [upS])
  rw [show (((0 : Nat) : Int)) = 0 from rfl] at hy
  gi_wp2
  refine hR.mono ?_
  rintro e W3 (⟨rfl, hJ3, hk3⟩ | ⟨rfl, hJx3⟩)
  · have hB3 := hB.trans hk3.1
    have hb3 : W3.cell? ⟨Bn, 0, none⟩ = some (.slice A l.length c) := hk3.cell.trans hBn
    gi_wp2
    gi_loopw [10] (fun i wr => ∃ k : Nat, k ≤ l.length ∧ i = .int .i64 k ∧ J (upS l k) wr ∧ Below w0.heap.size w0 wr)
      (fun i _ => l.length - (intOf i).toNat)
    case atStart => exact ⟨0, Nat.zero_le _, rfl, hJ3, hB3⟩
    case round =>
      obtain ⟨k, hk, rfl, hJk, hBw⟩ := hrel
      have hsm := hT.small
      clear hB3 hb3 hk3 hJ3 hB hBn h0 hy hR
      by_cases hlt : k < l.length
      · obtain ⟨ad, rfl, hc⟩ := (hT.below hBw).at hlt
        by_cases h10 : rd l (k : Int) = 10
        · obtain ⟨fn', tmps', assign', body', hy', hR'⟩ := hY (upS l k) (k + 1) _ hJk (upS_lt hlt h10)
          rw [show (((k + 1 : Nat) : Int)) = (k : Int) + 1 from rfl] at hy'
          rw [← upS_yes h10] at hR'
          have H10 : (rd l (k : Int) == 10) = true := by simp [h10]
          clear h10
          gi_wp2
          refine hR'.mono ?_
          rintro e W5 (⟨rfl, hJ5, hk5⟩ | ⟨rfl, hJx5⟩)
          · gi_wp2
            go_roundw
            case rel => exact ⟨k + 1, by omega, by go_num, hJ5, hBw.trans hk5.1⟩
            case measure => simp [intOf]; omega
          · gi_wp2
            refine bodyPost_ret (results_none rfl _ _ _) rfl ?_
            exact ⟨⟨_, rfl⟩, .inr ⟨_, upS_le l (by omega), hJx5⟩⟩
        · have H10 : (rd l (k : Int) == 10) = false := by simp [h10]
          rw [← upS_no h10] at hJk
          clear h10
          gi_wp2
          refine ⟨fun _ h => (by cases h), ?_⟩
          gi_wp2
          go_roundw
          case rel => exact ⟨k + 1, by omega, by go_num, hJk, hBw⟩
          case measure => simp [intOf]; omega
      · gi_wp2
        go_end0
        exact ⟨⟨_, rfl⟩, .inl ⟨_, rfl, by rw [show l.length = k by omega]; exact hJk⟩⟩
  · gi_wp2
    refine bodyPost_ret (results_none rfl _ _ _) rfl ?_
    exact ⟨⟨_, rfl⟩, .inr ⟨_, upS_le l (Nat.zero_le _), hJx3⟩⟩

/-- t.starts(): the receiver is boxed; the function value captures the box. -/
theorem starts_in (n : Nat) (A : Option Addr) (m c : Nat) (w : World) :
    CallsIn Fence.wide n Tryd.prog 19 #[.slice A m c] w fun e w' =>
      e = .returned (.func (.func 25) #[] #[.pointer (some ⟨w.heap.size, 0, none⟩)]) ∧ w' = w.alloc (.cells #[.slice A m c] 31) := by
  refine callsIn_of_wp Tryd.func19 rfl trivial ?_ rfl
  simp only [Tryd.ntmps19, List.size_toArray, List.length_cons, List.length_nil, Nat.reduceAdd, Nat.reduceSub, Array.replicate_succ, Array.replicate_zero, List.push_toArray, List.append_toArray, List.nil_append, List.cons_append]
  gi_wp2
  go_ret
  exact ⟨rfl, rfl⟩

theorem chars_in (n : Nat) (A : Option Addr) (m c : Nat) (s : Int) (w : World) :
    CallsIn Fence.wide n Tryd.prog 18 #[.slice A m c, .int .i64 s] w fun e w' =>
      e = .returned (.func (.func 23) #[] #[.pointer (some ⟨w.heap.size + 1, 0, none⟩), .pointer (some ⟨w.heap.size, 0, none⟩)]) ∧ w' = (w.alloc (.cells #[.slice A m c] 31)).alloc (.cells #[.int .i64 s] 3) := by
  refine callsIn_of_wp Tryd.func18 rfl trivial ?_ rfl
  simp only [Tryd.ntmps18, List.size_toArray, List.length_cons, List.length_nil, Nat.reduceAdd, Nat.reduceSub, Array.replicate_succ, Array.replicate_zero, List.push_toArray, List.append_toArray, List.nil_append, List.cons_append]
  gi_wp2
  go_ret
  exact ⟨rfl, rfl⟩

theorem starts_stops (n : Nat) (hn : 1 ≤ n) (Bn : Nat) (w0 w : World) (A : Option Addr) (c : Nat) (l : List Int) (hT : Text w0 A c l) (hB : Below w0.heap.size w0 w) (hBn : w.cell? ⟨Bn, 0, none⟩ = some (.slice A l.length c)) (hlt : Bn < w.heap.size) :
    SeqStopsK Fence.wide n Tryd.prog 25 #[.pointer (some ⟨Bn, 0, none⟩)] (fun x : Nat => #[Value.int .i64 (x : Int)]) (KpB w0.heap.size Bn) (fun ys => ys = upS l l.length) (fun pre => pre <+: upS l l.length) (upS l l.length).length w := fun lid J Jx W hW _ _ hY h0 =>
  starts1_in n hn lid Bn w0 A c l hT J Jx hY W (hB.trans (hW.mono hB.size)) ((hW.cell (p := ⟨Bn, 0, none⟩) hlt).trans hBn) h0

set_option maxRecDepth 100000 in
set_option maxHeartbeats 1000000 in
theorem chars1_in (n : Nat) (hn : 1 ≤ n) (lid Bs Bn : Nat) (w0 : World) (A : Option Addr) (c : Nat) (l : List Int) (s : Nat) (hT : Text w0 A c l) (J Jx : List Nat → World → Prop)
    (hY : ∀ pre (x : Nat) W, J pre W → pre.length < (chF l (l.length + 1) s).length → YieldAt Fence.wide (n - 1) Tryd.prog lid #[.int .i64 (x : Int)] W fun e W' =>
      (e = .returned (.bool true) ∧ J (pre ++ [x]) W' ∧ KpB w0.heap.size Bn W W') ∨ (e = .returned (.bool false) ∧ Jx (pre ++ [x]) W'))
    (W : World) (hJ : ∀ s W nd, J s W → J s (World.drewN W nd)) (hB : Below w0.heap.size w0 W) (hBs : W.cell? ⟨Bs, 0, none⟩ = some (.int .i64 (s : Int))) (hBn : W.cell? ⟨Bn, 0, none⟩ = some (.slice A l.length c)) (h0 : J [] W) :
    CallsIn Fence.wide n Tryd.prog 23 #[.func (.yield lid) #[] #[], .pointer (some ⟨Bs, 0, none⟩), .pointer (some ⟨Bn, 0, none⟩)] W fun e W' => (∃ v, e = .returned v) ∧
      ((∃ ys, ys = chF l (l.length + 1) s ∧ J ys W') ∨ (∃ pre, pre <+: chF l (l.length + 1) s ∧ Jx pre W')) := by
  refine callsIn_of_wp Tryd.func23 rfl trivial ?_ rfl
  simp only [Tryd.ntmps23, List.size_toArray, List.length_cons, List.length_nil, Nat.reduceAdd, Nat.reduceSub, Array.replicate_succ, Array.replicate_zero, List.push_toArray, List.append_toArray, List.nil_append, List.cons_append]
  gi_wp2
  gi_loopw [4] (fun i wr => ∃ (a f : Nat) (pre : List Nat), i = .int .i64 a ∧ chF l (l.length + 1) s = pre ++ chF l f a ∧ l.length < a + f ∧ J pre wr ∧ wr.cell? ⟨Bn, 0, none⟩ = some (.slice A l.length c) ∧ Below w0.heap.size w0 wr)
    (fun i _ => l.length - (intOf i).toNat)
  case atStart => exact ⟨s, l.length + 1, [], rfl, rfl, by omega, h0, hBn, hB⟩
  case round =>
    obtain ⟨a, f, pre, rfl, hX, hf, hJk, hbn, hBw⟩ := hrel
    have HX := Lib.hid hX
    clear hX
    have hsm := hT.small
    clear hB hBs hBn h0
    by_cases hlt : a < l.length
    · obtain ⟨f, rfl⟩ : ∃ g, f = g + 1 := ⟨f - 1, by omega⟩
      have hp := chl_pos hlt
      obtain ⟨fn, tmps, assign, body, hy, hR⟩ := hY pre a _ hJk (by rw [HX.out, chF, if_pos hlt]; simp)
      gi_wp2
      refine hR.mono ?_
      rintro e W5 (⟨rfl, hJ5, hk5⟩ | ⟨rfl, hJx5⟩)
      · have hb5 : W5.cell? ⟨Bn, 0, none⟩ = some (.slice A l.length c) := hk5.cell.trans hbn
        have hB5 := hBw.trans hk5.1
        have hT5 := hT.below hB5
        obtain ⟨ad, rfl, hc⟩ := hT5.at hlt
        clear hy hR hJk hbn
        by_cases h10 : rd l (a : Int) = 10
        · have H10 : (rd l (a : Int) == 10) = true := by simp [h10]
          have hE : Hid (chF l (l.length + 1) s = pre ++ [a]) := Lib.hid (by rw [HX.out, chF, if_pos hlt, if_pos h10])
          clear h10
          gi_wp2
          refine bodyPost_ret (results_none rfl _ _ _) rfl ?_
          exact ⟨⟨_, rfl⟩, .inl ⟨_, rfl, by rw [hE.out]; exact hJ5⟩⟩
        · have H10 : (rd l (a : Int) == 10) = false := by simp [h10]
          have hE : Hid (chF l (l.length + 1) s = pre ++ [a] ++ chF l f (a + (chl l (a : Int)).toNat)) := Lib.hid (by rw [HX.out, chF, if_pos hlt, if_neg h10]; simp)
          clear h10
          have hcl := impl_CharLen.calls 20 (some ad) c l (a : Int) (chl l (a : Int)) W5 hT5.reads hT5.cap (impl_charlen hT5.byt hT5.small _ 0)
          gi_wp2_with (refine ⟨trivial, ?_⟩; gi_at_call 24; refine (callsIn_wide.2 hcl).mono ?_; rintro e w' ⟨rfl, ⟨nd, rfl⟩⟩)
          go_roundw
          case rel => exact ⟨a + (chl l (a : Int)).toNat, f, pre ++ [a], by rw [show ((a + (chl l (a : Int)).toNat : Nat) : Int) = (a : Int) + chl l (a : Int) by omega], hE.out, by omega, hJ _ _ _ hJ5, by rw [show (W5.drewN nd).cell? ⟨Bn, 0, none⟩ = W5.cell? ⟨Bn, 0, none⟩ from rfl]; exact hb5, pw_below_drewN hB5 nd⟩
          case measure => simp [intOf]; omega
      · gi_wp2
        refine bodyPost_ret (results_none rfl _ _ _) rfl ?_
        exact ⟨⟨_, rfl⟩, .inr ⟨_, by rw [HX.out, chF, if_pos hlt]; exact ⟨_, by simp; rfl⟩, hJx5⟩⟩
    · gi_wp2
      go_end0
      have hE : chF l f a = [] := by
        cases f with
        | zero => rfl
        | succ f => rw [chF, if_neg hlt]
      exact ⟨⟨_, rfl⟩, .inl ⟨_, rfl, by rw [HX.out, hE, List.append_nil]; exact hJk⟩⟩

theorem chars_stops (n : Nat) (hn : 1 ≤ n) (Bs Bn : Nat) (w0 w : World) (A : Option Addr) (c : Nat) (l : List Int) (s : Nat) (hT : Text w0 A c l) (hB : Below w0.heap.size w0 w) (hBn : w.cell? ⟨Bn, 0, none⟩ = some (.slice A l.length c)) (hlt : Bn < w.heap.size)
    (hBs : w.cell? ⟨Bs, 0, none⟩ = some (.int .i64 (s : Int))) (hls : Bs < w.heap.size) :
    SeqStopsK Fence.wide n Tryd.prog 23 #[.pointer (some ⟨Bs, 0, none⟩), .pointer (some ⟨Bn, 0, none⟩)] (fun x : Nat => #[Value.int .i64 (x : Int)]) (KpB w0.heap.size Bn) (fun ys => ys = chF l (l.length + 1) s) (fun pre => pre <+: chF l (l.length + 1) s) (chF l (l.length + 1) s).length w := fun lid J Jx W hW hJ _ hY h0 =>
  chars1_in n hn lid Bs Bn w0 A c l s hT J Jx hY W (fun s W nd hs => hJ s _ _ none hs (grown_drewN _ _ _) (fun r e => by cases e)) (hB.trans (hW.mono hB.size)) ((hW.cell (p := ⟨Bs, 0, none⟩) hls).trans hBs) ((hW.cell (p := ⟨Bn, 0, none⟩) hlt).trans hBn) h0

end Go.Proofs.YtahfkfdjhpookaaDoor.Txt
