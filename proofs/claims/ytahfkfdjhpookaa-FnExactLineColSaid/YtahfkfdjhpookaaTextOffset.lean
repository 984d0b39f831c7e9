/- OffsetOf of the program: what it answers, as a plain function of the text, the line and the column. -/
import Derived.Test.YtahfkfdjhpookaaTextIter
import Derived.Test.YtahfkfdjhpookaaQuietRound
import Derived.Test.YtahfkfdjhpookaaPAllx4
namespace Go.Proofs.Ytahfkfdjhpookaa.Txt
open Go.RowKit Go.Shelf Go.BigFrame Go.Proofs.YtahfkfdjhpookaaW.PrintWords Go.Proofs.YtahfkfdjhpookaaW.PrintLast
open Go.Proofs.Ytahfkfdjhpookaa.PAll
attribute [local go_sem] Oper.semAt_some

/-- where a line ends: its newline, or the text's end -/
def enF (l : List Int) : Nat → Nat → Nat
  | 0, _ => l.length
  | f + 1, a => if a < l.length then (if rd l (a : Int) = 10 then a else enF l f (a + 1)) else l.length
def endOf (l : List Int) (s : Nat) : Nat := enF l (l.length + 1) s

theorem end_l0 (l : List Int) (hm : l.length < 281474976710657) : ∀ (f k a : Nat), l.length < a + f → f < k → impl_lines_end.l0 k l (a : Int) = some (enF l f a : Int)
  | _, 0, _, _, h => by omega
  | 0, k + 1, a, h, _ => by rw [impl_lines_end.l0, if_neg (by omega), enF]
  | f + 1, k + 1, a, h, hk => by
    rw [impl_lines_end.l0, enF]
    by_cases c : a < l.length
    · rw [if_pos (by omega), if_pos (by omega), if_pos c]
      by_cases d : rd l (a : Int) = 10
      · rw [if_pos d, if_pos d]
      · rw [if_neg d, if_neg d, wid (x := (a : Int) + 1) (by omega) (by omega)]
        exact end_l0 l hm f k (a + 1) (by omega) (by omega)
    · rw [if_neg (by omega), if_neg c]

theorem end_f (l : List Int) (hm : l.length < 281474976710657) (s : Nat) : impl_lines_end.f (l.length + 2) l (s : Int) = some (endOf l s : Int) :=
  end_l0 l hm (l.length + 1) (l.length + 2) s (by omega) (by omega)

theorem Text.drewN {w : World} {A : Option Addr} {c : Nat} {l : List Int} (h : Text w A c l) (n : Nat) : Text (w.drewN n) A c l := h.below (pw_below_drewN (Below.refl _ _) n)

theorem end_calls {w : World} {A : Option Addr} {c : Nat} {l : List Int} (hT : Text w A c l) (s : Nat) :
    Calls Try.prog 70 #[.slice A l.length c, .int .i64 (s : Int)] w fun e w' => e = .returned (.int .i64 (endOf l s : Int)) ∧ Drawn0 w w' :=
  impl_lines_end.calls _ A c l (s : Int) _ w hT.reads hT.cap (end_f l hT.small s)

theorem quiet_of_drawn {F : Fence} {n : Nat} {P : Program} {f : FuncId} {args : Array Value} {w : World} {k : Nat} {v : Value} (h : CallsIn F n P f args (w.drewN k) fun e w' => e = .returned v ∧ Drawn0 (w.drewN k) w') :
    CallsIn F n P f args (w.drewN k) fun e w'' => e = .returned v ∧ ∃ m, w'' = w.drewN m :=
  h.mono fun e w' ⟨he, ⟨hd⟩⟩ => ⟨he, by obtain ⟨m, rfl⟩ := hd; exact ⟨k + m, World.drewN_drewN ..⟩⟩

/-- the offset of a column in the line that begins at s -/
def offIn (l : List Int) (s : Nat) (col : Int) : Int :=
  if 1 ≤ col ∧ col ≤ (chF l (l.length + 1) s).length then ((chF l (l.length + 1) s).getD (col - 1).toNat 0 : Nat) else if endOf l s = l.length ∧ ((chF l (l.length + 1) s).length : Int) + 1 = col then (l.length : Int) else -1
/-- the offset of a line and a column -/
def offOf (l : List Int) (line col : Int) : Int :=
  if 1 ≤ line ∧ line ≤ (upS l l.length).length then offIn l ((upS l l.length).getD (line - 1).toNat 0) col else -1

/-- the last of what has come, behind a prefix of all -/
theorem last_of_prefix {pre all : List Nat} (h : pre <+: all) (hp : 0 < pre.length) : all.getD (pre.length - 1) 0 = pre.getLastD 0 := by
  obtain ⟨q, rfl⟩ := h
  cases pre with
  | nil => simp at hp
  | cons x xs =>
    rw [List.getD_eq_getElem?_getD, List.getElem?_append_left (by simp)]
    simp [List.getLastD_eq_getLast?, List.getLast?_eq_getElem?]

set_option maxRecDepth 100000 in
set_option maxHeartbeats 4000000 in
theorem offset_in (n : Nat) (hn : 6 ≤ n) (w : World) (A : Option Addr) (c : Nat) (l : List Int) (line col : Int) (hT : Text w A c l) :
    CallsIn Fence.wide n Try.prog 21 #[.slice A l.length c, .int .i64 line, .int .i64 col] w fun e W' => e = .returned (.int .i64 (offOf l line col)) ∧ Below w.heap.size w W' := by
  have h1 : 1 ≤ n := by omega
  refine callsIn_of_wp_marks Try.func21 rfl trivial ?_ rfl
  simp only [Try.ntmps21, List.size_toArray, List.length_cons, List.length_nil, Nat.reduceAdd, Nat.reduceSub, Array.replicate_succ, Array.replicate_zero, List.push_toArray, List.append_toArray, List.nil_append, List.cons_append]
  gi_wp2_with (refine ⟨trivial, ?_⟩; gi_at_call 68; refine (starts_in (n - 1) _ _ _ _).mono ?_; rintro e w' ⟨rfl, rfl⟩)
  have bL := (((((Boxed.new w 3 (.int .i64 line)).alloc (.cells #[.int .i64 col] 3)).alloc (.cells #[.int .i64 0] 3)).alloc (.cells #[.slice A l.length c] 84)).alloc (.cells #[.int .i64 0] 3)).alloc (.cells #[.slice A l.length c] 84)
  have bC := ((((Boxed.new (w.alloc (.cells #[.int .i64 line] 3)) 3 (.int .i64 col)).alloc (.cells #[.int .i64 0] 3)).alloc (.cells #[.slice A l.length c] 84)).alloc (.cells #[.int .i64 0] 3)).alloc (.cells #[.slice A l.length c] 84)
  have bR := (((Boxed.new ((w.alloc (.cells #[.int .i64 line] 3)).alloc (.cells #[.int .i64 col] 3)) 3 (.int .i64 0)).alloc (.cells #[.slice A l.length c] 84)).alloc (.cells #[.int .i64 0] 3)).alloc (.cells #[.slice A l.length c] 84)
  have bT := ((Boxed.new (((w.alloc (.cells #[.int .i64 line] 3)).alloc (.cells #[.int .i64 col] 3)).alloc (.cells #[.int .i64 0] 3)) 84 (.slice A l.length c)).alloc (.cells #[.int .i64 0] 3)).alloc (.cells #[.slice A l.length c] 84)
  have bN := (Boxed.new ((((w.alloc (.cells #[.int .i64 line] 3)).alloc (.cells #[.int .i64 col] 3)).alloc (.cells #[.int .i64 0] 3)).alloc (.cells #[.slice A l.length c] 84)) 3 (.int .i64 0)).alloc (.cells #[.slice A l.length c] 84)
  have bI := Boxed.new (((((w.alloc (.cells #[.int .i64 line] 3)).alloc (.cells #[.int .i64 col] 3)).alloc (.cells #[.int .i64 0] 3)).alloc (.cells #[.slice A l.length c] 84)).alloc (.cells #[.int .i64 0] 3)) 84 (.slice A l.length c)
  simp only [World.size_alloc] at bL bC bR bT bN bI
  have hB0 : Below w.heap.size w ((((((w.alloc (.cells #[.int .i64 line] 3)).alloc (.cells #[.int .i64 col] 3)).alloc (.cells #[.int .i64 0] 3)).alloc (.cells #[.slice A l.length c] 84)).alloc (.cells #[.int .i64 0] 3)).alloc (.cells #[.slice A l.length c] 84)) :=
    ((((((Below.refl _ w).alloc (Nat.le_refl _) _).alloc (by simp) _).alloc (by simp; omega) _).alloc (by simp; omega) _).alloc (by simp; omega) _).alloc (by simp; omega) _
  have hsz : ((((((w.alloc (.cells #[.int .i64 line] 3)).alloc (.cells #[.int .i64 col] 3)).alloc (.cells #[.int .i64 0] 3)).alloc (.cells #[.slice A l.length c] 84)).alloc (.cells #[.int .i64 0] 3)).alloc (.cells #[.slice A l.length c] 84)).heap.size = w.heap.size + 6 := by simp
  obtain ⟨W0, hW0⟩ : ∃ W0, (((((w.alloc (.cells #[.int .i64 line] 3)).alloc (.cells #[.int .i64 col] 3)).alloc (.cells #[.int .i64 0] 3)).alloc (.cells #[.slice A l.length c] 84)).alloc (.cells #[.int .i64 0] 3)).alloc (.cells #[.slice A l.length c] 84) = W0 := ⟨_, rfl⟩
  rw [hW0] at bL bC bR bT bN bI hB0 hsz ⊢
  clear hW0
  have hsm := hT.small
  refine wpIn_rangeFunc_ownH rfl h1 (gf := 132) (lb := #[.pointer (some ⟨w.heap.size + 1 + 1 + 1 + 1 + 1, 0, none⟩)]) rfl trivial (enters_of Try.func132 (by kernel_rfl) rfl)
    (starts_stops (n - 1) (by omega) (w.heap.size + 1 + 1 + 1 + 1 + 1) w W0 A c l hT hB0 bI.cell (by omega)) kpB_t (kpB_b (by omega) (by omega)) (Below.refl _ _) (fun _ => rfl)
    (fun pre W => (((((((¬ (1 ≤ line ∧ line ≤ pre.length) ∧ pre.length ≤ l.length + 1) ∧ Boxed W (w.heap.size + 1 + 1 + 1 + 1) 3 (.int .i64 (pre.length : Int))) ∧ Boxed W (w.heap.size + 1 + 1) 3 (.int .i64 0)) ∧ Boxed W (w.heap.size + 1 + 1 + 1) 84 (.slice A l.length c)) ∧ Boxed W w.heap.size 3 (.int .i64 line)) ∧ Boxed W (w.heap.size + 1) 3 (.int .i64 col)) ∧ Boxed W (w.heap.size + 1 + 1 + 1 + 1 + 1) 84 (.slice A l.length c)) ∧ Below w.heap.size w W)
    (fun c pre W => ((c = .ret ∧ 0 < pre.length ∧ line = pre.length) ∧ Boxed W (w.heap.size + 1 + 1) 3 (.int .i64 (offIn l (pre.getLastD 0) col))) ∧ Below w.heap.size w W)
    (OwnFrom.and (OwnFrom.and (OwnFrom.and (OwnFrom.and (OwnFrom.and (OwnFrom.and (OwnFrom.and (ownFrom_pure _ _) (Own.from (boxed_own _ _ (fun pre : List Nat => .int .i64 (pre.length : Int))) _)) (Own.from (boxed_own _ _ _) _)) (Own.from (boxed_own _ _ _) _)) (Own.from (boxed_own _ _ _) _)) (Own.from (boxed_own _ _ _) _)) (Own.from (boxed_own _ _ _) _)) (ownFrom_below (Nat.le_refl _) (by omega)))
    (fun c => OwnFrom.and (OwnFrom.and (ownFrom_pure _ _) (Own.from (boxed_own _ _ (fun pre : List Nat => .int .i64 (offIn l (pre.getLastD 0) col))) _)) (ownFrom_below (Nat.le_refl _) (by omega)))
    ⟨⟨⟨⟨⟨⟨⟨⟨by simp; omega, by simp⟩, bN⟩, bR⟩, bT⟩, bL⟩, bC⟩, bI⟩, hB0⟩
    (fun x a' _ => a' = { tmps := #[Value.slice A l.length c, Value.int IntKind.i64 line, Value.int IntKind.i64 col, undef,
          Value.pointer (some ⟨w.heap.size, 0, none⟩), Value.pointer (some ⟨w.heap.size + 1, 0, none⟩), Value.pointer (some ⟨w.heap.size + 1 + 1, 0, none⟩), Value.pointer (some ⟨w.heap.size + 1 + 1 + 1, 0, none⟩), Value.pointer (some ⟨w.heap.size + 1 + 1 + 1 + 1, 0, none⟩), .int .i64 (x : Int), undef, undef,
          Value.slice A l.length c, Value.slice A l.length c, Value.func (Fn.func 132) #[] #[Value.pointer (some ⟨w.heap.size + 1 + 1 + 1 + 1 + 1, 0, none⟩)], .int .i64 (x : Int),
          undef, undef, undef, undef, undef, undef, undef, undef, undef, undef, undef, undef, undef, undef, undef, undef, undef, undef, undef, undef, undef, undef, undef, undef, undef, undef, undef, undef, undef], defers := [] })
    (fun _ _ _ _ _ _ hs _ _ => hs)
    ?assign ?body ?done ?stop
  case assign =>
    rintro l pre x W K hi hK
    gi_wp2
    exact hK _ _ (KeepsFrom.refl _ _) (KpB.refl _ _ _) hi rfl
  case body =>
    rintro lid pre x a' W hl ⟨r, hr⟩ ⟨⟨⟨⟨⟨⟨⟨⟨hp, hp2⟩, bN1⟩, bR1⟩, bT1⟩, bL1⟩, bC1⟩, bI1⟩, hB1⟩ rfl hlt
    have cN := bN1.cell
    have fN := bN1.frozen
    have cL := bL1.cell
    have cT := bT1.cell
    have hsW := hB1.size
    have ltN := bN1.lt
    have hus := upS_size l l.length
    have h1' : 1 ≤ n - 1 - 1 := by omega
    by_cases hline : (pre.length : Int) + 1 = line
    · have Hne : ((pre.length : Int) + 1 != line) = false := by simp [hline]
      have HL := Lib.hid hline
      clear hline
      have bT2 := (bT1.other (B' := w.heap.size + 1 + 1 + 1 + 1) (by omega) (.int .i64 ((pre.length : Int) + 1))).alloc (.cells #[.int .i64 0] 3)
      have cT2 := bT2.cell
      gi_wp2_with (refine ⟨trivial, ?_⟩; gi_at_call 69; refine (CallsIn.inRound lid (chars_in (n - 1 - 1 - 1) _ _ _ _ _)).mono ?_; rintro e w' ⟨rfl, rfl⟩)
      have bC2 := (((bC1.other (B' := w.heap.size + 1 + 1 + 1 + 1) (by omega) (.int .i64 ((pre.length : Int) + 1))).alloc (.cells #[.int .i64 0] 3)).alloc (.cells #[.slice A l.length c] 84)).alloc (.cells #[.int .i64 (x : Int)] 3)
      have bR2 := (((bR1.other (B' := w.heap.size + 1 + 1 + 1 + 1) (by omega) (.int .i64 ((pre.length : Int) + 1))).alloc (.cells #[.int .i64 0] 3)).alloc (.cells #[.slice A l.length c] 84)).alloc (.cells #[.int .i64 (x : Int)] 3)
      have bT3 := (bT2.alloc (.cells #[.slice A l.length c] 84)).alloc (.cells #[.int .i64 (x : Int)] 3)
      have bc := ((Boxed.new (W.setCell ⟨w.heap.size + 1 + 1 + 1 + 1, 0, none⟩ (.int .i64 ((pre.length : Int) + 1))) 3 (.int .i64 0)).alloc (.cells #[.slice A l.length c] 84)).alloc (.cells #[.int .i64 (x : Int)] 3)
      have bt := (Boxed.new ((W.setCell ⟨w.heap.size + 1 + 1 + 1 + 1, 0, none⟩ (.int .i64 ((pre.length : Int) + 1))).alloc (.cells #[.int .i64 0] 3)) 84 (.slice A l.length c)).alloc (.cells #[.int .i64 (x : Int)] 3)
      have bs := Boxed.new (((W.setCell ⟨w.heap.size + 1 + 1 + 1 + 1, 0, none⟩ (.int .i64 ((pre.length : Int) + 1))).alloc (.cells #[.int .i64 0] 3)).alloc (.cells #[.slice A l.length c] 84)) 3 (.int .i64 (x : Int))
      have hB2 : Below w.heap.size W ((((W.setCell ⟨w.heap.size + 1 + 1 + 1 + 1, 0, none⟩ (.int .i64 ((pre.length : Int) + 1))).alloc (.cells #[.int .i64 0] 3)).alloc (.cells #[.slice A l.length c] 84)).alloc (.cells #[.int .i64 (x : Int)] 3)) :=
        ((((Below.refl _ W).setCell (p := ⟨w.heap.size + 1 + 1 + 1 + 1, 0, none⟩) (by simp; omega) _).alloc (by simp; omega) _).alloc (by simp; omega) _).alloc (by simp; omega) _
      have hK2 : KeepsFrom W0.heap.size W ((((W.setCell ⟨w.heap.size + 1 + 1 + 1 + 1, 0, none⟩ (.int .i64 ((pre.length : Int) + 1))).alloc (.cells #[.int .i64 0] 3)).alloc (.cells #[.slice A l.length c] 84)).alloc (.cells #[.int .i64 (x : Int)] 3)) :=
        ((((KeepsOthers.setCell _ _ _).trans (KeepsOthers.alloc _ _)).trans (KeepsOthers.alloc _ _)).trans (KeepsOthers.alloc _ _)).from _
      simp only [World.size_alloc, World.size_setCell] at bc bt bs
      have hs2 : ((((W.setCell ⟨w.heap.size + 1 + 1 + 1 + 1, 0, none⟩ (.int .i64 ((pre.length : Int) + 1))).alloc (.cells #[.int .i64 0] 3)).alloc (.cells #[.slice A l.length c] 84)).alloc (.cells #[.int .i64 (x : Int)] 3)).heap.size = W.heap.size + 3 := by simp
      have hr2 := hK2.same lid _ hl hr rfl
      clear bT2 cT2
      obtain ⟨W1, hW1⟩ : ∃ W1, ((((W.setCell ⟨w.heap.size + 1 + 1 + 1 + 1, 0, none⟩ (.int .i64 ((pre.length : Int) + 1))).alloc (.cells #[.int .i64 0] 3)).alloc (.cells #[.slice A l.length c] 84)).alloc (.cells #[.int .i64 (x : Int)] 3)) = W1 := ⟨_, rfl⟩
      rw [hW1] at bC2 bR2 bT3 bc bt bs hB2 hK2 hs2 hr2 ⊢
      clear hW1
      have hlx := chF_size l (l.length + 1) x
      refine wpIn_rangeFunc_ownN (l₀ := lid) (r₀ := r) rfl hr2 h1' (gf := 133) (lb := #[.pointer (some ⟨W.heap.size + 1 + 1, 0, none⟩), .pointer (some ⟨W.heap.size + 1, 0, none⟩)]) rfl trivial (enters_of Try.func133 (by kernel_rfl) rfl)
        ((chars_stops (n - 1 - 1 - 1) (by omega) (W.heap.size + 1 + 1) (W.heap.size + 1) w W1 A c l x hT (hB1.trans hB2) bt.cell (by omega) bs.cell (by omega)).inRound lid) kpB_t (kpB_b (by omega) (by omega)) (Below.refl _ _) (fun _ => rfl)
        (fun pre' W' => (((((((¬ (1 ≤ col ∧ col ≤ pre'.length) ∧ pre'.length ≤ l.length + 1) ∧ Boxed W' W.heap.size 3 (.int .i64 (pre'.length : Int))) ∧ Boxed W' (w.heap.size + 1 + 1) 3 (.int .i64 0)) ∧ Boxed W' (w.heap.size + 1) 3 (.int .i64 col)) ∧ Boxed W' (w.heap.size + 1 + 1 + 1) 84 (.slice A l.length c)) ∧ Boxed W' (W.heap.size + 1) 84 (.slice A l.length c)) ∧ (Below w.heap.size W W' ∧ KeepsFrom W0.heap.size W W')))
        (fun c pre' W' => ((c = .ret ∧ 0 < pre'.length ∧ col = pre'.length) ∧ Boxed W' (w.heap.size + 1 + 1) 3 (.int .i64 (pre'.getLastD 0 : Nat))) ∧ (Below w.heap.size W W' ∧ KeepsFrom W0.heap.size W W'))
        (OwnFrom.and (OwnFrom.and (OwnFrom.and (OwnFrom.and (OwnFrom.and (OwnFrom.and (ownFrom_pure _ _) (Own.from (boxed_own _ _ (fun pre : List Nat => .int .i64 (pre.length : Int))) _)) (Own.from (boxed_own _ _ _) _)) (Own.from (boxed_own _ _ _) _)) (Own.from (boxed_own _ _ _) _)) (Own.from (boxed_own _ _ _) _)) (OwnFrom.and (ownFrom_below hsW (by omega)) (ownFrom_keepsFrom (by omega))))
        (fun c => OwnFrom.and (OwnFrom.and (ownFrom_pure _ _) (Own.from (boxed_own _ _ (fun pre : List Nat => .int .i64 (pre.getLastD 0 : Nat))) _)) (OwnFrom.and (ownFrom_below hsW (by omega)) (ownFrom_keepsFrom (by omega))))
        ⟨⟨⟨⟨⟨⟨⟨by simp; omega, by simp⟩, bc⟩, bR2⟩, bC2⟩, bT3⟩, bt⟩, hB2, hK2⟩
        (fun y a'' _ => a'' = { tmps := #[Value.slice A l.length c, Value.int IntKind.i64 line, Value.int IntKind.i64 col, undef,
          Value.pointer (some ⟨w.heap.size, 0, none⟩), Value.pointer (some ⟨w.heap.size + 1, 0, none⟩), Value.pointer (some ⟨w.heap.size + 1 + 1, 0, none⟩), Value.pointer (some ⟨w.heap.size + 1 + 1 + 1, 0, none⟩), Value.pointer (some ⟨w.heap.size + 1 + 1 + 1 + 1, 0, none⟩), .int .i64 (x : Int),
          Value.pointer (some ⟨W.heap.size, 0, none⟩), .int .i64 (y : Int), Value.slice A l.length c, Value.slice A l.length c,
          Value.func (Fn.func 132) #[] #[Value.pointer (some ⟨w.heap.size + 1 + 1 + 1 + 1 + 1, 0, none⟩)],
          Value.int IntKind.i64 (x : Int), Value.int IntKind.i64 (pre.length : Int), Value.int IntKind.i64 ((pre.length : Int) + 1),
          Value.int IntKind.i64 ((pre.length : Int) + 1), Value.int IntKind.i64 line, Value.bool false, Value.slice A l.length c, .int .i64 (x : Int),
          Value.func (Fn.func 133) #[] #[Value.pointer (some ⟨W.heap.size + 1 + 1, 0, none⟩), Value.pointer (some ⟨W.heap.size + 1, 0, none⟩)], .int .i64 (y : Int), undef, undef,
          undef, undef, undef, undef, undef, undef, undef, undef, undef, undef, undef, undef, undef, undef, undef, undef, undef, undef], defers := [] })
        (fun _ _ _ _ _ _ hs _ _ => hs)
        ?assign2 ?body2 ?done2 ?stop2
      case assign2 =>
        rintro l2 pre' y W' K hi hK
        gi_wp2
        exact hK _ _ (KeepsFrom.refl _ _) (KpB.refl _ _ _) hi rfl
      case body2 =>
        rintro l2 pre' y a'' W' _ _ ⟨⟨⟨⟨⟨⟨⟨hq, hq2⟩, bc4⟩, bR4⟩, bC4⟩, bT4⟩, bt4⟩, hBW, hKF⟩ rfl hlt2
        have cc := bc4.cell
        have fc := bc4.frozen
        have ltc := bc4.lt
        have cR := bR4.cell
        have fR := bR4.frozen
        have cC := (bC4.other (B' := W.heap.size) (by omega) (.int .i64 ((pre'.length : Int) + 1))).cell
        by_cases hcol : (pre'.length : Int) + 1 = col
        · have Hc : ((pre'.length : Int) + 1 == col) = true := by simp [hcol]
          have HC := Lib.hid hcol
          clear hcol
          gi_wp2
          exact ⟨(((KeepsOthers.setCell _ _ _).trans (KeepsOthers.setCell _ _ _)).from _), ⟨⟨rfl, by simp, by have := HC.out; simp; omega⟩, by simpa using (bR4.other (B' := W.heap.size) (by omega) (.int .i64 ((pre'.length : Int) + 1))).set (.int .i64 (y : Int))⟩,
            (hBW.setCell (p := ⟨W.heap.size, 0, none⟩) (by simp; omega) _).setCell (p := ⟨w.heap.size + 1 + 1, 0, none⟩) (by simp; omega) _, hKF.trans (((KeepsOthers.setCell _ _ _).trans (KeepsOthers.setCell _ _ _)).from _)⟩
        · have Hc : ((pre'.length : Int) + 1 == col) = false := by simp [hcol]
          have hq3 : ¬ (1 ≤ col ∧ col ≤ (pre'.length : Int) + 1) := by omega
          clear hcol
          gi_wp2
          exact ⟨(KeepsOthers.setCell _ _ _).from _, KpB.of_boxed ((Below.refl _ W').setCell (p := ⟨W.heap.size, 0, none⟩) (by simp; omega) _) bt4 (bt4.other (by omega) _),
            ⟨⟨⟨⟨⟨⟨fun h => hq3 ⟨h.1, by have := h.2; simp at this; omega⟩, by simp; omega⟩, by simpa using bc4.set (.int .i64 ((pre'.length : Int) + 1))⟩, bR4.other (by omega) _⟩, bC4.other (by omega) _⟩, bT4.other (by omega) _⟩, bt4.other (by omega) _⟩,
            hBW.setCell (p := ⟨W.heap.size, 0, none⟩) (by simp; omega) _, hKF.trans ((KeepsOthers.setCell _ _ _).from _)⟩
      case done2 =>
        rintro ys W' rfl ⟨⟨⟨⟨⟨⟨⟨hq, hq2⟩, bc4⟩, bR4⟩, bC4⟩, bT4⟩, bt4⟩, hBW, hKF⟩
        have cc := bc4.cell
        have cR := bR4.cell
        have fR := bR4.frozen
        have cC := bC4.cell
        have cT := bT4.cell
        have hTW := hT.below (hB1.trans hBW)
        have hend : ∀ k, CallsIn (Fence.wide.inRound lid) (n - 1 - 1 - 1) Try.prog 70 #[.slice A l.length c, .int .i64 (x : Int)] (W'.drewN k) fun e w'' => e = .returned (.int .i64 (endOf l x : Int)) ∧ ∃ m, w'' = W'.drewN m :=
          fun k => quiet_of_drawn (CallsIn.inRound lid (callsIn_wide.2 (end_calls (hTW.drewN k) x)))
        have hF16 : Fence.wide.fn 70 := trivial
        have fin : ∀ (nq : Nat) (v : Int), offIn l ((pre ++ [x]).getLastD 0) col = v → ownPostG W0.heap.size (KpB w.heap.size (w.heap.size + 1 + 1 + 1 + 1 + 1))
            (fun pre W => (((((((¬ (1 ≤ line ∧ line ≤ pre.length) ∧ pre.length ≤ l.length + 1) ∧ Boxed W (w.heap.size + 1 + 1 + 1 + 1) 3 (.int .i64 (pre.length : Int))) ∧ Boxed W (w.heap.size + 1 + 1) 3 (.int .i64 0)) ∧ Boxed W (w.heap.size + 1 + 1 + 1) 84 (.slice A l.length c)) ∧ Boxed W w.heap.size 3 (.int .i64 line)) ∧ Boxed W (w.heap.size + 1) 3 (.int .i64 col)) ∧ Boxed W (w.heap.size + 1 + 1 + 1 + 1 + 1) 84 (.slice A l.length c)) ∧ Below w.heap.size w W)
            (fun c pre W => ((c = .ret ∧ 0 < pre.length ∧ line = pre.length) ∧ Boxed W (w.heap.size + 1 + 1) 3 (.int .i64 (offIn l (pre.getLastD 0) col))) ∧ Below w.heap.size w W)
            (pre ++ [x]) W .ret ⟨#[], []⟩ ((W'.setCell ⟨w.heap.size + 1 + 1, 0, none⟩ (.int .i64 v)).drewN nq) := by
          rintro nq v rfl
          have hk := hKF.trans ((KeepsOthers.setCell W' ⟨w.heap.size + 1 + 1, 0, none⟩ (.int .i64 (offIn l ((pre ++ [x]).getLastD 0) col))).from W0.heap.size)
          exact ⟨⟨hk.size, hk.same⟩, ⟨⟨rfl, by simp, by have := HL.out; simp; omega⟩, bR4.set _⟩, pw_below_drewN (hB1.trans (hBW.setCell (p := ⟨w.heap.size + 1 + 1, 0, none⟩) (by simp; omega) _)) nq⟩
        have Fin := Lib.hid fin
        clear fin
        by_cases he : (endOf l x : Int) = l.length
        · have He : ((endOf l x : Int) == (l.length : Int)) = true := by simp [he]
          have HE := Lib.hid he
          clear he
          by_cases hcol : ((chF l (l.length + 1) x).length : Int) + 1 = col
          · have Hc : (((chF l (l.length + 1) x).length : Int) + 1 == col) = true := by simp [hcol]
            have HC := Lib.hid hcol
            clear hcol
            gi_wp2
            refine QR.wpIn_region_quiet_lit_nd (by rfl) (by kernel_rfl) (by kernel_rfl) ?_
            repeat (gi_big_quiet_step ((gi_at_call 70; exact hend _)))
            refine wpQuietIn_nil ?_
            rintro _ ⟨nq, rfl⟩
            gi_wp2
            exact Fin.out nq (l.length) (by simp only [List.getLastD_concat]; rw [offIn, if_neg hq, if_pos ⟨by have := HE.out; omega, HC.out⟩])
          · have Hc : (((chF l (l.length + 1) x).length : Int) + 1 == col) = false := by simp [hcol]
            have HC := Lib.hid hcol
            clear hcol
            gi_wp2
            refine QR.wpIn_region_quiet_lit_nd (by rfl) (by kernel_rfl) (by kernel_rfl) ?_
            repeat (gi_big_quiet_step ((gi_at_call 70; exact hend _)))
            refine wpQuietIn_nil ?_
            rintro _ ⟨nq, rfl⟩
            gi_wp2
            exact Fin.out nq (-1) (by simp only [List.getLastD_concat]; rw [offIn, if_neg hq, if_neg (fun h => HC.out h.2)])
        · have He : ((endOf l x : Int) == (l.length : Int)) = false := by simp [he]
          have HE := Lib.hid he
          clear he
          gi_wp2
          refine QR.wpIn_region_quiet_lit_nd (by rfl) (by kernel_rfl) (by kernel_rfl) ?_
          repeat (gi_big_quiet_step ((gi_at_call 70; exact hend _)))
          refine wpQuietIn_nil ?_
          rintro _ ⟨nq, rfl⟩
          gi_wp2
          exact Fin.out nq (-1) (by simp only [List.getLastD_concat]; rw [offIn, if_neg hq, if_neg (fun h => HE.out (by have := h.1; omega))])
      case stop2 =>
        rintro c pre' W' hpre ⟨⟨⟨rfl, hpos, rfl⟩, bR4⟩, hBW, hKF⟩
        gi_wp2
        have hle := hpre.length_le
        exact ⟨hKF, ⟨⟨rfl, by simp, by have := HL.out; simp; omega⟩, by
          simp only [List.getLastD_concat]
          rw [offIn, if_pos (show 1 ≤ (pre'.length : Int) ∧ (pre'.length : Int) ≤ ((chF l (l.length + 1) x).length : Int) from ⟨by omega, by omega⟩)]
          rw [show ((pre'.length : Int) - 1).toNat = pre'.length - 1 by omega, last_of_prefix hpre hpos]
          exact bR4⟩, hB1.trans hBW⟩
    · have Hne : ((pre.length : Int) + 1 != line) = true := by simp [hline]
      have hp3 : ¬ (1 ≤ line ∧ line ≤ (pre.length : Int) + 1) := by omega
      clear hline
      gi_wp2
      exact ⟨(KeepsOthers.setCell _ _ _).from _, KpB.of_boxed ((Below.refl _ W).setCell (p := ⟨w.heap.size + 1 + 1 + 1 + 1, 0, none⟩) (by simp; omega) _) bI1 (bI1.other (by omega) _), ⟨⟨⟨⟨⟨⟨⟨fun h => hp3 ⟨h.1, by have := h.2; simp at this; omega⟩, by simp; omega⟩, by simpa using bN1.set (.int .i64 ((pre.length : Int) + 1))⟩, bR1.other (by omega) _⟩, bT1.other (by omega) _⟩, bL1.other (by omega) _⟩, bC1.other (by omega) _⟩, bI1.other (by omega) _⟩, hB1.setCell (p := ⟨w.heap.size + 1 + 1 + 1 + 1, 0, none⟩) (by simp; omega) _⟩
  case done =>
    rintro D zs W hD rfl ⟨⟨⟨⟨⟨⟨⟨⟨hp, _⟩, bN1⟩, bR1⟩, bT1⟩, bL1⟩, bC1⟩, _⟩, hB1⟩ hK
    have cR := bR1.cell
    have fR := bR1.frozen
    gi_wp2
    have hK' := (KeepsOthers.setCell W ⟨w.heap.size + 1 + 1, 0, none⟩ (.int .i64 (-1))).same D _ hK rfl
    refine ⟨by simp, .inl ⟨_, _, rfl, run_takeDeferred hK', ?_⟩⟩
    have hc5 := cell_kept (bR1.set (.int .i64 (-1))).cell (grownBy_putObj' _ D (.deferred none)) (fun r e => by cases e; exact ⟨_, hK', rfl⟩)
    refine ⟨.int .i64 (-1), ?_, by rw [offOf, if_neg hp], (hB1.setCell (p := ⟨w.heap.size + 1 + 1, 0, none⟩) (by simp; omega) _).trans (belowK_b (w := w) (Nat.le_refl _) _ D _ _ (by omega) hK' rfl rfl)⟩
    simp [results, Try.f21, go_sem, hc5]
  case stop =>
    rintro D c pre W hD hpre ⟨⟨⟨rfl, hpos, rfl⟩, bR1⟩, hB1⟩ hK
    gi_wp2
    refine ⟨by simp, .inl ⟨_, _, rfl, run_takeDeferred hK, ?_⟩⟩
    have hc5 := cell_kept bR1.cell (grownBy_putObj' _ D (.deferred none)) (fun r e => by cases e; exact ⟨_, hK, rfl⟩)
    have hle := hpre.length_le
    refine ⟨.int .i64 (offIn l (pre.getLastD 0) col), ?_, by rw [offOf, if_pos ⟨by omega, by omega⟩, ← last_of_prefix hpre hpos]; congr 4; omega, hB1.trans (belowK_b (w := w) (Nat.le_refl _) W D _ _ (by omega) hK rfl rfl)⟩
    simp [results, Try.f21, go_sem, hc5]
end Go.Proofs.Ytahfkfdjhpookaa.Txt
