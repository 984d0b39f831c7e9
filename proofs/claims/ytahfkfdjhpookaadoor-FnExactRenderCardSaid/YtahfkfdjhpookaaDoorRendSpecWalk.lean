/- Render of the reference: its walk. -/
import Derived.Test.YtahfkfdjhpookaaDoorRendSpec
namespace Go.Proofs.YtahfkfdjhpookaaDoor.Txt
open Go.RowKit Go.Proofs.YtahfkfdjhpookaaDoorW.PrintWords Go.Proofs.YtahfkfdjhpookaaDoorW.PrintLast Go.Proofs.YtahfkfdjhpookaaDoorW.PrintMore
open Go.Proofs.YtahfkfdjhpookaaDoor.PAll Go.Proofs.YtahfkfdjhpookaaDoor.OwnM
set_option linter.unusedVariables false
set_option linter.unusedSimpArgs false

/-- what the walk carries: a row of the call's own, and that nothing older has turned -/
structure Out (w0 W : World) (v : Value) (xs : List Int) : Prop where
  own : Owns W w0.heap.size 5 v xs.length (nums .u8 xs)
  bel : Below w0.heap.size w0 W
theorem Out.drewN {w0 W : World} {v : Value} {xs : List Int} (h : Out w0 W v xs) (k : Nat) : Out w0 (W.drewN k) v xs := ⟨h.own.drewN k, pw_below_drewN h.bel k⟩
theorem Out.alloc {w0 W : World} {v : Value} {xs : List Int} (h : Out w0 W v xs) (o : Obj) : Out w0 (W.alloc o) v xs := ⟨h.own.alloc o, below_alloc h.bel o⟩

theorem out_conv {ops : Array Oper} {rest : List Oper} {o : Oper} {a : Act} {Q : Exit → Act → World → Prop} (w0 W : World) (hB : Below w0.heap.size w0 W) (hgd : o.guard = none) (x : Operand)
    (ho : o.op = .convert 9 22 x) (s : List UInt8) (S : ByteArray) (hx : a.eval x = .string S) (hS : S = ⟨s.toArray⟩) (hs : s.length ≤ 1000)
    (h : ∀ v' W', Out w0 W' v' (bI s) → wpList Tryd.prog ops Q rest (a.put o.dst v') W') : wpList Tryd.prog ops Q (o :: rest) a W := by
  subst hS
  refine wpList_plain hgd fun K hK => ?_
  have hr := run_bytes_of_string (P := Tryd.prog) W 9 22 5 ⟨s.toArray⟩ Tryd.underlying9 Tryd.underlying22 Tryd.underlying5
  have hsz : (⟨s.toArray⟩ : ByteArray).size = s.length := by simp [ByteArray.size]
  have hO := Owns.conv W w0.heap.size 5 ⟨s.toArray⟩ (by rw [hsz]; simp only [maxLen]; omega) hB.size
  unfold Oper.wp execOp
  simp only [ho, resolve, Sem.run_bind, Sem.run_pure, Result.andThen_ok, hx, hr]
  refine hK _ _ (h _ _ ⟨?_, below_alloc hB.drew _⟩)
  rw [strCells_bI] at hO
  rw [hsz] at hO ⊢
  rw [bI_length]
  exact hO

theorem out_append {ops : Array Oper} {rest : List Oper} {o : Oper} {a : Act} {Q : Exit → Act → World → Prop} (w0 W : World) {v : Value} {xs : List Int} (hO : Out w0 W v xs) (hgd : o.guard = none) (sl x : Operand)
    (ho : o.op = .call { callee := .builtin .append, args := #[sl, x], argTypes := #[22, 22] })
    (hs : a.eval sl = v) (A : Option Addr) (m c : Nat) (ys : List Int) (hx : a.eval x = .slice A m c) (hm : m = ys.length) (hr : Src W A (nums .u8 ys)) (hb : xs.length + ys.length ≤ 140737488355328)
    (h : ∀ v' W', Out w0 W' v' (xs ++ ys) → wpList Tryd.prog ops Q rest (a.put o.dst v') W') : wpList Tryd.prog ops Q (o :: rest) a W := by
  obtain ⟨i, hi, hz, hs1, hby⟩ := info_parts info5
  have e := nums_length .u8 ys
  refine wpl_append W hgd sl x 22 ho w0.heap.size 5 i Tryd.underlying22 hi hz hs1 hby v _ _ hs hO.own A m c (nums .u8 ys) hx (by omega) hr nums_cell (by omega) hO.bel.size (fun v' W' h1 h2 => h v' W' ⟨?_, ?_⟩)
  · rw [List.length_append, nums_append, ← e]
    exact h1
  · exact pw_below_grown hO.bel _ hO.bel.size h2 (fun k hk => (hO.own.lt k hk).1)

theorem out_append_str {ops : Array Oper} {rest : List Oper} {o : Oper} {a : Act} {Q : Exit → Act → World → Prop} (w0 W : World) {v : Value} {xs : List Int} (hO : Out w0 W v xs) (hgd : o.guard = none) (sl x : Operand)
    (ho : o.op = .call { callee := .builtin .append, args := #[sl, x], argTypes := #[22, 9] })
    (hs : a.eval sl = v) (s : List UInt8) (S : ByteArray) (hx : a.eval x = .string S) (hS : S = ⟨s.toArray⟩) (hb : xs.length + s.length ≤ 140737488355328)
    (h : ∀ v' W', Out w0 W' v' (xs ++ bI s) → wpList Tryd.prog ops Q rest (a.put o.dst v') W') : wpList Tryd.prog ops Q (o :: rest) a W := by
  subst hS
  obtain ⟨i, hi, hz, hs1, hby⟩ := info_parts info5
  have hsz : (⟨s.toArray⟩ : ByteArray).size = s.length := by simp [ByteArray.size]
  refine wpl_append_str W hgd sl x 22 9 ho w0.heap.size 5 i Tryd.underlying22 Tryd.underlying9 hi hz hs1 hby v _ _ hs hO.own ⟨s.toArray⟩ hx (by omega) hO.bel.size (fun v' W' h1 h2 => h v' W' ⟨?_, ?_⟩)
  · rw [strCells_bI] at h1
    rw [List.length_append, nums_append, bI_length, ← hsz]
    exact h1
  · exact pw_below_grown hO.bel _ hO.bel.size h2 (fun k hk => (hO.own.lt k hk).1)

theorem Out.value {w0 W : World} {v : Value} {xs : List Int} (h : Out w0 W v xs) : Kd.V (Kd.int .u8) 5 W w0.heap.size (fun k_ => w0.heap.size ≤ k_) v xs := by
  obtain ⟨A, c, rfl, hc⟩ := h.own.form
  refine ⟨A, c, rfl, hc, fun W' hW => ?_⟩
  have hO : Owns W' w0.heap.size 5 (.slice A xs.length c) xs.length (nums .u8 xs) := h.own.step (fun g hg => hW g (h.own.lt g hg).1 (h.own.lt g hg).2)
  refine ⟨rfl, by have := hO.len; simp only [maxLen] at this; omega, fun hp => ?_⟩
  rcases hO.2 with ⟨_, hn⟩ | ⟨g, cap, cur, fz, hv, _⟩
  · omega
  · injection hv with ha _ hcc
    subst ha
    refine ⟨_, rfl, fun j p hj => ⟨[.int .u8 p], rfl, rfl, fun i u hu => ?_⟩⟩
    match i, hu with
    | 0, hu =>
      simp at hu
      subst hu
      refine hO.cells rfl (j * 1 + 0) _ ?_
      simp [nums, hj]
    | i + 1, hu => simp at hu

/-- one byte, just laid -/
theorem src_new (W : World) (b : Int) (o : Obj) (h : o = .cells #[.int .u8 b] 5) : Src (W.alloc o) (some ⟨W.heap.size, 0, none⟩) (nums .u8 [b]) := by
  subst h
  intro j u hu
  rw [nums_one] at hu
  match j, hu with
  | 0, hu =>
    simp at hu
    subst hu
    exact ⟨_, rfl, by rw [add_plain, World.cell?_alloc_new]; rfl⟩
  | j + 1, hu => simp at hu

theorem upS_len (l : List Int) : ∀ i, 1 ≤ (upS l i).length ∧ (upS l i).length ≤ i + 1
  | 0 => by rw [upS_zero]; simp
  | i + 1 => by
    obtain ⟨a, b⟩ := upS_len l i
    by_cases c : rd l (i : Int) = 10
    · rw [upS_yes c, List.length_append]
      simp only [List.length_singleton]
      omega
    · rw [upS_no c]
      omega
theorem tw_len (o : Nat) : ∀ (xs : List Nat), (tw o xs).length ≤ xs.length := fun xs => List.IsPrefix.length_le (List.takeWhile_prefix _)
theorem chF_len (l : List Int) : ∀ (f a : Nat), (chF l f a).length ≤ f
  | 0, a => by rw [chF]; simp
  | f + 1, a => by
    rw [chF]
    have := chF_len l f
    split
    · split
      · simp
      · simp only [List.length_cons]
        have := chF_len l f (a + (chl l (a : Int)).toNat)
        omega
    · simp
theorem lcol_bounds (l : List Int) (o : Nat) (ho : o ≤ l.length) (hl : l.length ≤ 1099511627776) :
    (1 ≤ (lcol l (o : Int)).1 ∧ (lcol l (o : Int)).1 ≤ 1099511627778) ∧ (1 ≤ (lcol l (o : Int)).2 ∧ (lcol l (o : Int)).2 ≤ 1099511627778) := by
  rw [lcol_in l o ho]
  have h1 := upS_len l o
  have h2 := tw_len o (ch l (st l o))
  have h3 := chF_len l (l.length + 1) (st l o)
  rw [← ch] at h3
  simp only
  omega

theorem endOf_facts (l : List Int) : ∀ (d s : Nat), s ≤ l.length → l.length ≤ s + d → s ≤ endOf l s ∧ endOf l s ≤ l.length ∧ (∀ i, s ≤ i → i < endOf l s → ¬ rd l (i : Int) = 10) ∧ (endOf l s < l.length → rd l (endOf l s : Int) = 10)
  | d, s, h1, h2 => by
    by_cases c : s < l.length
    · by_cases e : rd l (s : Int) = 10
      · rw [end_nl c e]
        exact ⟨Nat.le_refl _, by omega, fun i a b => by omega, fun _ => e⟩
      · obtain ⟨d, rfl⟩ : ∃ d', d = d' + 1 := ⟨d - 1, by omega⟩
        obtain ⟨a1, a2, a3, a4⟩ := endOf_facts l d (s + 1) (by omega) (by omega)
        rw [end_step c e]
        refine ⟨by omega, a2, fun i b1 b2 => ?_, a4⟩
        by_cases x : i = s
        · subst x; exact e
        · exact a3 i (by omega) b2
    · rw [end_end c]
      exact ⟨h1, Nat.le_refl _, fun i a b => by omega, fun h => absurd h (Nat.lt_irrefl _)⟩

set_option maxRecDepth 100000 in
set_option maxHeartbeats 4000000 in
theorem rend_spec_in (w : World) (A A2 : Option Addr) (c c2 : Nat) (l m : List Int) (off : Int) (hT : Text w A c l) (hr2 : Kd.C (Kd.int .u8) w A2 m.length m) (hc2 : m.length ≤ c2) (hl : l.length ≤ 1099511627776) (hm : m.length ≤ 1099511627776)
    (h0 : 0 ≤ off) (h1 : off ≤ l.length) :
    Calls Tryd.prog 4 #[.slice A l.length c, .int .i64 off, .slice A2 m.length c2] w fun e w' => ∃ v0_ : Value, e = .returned v0_ ∧ Kd.V (Kd.int .u8) 5 w' w.heap.size (fun k_ => w.heap.size ≤ k_) v0_ (rendF l off m) ∧ Below w.heap.size w w' := by
  have hlc := spec_linecol hT.byt hT.small off (2 * l.length + 45) (Nat.le_refl _)
  have hsm := hT.small
  obtain ⟨o, rfl⟩ : ∃ o : Nat, off = (o : Int) := ⟨off.toNat, by omega⟩
  have hls := line_start l hsm o (by omega) (l.length + 1) (by omega)
  obtain ⟨hb1, hb2⟩ := lcol_bounds l o (by omega) hl
  rw [rendF, if_neg (by omega), rend0]
  generalize hp : lcol l (o : Int) = p at *
  obtain ⟨ln, cn⟩ := p
  simp only at hb1 hb2 ⊢
  obtain ⟨hn1, hn2⟩ := hb1
  obtain ⟨hd1, hd2⟩ := hb2
  have hs1 := l1dec_f ln.toNat ln.toNat (ln.toNat + 2) (Nat.le_refl _) (by omega) (Nat.le_refl _)
  have hs2 := l1dec_f cn.toNat cn.toNat (cn.toNat + 2) (Nat.le_refl _) (by omega) (Nat.le_refl _)
  have q1 := dec_le ln (by omega) (by omega)
  have q2 := dec_le cn (by omega) (by omega)
  rw [decI, decI]
  have e1 : ((ln.toNat : Nat) : Int) = ln := by omega
  have e2 : ((cn.toNat : Nat) : Int) = cn := by omega
  rw [e1] at hs1
  rw [e2] at hs2
  generalize Lib.decDigits ln.toNat = s1 at *
  generalize Lib.decDigits cn.toNat = s2 at *
  have z0 : decide (ln = 0) = false := decide_eq_false (by omega)
  have y1 : (⟨s1.toArray⟩ : ByteArray).size = s1.length := by simp [ByteArray.size]
  have y2 : (⟨s2.toArray⟩ : ByteArray).size = s2.length := by simp [ByteArray.size]
  have HB := Below.refl w.heap.size w
  have hstl := st_le l o
  have hto : ((o : Int)).toNat = o := by omega
  rw [hto]
  obtain ⟨f1, f2, f3, f4⟩ := endOf_facts l l.length (st l o) (by omega) (by omega)
  generalize endOf l (st l o) = E at *
  generalize st l o = S at *
  have f3 := Aside0.mk f3
  have f4 := Aside0.mk f4
  go_enter Tryd.func4, Tryd.ntmps4
  go_wp2_with (first
    | (go_at_call 10; refine (spec_LineCol.calls _ A c l _ _ _ _ hT.reads hT.cap hlc).mono ?_; rintro e w' ⟨rfl, ⟨nd, rfl⟩⟩)
    | ((with_reducible refine gate_dst (N := 21) rfl ?_); refine goesL_ (some 21) rfl rfl Tryd.func11 (by kernel_rfl) rfl #[.int .i64 ln] rfl (by (try simp only [List.map_toArray, List.map_cons, List.map_nil]); first | done | rfl) ?_; refine (spec_l1dec.calls _ ln _ _ hs1).mono ?_; rintro e w' ⟨rfl, ⟨nd2, rfl⟩⟩; refine ⟨_, rfl, ?_⟩)
    | ((with_reducible refine gate_dst (N := 24) rfl ?_); refine goesL_ (some 24) rfl rfl Tryd.func11 (by kernel_rfl) rfl #[.int .i64 cn] rfl (by (try simp only [List.map_toArray, List.map_cons, List.map_nil]); first | done | rfl) ?_; refine (spec_l1dec.calls _ cn _ _ hs2).mono ?_; rintro e w' ⟨rfl, ⟨nd3, rfl⟩⟩; refine ⟨_, rfl, ?_⟩)
    | ((with_reducible refine gate_dst (N := 27) rfl ?_); refine out_conv w _ (by repeat (first | exact HB | apply pw_below_drewN)) rfl _ rfl (s1 ++ [58] ++ s2 ++ [58, 32]) _ rfl (by apply ByteArray.ext; simp) (by simp; omega) ?_; intro v3 W3 O3)
    | ((with_reducible refine gate_dst (N := 30) rfl ?_); refine out_append w _ O3 rfl _ _ rfl rfl A2 _ c2 m rfl rfl (src_of (Kd.C_below hr2 O3.bel)) (by simp [bI_length]; omega) ?_; intro v4 W4 O4)
    | ((with_reducible refine gate_dst (N := 33) rfl ?_); refine out_append w _ (Out.alloc O4 _) rfl _ _ rfl rfl _ _ _ [10] rfl rfl (src_new _ _ _ rfl) (by simp [bI_length]; omega) ?_; intro v5 W5 O5)
    | ((with_reducible refine gate_dst (N := 36) rfl ?_); refine goesL_ (some 36) rfl rfl Tryd.func12 (by kernel_rfl) rfl #[.slice A l.length c, .int .i64 (o : Int)] rfl (by (try simp only [List.map_toArray, List.map_cons, List.map_nil]); first | done | rfl) ?_; refine (spec_l1lineStart.calls _ A c l _ _ _ (hT.below O5.bel).reads hT.cap hls).mono ?_; rintro e w' ⟨rfl, ⟨nd4, rfl⟩⟩; refine ⟨_, rfl, ?_⟩; replace O5 := O5.drewN nd4))
  have hPP : bI s1 ++ [58] ++ bI s2 ++ [58, 32] ++ m ++ [10] = bI (s1 ++ [58] ++ s2 ++ [58, 32]) ++ m ++ [10] := by simp [bI]

  obtain ⟨P, hP⟩ : ∃ P, P = bI (s1 ++ [58] ++ s2 ++ [58, 32]) ++ m ++ [10] := ⟨_, rfl⟩
  have hPl : P.length ≤ 1099511628000 := by rw [hP]; simp [bI_length]; omega
  rw [← hP] at O5
  clear hPP
  go_loopg [9, 10] (l.length + 1) (fun kq v9 v10 w' => ∃ (i : Nat), v10 = .int .i64 (i : Int) ∧ Aside0 (S ≤ i ∧ i ≤ E ∧ E < i + kq) ∧ Out w w' v9 (P ++ seg l S i))
  case atStart => exact ⟨S, rfl, ⟨by omega, by omega, by omega⟩, by rw [seg_nil, List.append_nil]; exact O5⟩
  case round =>
    obtain ⟨i, rfl, HI, O6⟩ := hrel
    obtain ⟨i1, i2, i3⟩ := HI.out
    have hsl := seg_length l S i
    cases gk with
    | zero => omega
    | succ k1 =>
      by_cases hi : i < E
      · have hi1 : i < l.length := by omega
        have hne := f3.out i i1 hi
        obtain ⟨ad, rfl, hc⟩ := (hT.below O6.bel).at hi1
        have d1 : decide ((i : Int) < (l.length : Int)) = true := decide_eq_true (by omega)
        have d2 : (rd l (i : Int) == 10) = false := by simpa using hne
        have d3 : (rd l (i : Int) != 10) = true := by simpa using hne
        have d4 : (0 ≤ (i : Int)) = True := eq_true (by omega)
        have d5 : ((i : Int) < (l.length : Int)) = True := eq_true (by omega)
        go_wp2_with (first
          | ((with_reducible refine gate_dst (N := 56) rfl ?_); refine out_append w _ (Out.alloc O6 _) rfl _ _ rfl rfl _ _ _ [rd l (i : Int)] rfl rfl (src_new _ _ _ rfl) (by simp; omega) ?_; intro v7 W7 O7))
        go_roundg k1
        case measure => omega
        case rel => exact ⟨i + 1, by first | rfl | (simp; done) | (rw [wid (by omega) (by omega)]; simp), ⟨by omega, by omega, by omega⟩, by rw [seg_next l S i i1 hi1, ← List.append_assoc]; exact O7⟩
      · obtain rfl : i = E := by omega
        have hsl := seg_length l S i
        by_cases hlt : i < l.length
        · have hte := f4.out hlt
          obtain ⟨ad, rfl, hc⟩ := (hT.below O6.bel).at hlt
          have d1 : decide ((i : Int) < (l.length : Int)) = true := decide_eq_true (by omega)
          have d2 : (rd l (i : Int) == 10) = true := by simpa using hte
          have d3 : (rd l (i : Int) != 10) = false := by simpa using hte
          have d4 : (0 ≤ (i : Int)) = True := eq_true (by omega)
          have d5 : ((i : Int) < (l.length : Int)) = True := eq_true (by omega)
          go_wp2_with (first
            | ((with_reducible refine gate_dst (N := 59) rfl ?_); refine out_append w _ (Out.alloc O6 _) rfl _ _ rfl rfl _ _ _ [10] rfl rfl (src_new _ _ _ rfl) (by simp; omega) ?_; intro v8 W8 O8))
          go_loopg [9, 11] (cn.toNat + 1) (fun kq v9 v11 w' => ∃ (j : Nat), v11 = .int .i64 (j : Int) ∧ Aside0 (1 ≤ j ∧ (j : Int) ≤ cn ∧ cn < j + kq) ∧ Out w w' v9 (P ++ seg l S i ++ [10] ++ List.replicate (j - 1) 32))
          case atStart => exact ⟨1, rfl, ⟨by omega, by omega, by omega⟩, by rw [List.replicate_zero, List.append_nil]; exact O8⟩
          case round =>
            obtain ⟨j, rfl, HJ, O9⟩ := hrel
            obtain ⟨j1, j2, j3⟩ := HJ.out
            cases gk with
            | zero => omega
            | succ k2 =>
              by_cases hj : (j : Int) < cn
              · have dj : decide ((j : Int) < cn) = true := decide_eq_true hj
                go_wp2_with (first
                  | ((with_reducible refine gate_dst (N := 67) rfl ?_); refine out_append w _ (Out.alloc O9 _) rfl _ _ rfl rfl _ _ _ [32] rfl rfl (src_new _ _ _ rfl) (by simp; omega) ?_; intro v10 W10 O10))
                go_roundg k2
                case measure => omega
                case rel => exact ⟨j + 1, by first | rfl | (simp; done) | (rw [wid (by omega) (by omega)]; simp), ⟨by omega, by omega, by omega⟩, by
                  have e : j + 1 - 1 = (j - 1) + 1 := by omega
                  rw [e, List.replicate_succ', ← List.append_assoc]
                  exact O10⟩
              · have dj : decide ((j : Int) < cn) = false := decide_eq_false hj
                go_wp2_with (first
                  | ((with_reducible refine gate_dst (N := 69) rfl ?_); refine out_append_str w _ O9 rfl _ _ rfl rfl [94, 10] _ rfl rfl (by simp; omega) ?_; intro v11 W11 O11))
                go_ret
                have e : j - 1 = (cn - 1).toNat := by omega
                rw [e, hP] at O11
                exact ⟨_, rfl, by
                  have := O11.value
                  simpa [bI, List.append_assoc] using this, O11.bel⟩
        · have d1 : decide ((i : Int) < (l.length : Int)) = false := decide_eq_false (by omega)
          go_wp2_with (first
            | ((with_reducible refine gate_dst (N := 59) rfl ?_); refine out_append w _ (Out.alloc O6 _) rfl _ _ rfl rfl _ _ _ [10] rfl rfl (src_new _ _ _ rfl) (by simp; omega) ?_; intro v8 W8 O8))
          go_loopg [9, 11] (cn.toNat + 1) (fun kq v9 v11 w' => ∃ (j : Nat), v11 = .int .i64 (j : Int) ∧ Aside0 (1 ≤ j ∧ (j : Int) ≤ cn ∧ cn < j + kq) ∧ Out w w' v9 (P ++ seg l S i ++ [10] ++ List.replicate (j - 1) 32))
          case atStart => exact ⟨1, rfl, ⟨by omega, by omega, by omega⟩, by rw [List.replicate_zero, List.append_nil]; exact O8⟩
          case round =>
            obtain ⟨j, rfl, HJ, O9⟩ := hrel
            obtain ⟨j1, j2, j3⟩ := HJ.out
            cases gk with
            | zero => omega
            | succ k2 =>
              by_cases hj : (j : Int) < cn
              · have dj : decide ((j : Int) < cn) = true := decide_eq_true hj
                go_wp2_with (first
                  | ((with_reducible refine gate_dst (N := 67) rfl ?_); refine out_append w _ (Out.alloc O9 _) rfl _ _ rfl rfl _ _ _ [32] rfl rfl (src_new _ _ _ rfl) (by simp; omega) ?_; intro v10 W10 O10))
                go_roundg k2
                case measure => omega
                case rel => exact ⟨j + 1, by first | rfl | (simp; done) | (rw [wid (by omega) (by omega)]; simp), ⟨by omega, by omega, by omega⟩, by
                  have e : j + 1 - 1 = (j - 1) + 1 := by omega
                  rw [e, List.replicate_succ', ← List.append_assoc]
                  exact O10⟩
              · have dj : decide ((j : Int) < cn) = false := decide_eq_false hj
                go_wp2_with (first
                  | ((with_reducible refine gate_dst (N := 69) rfl ?_); refine out_append_str w _ O9 rfl _ _ rfl rfl [94, 10] _ rfl rfl (by simp; omega) ?_; intro v11 W11 O11))
                go_ret
                have e : j - 1 = (cn - 1).toNat := by omega
                rw [e, hP] at O11
                exact ⟨_, rfl, by
                  have := O11.value
                  simpa [bI, List.append_assoc] using this, O11.bel⟩

theorem rend_spec_out (w : World) (A A2 : Option Addr) (c c2 : Nat) (l m : List Int) (off : Int) (hT : Text w A c l) (ho : off < 0 ∨ (l.length : Int) < off) :
    Calls Tryd.prog 4 #[.slice A l.length c, .int .i64 off, .slice A2 m.length c2] w fun e w' => ∃ v0_ : Value, e = .returned v0_ ∧ Kd.V (Kd.int .u8) 5 w' w.heap.size (fun k_ => w.heap.size ≤ k_) v0_ (rendF l off m) ∧ Below w.heap.size w w' := by
  have hlc := spec_linecol hT.byt hT.small off (2 * l.length + 45) (Nat.le_refl _)
  rw [rendF, if_pos ho]
  rw [lcol, if_pos ho] at hlc
  have HB := Below.refl w.heap.size w
  go_enter Tryd.func4, Tryd.ntmps4
  go_wp2_with (first
    | (go_at_call 10; refine (spec_LineCol.calls _ A c l _ _ _ _ hT.reads hT.cap hlc).mono ?_; rintro e w' ⟨rfl, ⟨nd, rfl⟩⟩))
  go_ret
  exact ⟨_, rfl, Kd.V_nil _ _ _ _ _, pw_below_drewN HB _⟩

/-- what a Render asks of its arguments -/
def okRend (l m : List Int) : Bool := okText l && decide (l.length ≤ 1099511627776) && decide (m.length ≤ 1099511627776)
end Go.Proofs.YtahfkfdjhpookaaDoor.Txt

namespace Go.Proofs.YtahfkfdjhpookaaDoor.PAll
open Go.RowKit Go.Proofs.YtahfkfdjhpookaaDoorW.PrintWords Go.Proofs.YtahfkfdjhpookaaDoorW.PrintLast Go.Proofs.YtahfkfdjhpookaaDoor.Txt
def spec_Render.f (l0 : List Int) (a1 : Int) (l2 : List Int) : Option (List Int) := if okRend l0 l2 = true then some (rendF l0 a1 l2) else none
theorem spec_Render.calls (A0 : Option Addr) (c0 : Nat) (l0 : List Int) (a1 : Int) (A2 : Option Addr) (c2 : Nat) (l2 : List Int) (r : List Int) (w : World) (hr0 : Kd.C (Kd.int .u8) w A0 l0.length l0) (hc0 : l0.length ≤ c0) (hr2 : Kd.C (Kd.int .u8) w A2 l2.length l2) (hc2 : l2.length ≤ c2) (h : spec_Render.f l0 a1 l2 = some r) :
    Calls Tryd.prog 4 #[.slice A0 l0.length c0, .int .i64 a1, .slice A2 l2.length c2] w fun e w' => ∃ v0_ : Value, e = .returned (v0_) ∧ Kd.V (Kd.int .u8) 5 w' w.heap.size (fun k_ => (w.heap.size ≤ k_)) v0_ r ∧ Below w.heap.size w w' := by
  unfold spec_Render.f at h
  by_cases ht : okRend l0 l2 = true
  · rw [if_pos ht] at h
    obtain rfl := Option.some.inj h
    simp only [okRend, Bool.and_eq_true, decide_eq_true_eq] at ht
    have hT := Text.of hr0 hc0 ht.1.1
    by_cases ho : a1 < 0 ∨ (l0.length : Int) < a1
    · exact rend_spec_out w A0 A2 c0 c2 l0 l2 a1 hT ho
    · exact rend_spec_in w A0 A2 c0 c2 l0 l2 a1 hT hr2 hc2 ht.1.2 ht.2 (by omega) (by omega)
  · rw [if_neg ht] at h
    cases h
end Go.Proofs.YtahfkfdjhpookaaDoor.PAll
