/- Render of the program: its walk. -/
import Derived.Test.YtahfkfdjhpookaaDoorRendSpecWalk
import Derived.Test.YtahfkfdjhpookaaDoorShelf
import Derived.Test.YtahfkfdjhpookaaDoorPAllx4
namespace Go.Proofs.YtahfkfdjhpookaaDoor.Txt
open Go.RowKit Go.Proofs.YtahfkfdjhpookaaDoorW.PrintWords Go.Proofs.YtahfkfdjhpookaaDoorW.PrintLast Go.Proofs.YtahfkfdjhpookaaDoorW.PrintMore
open Go.Proofs.YtahfkfdjhpookaaDoor.PAll Go.Proofs.YtahfkfdjhpookaaDoor.OwnM
set_option linter.unusedVariables false
set_option linter.unusedSimpArgs false

/-- what the walk carries: a row of the call's own, and that nothing older has turned -/
structure OutR (w0 W : World) (v : Value) (xs : List Int) : Prop where
  own : W.ownsRow w0.heap.size 5 1 v xs.length (nums .u8 xs)
  bel : Below w0.heap.size w0 W
theorem OutR.drewN {w0 W : World} {v : Value} {xs : List Int} (h : OutR w0 W v xs) (k : Nat) : OutR w0 (W.drewN k) v xs := ⟨pw_own_below h.own (pw_below_drewN (Below.refl _ _) k), pw_below_drewN h.bel k⟩
theorem OutR.alloc {w0 W : World} {v : Value} {xs : List Int} (h : OutR w0 W v xs) (o : Obj) : OutR w0 (W.alloc o) v xs := ⟨h.own.alloc o, below_alloc h.bel o⟩

theorem run_appendR {P : Program} (w : World) (base : Nat) (t ty e : TypeId) (i : TypeInfo) (ht : P.underlying t = some (.slice e)) (hi : P.info? e = some i) (hz : i.zero = some (.int .u8 0))
    (hsize : i.size = 1) (hby : i.bytes = 1) (v : Value) (n : Nat) (xs : List Value) (hown : w.ownsRow base e 1 v n xs)
    (A : Option Addr) (c : Nat) (news : List Value) (hnews : Src w A news) (h1 : ∀ u ∈ news, u.oneCell' = true)
    (hbytes : n + news.length ≤ 140737488355328) (hbase : base ≤ w.heap.size) :
    ∃ v' w', (Builtin.append_ #[t, t] ty #[v, .slice A news.length c]).run P w = .ok v' w' ∧ w'.ownsRow base e 1 v' (n + news.length) (xs ++ news) ∧ w.grownBy w' v.ownBlock := by
  by_cases h0 : news = []
  · subst h0
    have hf : (Builtin.firstCells i.size 0 (.slice A 0 c)).run P w = .ok #[] w := by
      cases A with
      | none => simp [Builtin.firstCells]
      | some a => simpa using run_firstCells_some (P := P) w i.size 0 a 0 c [] (by simp) (by simp)
    have hx : ((xs ++ []) : List Value) = xs := List.append_nil _
    simp only [List.length_nil, Nat.add_zero, hx]
    refine ⟨v, w, ?_, hown, ⟨rfl, rfl, rfl, Nat.le_refl _, fun _ _ _ => rfl⟩⟩
    rcases hown.2 with ⟨rfl, rfl⟩ | ⟨g, cap, cur, rfl, _, _, hnc, _⟩
    · simp [Builtin.append_, run_underlying ht, sizeOf, typeInfo, hi, Builtin.lenOf, hf]
    · simp [Builtin.append_, run_underlying ht, sizeOf, typeInfo, hi, Builtin.lenOf, hf, hnc, storeCells]
  · have hpos : 0 < news.length := List.length_pos_iff.2 h0
    obtain ⟨a, rfl, _⟩ := hnews 0 (news[0]) (by simp [List.getElem?_eq_getElem hpos])
    have hn' : ∀ j u, news[j]? = some u → w.cell? (a.add j) = some u := fun j u h => by
      obtain ⟨a', e', h'⟩ := hnews j u h
      injection e' with e'
      subst e'
      exact h'
    obtain ⟨v', w', hr, ho, hgr, _⟩ := run_append_own (P := P) w base t ty e i (.int .u8 0) 1 1 ht hi hz hsize hby rfl (by omega) v n xs hown a news.length c news (by omega) hn' h1 (by simp only [maxLen]; omega) (by omega) hbase
    exact ⟨v', w', hr, ho, hgr⟩

theorem outR_append {ops : Array Oper} {rest : List Oper} {o : Oper} {a : Act} {Q : Exit → Act → World → Prop} (w0 W : World) {v : Value} {xs : List Int} (hO : OutR w0 W v xs) (hgd : o.guard = none) (sl x : Operand)
    (ho : o.op = .call { callee := .builtin .append, args := #[sl, x], argTypes := #[22, 22] })
    (hs : a.eval sl = v) (A : Option Addr) (m c : Nat) (ys : List Int) (hx : a.eval x = .slice A m c) (hm : m = ys.length) (hr : Src W A (nums .u8 ys)) (hb : xs.length + ys.length ≤ 140737488355328)
    (h : ∀ v' W', OutR w0 W' v' (xs ++ ys) → wpList Tryd.prog ops Q rest (a.put o.dst v') W') : wpList Tryd.prog ops Q (o :: rest) a W := by
  obtain ⟨i, hi, hz, hs1, hby⟩ := info_parts info5
  have e := nums_length .u8 ys
  refine wpList_plain hgd fun K hK => ?_
  obtain ⟨v', w', hr, h2, h3⟩ := run_appendR (P := Tryd.prog) W w0.heap.size 22 o.type 5 i Tryd.underlying22 hi hz hs1 hby v _ _ hO.own A c (nums .u8 ys) hr nums_cell (by omega) hO.bel.size
  unfold Oper.wp execOp
  rw [e, ← hm] at hr
  simp only [ho, resolve, invoke, builtin, Sem.run_bind, Sem.run_pure, Result.andThen_ok, List.map_toArray, List.map_cons, List.map_nil, hs, hx, hr]
  refine hK _ _ (h v' w' ⟨?_, ?_⟩)
  · rw [List.length_append, nums_append, ← e]
    exact h2
  · exact pw_below_grown hO.bel _ hO.bel.size h3 (fun k hk => own_base hO.own k hk)

theorem outR_append_str {ops : Array Oper} {rest : List Oper} {o : Oper} {a : Act} {Q : Exit → Act → World → Prop} (w0 W : World) {v : Value} {xs : List Int} (hO : OutR w0 W v xs) (hgd : o.guard = none) (sl x : Operand)
    (ho : o.op = .call { callee := .builtin .append, args := #[sl, x], argTypes := #[22, 9] })
    (hs : a.eval sl = v) (s : List UInt8) (S : ByteArray) (hx : a.eval x = .string S) (hS : S = ⟨s.toArray⟩) (hb : xs.length + s.length ≤ 140737488355328)
    (h : ∀ v' W', OutR w0 W' v' (xs ++ bI s) → wpList Tryd.prog ops Q rest (a.put o.dst v') W') : wpList Tryd.prog ops Q (o :: rest) a W := by
  subst hS
  obtain ⟨i, hi, hz, hs1, hby⟩ := info_parts info5
  have hsz : (⟨s.toArray⟩ : ByteArray).size = s.length := by simp [ByteArray.size]
  refine wpList_plain hgd fun K hK => ?_
  obtain ⟨v', w', hr, h2, h3, _⟩ := Lib.run_append_own_string (P := Tryd.prog) W w0.heap.size 22 9 o.type 5 i Tryd.underlying22 Tryd.underlying9 hi hz hs1 hby v _ _ hO.own ⟨s.toArray⟩ (by simp only [maxLen]; omega) (by omega) hO.bel.size
  unfold Oper.wp execOp
  simp only [ho, resolve, invoke, builtin, Sem.run_bind, Sem.run_pure, Result.andThen_ok, List.map_toArray, List.map_cons, List.map_nil, hs, hx, hr]
  refine hK _ _ (h v' w' ⟨?_, ?_⟩)
  · rw [strCells_bI] at h2
    rw [List.length_append, nums_append, bI_length, ← hsz]
    exact h2
  · exact pw_below_grown hO.bel _ hO.bel.size h3 (fun k hk => own_base hO.own k hk)

/-- AppendInt, as the walk meets it -/
theorem appendInt_calls (w0 W : World) {v : Value} {xs : List Int} (hO : OutR w0 W v xs) (i : Int) (h0 : 0 ≤ i) (h1 : i ≤ 9223372036854775807) (hl : xs.length ≤ 1000)
    (htab : Lib.TabIs Tryd.prog w0 "internal/strconv.uint64pow10" .u64 Lib.pow10Tab) :
    Calls Tryd.prog 15 #[v, .int .i64 i, .int .i64 10] W fun e w' => ∃ v', e = .returned v' ∧ OutR w0 w' v' (xs ++ decI i) := by
  refine (Tryd.strconv_AppendInt_10 w0.heap.size xs.length i (by omega) h1 v (nums .u8 xs) W hO.own hO.bel.size (by omega) ((Lib.tabBelow_of_tabIs htab).on hO.bel)).mono ?_
  rintro e w' ⟨v', rfl, h2, h3, _⟩
  refine ⟨v', rfl, ?_, hO.bel.trans h3⟩
  have e1 : Lib.itoa i = Lib.decDigits i.toNat := by rw [Lib.itoa, if_neg (by omega)]
  have e2 : Lib.byteCells (Lib.decDigits i.toNat) = nums .u8 (decI i) := by rw [decI, ← strCells_bI]; rfl
  rw [e1, e2] at h2
  rw [List.length_append, nums_append, decI, bI_length]
  exact h2

theorem OutR.value {w0 W : World} {v : Value} {xs : List Int} (h : OutR w0 W v xs) : Kd.R (Kd.int .u8) 5 W w0.heap.size (fun _ => True) v xs := by
  refine ⟨fun _ _ => trivial, nums .u8 xs, h.own, ⟨by simp [nums, Kd.int, Kd.scalar], fun j p hp => ?_⟩⟩
  show ((nums .u8 xs).drop (j * 1)).take 1 = [Value.int .u8 p]
  have hj := (List.getElem?_eq_some_iff.1 hp).1
  have hp' : (nums .u8 xs)[j]? = some (.int .u8 p) := by simp [nums, hp]
  rw [Nat.mul_one, List.drop_eq_getElem_cons (by simpa [nums] using hj)]
  rw [List.getElem?_eq_getElem (by simpa [nums] using hj)] at hp'
  rw [Option.some.inj hp']
  rfl

theorem src_seg {W : World} {ad : Addr} {l : List Int} {c s e : Nat} (hT : Text W (some ad) c l) (hse : s ≤ e) (he : e ≤ l.length) : Src W (some (ad.add s)) (nums .u8 (seg l s e)) := by
  intro j u hu
  have hj : j < e - s := by
    have := (List.getElem?_eq_some_iff.1 hu).1
    simp [nums, seg] at this
    omega
  have hl : s + j < l.length := by omega
  obtain ⟨ad', e', hc⟩ := hT.at hl
  injection e' with e'
  subst e'
  refine ⟨_, rfl, ?_⟩
  rw [add_add, hc]
  simp only [nums, seg, List.getElem?_map, List.getElem?_take, List.getElem?_drop, if_pos hj, List.getElem?_eq_getElem hl, Option.map_some, Option.some.injEq] at hu
  rw [← hu, rd, Int.toNat_natCast]
  simp [List.getD_eq_getElem?_getD, hl]
theorem src_cut {W : World} {A : Option Addr} {l : List Int} {c s e : Nat} (hT : Text W A c l) (hse : s ≤ e) (he : e ≤ l.length) : Src W (if c = s then A else A.map (·.add (s * 1))) (nums .u8 (seg l s e)) := by
  have hc := hT.cap
  by_cases hz : s = e
  · intro j u hu
    rw [hz, seg_nil] at hu
    simp [nums] at hu
  · rw [if_neg (by omega)]
    obtain ⟨ad, rfl, _⟩ := hT.at (show s < l.length by omega)
    rw [Nat.mul_one]
    exact src_seg hT hse he
theorem seg_len {l : List Int} {s e : Nat} (hse : s ≤ e) (he : e ≤ l.length) : (seg l s e).length = e - s := by simp [seg]; omega

set_option maxRecDepth 100000 in
set_option maxHeartbeats 4000000 in
theorem rend_in (w : World) (A A2 : Option Addr) (c c2 : Nat) (l m : List Int) (off : Int) (hT : Text w A c l) (hok : okText l = true) (hr2 : Kd.C (Kd.int .u8) w A2 m.length m) (hc2 : m.length ≤ c2) (hl : l.length ≤ 1099511627776) (hm : m.length ≤ 1099511627776)
    (h0 : 0 ≤ off) (h1 : off ≤ l.length) (htab : Lib.TabIs Tryd.prog w "internal/strconv.uint64pow10" .u64 Lib.pow10Tab) :
    Calls Tryd.prog 6 #[.slice A l.length c, .int .i64 off, .slice A2 m.length c2] w fun e w' => ∃ v0_ : Value, e = .returned v0_ ∧ Kd.R (Kd.int .u8) 5 w' w.heap.size (fun _ => True) v0_ (rendF l off m) ∧ Below w.heap.size w w' := by
  have hlc : impl_LineCol.f l off = some (lcol l off) := by rw [impl_LineCol.f, if_pos hok]
  have hpl : impl_lines_place.f l off = some (((plc l off).length : Int), (((plc l off).getLastD 0 : Nat) : Int)) := by rw [impl_lines_place.f, if_pos hok]
  have hsm := hT.small
  obtain ⟨o, rfl⟩ : ∃ o : Nat, off = (o : Int) := ⟨off.toNat, by omega⟩
  rw [plc_eq l o (by omega)] at hpl
  rw [show (upS l o).getLastD 0 = st l o from rfl] at hpl
  obtain ⟨hb1, hb2⟩ := lcol_bounds l o (by omega) hl
  have hend := end_f l hsm (st l o)
  rw [rendF, if_neg (by omega), rend0]
  generalize hp : lcol l (o : Int) = p at *
  obtain ⟨ln, cn⟩ := p
  simp only at hb1 hb2 ⊢
  obtain ⟨hn1, hn2⟩ := hb1
  obtain ⟨hd1, hd2⟩ := hb2
  have q1 := dec_le ln (by omega) (by omega)
  have q2 := dec_le cn (by omega) (by omega)
  have q1 : (decI ln).length ≤ 21 := by rw [decI, bI_length]; exact q1
  have q2 : (decI cn).length ≤ 21 := by rw [decI, bI_length]; exact q2
  have z0 : decide (ln = 0) = false := decide_eq_false (by omega)
  have hstl := st_le l o
  have hto : ((o : Int)).toNat = o := by omega
  rw [hto]
  obtain ⟨f1, f2, _, _⟩ := endOf_facts l l.length (st l o) (by omega) (by omega)
  generalize endOf l (st l o) = E at *
  generalize st l o = S at *
  generalize (upS l o).length = NL at *
  have HB := Below.refl w.heap.size w
  have hsg := seg_len f1 f2
  have hcp := hT.cap
  obtain ⟨i0, hi0, _, hsz0, _⟩ := info_parts info5
  have hcut := cut_mid (P := Tryd.prog) 22 5 .i64 .i64 Tryd.underlying22 hi0 1 hsz0 A l.length c (S : Int) (E : Int) (by omega) (by omega) (by omega) hcp
  have hsrc : ∀ W, Text W A c l → Src W (if c = S then A else A.map (·.add (S * 1))) (nums .u8 (seg l S E)) := fun W h => src_cut h f1 f2
  rw [Int.toNat_natCast, Int.toNat_natCast] at hcut
  generalize (if c = S then A else A.map (·.add (S * 1))) = A1 at hcut hsrc
  generalize c - S = c1 at hcut
  have HSRC := Aside0.mk hsrc
  clear hsrc hi0 hsz0
  have HE := Lib.hid hp
  clear hp
  go_enter Tryd.func6, Tryd.ntmps6
  go_wp2_with (first
    | ((with_reducible refine gate_dst (N := 16) rfl ?_); refine goesL_ (some 16) rfl rfl Tryd.func13 (by kernel_rfl) rfl #[.slice A l.length c, .int .i64 (o : Int)] rfl (by (try simp only [List.map_toArray, List.map_cons, List.map_nil]); first | done | rfl) ?_; refine (impl_LineCol.calls _ c l _ _ _ _ hT.reads hT.cap hlc).mono ?_; rintro e W1 ⟨rfl, B1⟩; refine ⟨_, rfl, ?_⟩)
    | ((with_reducible refine gate_dst (N := 25) rfl ?_); refine goesL_ (some 25) rfl rfl Tryd.func14 (by kernel_rfl) rfl #[.slice A l.length c, .int .i64 (o : Int)] rfl (by (try simp only [List.map_toArray, List.map_cons, List.map_nil]); first | done | rfl) ?_; refine (impl_lines_place.calls _ c l _ _ _ _ (hT.below B1).reads hT.cap hpl).mono ?_; rintro e W2 ⟨rfl, B2⟩; refine ⟨_, rfl, ?_⟩; have O2 : OutR w W2 (.slice none 0 0) [] := ⟨own_nil _ _ _ _, below_then B1 B1.size B2⟩)
    | ((with_reducible refine gate_dst (N := 30) rfl ?_); refine goesL_ (some 30) rfl rfl Tryd.func15 (by kernel_rfl) rfl #[.slice none 0 0, .int .i64 ln, .int .i64 10] rfl (by (try simp only [List.map_toArray, List.map_cons, List.map_nil]); first | done | rfl) ?_; refine (appendInt_calls w _ O2 ln (by omega) (by omega) (by simp) htab).mono ?_; rintro e W3 ⟨v3, rfl, O3⟩; refine ⟨_, rfl, ?_⟩)
    | ((with_reducible refine gate_dst (N := 33) rfl ?_); refine outR_append w _ (OutR.alloc O3 _) rfl _ _ rfl rfl _ _ _ [58] rfl rfl (src_new _ _ _ rfl) (by simp; omega) ?_; intro v4 W4 O4)
    | ((with_reducible refine gate_dst (N := 36) rfl ?_); refine goesL_ (some 36) rfl rfl Tryd.func15 (by kernel_rfl) rfl #[v4, .int .i64 cn, .int .i64 10] rfl (by (try simp only [List.map_toArray, List.map_cons, List.map_nil]); first | done | rfl) ?_; refine (appendInt_calls w _ O4 cn (by omega) (by omega) (by simp; omega) htab).mono ?_; rintro e W5 ⟨v5, rfl, O5⟩; refine ⟨_, rfl, ?_⟩)
    | ((with_reducible refine gate_dst (N := 38) rfl ?_); refine outR_append_str w _ O5 rfl _ _ rfl rfl [58, 32] _ rfl rfl (by simp; omega) ?_; intro v6 W6 O6)
    | ((with_reducible refine gate_dst (N := 41) rfl ?_); refine outR_append w _ O6 rfl _ _ rfl rfl A2 _ c2 m rfl rfl (src_of (Kd.C_below hr2 O6.bel)) (by simp [bI_length]; omega) ?_; intro v7 W7 O7)
    | ((with_reducible refine gate_dst (N := 44) rfl ?_); refine outR_append w _ (OutR.alloc O7 _) rfl _ _ rfl rfl _ _ _ [10] rfl rfl (src_new _ _ _ rfl) (by simp [bI_length]; omega) ?_; intro v8 W8 O8)
    | ((with_reducible refine gate_dst (N := 50) rfl ?_); refine goesL_ (some 50) rfl rfl Tryd.func16 (by kernel_rfl) rfl #[.slice A l.length c, .int .i64 (S : Int)] rfl (by (try simp only [List.map_toArray, List.map_cons, List.map_nil]); first | done | rfl) ?_; refine (impl_lines_end.calls _ _ c l _ _ _ (hT.below O8.bel).reads hT.cap hend).mono ?_; rintro e w' ⟨rfl, ⟨nd, rfl⟩⟩; refine ⟨_, rfl, ?_⟩)
    | ((with_reducible refine gate_dst (N := 52) rfl ?_); refine outR_append w _ (OutR.drewN O8 _) rfl _ _ rfl rfl A1 _ _ (seg l S E) rfl (by rw [hsg]) (HSRC.out _ (hT.below (pw_below_drewN O8.bel _))) (by simp [bI_length]; omega) ?_; intro v9 W9 O9)
    | ((with_reducible refine gate_dst (N := 55) rfl ?_); refine outR_append w _ (OutR.alloc O9 _) rfl _ _ rfl rfl _ _ _ [10] rfl rfl (src_new _ _ _ rfl) (by simp [bI_length]; omega) ?_; intro v10 W10 O10))
  go_loopg [12, 58] (cn.toNat + 1) (fun kq v12 v58 w' => ∃ (j : Nat), v58 = .int .i64 (j : Int) ∧ Aside0 ((j : Int) ≤ cn - 1 ∧ cn - 1 < j + kq) ∧ OutR w w' v12 ([] ++ decI ln ++ [58] ++ decI cn ++ bI [58, 32] ++ m ++ [10] ++ seg l S E ++ [10] ++ List.replicate j 32))
  case atStart => exact ⟨0, rfl, ⟨by omega, by omega⟩, by rw [List.replicate_zero, List.append_nil]; exact O10⟩
  case round =>
    obtain ⟨j, rfl, HJ, O11⟩ := hrel
    obtain ⟨j2, j3⟩ := HJ.out
    cases gk with
    | zero => omega
    | succ k2 =>
      by_cases hj : (j : Int) < cn - 1
      · have dj : decide ((j : Int) < cn - 1) = true := decide_eq_true hj
        go_wp2_with (first
          | ((with_reducible refine gate_dst (N := 62) rfl ?_); refine outR_append w _ (OutR.alloc O11 _) rfl _ _ rfl rfl _ _ _ [32] rfl rfl (src_new _ _ _ rfl) (by simp [bI_length]; omega) ?_; intro v12 W12 O12))
        go_roundg k2
        case measure => omega
        case rel => exact ⟨j + 1, by first | rfl | (simp; done) | (rw [wid (by omega) (by omega)]; simp), ⟨by omega, by omega⟩, by
          rw [List.replicate_succ', ← List.append_assoc]
          exact O12⟩
      · have dj : decide ((j : Int) < cn - 1) = false := decide_eq_false hj
        go_wp2_with (first
          | ((with_reducible refine gate_dst (N := 65) rfl ?_); refine outR_append_str w _ O11 rfl _ _ rfl rfl [94, 10] _ rfl rfl (by simp [bI_length]; omega) ?_; intro v13 W13 O13))
        go_ret
        have e : j = (cn - 1).toNat := by omega
        rw [e] at O13
        exact ⟨_, rfl, by
          have := O13.value
          simpa [bI, List.append_assoc] using this, O13.bel⟩

theorem rend_out (w : World) (A A2 : Option Addr) (c c2 : Nat) (l m : List Int) (off : Int) (hT : Text w A c l) (hok : okText l = true) (ho : off < 0 ∨ (l.length : Int) < off) :
    Calls Tryd.prog 6 #[.slice A l.length c, .int .i64 off, .slice A2 m.length c2] w fun e w' => ∃ v0_ : Value, e = .returned v0_ ∧ Kd.R (Kd.int .u8) 5 w' w.heap.size (fun _ => True) v0_ (rendF l off m) ∧ Below w.heap.size w w' := by
  have hlc : impl_LineCol.f l off = some (lcol l off) := by rw [impl_LineCol.f, if_pos hok]
  rw [rendF, if_pos ho]
  rw [lcol, if_pos ho] at hlc
  go_enter Tryd.func6, Tryd.ntmps6
  go_wp2_with (first
    | ((with_reducible refine gate_dst (N := 16) rfl ?_); refine goesL_ (some 16) rfl rfl Tryd.func13 (by kernel_rfl) rfl #[.slice A l.length c, .int .i64 off] rfl (by (try simp only [List.map_toArray, List.map_cons, List.map_nil]); first | done | rfl) ?_; refine (impl_LineCol.calls _ c l _ _ _ _ hT.reads hT.cap hlc).mono ?_; rintro e W1 ⟨rfl, B1⟩; refine ⟨_, rfl, ?_⟩))
  go_ret
  exact ⟨_, rfl, Kd.R_nil _ _ _ _ _, B1⟩
end Go.Proofs.YtahfkfdjhpookaaDoor.Txt

namespace Go.Proofs.YtahfkfdjhpookaaDoor.PAll
open Go.RowKit Go.Proofs.YtahfkfdjhpookaaDoorW.PrintWords Go.Proofs.YtahfkfdjhpookaaDoorW.PrintLast Go.Proofs.YtahfkfdjhpookaaDoor.Txt
def impl_Render.f (l0 : List Int) (a1 : Int) (l2 : List Int) : Option (List Int) := if okRend l0 l2 = true then some (rendF l0 a1 l2) else none
/-- the table that AppendInt reads -/
def Tab10 (w : World) : Prop := Lib.TabIs Tryd.prog w "internal/strconv.uint64pow10" .u64 Lib.pow10Tab
theorem Tab10.below {w w' : World} (h : Tab10 w) (hb : Below w.heap.size w w') : Tab10 w' := (Lib.tabBelow_of_tabIs h) w' hb
theorem impl_Render.calls (A0 : Option Addr) (c0 : Nat) (l0 : List Int) (a1 : Int) (A2 : Option Addr) (c2 : Nat) (l2 : List Int) (r : List Int) (w : World) (hr0 : Kd.C (Kd.int .u8) w A0 l0.length l0) (hc0 : l0.length ≤ c0) (hr2 : Kd.C (Kd.int .u8) w A2 l2.length l2) (hc2 : l2.length ≤ c2) (h : impl_Render.f l0 a1 l2 = some r) (htab : Tab10 w) :
    Calls Tryd.prog 6 #[.slice A0 l0.length c0, .int .i64 a1, .slice A2 l2.length c2] w fun e w' => ∃ v0_ : Value, e = .returned (v0_) ∧ Kd.R (Kd.int .u8) 5 w' w.heap.size (fun _ => True) v0_ r ∧ Below w.heap.size w w' := by
  unfold impl_Render.f at h
  by_cases ht : okRend l0 l2 = true
  · rw [if_pos ht] at h
    obtain rfl := Option.some.inj h
    simp only [okRend, Bool.and_eq_true, decide_eq_true_eq] at ht
    have hT := Text.of hr0 hc0 ht.1.1
    by_cases ho : a1 < 0 ∨ (l0.length : Int) < a1
    · exact rend_out w A0 A2 c0 c2 l0 l2 a1 hT ht.1.1 ho
    · exact rend_in w A0 A2 c0 c2 l0 l2 a1 hT ht.1.1 hr2 hc2 ht.1.2 ht.2 (by omega) (by omega) htab
  · rw [if_neg ht] at h
    cases h
end Go.Proofs.YtahfkfdjhpookaaDoor.PAll
