import Derived.Maps.OwnSet
import Derived.Test.YtdiilocgjnlmiaaCchPAllx15
import Derived.Test.YtdiilocgjnlmiaaCchMapB
import Derived.Test.YtdiilocgjnlmiaaCchMark
import Derived.Outline
import Derived.WalkSpells
namespace Go.Proofs.Ytdiilocgjnlmiaa.Tre
open Go.RowKit Go.Proofs.YtdiilocgjnlmiaaW.PrintWords Go.Proofs.YtdiilocgjnlmiaaW.PrintLast Go.Proofs.YtdiilocgjnlmiaaW.PrintMore
open Go.Proofs.Ytdiilocgjnlmiaa.PAll Go.Maps
set_option linter.unusedVariables false
set_option linter.unusedSimpArgs false
section
variable {P : Program} {w : World} {K E : TypeId} {b n : Nat} {f : Lit → Bool}
theorem mapB_del {ops : Array Oper} {rest : List Oper} {o : Oper} {a : Act} {Q : Exit → Act → World → Prop} (h : MapB P w K E b n f) (hK : Keyed P K) (hg : o.guard = none) (m x : Operand) (t : TypeId) (hop : o.op = Op.call { callee := Callee.builtin Builtin.delete, args := #[m, x], argTypes := #[t, K] })
 (ht : P.underlying t = some (.map K E)) (hm : a.eval m = .map (some b)) (key : Value) (hx : a.eval x = key) (kl : Lit) (hkey : keyOf P K key = some kl)
 (f' : Lit → Bool) (hf : ∀ k, f' k = true ↔ k ≠ kl ∧ f k = true)
 (h' : ∀ w', MapB P w' K E b n f' → w.grownBy w' (some b) → wpList P ops Q rest (a.put o.dst (.tuple #[])) w') : wpList P ops Q (o :: rest) a w := by
 obtain ⟨D, h1, h2, h3⟩ := h
 refine wpList_delete_own w hg m x t K hop E hK ht (plainElem P E) b n D hm h1 key kl hx hkey fun w' g1 g2 => h' w' ⟨_, g1, ?_, fun k hk => ?_⟩ g2.grown
 ·obtain ⟨es, rfl⟩ := h2
  exact ⟨_, rfl⟩
 by_cases e : k = kl
 ·subst e
  rw [atKey_del_same]
  congr 2
  cases hq : f' k with
  | false => rfl
  | true => exact absurd rfl ((hf k).1 hq).1
 rw [atKey_del_other e, h3 k hk]
 congr 2
 rw [Bool.eq_iff_iff, hf k]
 exact ⟨fun h => ⟨e, h⟩, fun h => h.2⟩
end
theorem infoNd : (Try.prog.info? 125).map (fun i => (i.zero, i.size, i.bytes)) = some (some (.int .i64 0), 1, 8) := by kernel_rfl
theorem keyN : Keyed Try.prog 125 := int_keyed Try.underlying125
theorem zeroB (w : World) : (zeroValue 4).run Try.prog w = .ok (.bool false) w := by kernel_rfl
def nodesV (xs : List Nat) : List Value := xs.map fun (x : Nat) => Value.int .i64 (x : Int)
theorem q_push {ops : Array Oper} {rest : List Oper} {o : Oper} {a : Act} {Q : Exit → Act → World → Prop} {W : World} {base : Nat} {v : Value} {n x : Nat} {xs : List Value} (hq : QRow W base 125 1 v n xs)
 (hgd : o.guard = none) (sl y : Operand) (ho : o.op = .call { callee := .builtin .append, args := #[sl, y], argTypes := #[178, 178] })
 (hs : a.eval sl = v) (ob : Obj) (hob : ob = .cells #[.int .i64 (x : Int)] 125) (c m : Nat) (hy : a.eval y = .slice (some ⟨m, 0, none⟩) 1 c) (hm : m = W.heap.size) (hl : n ≤ 1099511627776) (hb : base ≤ W.heap.size)
 (h : ∀ v' W', QRow W' base 125 1 v' (n + 1) (xs ++ [.int .i64 (x : Int)]) → W.grownBy W' v.ownBlock → (v'.ownBlock = v.ownBlock ∨ ∃ b, v'.ownBlock = some b ∧ W.heap.size ≤ b) → wpList Try.prog ops Q rest (a.put o.dst v') W') : wpList Try.prog ops Q (o :: rest) a (W.alloc ob) := by
 obtain ⟨ii, hi, hz, hs1, hby⟩ := info_parts infoNd
 subst hob hm
 have hq1 : QRow (W.alloc (.cells #[.int .i64 (x : Int)] 125)) base 125 1 v n xs := q_move hq fun k hk => Below.heap_alloc W _ k (q_lt hq k hk)
 obtain ⟨v', w', hr, h1, h2, h3⟩ := q_append (P := Try.prog) (W.alloc (.cells #[.int .i64 (x : Int)] 125)) base 178 o.type 125 ii (.int .i64 0) 1 8 Try.underlying178 hi hz hs1 hby rfl (by decide) v n xs hq1 ⟨W.heap.size, 0, none⟩ 1 c [.int .i64 (x : Int)] rfl
  (by
   intro j u hu
   match j, hu with
   | 0, hu => cases hu; exact (Boxed.new W _ _).cell
   | j + 1, hu => cases hu) (by intro u hu; rw [List.mem_singleton] at hu; rw [hu]; rfl) (by decide) (by unfold maxLen; omega) (by omega) (by simp; omega)
 refine wpList_plain hgd fun K hK => ?_
 unfold Oper.wp execOp
 simp only [ho, resolve, invoke, builtin, Sem.run_bind, Sem.run_pure, Result.andThen_ok, List.map_toArray, List.map_cons, List.map_nil, hs, hy, hr]
 refine hK _ _ (h v' w' h1 (World.grownBy.trans (World.grownBy_alloc W _ _) h2) (h3.imp id fun ⟨b, h4, h5⟩ => ⟨b, h4, by rw [World.size_alloc] at h5; omega⟩))
structure WkSt (W : World) (wb : Nat) (v mp : Value) (items : List Nat) (p : Nat) : Prop where
 box : W.heap[wb]? = some (.cells #[v, mp] 181 (0, 0))
 q : QRow W wb 125 1 v items.length (nodesV items)
 map : (mp = .map none ∧ items = []) ∨ ∃ mb f, mp = .map (some mb) ∧ wb < mb ∧ MapB Try.prog W 125 4 mb p f ∧ ∀ x : Nat, f (.int .i64 (x : Int)) = decide (x ∈ items)
theorem WkSt.below {W W' : World} {wb : Nat} {v mp : Value} {items : List Nat} {p : Nat} (h : WkSt W wb v mp items p) (hb : Below W.heap.size W W') : WkSt W' wb v mp items p :=
 ⟨blk_below h.box hb, q_move h.q fun k hk => hb.block k (q_lt h.q k hk), h.map.imp id fun ⟨mb, f, h1, h2, h3, h4⟩ => ⟨mb, f, h1, h2, h3.below hb, h4⟩⟩
structure WkSrc (W : World) (wb : Nat) (v mp : Value) (A : Option Addr) (xs : List Nat) : Prop where
 get : ∀ j, j < xs.length → ∃ ad, A = some ad ∧ W.cell? (ad.add j) = some (.int .i64 ((xs.getD j 0 : Nat) : Int))
 box : ∀ ad, A = some ad → ad.block ≠ wb
 row : ∀ ad, A = some ad → some ad.block ≠ v.ownBlock
 map : ∀ ad, A = some ad → mp ≠ .map (some ad.block)
 lt : ∀ ad, A = some ad → ad.block < W.heap.size
structure WkRun (w W : World) (wb mb : Nat) (v0 v : Value) (items : List Nat) (p : Nat) : Prop where
 box : W.heap[wb]? = some (.cells #[v, .map (some mb)] 181 (0, 0))
 q : QRow W wb 125 1 v items.length (nodesV items)
 map : ∃ f, MapB Try.prog W 125 4 mb p f ∧ ∀ x : Nat, f (.int .i64 (x : Int)) = decide (x ∈ items)
 lt : wb < mb
 bel : Below wb w W
 size : w.heap.size ≤ W.heap.size
 same : ∀ b, b < w.heap.size → b ≠ wb → b ≠ mb → some b ≠ v0.ownBlock → W.heap[b]? = w.heap[b]?
 own : v.ownBlock = v0.ownBlock ∨ ∃ b, v.ownBlock = some b ∧ w.heap.size ≤ b
theorem add_block (ad : Addr) (j : Nat) : (ad.add j).block = ad.block := by unfold Addr.add; split <;> rfl
theorem WkRun.turn {w W W1 : World} {wb mb : Nat} {v0 v : Value} {items : List Nat} {p : Nat} (h : WkRun w W wb mb v0 v items p) (hwb : wb < w.heap.size) (hg : W.grownBy W1 (some mb)) : W1.heap[wb]? = some (.cells #[v, .map (some mb)] 181 (0, 0)) ∧ QRow W1 wb 125 1 v items.length (nodesV items) := by
 have hne : some wb ≠ some mb := fun e => absurd (Option.some.inj e) (Nat.ne_of_lt h.lt)
 obtain ⟨f, ⟨D, ⟨es, clock, hm, _⟩, _⟩, _⟩ := h.map
 refine ⟨blk_grown h.box hg hne, q_move h.q fun k hk => hg.block k (q_lt h.q k hk) fun e => ?_⟩
 obtain ⟨_, cells, hc⟩ := q_typed h.q k hk
 rw [Option.some.inj e, hm] at hc
 cases hc
theorem WkRun.next {w W W1 W2 : World} {wb mb : Nat} {v0 v v' : Value} {items : List Nat} {p x : Nat} {f : Lit → Bool} (h : WkRun w W wb mb v0 v items p) (hwb : wb < w.heap.size) (hg : W.grownBy W1 (some mb)) (hM : MapB Try.prog W1 125 4 mb (p + 1) f) (hf : ∀ y : Nat, f (.int .i64 (y : Int)) = decide (y ∈ items ++ [x]))
 (hq : QRow W2 wb 125 1 v' (items.length + 1) (nodesV items ++ [.int .i64 (x : Int)])) (hg2 : W1.grownBy W2 v.ownBlock) (hat : v'.ownBlock = v.ownBlock ∨ ∃ b, v'.ownBlock = some b ∧ W1.heap.size ≤ b) : WkRun w (W2.setCell ⟨wb, 0, none⟩ v') wb mb v0 v' (items ++ [x]) (p + 1) := by
 obtain ⟨b1, q1⟩ := h.turn hwb hg
 have hv : some mb ≠ v.ownBlock := fun e => by
  obtain ⟨f, ⟨D, ⟨es, clock, hm, _⟩, _⟩, _⟩ := h.map
  obtain ⟨_, cells, hc⟩ := q_typed h.q mb e.symm
  rw [hm] at hc
  cases hc
 have hw : some wb ≠ v.ownBlock := fun e => by
  obtain ⟨_, cells, hc⟩ := q_typed h.q wb e.symm
  rw [h.box] at hc
  injection hc with hc
  injection hc with _ hc _
  exact absurd hc (by decide)
 have hw' : v'.ownBlock ≠ some wb := fun e => by
  obtain ⟨_, cells, hc⟩ := q_typed hq wb e
  rw [blk_grown b1 hg2 hw] at hc
  injection hc with hc
  injection hc with _ hc _
  exact absurd hc (by decide)
 have hsz : w.heap.size ≤ W1.heap.size := Nat.le_trans h.size hg.size
 have hbe : Below wb w W2 := (h.bel.grown hg (Nat.le_trans (Nat.le_of_lt hwb) h.size) fun k hk => by rw [← Option.some.inj hk]; exact Nat.le_of_lt h.lt).grown hg2 (Nat.le_trans (Nat.le_of_lt hwb) hsz) fun k hk => (q_typed h.q k hk).1
 refine ⟨blk_put (blk_grown b1 hg2 hw) 0 v' rfl, ?_, ⟨f, (hM.kept hg2 hv).setCell (fun e => absurd e (Nat.ne_of_gt h.lt)) _, hf⟩, h.lt, hbe.setCell (Nat.le_refl _) _, by simp; exact Nat.le_trans hsz hg2.size, fun b hb h1 h2 h3 => ?_, ?_⟩
 ·rw [nodesV, List.map_append, List.length_append]
  exact q_move hq fun k hk => Below.heap_setCell _ _ _ _ fun e => hw' (by rw [hk]; exact congrArg some e)
 ·rw [Below.heap_setCell _ _ _ _ h1, hg2.block b (Nat.lt_of_lt_of_le hb hsz), hg.block b (Nat.lt_of_lt_of_le hb h.size), h.same b hb h1 h2 h3]
  ·exact fun e => h2 (Option.some.inj e)
  rcases h.own with e | ⟨b', e, e2⟩
  ·rw [e]; exact h3
  rw [e]; intro e3; have := Option.some.inj e3; omega
 rcases hat with e | ⟨b', e, e2⟩
 ·rw [e]; exact h.own
 exact .inr ⟨b', e, by omega⟩
def AddPost (w : World) (wb : Nat) (l : List Nat) (p : Nat) (e : Ending) (w' : World) : Prop := e = .returned (.tuple #[]) ∧ ∃ v mp, WkSt w' wb v mp l p ∧ Below wb w w' ∧ w.heap.size ≤ w'.heap.size
theorem WkRun.st {w W : World} {wb mb : Nat} {v0 v : Value} {items : List Nat} {p : Nat} (h : WkRun w W wb mb v0 v items p) : WkSt W wb v (.map (some mb)) items p := by
 obtain ⟨f, h1, h2⟩ := h.map
 exact ⟨h.box, h.q, .inr ⟨mb, f, rfl, h.lt, h1, h2⟩⟩
theorem WkRun.mono {w W : World} {wb mb : Nat} {v0 v : Value} {items : List Nat} {p p' : Nat} (h : WkRun w W wb mb v0 v items p) (hp : p ≤ p') : WkRun w W wb mb v0 v items p' := by
 obtain ⟨f, h1, h2⟩ := h.map
 exact ⟨h.box, h.q, ⟨f, h1.mono hp, h2⟩, h.lt, h.bel, h.size, h.same, h.own⟩
theorem WkRun.apart {w W W1 : World} {wb mb : Nat} {v0 v : Value} {items : List Nat} {p : Nat} (h : WkRun w W wb mb v0 v items p) (hwb : wb < w.heap.size) (hg : W.grownBy W1 (some mb)) : some wb ≠ v.ownBlock := fun e => by
 obtain ⟨_, cells, hc⟩ := q_typed h.q wb e.symm
 rw [h.box] at hc
 injection hc with hc
 injection hc with _ hc _
 exact absurd hc (by decide)
theorem take_snoc {xs : List Nat} {j : Nat} (hj : j < xs.length) : xs.take (j + 1) = xs.take j ++ [xs.getD j 0] := by
 rw [List.take_succ_eq_append_getElem hj]
 simp [List.getD_eq_getElem?_getD, hj]
theorem addF_le : ∀ (l xs : List Nat), (addF l xs).length ≤ l.length + xs.length
 | l, [] => Nat.le_refl _
 | l, x :: xs => by
  have := addF_le (if x ∈ l then l else l ++ [x]) xs
  rw [addF_cons, List.length_cons]
  split at this
  ·rename_i h; rw [if_pos h]; omega
  rename_i h; rw [if_neg h]; rw [List.length_append, List.length_singleton] at this; omega
open Classical in
noncomputable def putL (f : Lit → Bool) (kl : Lit) (k : Lit) : Bool := decide (k = kl) || f k
open Classical in
noncomputable def delL (f : Lit → Bool) (kl : Lit) (k : Lit) : Bool := decide (k ≠ kl) && f k
theorem putL_iff (f : Lit → Bool) (kl k : Lit) : putL f kl k = true ↔ k = kl ∨ f k = true := by simp [putL]
theorem delL_iff (f : Lit → Bool) (kl k : Lit) : delL f kl k = true ↔ k ≠ kl ∧ f k = true := by simp [delL]
theorem put_mem {f : Lit → Bool} {z y : Nat} {l : List Nat} (hf : f (.int .i64 (z : Int)) = decide (z ∈ l)) : putL f (.int .i64 (y : Int)) (.int .i64 (z : Int)) = decide (z ∈ l ++ [y]) := by
 rw [Bool.eq_iff_iff, putL_iff, hf, decide_eq_true_eq, decide_eq_true_eq, List.mem_append, List.mem_singleton]
 constructor
 ·rintro (h | h)
  ·injection h with _ h; exact .inr (by omega)
  exact .inl h
 rintro (h | h)
 ·exact .inr h
 subst h; exact .inl rfl
theorem below_trans' {B : Nat} {w w1 w2 : World} (h : Below B w w1) (k : Below B w1 w2) : Below B w w2 := h.trans k
set_option maxRecDepth 100000 in
set_option maxHeartbeats 8000000 in
theorem add_some (w : World) (wb mb : Nat) (v : Value) (items : List Nat) (p : Nat) (f : Lit → Bool) (hbox : w.heap[wb]? = some (.cells #[v, .map (some mb)] 181 (0, 0))) (hq : QRow w wb 125 1 v items.length (nodesV items)) (hlt : wb < mb) (hM : MapB Try.prog w 125 4 mb p f) (hf : ∀ x : Nat, f (.int .i64 (x : Int)) = decide (x ∈ items))
 (A : Option Addr) (c : Nat) (xs : List Nat) (hsrc : WkSrc w wb v (.map (some mb)) A xs) (hx : ∀ x ∈ xs, x ≤ 1000) (hxl : xs.length ≤ 1073741824) (hp : p ≤ 1073741824) (hi : items.length ≤ 1073741824) :
 Calls Try.prog 125 #[.pointer (some ⟨wb, 0, none⟩), .slice A xs.length c] w (AddPost w wb (addF items xs) (p + xs.length)) := by
 have hR0 : WkRun w w wb mb v v (addF items (xs.take 0)) (p + 0) := ⟨hbox, hq, ⟨f, hM, hf⟩, hlt, Below.refl _ _, Nat.le_refl _, fun _ _ _ _ _ => rfl, .inl rfl⟩
 have HWB : Aside0 (wb < w.heap.size) := ⟨blk_lt hbox⟩
 have HB0 : Aside0 (Below wb w w) := ⟨Below.refl _ _⟩
 have HS0 : Aside0 (w.heap.size ≤ w.heap.size) := ⟨Nat.le_refl _⟩
 have b0 := blk_cell hbox 0
 have b1 := blk_cell hbox 1
 have HSRC := Aside0.mk hsrc
 have HMB : Aside0 (∀ ad, A = some ad → ad.block ≠ mb) := ⟨fun ad h e => hsrc.map ad h (by rw [e])⟩
 have HX := Aside0.mk hx
 have hnil := fun (w : World) (r : Option Nat) => run_eql_map_nil (P := Try.prog) w 179 _ _ r Try.underlying179
 clear hbox hq hM hf hsrc hx
 go_enter Try.func125, Try.ntmps125
 go_wp2_with fail
 obtain ⟨W0, hW0⟩ : ∃ W0, W0 = w := ⟨_, rfl⟩
 rw [← hW0] at hR0 HWB HB0 HS0 HSRC ⊢
 clear b0 b1
 go_loopg [17] (xs.length + 1) (fun kq v17 W' => ∃ (j : Nat) (u : Value), v17 = .int .i64 (j : Int) ∧ Aside0 (j ≤ xs.length ∧ xs.length < j + kq) ∧ WkRun W0 W' wb mb v u (addF items (xs.take j)) (p + j))
 case atStart => exact ⟨0, _, rfl, ⟨by omega, by omega⟩, hR0⟩
 case round =>
  clear hR0
  obtain ⟨j, u, rfl, HI, hR⟩ := hrel
  obtain ⟨i1, i2⟩ := HI.out
  clear HI
  cases gk with
  | zero => omega
  | succ k1 =>
   by_cases hj : j < xs.length
   rotate_left
   ·have d1 : decide ((j : Int) < (xs.length : Int)) = false := decide_eq_false (by omega)
    obtain rfl : j = xs.length := by omega
    have HR := Aside0.mk hR
    clear hR hj
    go_wp2_with fail
    go_end0
    have h1 := HR.out.st
    rw [List.take_length] at h1
    exact ⟨rfl, _, _, h1, below_trans' HB0.out HR.out.bel, Nat.le_trans HS0.out HR.out.size⟩
   have d1 : decide ((j : Int) < (xs.length : Int)) = true := decide_eq_true (by omega)
   obtain ⟨ad, rfl, x0⟩ := HSRC.out.get j hj
   have hlb := World.block_lt_of_cell? _ _ x0
   rw [add_block] at hlb
   replace x0 := (World.cell?_of_block (w' := wr) (a := ad.add j) (by rw [add_block]; exact hR.same _ hlb (HSRC.out.box _ rfl) (HMB.out _ rfl) (HSRC.out.row _ rfl))).trans x0
   clear hlb
   have htk := take_snoc hj
   have hy := HX.out (xs.getD j 0) (by rw [List.getD_eq_getElem?_getD]; simp [hj])
   generalize hyy : xs.getD j 0 = y at *
   have HTK := Aside0.mk htk
   clear hyy htk
   have hkey : keyOf Try.prog 125 (.int .i64 (y : Int)) = some (.int .i64 (y : Int)) := keyOf_int_mk Try.underlying125 (wf64 (by omega) (by omega))
   have HK := Aside0.mk hkey
   have hlen := addF_le items (xs.take j)
   rw [List.length_take, Nat.min_eq_left i1] at hlen
   have e2 : (0 ≤ (j : Int)) = True := eq_true (by omega)
   have e3 : ((j : Int) < (xs.length : Int)) = True := eq_true (by omega)
   have b0 := blk_cell hR.box 0
   have b1 := blk_cell hR.box 1
   obtain ⟨f, hM, hf⟩ := hR.map
   have HM := Aside0.mk hM
   have HR := Aside0.mk hR
   have lwb := blk_lt hR.box
   clear hkey hM hR
   by_cases hin : y ∈ addF items (xs.take j)
   ·have HIN : Aside0 (f (.int .i64 (y : Int)) = true) := ⟨by rw [hf]; exact decide_eq_true hin⟩
    have HN : Aside0 (WkRun W0 wr wb mb v u (addF items (xs.take (j + 1))) (p + (j + 1))) := ⟨by rw [HTK.out, addF_snoc, if_pos hin]; exact HR.out.mono (by omega)⟩
    clear hf hin
    go_wp2_with (first
     | (at_lookup; go_must (refine mapB_look HM.out keyN rfl _ _ _ rfl Try.underlying179 Try.underlying4 (zeroB _) rfl _ rfl _ HK.out _ HIN.out ?_)))
    go_roundg k1
    case measure => omega
    case rel => exact ⟨j + 1, _, by first | rfl, ⟨by omega, by omega⟩, HN.out⟩
   have HIN : Aside0 (f (.int .i64 (y : Int)) = false) := ⟨by rw [hf]; exact decide_eq_false hin⟩
   have HF : Aside0 (∀ z : Nat, putL f (.int .i64 (y : Int)) (.int .i64 (z : Int)) = decide (z ∈ addF items (xs.take j) ++ [y])) := ⟨fun z => put_mem (hf z)⟩
   have HAF : Aside0 (addF items (xs.take (j + 1)) = addF items (xs.take j) ++ [y]) := ⟨by rw [HTK.out, addF_snoc, if_neg hin]⟩
   clear hf hin
   go_wp2_with (first
    | (at_lookup; go_must (refine mapB_look HM.out keyN rfl _ _ _ rfl Try.underlying179 Try.underlying4 (zeroB _) rfl _ rfl _ HK.out _ HIN.out ?_))
    | (at_mapUpdate; go_must (refine mapB_put HM.out keyN rfl _ _ _ _ rfl Try.underlying179 Try.underlying4 rfl (by unfold maxLen; omega) _ rfl rfl _ HK.out (putL f (.int .i64 (y : Int))) (putL_iff _ _) ?_; intro W1 hM1 hG1; obtain ⟨t1, t2⟩ := HR.out.turn HWB.out hG1; have c0 := blk_cell t1 0; have c2 := blk_frozen t1 0; have HM1 := Aside0.mk hM1; have HG1 := Aside0.mk hG1; have HQ1 := Aside0.mk t2; have HBX := Aside0.mk t1; have l1 : wb < W1.heap.size := blk_lt t1; clear hM1 hG1 t2 t1))
    | ((with_reducible refine gate_dst (N := 40) rfl ?_); go_must (refine q_push HQ1.out rfl _ _ rfl rfl _ rfl _ _ rfl rfl (by omega) (by omega) ?_; intro v' W2 hq2 hg2 hat; obtain ⟨A', c', rfl, _⟩ := q_slice hq2; have HN := Aside0.mk (HR.out.next HWB.out HG1.out HM1.out HF.out hq2 hg2 hat); have hb2 := blk_grown HBX.out hg2 (HR.out.apart HWB.out HG1.out); have g0 := blk_cell hb2 0; have g2 := blk_frozen hb2 0; clear hq2 hg2 hat hb2)))
   go_roundg k1
   case measure => omega
   case rel => exact ⟨j + 1, _, by first | rfl, ⟨by omega, by omega⟩, by rw [HAF.out]; exact HN.out⟩
set_option maxRecDepth 100000 in
set_option maxHeartbeats 8000000 in
theorem add_nil (w : World) (wb : Nat) (v : Value) (p : Nat) (hbox : w.heap[wb]? = some (.cells #[v, .map none] 181 (0, 0))) (hq : QRow w wb 125 1 v 0 (nodesV []))
 (A : Option Addr) (c : Nat) (xs : List Nat) (hsrc : WkSrc w wb v (.map none) A xs) (hx : ∀ x ∈ xs, x ≤ 1000) (hxl : xs.length ≤ 1073741824) (hp : p ≤ 1073741824) :
 Calls Try.prog 125 #[.pointer (some ⟨wb, 0, none⟩), .slice A xs.length c] w (AddPost w wb (addF [] xs) (p + xs.length)) := by
 have hwb := blk_lt hbox
 have hb1 := blk_alloc (blk_put (cs' := #[v, .map (some w.heap.size)]) hbox 1 (.map (some w.heap.size)) rfl) (.map #[] 0)
 have hsz : ((w.setCell ⟨wb, 1, none⟩ (.map (some w.heap.size))).alloc (.map #[] 0)).heap.size = w.heap.size + 1 := by simp
 have hsame : ∀ b, b < w.heap.size → b ≠ wb → ((w.setCell ⟨wb, 1, none⟩ (.map (some w.heap.size))).alloc (.map #[] 0)).heap[b]? = w.heap[b]? := fun b h1 h2 => by
  rw [Below.heap_alloc _ _ _ (by simpa using h1), Below.heap_setCell _ _ _ _ h2]
 have hrow : ∀ k, v.ownBlock = some k → k < w.heap.size ∧ k ≠ wb := fun k hk => ⟨q_lt hq k hk, fun e => by
  subst e
  obtain ⟨_, cells, hc⟩ := q_typed hq _ hk
  rw [hbox] at hc
  injection hc with hc
  injection hc with _ hc _
  exact absurd hc (by decide)⟩
 obtain ⟨items, hitems⟩ : ∃ items : List Nat, items = [] := ⟨_, rfl⟩
 obtain ⟨mb, hmb⟩ : ∃ mb, mb = w.heap.size := ⟨_, rfl⟩
 have hR0 : WkRun ((w.setCell ⟨wb, 1, none⟩ (.map (some w.heap.size))).alloc (.map #[] 0)) ((w.setCell ⟨wb, 1, none⟩ (.map (some w.heap.size))).alloc (.map #[] 0)) wb mb v v (addF items (xs.take 0)) (p + 0) := by
  subst hitems hmb
  refine ⟨hb1, q_move hq fun k hk => hsame k (hrow k hk).1 (hrow k hk).2, ⟨fun _ => false, ?_, fun x => by simp [addF]⟩, hwb, Below.refl _ _, Nat.le_refl _, fun _ _ _ _ _ => rfl, .inl rfl⟩
  have := (MapB.made Try.prog (w.setCell ⟨wb, 1, none⟩ (.map (some w.heap.size))) 125 4).mono (m := p + 0) (by omega)
  rwa [show (w.setCell ⟨wb, 1, none⟩ (.map (some w.heap.size))).heap.size = w.heap.size by simp] at this
 have HWB : Aside0 (wb < ((w.setCell ⟨wb, 1, none⟩ (.map (some w.heap.size))).alloc (.map #[] 0)).heap.size) := ⟨by omega⟩
 have HB0 : Aside0 (Below wb w ((w.setCell ⟨wb, 1, none⟩ (.map (some w.heap.size))).alloc (.map #[] 0))) := ⟨((Below.refl wb w).setCell (Nat.le_refl _) _).alloc (by simp; omega) _⟩
 have HS0 : Aside0 (w.heap.size ≤ ((w.setCell ⟨wb, 1, none⟩ (.map (some w.heap.size))).alloc (.map #[] 0)).heap.size) := ⟨by omega⟩
 have b0 := blk_cell hbox 0
 have b1 := blk_cell hbox 1
 have b2 := blk_frozen hbox 1
 have HSRC : Aside0 (WkSrc ((w.setCell ⟨wb, 1, none⟩ (.map (some w.heap.size))).alloc (.map #[] 0)) wb v (.map (some mb)) A xs) := ⟨⟨fun j hj => by
  obtain ⟨ad, h1, h2⟩ := hsrc.get j hj
  have hl := hsrc.lt ad h1
  exact ⟨ad, h1, (World.cell?_of_block (a := ad.add j) (by rw [add_block]; exact hsame _ hl (hsrc.box ad h1))).trans h2⟩, hsrc.box, hsrc.row, fun ad h1 e => by
   have := hsrc.lt ad h1
   injection e with e; injection e with e; omega, fun ad h1 => by have := hsrc.lt ad h1; omega⟩⟩
 have HMB : Aside0 (∀ ad, A = some ad → ad.block ≠ mb) := ⟨fun ad h e => by have := hsrc.lt ad h; omega⟩
 have HX := Aside0.mk hx
 have hi : items.length ≤ 1073741824 := by rw [hitems]; exact Nat.zero_le _
 rw [show addF [] xs = addF items xs by rw [hitems]]
 have hnil := fun (w : World) (r : Option Nat) => run_eql_map_nil (P := Try.prog) w 179 _ _ r Try.underlying179
 have hmm := @run_makeMap Try.prog
 clear hbox hq hsrc hx hb1 hsz hsame hrow hmb hitems
 go_enter Try.func125, Try.ntmps125
 go_wp2_with fail
 generalize ((w.setCell ⟨wb, 1, none⟩ (.map (some w.heap.size))).alloc (.map #[] 0)) = W0 at *
 clear b0 b1 b2
 go_loopg [17] (xs.length + 1) (fun kq v17 W' => ∃ (j : Nat) (u : Value), v17 = .int .i64 (j : Int) ∧ Aside0 (j ≤ xs.length ∧ xs.length < j + kq) ∧ WkRun W0 W' wb mb v u (addF items (xs.take j)) (p + j))
 case atStart => exact ⟨0, _, rfl, ⟨by omega, by omega⟩, hR0⟩
 case round =>
  clear hR0
  obtain ⟨j, u, rfl, HI, hR⟩ := hrel
  obtain ⟨i1, i2⟩ := HI.out
  clear HI
  cases gk with
  | zero => omega
  | succ k1 =>
   by_cases hj : j < xs.length
   rotate_left
   ·have d1 : decide ((j : Int) < (xs.length : Int)) = false := decide_eq_false (by omega)
    obtain rfl : j = xs.length := by omega
    have HR := Aside0.mk hR
    clear hR hj
    go_wp2_with fail
    go_end0
    have h1 := HR.out.st
    rw [List.take_length] at h1
    exact ⟨rfl, _, _, h1, below_trans' HB0.out HR.out.bel, Nat.le_trans HS0.out HR.out.size⟩
   have d1 : decide ((j : Int) < (xs.length : Int)) = true := decide_eq_true (by omega)
   obtain ⟨ad, rfl, x0⟩ := HSRC.out.get j hj
   have hlb := World.block_lt_of_cell? _ _ x0
   rw [add_block] at hlb
   replace x0 := (World.cell?_of_block (w' := wr) (a := ad.add j) (by rw [add_block]; exact hR.same _ hlb (HSRC.out.box _ rfl) (HMB.out _ rfl) (HSRC.out.row _ rfl))).trans x0
   clear hlb
   have htk := take_snoc hj
   have hy := HX.out (xs.getD j 0) (by rw [List.getD_eq_getElem?_getD]; simp [hj])
   generalize hyy : xs.getD j 0 = y at *
   have HTK := Aside0.mk htk
   clear hyy htk
   have hkey : keyOf Try.prog 125 (.int .i64 (y : Int)) = some (.int .i64 (y : Int)) := keyOf_int_mk Try.underlying125 (wf64 (by omega) (by omega))
   have HK := Aside0.mk hkey
   have hlen := addF_le items (xs.take j)
   rw [List.length_take, Nat.min_eq_left i1] at hlen
   have e2 : (0 ≤ (j : Int)) = True := eq_true (by omega)
   have e3 : ((j : Int) < (xs.length : Int)) = True := eq_true (by omega)
   have b0 := blk_cell hR.box 0
   have b1 := blk_cell hR.box 1
   obtain ⟨f, hM, hf⟩ := hR.map
   have HM := Aside0.mk hM
   have HR := Aside0.mk hR
   have lwb := blk_lt hR.box
   clear hkey hM hR
   by_cases hin : y ∈ addF items (xs.take j)
   ·have HIN : Aside0 (f (.int .i64 (y : Int)) = true) := ⟨by rw [hf]; exact decide_eq_true hin⟩
    have HN : Aside0 (WkRun W0 wr wb mb v u (addF items (xs.take (j + 1))) (p + (j + 1))) := ⟨by rw [HTK.out, addF_snoc, if_pos hin]; exact HR.out.mono (by omega)⟩
    clear hf hin
    go_wp2_with (first
     | (at_lookup; go_must (refine mapB_look HM.out keyN rfl _ _ _ rfl Try.underlying179 Try.underlying4 (zeroB _) rfl _ rfl _ HK.out _ HIN.out ?_)))
    go_roundg k1
    case measure => omega
    case rel => exact ⟨j + 1, _, by first | rfl, ⟨by omega, by omega⟩, HN.out⟩
   have HIN : Aside0 (f (.int .i64 (y : Int)) = false) := ⟨by rw [hf]; exact decide_eq_false hin⟩
   have HF : Aside0 (∀ z : Nat, putL f (.int .i64 (y : Int)) (.int .i64 (z : Int)) = decide (z ∈ addF items (xs.take j) ++ [y])) := ⟨fun z => put_mem (hf z)⟩
   have HAF : Aside0 (addF items (xs.take (j + 1)) = addF items (xs.take j) ++ [y]) := ⟨by rw [HTK.out, addF_snoc, if_neg hin]⟩
   clear hf hin
   go_wp2_with (first
    | (at_lookup; go_must (refine mapB_look HM.out keyN rfl _ _ _ rfl Try.underlying179 Try.underlying4 (zeroB _) rfl _ rfl _ HK.out _ HIN.out ?_))
    | (at_mapUpdate; go_must (refine mapB_put HM.out keyN rfl _ _ _ _ rfl Try.underlying179 Try.underlying4 rfl (by unfold maxLen; omega) _ rfl rfl _ HK.out (putL f (.int .i64 (y : Int))) (putL_iff _ _) ?_; intro W1 hM1 hG1; obtain ⟨t1, t2⟩ := HR.out.turn HWB.out hG1; have c0 := blk_cell t1 0; have c2 := blk_frozen t1 0; have HM1 := Aside0.mk hM1; have HG1 := Aside0.mk hG1; have HQ1 := Aside0.mk t2; have HBX := Aside0.mk t1; have l1 : wb < W1.heap.size := blk_lt t1; clear hM1 hG1 t2 t1))
    | ((with_reducible refine gate_dst (N := 40) rfl ?_); go_must (refine q_push HQ1.out rfl _ _ rfl rfl _ rfl _ _ rfl rfl (by omega) (by omega) ?_; intro v' W2 hq2 hg2 hat; obtain ⟨A', c', rfl, _⟩ := q_slice hq2; have HN := Aside0.mk (HR.out.next HWB.out HG1.out HM1.out HF.out hq2 hg2 hat); have hb2 := blk_grown HBX.out hg2 (HR.out.apart HWB.out HG1.out); have g0 := blk_cell hb2 0; have g2 := blk_frozen hb2 0; clear hq2 hg2 hat hb2)))
   go_roundg k1
   case measure => omega
   case rel => exact ⟨j + 1, _, by first | rfl, ⟨by omega, by omega⟩, by rw [HAF.out]; exact HN.out⟩
theorem add_in (w : World) (wb : Nat) (v mp : Value) (items : List Nat) (p : Nat) (hS : WkSt w wb v mp items p) (A : Option Addr) (c : Nat) (xs : List Nat) (hsrc : WkSrc w wb v mp A xs) (hx : ∀ x ∈ xs, x ≤ 1000) (hxl : xs.length ≤ 1073741824) (hp : p ≤ 1073741824) (hi : items.length ≤ 1073741824) :
 Calls Try.prog 125 #[.pointer (some ⟨wb, 0, none⟩), .slice A xs.length c] w (AddPost w wb (addF items xs) (p + xs.length)) := by
 rcases hS.map with ⟨rfl, rfl⟩ | ⟨mb, f, rfl, h1, h2, h3⟩
 ·exact add_nil w wb v p hS.box hS.q A c xs hsrc hx hxl hp
 exact add_some w wb mb v items p f hS.box hS.q h1 h2 h3 A c xs hsrc hx hxl hp hi
set_option maxRecDepth 100000 in
set_option maxHeartbeats 8000000 in
theorem take_none (w : World) (wb : Nat) (v mp : Value) (p : Nat) (hS : WkSt w wb v mp [] p) :
 Calls Try.prog 126 #[.pointer (some ⟨wb, 0, none⟩)] w fun e w' => e = .returned (.tuple #[.int .i64 0, .bool false]) ∧ w' = w := by
 obtain ⟨A, c, rfl, _⟩ := q_slice hS.q
 have b0 := blk_cell hS.box 0
 clear hS
 go_enter Try.func126, Try.ntmps126
 go_wp2_with fail
 go_ret2
 exact ⟨rfl, rfl⟩
theorem del_mem {f : Lit → Bool} {z y : Nat} {l : List Nat} (hn : (y :: l).Nodup) (hf : f (.int .i64 (z : Int)) = decide (z ∈ y :: l)) : delL f (.int .i64 (y : Int)) (.int .i64 (z : Int)) = decide (z ∈ l) := by
 rw [Bool.eq_iff_iff, delL_iff, hf, decide_eq_true_eq, decide_eq_true_eq, List.mem_cons]
 constructor
 ·rintro ⟨h1, h2 | h2⟩
  ·exact absurd (by rw [h2]) h1
  exact h2
 intro h
 refine ⟨fun e => ?_, .inr h⟩
 injection e with _ e
 have : z = y := by omega
 exact (List.nodup_cons.1 hn).1 (this ▸ h)
set_option maxRecDepth 100000 in
set_option maxHeartbeats 8000000 in
theorem take_some (w : World) (wb : Nat) (v mp : Value) (x : Nat) (rest : List Nat) (p : Nat) (hS : WkSt w wb v mp (x :: rest) p) (hn : (x :: rest).Nodup) (hx : x ≤ 1000) :
 Calls Try.prog 126 #[.pointer (some ⟨wb, 0, none⟩)] w fun e w' => e = .returned (.tuple #[.int .i64 (x : Int), .bool true]) ∧ ∃ v' mp', WkSt w' wb v' mp' rest p ∧ Below wb w w' ∧ w.heap.size ≤ w'.heap.size := by
 rcases hS.map with ⟨_, h0⟩ | ⟨mb, f, rfl, hlt, hM, hf⟩
 ·cases h0
 obtain ⟨A, c, rfl, hnc⟩ := q_slice hS.q
 obtain ⟨ad, rfl, hcell⟩ := q_cells hS.q (by simp)
 have x0 := hcell 0 (.int .i64 (x : Int)) rfl
 have x1 : w.cell? ad = some (.int .i64 (x : Int)) := by
  have e : ad.add 0 = ad := by unfold Addr.add; split <;> simp_all
  rwa [e] at x0
 have hqd := q_drop (k := 1) hS.q (by simp)
 have el : (x :: rest).length - 1 = rest.length := by simp
 rw [el] at hqd
 have ed : (nodesV (x :: rest)).drop (1 * 1) = nodesV rest := rfl
 rw [ed] at hqd
 have eA : (if c = 1 then some ad else (some ad).map fun x => x.add (1 * 1)) = (if c = 1 then some ad else some ⟨ad.block, ad.off + 1, none⟩) := by unfold Addr.add; simp
 rw [eA] at hqd
 have b0 := blk_cell hS.box 0
 have b1 := blk_cell hS.box 1
 have b2 := blk_frozen hS.box 0
 have lwb := blk_lt hS.box
 have hkey : keyOf Try.prog 125 (.int .i64 (x : Int)) = some (.int .i64 (x : Int)) := keyOf_int_mk Try.underlying125 (wf64 (by omega) (by omega))
 have hrow : ∀ k, (Value.slice (if c = 1 then some ad else some ⟨ad.block, ad.off + 1, none⟩) rest.length (c - 1)).ownBlock = some k → k ≠ wb := fun k hk e => by
  subst e
  obtain ⟨_, cells, hc⟩ := q_typed hqd _ hk
  rw [hS.box] at hc
  injection hc with hc
  injection hc with _ hc _
  exact absurd hc (by decide)
 have HM := Aside0.mk (hM.setCell (p := ⟨wb, 0, none⟩) (Nat.ne_of_gt hlt) (.slice (if c = 1 then some ad else some ⟨ad.block, ad.off + 1, none⟩) rest.length (c - 1)))
 have HBX := Aside0.mk (blk_put (cs' := #[.slice (if c = 1 then some ad else some ⟨ad.block, ad.off + 1, none⟩) rest.length (c - 1), .map (some mb)]) hS.box 0 (.slice (if c = 1 then some ad else some ⟨ad.block, ad.off + 1, none⟩) rest.length (c - 1)) rfl)
 have HQ : Aside0 (QRow (w.setCell ⟨wb, 0, none⟩ (.slice (if c = 1 then some ad else some ⟨ad.block, ad.off + 1, none⟩) rest.length (c - 1))) wb 125 1 (.slice (if c = 1 then some ad else some ⟨ad.block, ad.off + 1, none⟩) rest.length (c - 1)) rest.length (nodesV rest)) := ⟨q_move hqd fun k hk => Below.heap_setCell _ _ _ _ (hrow k hk)⟩
 have HK := Aside0.mk hkey
 have HF : Aside0 (∀ z : Nat, delL f (.int .i64 (x : Int)) (.int .i64 (z : Int)) = decide (z ∈ rest)) := ⟨fun z => del_mem hn (hf z)⟩
 have hlen : ((rest.length : Int) + 1 == 0) = false := by rw [beq_eq_false_iff_ne]; omega
 have hd : ((0 : Int) < (rest.length : Int) + 1) = True := eq_true (by omega)
 have hd2 : ((1 : Int) ≤ (rest.length : Int) + 1) = True := eq_true (by omega)
 clear hS hM hf hcell hqd hkey hrow hn el ed eA
 go_enter Try.func126, Try.ntmps126
 go_wp2_with (first
  | (at_delete; go_must (refine mapB_del HM.out keyN rfl _ _ _ rfl Try.underlying179 rfl _ rfl _ HK.out (delL f (.int .i64 (x : Int))) (delL_iff _ _) ?_; intro W1 hM1 hG1; have HM1 := Aside0.mk hM1; have HG1 := Aside0.mk hG1; clear hM1 hG1)))
 all_goals
  go_ret2
  refine ⟨rfl, ?_⟩
  have hne : some wb ≠ some mb := fun e => absurd (Option.some.inj e) (Nat.ne_of_lt hlt)
  have hst : WkSt W1 wb (.slice (if c = 1 then some ad else some ⟨ad.block, ad.off + 1, none⟩) rest.length (c - 1)) (.map (some mb)) rest p := by
   refine ⟨blk_grown HBX.out HG1.out hne, q_move HQ.out fun k hk => HG1.out.block k (q_lt HQ.out k hk) fun e => ?_, .inr ⟨mb, _, rfl, hlt, HM1.out, HF.out⟩⟩
   obtain ⟨_, cells, hc⟩ := q_typed HQ.out k hk
   obtain ⟨D, ⟨es, clock, hm, _⟩, _⟩ := HM.out
   rw [Option.some.inj e, hm] at hc
   cases hc
  exact ⟨⟨_, _, hst⟩, ((Below.refl wb w).setCell (Nat.le_refl _) _).grown HG1.out (by simp; omega) (fun k hk => by rw [← Option.some.inj hk]; exact Nat.le_of_lt hlt), Nat.le_trans (by simp) HG1.out.size⟩
def curL (b : Bool) (x : Nat) (rest : List Nat) : List Nat := cond b (x :: rest) []
def TakePost (w : World) (wb : Nat) (items : List Nat) (p : Nat) (e : Ending) (w' : World) : Prop := ∃ (x : Nat) (b : Bool) (rest : List Nat) (v mp : Value), e = .returned (.tuple #[.int .i64 (x : Int), .bool b]) ∧ items = curL b x rest ∧ (b = false → rest = []) ∧ WkSt w' wb v mp rest p ∧ Below wb w w' ∧ w.heap.size ≤ w'.heap.size
theorem take_in (w : World) (wb : Nat) (v mp : Value) (items : List Nat) (p : Nat) (hS : WkSt w wb v mp items p) (hn : items.Nodup) (hx : ∀ x ∈ items, x ≤ 1000) :
 Calls Try.prog 126 #[.pointer (some ⟨wb, 0, none⟩)] w (TakePost w wb items p) := by
 cases items with
 | nil =>
  refine (take_none w wb v mp p hS).mono ?_
  rintro e w' ⟨rfl, rfl⟩
  exact ⟨0, false, [], v, mp, rfl, rfl, fun _ => rfl, hS, Below.refl _ _, Nat.le_refl _⟩
 | cons x rest =>
  refine (take_some w wb v mp x rest p hS hn (hx x List.mem_cons_self)).mono ?_
  rintro e w' ⟨rfl, v', mp', h1, h2, h3⟩
  exact ⟨x, true, rest, v', mp', rfl, rfl, fun h => (by cases h), h1, h2, h3⟩
end Go.Proofs.Ytdiilocgjnlmiaa.Tre
