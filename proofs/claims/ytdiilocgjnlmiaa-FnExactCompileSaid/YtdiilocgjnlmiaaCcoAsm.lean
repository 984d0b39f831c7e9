/- Lemmas of the proof, and the walks of functions that it stands on. -/
import Derived.Test.YtdiilocgjnlmiaaCcoSBegins
import Derived.Test.YtdiilocgjnlmiaaCcoNullRounds
import Derived.Test.YtdiilocgjnlmiaaCcoFlat
import Derived.Test.YtdiilocgjnlmiaaCcoWKept
import Derived.Test.YtdiilocgjnlmiaaCcoRegKit
section
namespace Go.Proofs.Ytdiilocgjnlmiaa.Tre
open Go.RowKit Go.Proofs.YtdiilocgjnlmiaaW.PrintWords Go.Proofs.YtdiilocgjnlmiaaW.PrintLast Go.Proofs.YtdiilocgjnlmiaaW.PrintMore
open Go.Proofs.Ytdiilocgjnlmiaa.PAll
set_option linter.unusedVariables false
set_option linter.unusedSimpArgs false
theorem C_pre {U : World} {A : Option Addr} {xs ys : List Op} {N : Nat} (h : Kd.C k79 U A N (xs ++ ys)) : Kd.C k79 U A xs.length xs := by
 have hl : (xs ++ ys).length = N := Kd.C_len h
 have := Kd.C_take (m := xs.length) (by rw [← hl] at h; exact h) (by simp)
 rwa [List.take_left' rfl] at this
theorem C_in {U : World} {A : Option Addr} {xs ys zs : List Op} {N c : Nat} (h : Kd.C k79 U A N (xs ++ ys ++ zs)) (hc : N ≤ c) : Kd.C k79 U (if c = xs.length then A else A.map (·.add (xs.length * 3))) ys.length ys := by
 have hl : (xs ++ ys ++ zs).length = N := Kd.C_len h
 have := Kd.C_mid (lo := xs.length) (hi := (xs ++ ys).length) (c := c) (by rw [← hl] at h; exact h) (by simp) (by simp) (by rw [hl]; exact hc)
 rwa [List.take_left' rfl, List.drop_left' rfl] at this
end Go.Proofs.Ytdiilocgjnlmiaa.Tre
end
section
namespace Go.Proofs.Ytdiilocgjnlmiaa.Tre
open Go.RowKit Go.Proofs.YtdiilocgjnlmiaaW.PrintWords Go.Proofs.YtdiilocgjnlmiaaW.PrintLast Go.Proofs.YtdiilocgjnlmiaaW.PrintMore
open Go.Proofs.Ytdiilocgjnlmiaa.PAll
set_option linter.unusedVariables false
set_option linter.unusedSimpArgs false
structure AFr (b B : Nat) (w w' : World) : Prop where
 bel : Below B w w'
 kept : ∀ k o, w.heap[k]? = some o → k ≠ b → (∀ cur fz, o ≠ .cells cur 88 fz) → w'.heap[k]? = some o
theorem AFr.refl (b B : Nat) (w : World) : AFr b B w w := ⟨Below.refl _ _, fun _ _ h _ _ => h⟩
theorem AFr.trans {b B : Nat} {w1 w2 w3 : World} (h : AFr b B w1 w2) (k : AFr b B w2 w3) : AFr b B w1 w3 := ⟨h.bel.trans k.bel, fun j o hj hb ho => k.kept j o (h.kept j o hj hb ho) hb ho⟩
theorem AFr.of_below {b B : Nat} {w w' : World} (hB : B ≤ w.heap.size) (h : Below w.heap.size w w') : AFr b B w w' := ⟨⟨h.os, h.tape, h.output, h.size, fun k hk => h.block k (by omega)⟩, fun k o hk _ _ => blk_below hk h⟩
theorem AFr.blk {b B : Nat} {w w' : World} (h : AFr b B w w') {k : Nat} {cs : Array Value} {ty : TypeId} {fz : Nat × Nat} (hk : w.heap[k]? = some (.cells cs ty fz)) (hb : k ≠ b) (ht : ty ≠ 88) : w'.heap[k]? = some (.cells cs ty fz) :=
 h.kept k _ hk hb fun cur fz' e => by
  injection e with _ e _
  exact ht e
structure Asm (W : World) (B b : Nat) (code : List In) (mr ml : Value) : Prop where
 ex : ∃ v sv, W.heap[b]? = some (.cells #[v, mr, ml] 146 (0, 0)) ∧ InSt W B v sv code
 lo : B ≤ b
theorem Asm.below {W W' : World} {B b : Nat} {code : List In} {mr ml : Value} (h : Asm W B b code mr ml) (hb : Below W.heap.size W W') : Asm W' B b code mr ml := by
 obtain ⟨v, sv, h1, h2⟩ := h.ex
 exact ⟨⟨v, sv, blk_below h1 hb, h2.below hb⟩, h.lo⟩
theorem Asm.size {W : World} {B b : Nat} {code : List In} {mr ml : Value} (h : Asm W B b code mr ml) : B ≤ W.heap.size := by
 obtain ⟨v, sv, h1, h2⟩ := h.ex
 exact Nat.le_trans h.lo (Nat.le_of_lt (blk_lt h1))
theorem InSt.snoc {W W2 : World} {B : Nat} {v v' s : Value} {sv : Nat → Value} {l : List In} {x : In} (h : InSt W B v sv l) (hs : W.ownsRow B 3 1 s x.f3.length (nums .i64 x.f3)) (hap : ∀ q, q < l.length → ∀ b, ownV (sv q) b → ¬ ownV s b)
 (ho : W2.ownsRow B 88 4 v' (l.length + 1) (lineC (inCell sv l) l.length ++ [.int .i64 x.f0, .int .i64 x.f1, .int .i64 x.f2, s])) (hg : W.grownBy W2 v.ownBlock) : InSt W2 B v' (joinF sv l.length (fun _ => s)) (l ++ [x]) := by
 have e0 : inn [x] 0 = x := rfl
 refine ⟨?_, fun q hq => ?_, fun i j hi hj hne b hbi hbj => ?_⟩
 ·have e : lineC (inCell (joinF sv l.length (fun _ => s)) (l ++ [x])) (l.length + 1) = lineC (inCell sv l) l.length ++ lineC (inCell (fun _ => s) [x]) 1 :=
   lineC_add _ (fun i hi => by rw [inCell, inCell, inn_lt hi, joinF_lt hi]) _ fun i hi => by rw [inCell, inCell, inn_ge, joinF_ge]
  rw [List.length_append, List.length_singleton, e]
  exact ho
 ·rw [List.length_append, List.length_singleton] at hq
  rcases Nat.lt_or_ge q l.length with hl | hl
  ·rw [inn_lt hl, joinF_lt hl]
   exact (h.sets q hl).kept hg (own_types (h.sets q hl) h.row (by decide))
  obtain rfl : q = l.length + 0 := by omega
  rw [inn_ge, joinF_ge, e0]
  exact hs.kept hg (own_types hs h.row (by decide))
 rw [List.length_append, List.length_singleton] at hi hj
 rcases Nat.lt_or_ge i l.length with hil | hil
 ·rcases Nat.lt_or_ge j l.length with hjl | hjl
  ·rw [joinF_lt hil] at hbi
   rw [joinF_lt hjl] at hbj
   exact h.apart i j hil hjl hne b hbi hbj
  obtain rfl : j = l.length + 0 := by omega
  rw [joinF_lt hil] at hbi
  rw [joinF_ge] at hbj
  exact hap i hil b hbi hbj
 obtain rfl : i = l.length + 0 := by omega
 rw [joinF_ge] at hbi
 rcases Nat.lt_or_ge j l.length with hjl | hjl
 ·rw [joinF_lt hjl] at hbj
  exact hap j hjl b hbj hbi
 omega
theorem four_one (a b c : Int) (A : Option Addr) (n d : Nat) : ∀ u ∈ [Value.int .i64 a, .int .i64 b, .int .i64 c, .slice A n d], u.oneCell' = true := by
 intro u hu
 simp only [List.mem_cons, List.not_mem_nil, or_false] at hu
 rcases hu with rfl | rfl | rfl | rfl <;> rfl
theorem Asm.push {W W2 W4 : World} {B b : Nat} {code : List In} {mr ml v v' s : Value} {sv : Nat → Value} {x : In} (hB : B ≤ b) (h1 : W.heap[b]? = some (.cells #[v, mr, ml] 146 (0, 0))) (h2 : InSt W B v sv code) (hb : Below W.heap.size W W2)
 (hs : W.ownsRow B 3 1 s x.f3.length (nums .i64 x.f3)) (hap : ∀ q, q < code.length → ∀ b, ownV (sv q) b → ¬ ownV s b)
 (ho : W4.ownsRow B 88 4 v' (code.length + 1) (lineC (inCell sv code) code.length ++ [.int .i64 x.f0, .int .i64 x.f1, .int .i64 x.f2, s])) (hg : W2.grownBy W4 v.ownBlock) (hc : v'.cells = #[v']) :
 W4.heap[b]? = some (.cells #[v, mr, ml] 146 (0, 0)) ∧ Asm (W4.setCell ⟨b, 0, none⟩ v') B b (code ++ [x]) mr ml ∧ AFr b B W (W4.setCell ⟨b, 0, none⟩ v') := by
 have h1' := blk_below h1 hb
 have h2' := h2.below hb
 have g1 := blk_grown h1' hg (own_box h2'.row h1' (by decide))
 have hsn := h2'.snoc (own_same hs fun k _ hk => hb.block k hk) hap ho hg
 have hlt := blk_lt h1
 refine ⟨g1, ⟨⟨v', _, blk_put g1 0 v' rfl, hsn.set g1 (by decide) (by decide) 0 v'⟩, hB⟩, ⟨?_, fun k o hk hkb ho' => ?_⟩⟩
 ·have hb4 : Below B W W4 := by
   have hbb : Below B W W2 := ⟨hb.os, hb.tape, hb.output, hb.size, fun k hk => hb.block k (by omega)⟩
   exact hbb.grown hg (by have := hb.size; omega) fun k hk => (h2'.row.lt k hk).1
  exact hb4.setCell (by exact hB) _
 have hk2 := blk_below hk hb
 refine (Below.heap_setCell _ _ _ _ hkb).trans (blk_grown hk2 hg fun e => ?_)
 obtain ⟨c1, hc1⟩ := own_typed h2'.row k e.symm
 rw [hk2] at hc1
 injection hc1 with hc1
 exact ho' _ _ hc1
theorem lineC_set {c d : Nat → List Value} {sz : Nat} (hc : ∀ i, (c i).length = sz) {q j : Nat} {u : Value} (hj : j < sz) (hq : d q = (c q).set j u) (ho : ∀ i, i ≠ q → d i = c i) : ∀ n, q < n → (lineC c n).set (q * sz + j) u = lineC d n
 | 0, h => absurd h (Nat.not_lt_zero _)
 | n + 1, h => by
  rw [lineC, lineC]
  have hl := lineC_len hc n
  rcases (by omega : q < n ∨ q = n) with hlt | rfl
  ·have : q * sz + sz ≤ n * sz := by rw [← Nat.succ_mul]; exact Nat.mul_le_mul_right _ hlt
   rw [List.set_append_left _ _ (by omega), lineC_set hc hj hq ho n hlt, ho n (by omega)]
  rw [List.set_append_right _ _ (by omega), hl, Nat.add_sub_cancel_left, hq, lineC_congr (c := d) (d := c) q fun i hi => ho i (by omega)]
theorem inn_set {l : List In} {q i : Nat} {x : In} (hq : q < l.length) : inn (l.set q x) i = if i = q then x else inn l i := by
 simp only [inn, rd_T88, List.getD_eq_getElem?_getD, Int.toNat_natCast, List.getElem?_set]
 by_cases c : i = q
 ·subst c; simp [hq]
 rw [if_neg (fun e => c e.symm), if_neg c]
theorem InSt.aimAt {W : World} {B : Nat} {A : Option Addr} {n c : Nat} {sv : Nat → Value} {l : List In} (h : InSt W B (.slice A n c) sv l) {q : Nat} (hq : q < l.length) : n = l.length ∧ ∃ g cur, A = some ⟨g, 0, none⟩ ∧ B ≤ g ∧ l.length ≤ c ∧ W.heap[g]? = some (.cells cur 88 (0, 0)) ∧ W.cell? ⟨g, q * 4, none⟩ = some (.int .i64 (inn l q).f0) ∧ W.cell? ⟨g, q * 4 + 2, none⟩ = some (.int .i64 (inn l q).f2) ∧ W.frozen? ⟨g, q * 4 + 2, none⟩ = false := by
 rcases h.row.2 with ⟨e, hn⟩ | ⟨g, cap, cur, e, hb, hg, hnc, hcm, hcs, htake⟩
 ·omega
 injection e with e1 e2 e3
 subst e1 e2 e3
 have hl := lineC_len (cell := inCell sv l) (sz := 4) (fun i => rfl) l.length
 have hle : q * 4 + 4 ≤ l.length * 4 := by rw [← Nat.succ_mul]; exact Nat.mul_le_mul_right _ hq
 have hat : ∀ j, j < 4 → W.cell? ⟨g, q * 4 + j, none⟩ = (inCell sv l q)[j]? := fun j hj => by
  have h1 := lineC_at (cell := inCell sv l) (sz := 4) (fun i => rfl) l.length q hq
  rw [blk_cell hg, ← h1, List.getElem?_take, if_pos hj, List.getElem?_drop, ← htake, List.getElem?_take, if_pos (by omega)]
  simp
 exact ⟨rfl, g, cur, rfl, hb, hnc, hg, (hat 0 (by omega)).trans rfl, (hat 2 (by omega)).trans rfl, blk_frozen hg _⟩
theorem InSt.patch {W : World} {B g n c : Nat} {sv : Nat → Value} {l : List In} (h : InSt W B (.slice (some ⟨g, 0, none⟩) n c) sv l) {q : Nat} (hq : q < l.length) (y : Int) : InSt (W.setCell ⟨g, q * 4 + 2, none⟩ (.int .i64 y)) B (.slice (some ⟨g, 0, none⟩) n c) sv (l.set q ⟨(inn l q).f0, (inn l q).f1, y, (inn l q).f3⟩) := by
 have hg0 : (Value.slice (some ⟨g, 0, none⟩) n c).ownBlock = some g := rfl
 refine ⟨?_, fun i hi => ?_, by rw [List.length_set]; exact h.apart⟩
 ·rcases h.row.2 with ⟨e, hn⟩ | ⟨g', cap, cur, e, hb, hg, hnc, hcm, hcs, htake⟩
  ·omega
  injection e with e1 e2 e3
  injection e1 with e1
  injection e1 with e1
  subst e1 e2 e3
  have hle : q * 4 + 4 ≤ l.length * 4 := by rw [← Nat.succ_mul]; exact Nat.mul_le_mul_right _ hq
  have hline : (lineC (inCell sv l) l.length).set (q * 4 + 2) (.int .i64 y) = lineC (inCell sv (l.set q ⟨(inn l q).f0, (inn l q).f1, y, (inn l q).f3⟩)) l.length :=
   lineC_set (sz := 4) (fun i => rfl) (by omega) (by rw [inCell, inn_set hq, if_pos rfl]; rfl) (fun i hi => by rw [inCell, inCell, inn_set hq, if_neg hi]) _ hq
  rw [List.length_set, ← hline]
  refine ⟨by rw [List.length_set]; exact h.row.1, .inr ⟨g, c, cur.setIfInBounds (q * 4 + 2) (.int .i64 y), rfl, hb, blk_put hg _ _ rfl, hnc, hcm, by simpa using hcs, ?_⟩⟩
  rw [Array.toList_setIfInBounds, ← htake, List.take_set]
 rw [List.length_set] at hi
 have hs := h.sets i hi
 rw [inn_set hq]
 have e : (if i = q then (⟨(inn l q).f0, (inn l q).f1, y, (inn l q).f3⟩ : In) else inn l i).f3 = (inn l i).f3 := by
  split
  ·rename_i c; rw [c]
  rfl
 rw [e]
 refine own_setCell hs (p := ⟨g, q * 4 + 2, none⟩) (fun e => ?_) _
 rcases own_types hs h.row (by decide) with h0 | h0
 ·rw [h0] at e; cases e
 exact h0 (by rw [hg0]; exact e.symm)
theorem Asm.patch {W : World} {B b g n c : Nat} {code : List In} {mr ml : Value} {sv : Nat → Value} (hB : B ≤ b) (h1 : W.heap[b]? = some (.cells #[.slice (some ⟨g, 0, none⟩) n c, mr, ml] 146 (0, 0))) (h2 : InSt W B (.slice (some ⟨g, 0, none⟩) n c) sv code) {q : Nat} (hq : q < code.length) (y : Int) :
 Asm (W.setCell ⟨g, q * 4 + 2, none⟩ (.int .i64 y)) B b (code.set q ⟨(inn code q).f0, (inn code q).f1, y, (inn code q).f3⟩) mr ml ∧ AFr b B W (W.setCell ⟨g, q * 4 + 2, none⟩ (.int .i64 y)) := by
 obtain ⟨_, g', cur, e, hb, _, hg, _⟩ := h2.aimAt hq
 injection e with e
 injection e with e
 subst e
 have hne : b ≠ g := blk_ne h1 hg (by decide)
 refine ⟨⟨⟨_, sv, blk_far h1 hne _, h2.patch hq y⟩, hB⟩, (Below.refl _ _).setCell hb _, fun k o hk _ ho => (Below.heap_setCell _ _ _ _ fun e => ?_).trans hk⟩
 have e : k = g := e
 rw [e, hg] at hk
 injection hk with hk
 exact ho _ _ hk.symm
def emA.T : Bool × List (List Nat × List Nat) := (true, [([], []), ([], []), ([1], [1]), ([2], [2]), ([3], [3]), ([], []), ([5], [5]), ([4, 6], [4, 6]), ([0, 0, 1, 2, 3, 4, 5, 6, 7], [0]), ([8, 0, 1, 2, 3, 4, 5, 6, 7], [8]), ([9, 7, 7, 0, 1, 2, 3, 4, 5, 6, 7], [7, 9])])
def emA.B : List Nat := [0, 0, 2, 6, 14, 0, 32, 126, 255, 511, 1023]
theorem emA.tab : rtab .any (opsOf Try.f95 1) = emA.T := by kernel_rfl
theorem emA.bits : waitsOk emA.T.2 emA.B = true := by kernel_rfl
def EmitPost (w : World) (B b : Nat) (code : List In) (x : In) (mr ml : Value) (e : Ending) (w' : World) : Prop := e = .returned (.int .i64 (code.length : Int)) ∧ Asm w' B b (code ++ [x]) mr ml ∧ AFr b B w w'
set_option maxRecDepth 100000 in
set_option maxHeartbeats 8000000 in
theorem emit_in (w : World) (B b : Nat) (code : List In) (mr ml v : Value) (sv : Nat → Value) (x : In) (A5 : Option Addr) (c5 : Nat) (hB : B ≤ b) (h1 : w.heap[b]? = some (.cells #[v, mr, ml] 146 (0, 0))) (h2 : InSt w B v sv code) (hl : code.length ≤ 1000000)
 (hs : w.ownsRow B 3 1 (.slice A5 x.f3.length c5) x.f3.length (nums .i64 x.f3)) (hap : ∀ q, q < code.length → ∀ b, ownV (sv q) b → ¬ ownV (.slice A5 x.f3.length c5) b) :
 Calls Try.prog 95 #[.pointer (some ⟨b, 0, none⟩), .agg #[.int .i64 x.f0, .int .i64 x.f1, .int .i64 x.f2, .slice A5 x.f3.length c5]] w (EmitPost w B b code x mr ml) := by
 obtain ⟨Av, cv, rfl⟩ := h2.form
 obtain ⟨ii, hi, hz, hs1, hby⟩ := info_parts info88
 obtain ⟨n, hn⟩ : ∃ n, n = code.length := ⟨_, rfl⟩
 have hbx : Below w.heap.size w (w.alloc (Obj.cells #[.int .i64 x.f0, .int .i64 x.f1, .int .i64 x.f2, .slice A5 x.f3.length c5] 88)) := below_alloc (Below.refl _ _) _
 have h1' := blk_below h1 hbx
 have hx := blk_new w (Obj.cells #[.int .i64 x.f0, .int .i64 x.f1, .int .i64 x.f2, .slice A5 x.f3.length c5] 88)
 have q0 := blk_cell h1' 0
 have z0 := blk_cell hx 0
 have z1 := blk_cell hx 1
 have z2 := blk_cell hx 2
 have z3 := blk_cell hx 3
 have lb := blk_lt h1
 have H1 := Aside0.mk h1
 have H2 := Aside0.mk h2
 have HS := Aside0.mk hs
 have HAP := Aside0.mk hap
 have HX := Aside0.mk hx
 have HBX := Aside0.mk hbx
 have HN := Aside0.mk hn
 have HRW := Aside0.mk h2.row
 have hn2 : n ≤ 1000000 := by omega
 rw [← hn] at q0
 clear h1 h2 hs hap hx h1' hbx
 clear hn hl
 generalize hm5 : x.f3.length = m5 at *
 have HM5 := Aside0.mk hm5
 clear hm5
 generalize hx0 : x.f0 = x0 at *
 generalize hx1 : x.f1 = x1 at *
 generalize hx2 : x.f2 = x2 at *
 have HX0 := Aside0.mk hx0
 have HX1 := Aside0.mk hx1
 have HX2 := Aside0.mk hx2
 clear hx0 hx1 hx2
 go_enter Try.func95, Try.ntmps95
 go_upto_region 1 with fail
 generalize w.alloc (Obj.cells #[.int .i64 x0, .int .i64 x1, .int .i64 x2, .slice A5 m5 c5] 88) = W1 at *
 refine start_ (n := 11) (S := fun W' => W'.cell? ⟨b, 0, none⟩ = some (.slice Av n cv) ∧ W'.cell? ⟨w.heap.size, 0, none⟩ = some (.int .i64 x0) ∧ W'.cell? ⟨w.heap.size, 1, none⟩ = some (.int .i64 x1) ∧ W'.cell? ⟨w.heap.size, 2, none⟩ = some (.int .i64 x2) ∧ W'.cell? ⟨w.heap.size, 3, none⟩ = some (.slice A5 m5 c5)) (ds := [10]) #[false, false, false, false, false, false, false, false, false, false, false] (by kernel_rfl) rfl rfl (⟨q0, z0, z1, z2, z3⟩) (fun hHeld => ?_); refine with_tabW emA.tab emA.bits (fun HT_ HW_ => ?_)
 refine pu_ 0 5 HT_ ?_
 refine pu_ 1 6 HT_ ?_
 refine pu_ 2 7 HT_ ?_
 refine pu_ 3 8 HT_ ?_
 refine ta_ 4 9 HT_ HW_ hHeld ?_
 refine ta_ 5 10 HT_ HW_ hHeld ?_
 refine on_ 6 (some 11) HT_ (fun K hK => ?_)
 refine value_ (w1 := ?_) (v := ?_) (by rfl) rfl ?_ ?_
 rotate_left 2
 ·go_simp; constructor <;> rfl
 refine hK.out _ _ (⟨pw_cell_below (below_alloc (Below.refl _ _).drew _) q0, pw_cell_below (below_alloc (Below.refl _ _).drew _) z0, pw_cell_below (below_alloc (Below.refl _ _).drew _) z1, pw_cell_below (below_alloc (Below.refl _ _).drew _) z2, pw_cell_below (below_alloc (Below.refl _ _).drew _) z3⟩) (fun hHeld => ?_)
 clear hK K
 refine no_ (some 11) ?_
 refine on_ 7 (some 12) HT_ (fun K hK => ?_)
 refine step_append_src rfl (.tmp 9) (.tmp 11) 43 rfl B 88 ii _ 4 48 Try.underlying43 hi hz hs1 hby rfl (by decide) (.slice Av n cv) n (lineC (inCell sv code) code.length) (by rw [HN.out]; exact own_same HRW.out fun k _ hk => (below_then HBX.out HBX.out.size (below_alloc (Below.refl _ _).drew _)).block k hk) rfl (some ⟨W1.heap.size, 0, none⟩) 1 1 [.int .i64 x0, .int .i64 x1, .int .i64 x2, .slice A5 m5 c5] rfl rfl (src_three _ _ _ _ rfl (by simp)) (four_one _ _ _ _ _ _) (by unfold maxLen; omega) (by omega) (by have := HBX.out.size; simp; omega) ?_
 intro v' W4 ho hg
 obtain ⟨A', c', rfl⟩ := own_form1 ho
 have HPS := Aside0.mk (Asm.push (x := x) hB H1.out H2.out (below_then HBX.out HBX.out.size (below_alloc (Below.refl _ _).drew _)) (by rw [HM5.out]; exact HS.out) HAP.out (by rw [HX0.out, HX1.out, HX2.out, show code.length + 1 = n + 1 by rw [HN.out]]; exact ho) (by rw [← HN.out]; exact hg) rfl)
 have hx4 := blk_grown (blk_below HX.out (below_alloc (Below.refl _ _).drew _)) hg fun e => by
  rw [HN.out] at e
  have := (HRW.out.lt _ e.symm).2
  omega
 have x40 := blk_cell hx4 0
 have x41 := blk_cell hx4 1
 have x42 := blk_cell hx4 2
 have x43 := blk_cell hx4 3
 have y0 := blk_cell HPS.out.1 0
 rw [← HN.out] at y0
 have y1 := blk_frozen HPS.out.1 0
 clear ho hg hx4

 refine hK.out _ _ (⟨y0, x40, x41, x42, x43⟩) (fun hHeld => ?_)
 clear hK K
 refine no_ (some 12) ?_
 refine pu_ 8 13 HT_ ?_
 refine pu_ 9 14 HT_ ?_
 refine la_ 10 none HT_ (fun K hK => ?_)
 refine skip_ (w1 := ?_) (by rfl) rfl ?_ ?_
 rotate_left
 ·go_simp; rfl
 refine hK.out _ _ ?_
 clear hK K
 refine done_ (done_of HT_.out (by kernel_rfl)) ?_
 go_wp2_with fail
 go_ret
 refine ⟨?_, HPS.out.2.1, HPS.out.2.2⟩
 rw [← HN.out]
 first | rfl | (rw [wid (by omega) (by omega)]; simp)
end Go.Proofs.Ytdiilocgjnlmiaa.Tre
end
