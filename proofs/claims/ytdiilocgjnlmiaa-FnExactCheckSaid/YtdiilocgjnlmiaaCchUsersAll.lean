import Derived.Test.YtdiilocgjnlmiaaCchUsers
import Derived.Laws.MakeOwn
namespace Go.Proofs.Ytdiilocgjnlmiaa.Tre
open Go.RowKit Go.Proofs.YtdiilocgjnlmiaaW.PrintWords Go.Proofs.YtdiilocgjnlmiaaW.PrintLast Go.Proofs.YtdiilocgjnlmiaaW.PrintMore
open Go.Proofs.Ytdiilocgjnlmiaa.PAll
set_option linter.unusedVariables false
set_option linter.unusedSimpArgs false
theorem make_one {P : Program} (t e : TypeId) {i : TypeInfo} {z : Value} (ht : P.underlying t = some (.slice e)) (hi : P.info? e = some i) (hz : i.zero = some z) (hs : i.size = 1) (hz1 : z.cells = #[z]) (c : Nat) (hb : i.bytes ≤ 1024) (hc : c ≤ 1073741824) (w : World) :
 (Instr.makeSlice t (.int .i64 (c : Int)) (.int .i64 (c : Int))).run P w = .ok (.slice (some ⟨w.heap.size, 0, none⟩) c c) (w.alloc (.cells (Array.replicate c z) e)) := by
 have hm : (i.bytes : Int) * (c : Int) ≤ 1024 * 1073741824 := by
  rw [← Int.natCast_mul]
  exact Int.ofNat_le.2 (Nat.mul_le_mul hb hc)
 have h := run_make (P := P) w t e i z ht hi hz .i64 .i64 (c : Int) (c : Int) (by omega) (Int.le_refl _) (by omega) (by omega)
 have e2 : madeCells z.cells ((c : Int).toNat * i.size) = Array.replicate c z := by
  rw [hz1, hs, Nat.mul_one, Int.toNat_natCast]
  refine Array.ext (by simp [size_madeCells]) fun j h1 h2 => ?_
  simp [madeCells, Nat.mod_one]
 rw [h, e2, Int.toNat_natCast]
theorem infoNds : (Try.prog.info? 178).map (fun i => (i.zero, i.size, i.bytes)) = some (some (.slice none 0 0), 1, 24) := by kernel_rfl
set_option maxRecDepth 100000 in
set_option maxHeartbeats 8000000 in
theorem usWalkO_in (w0 : World) (ob og gb nb wk n : Nat) (gA : Value) (R L : Nat) (hn : Aside0 (n = R + L)) (hR : R ≤ 100) (hL : L ≤ 100) (i : Nat) (hi : i ≤ 1000) (o : Option Tr) (w : World) (v : Value) (vs : Nat → Value) (us : List (List Nat)) (hv : OV w0 o v) (hok : okO R L o) (hU : UsW w ob og gb nb wk n gA (R : Int) i vs us) (hle : ∀ k, k < n → (us.getD k []).length + (occO R o).length ≤ 1073741824) :
 Calls Try.prog 163 #[v, .pointer (some ⟨ob, 0, none⟩), .pointer (some ⟨nb, 0, none⟩), .pointer (some ⟨gb, 0, none⟩), .pointer (some ⟨wk, 0, none⟩)] w (WalkPost w ob og gb nb wk n gA (R : Int) i (usT i us (occO R o))) := by
 cases o with
 | some t => exact usWalk_in w0 ob og gb nb wk n gA R L hn hR hL i hi t w v vs us hv (hok t rfl) hU hle
 | none =>
  obtain rfl := hv
  have HU := Aside0.mk hU
  clear hok hU hle hn
  have a1 := tn_ref; have a2 := tn_thr; have a3 := tn_seq; have a4 := tn_alt; have a5 := tn_star; have a6 := tn_neg
  go_enter Try.func163, Try.ntmps163
  go_wp2_with fail
  go_end0
  exact HU.out.same (Below.refl _ _)
structure UsR (W : World) (base og n : Nat) (vs : Nat → Value) (us : List (List Nat)) : Prop where
 row : ∃ cs, W.heap[og]? = some (.cells cs 178 (0, 0)) ∧ cs.size = n ∧ ∀ j, j < n → cs[j]? = some (vs j)
 own : ∀ j, j < n → QRow W base 125 1 (vs j) (us.getD j []).length (nodesV (us.getD j []))
 len : us.length = n
theorem UsR.below {W W' : World} {B base og n : Nat} {vs : Nat → Value} {us : List (List Nat)} (h : UsR W base og n vs us) (hs : B ≤ W.heap.size) (hB : og < B) (hv : ∀ j, j < n → ∀ k, (vs j).ownBlock = some k → k < B) (hb : Below B W W') : UsR W' base og n vs us := by
 obtain ⟨cs, h1, h2⟩ := h.row
 exact ⟨⟨cs, (hb.block og hB).trans h1, h2⟩, fun j hj => q_move (h.own j hj) fun k hk => hb.block k (hv j hj k hk), h.len⟩
theorem us_below {w wr W3 : World} {n : Nat} {o1 o2 : Obj} (_ : n ≤ w.heap.size + 1) (h : Below w.heap.size w wr) (k : Below (w.heap.size + 1) ((wr.alloc o1).alloc o2) W3) : Below w.heap.size w W3 := by
 have h1 := below_alloc (below_alloc h o1) o2
 exact ⟨k.os.trans h1.os, k.tape.trans h1.tape, k.output.trans h1.output, Nat.le_trans h1.size k.size, fun i hi => (k.block i (by omega)).trans (h1.block i hi)⟩
def UsersPost (w : World) (R : Nat) (ts : List (Option Tr)) (e : Ending) (w' : World) : Prop := ∃ og vs, e = .returned (.slice (some ⟨og, 0, none⟩) ts.length ts.length) ∧ UsR w' (w.heap.size + 1) og ts.length vs (usN R ts ts.length) ∧ Below w.heap.size w w' ∧ og < w'.heap.size
set_option maxRecDepth 100000 in
set_option maxHeartbeats 8000000 in
theorem users_in (w : World) (A : Option Addr) (c : Nat) (R L : Nat) (ts : List (Option Tr)) (hT : TsV w A c ts) (hn : Aside0 (ts.length = R + L)) (hR : R ≤ 100) (hL : L ≤ 100) (hok : ∀ i, i < ts.length → okO R L (tr ts i)) (hts : okTs R ts) (hsum : ∀ i, i ≤ ts.length → occSum R ts i ≤ 1000000) (hone : ∀ i, i < ts.length → (occO R (tr ts i)).length ≤ 1000000) :
 Calls Try.prog 124 #[.agg #[.slice A ts.length c, .int .i64 (R : Int)]] w (UsersPost w R ts) := by
 obtain ⟨ii, hi, hz, hs1, hby⟩ := info_parts infoNds
 have hmk := make_one (P := Try.prog) 176 178 Try.underlying176 hi hz hs1 rfl ts.length (by rw [hby]; decide) (by have := hn.out; omega)
 have HT := Aside0.mk hT
 have HOK := Aside0.mk hok
 have HTS := Aside0.mk hts
 have HSUM := Aside0.mk hsum
 have HONE := Aside0.mk hone
 have hb0 : ts.length ≤ 200 := by have := hn.out; omega
 clear hT hok hts hsum hone hi hz hs1 hby
 go_enter Try.func124, Try.ntmps124
 go_wp2_with fail
 clear hmk
 have hC0 : UsC (((w.alloc (Obj.cells #[.slice A ts.length c, .int .i64 (R : Int)] 116)).alloc (Obj.cells (Array.replicate ts.length (.slice none 0 0)) 178)).alloc (Obj.cells #[.slice (some ⟨w.heap.size + 1, 0, none⟩) ts.length ts.length] 176)) (w.heap.size + 1) (w.heap.size + 1 + 1) (w.heap.size + 1) w.heap.size ts.length (.slice A ts.length c) (R : Int) (fun _ => .slice none 0 0) (usN R ts 0) := by
  refine ⟨?_, blk_alloc (blk_alloc (blk_new _ _) _) _, ⟨Array.replicate ts.length (.slice none 0 0), blk_alloc ?_ _, Array.size_replicate, fun j hj => by simp [hj]⟩, fun j hj => ?_, fun a b _ _ _ => .inl rfl, len_usN 0, Nat.le_refl _⟩
  ·have := blk_new ((w.alloc (Obj.cells #[.slice A ts.length c, .int .i64 (R : Int)] 116)).alloc (Obj.cells (Array.replicate ts.length (.slice none 0 0)) 178)) (Obj.cells #[.slice (some ⟨w.heap.size + 1, 0, none⟩) ts.length ts.length] 176)
   rwa [World.size_alloc, World.size_alloc] at this
  ·have := blk_new (w.alloc (Obj.cells #[.slice A ts.length c, .int .i64 (R : Int)] 116)) (Obj.cells (Array.replicate ts.length (.slice none 0 0)) 178)
   rwa [World.size_alloc] at this
  have e : (usN R ts 0).getD j [] = [] := by rw [usN, List.getD_eq_getElem?_getD, List.getElem?_replicate, if_pos hj]; rfl
  rw [e]
  exact q_of_own (own_nil _ _ _ _)
 have hB0 : Below w.heap.size w (((w.alloc (Obj.cells #[.slice A ts.length c, .int .i64 (R : Int)] 116)).alloc (Obj.cells (Array.replicate ts.length (.slice none 0 0)) 178)).alloc (Obj.cells #[.slice (some ⟨w.heap.size + 1, 0, none⟩) ts.length ts.length] 176)) := below_alloc (below_alloc (below_alloc (Below.refl _ _) _) _) _
 generalize (((w.alloc (Obj.cells #[.slice A ts.length c, .int .i64 (R : Int)] 116)).alloc (Obj.cells (Array.replicate ts.length (.slice none 0 0)) 178)).alloc (Obj.cells #[.slice (some ⟨w.heap.size + 1, 0, none⟩) ts.length ts.length] 176)) = W1 at *
 go_loopg [14] (ts.length + 1) (fun kq v14 W' => ∃ (i : Nat) (vs : Nat → Value), v14 = .int .i64 (i : Int) ∧ Aside0 (i ≤ ts.length ∧ ts.length < i + kq) ∧ UsC W' (w.heap.size + 1) (w.heap.size + 1 + 1) (w.heap.size + 1) w.heap.size ts.length (.slice A ts.length c) (R : Int) vs (usN R ts i) ∧ Aside0 (Below w.heap.size w W'))
 case atStart => exact ⟨0, _, rfl, ⟨by omega, by omega⟩, hC0, ⟨hB0⟩⟩
 case round =>
  clear hC0 hB0
  obtain ⟨i, vs, rfl, HI, hC, HB⟩ := hrel
  obtain ⟨i1, i2⟩ := HI.out
  clear HI
  cases gk with
  | zero => omega
  | succ k1 =>
   by_cases hi : i < ts.length
   rotate_left
   ·have d1 : decide ((i : Int) < (ts.length : Int)) = false := decide_eq_false (by omega)
    obtain rfl : i = ts.length := by omega
    have b0 := blk_cell hC.box 0
    have HC := Aside0.mk hC
    clear hC hi
    go_wp2_with fail
    go_ret
    obtain ⟨cs, r1, r2⟩ := HC.out.row
    exact ⟨_, vs, rfl, ⟨⟨cs, r1, r2⟩, HC.out.own, HC.out.len⟩, HB.out, blk_lt r1⟩
   have d1 : decide ((i : Int) < (ts.length : Int)) = true := decide_eq_true (by omega)
   obtain ⟨ad, u, rfl, x0, hu⟩ := HT.out.get i hi
   replace x0 := pw_cell_below HB.out x0
   have lx := World.block_lt_of_cell? _ _ x0
   have e2 : (0 ≤ (i : Int)) = True := eq_true (by omega)
   have e3 : ((i : Int) < (ts.length : Int)) = True := eq_true (by omega)
   have hst := fun (w : World) (a : Addr) (fn : Fn) (f1 c1 : Array Value) => run_store Try.prog w a (.func fn f1 c1) .plain rfl
   have HU := Aside0.mk hu
   have hb2 : Below wr.heap.size wr ((wr.alloc (Obj.cells #[.int .i64 (i : Int)] 3)).alloc (Obj.cells #[(Value.func (Fn.func 163) #[] #[.pointer (some ⟨w.heap.size + 1 + 1, 0, none⟩), .pointer (some ⟨wr.heap.size, 0, none⟩), .pointer (some ⟨w.heap.size, 0, none⟩), .pointer (some ⟨wr.heap.size + 1, 0, none⟩)])] 209)) := below_alloc (below_alloc (Below.refl _ _) _) _
   have hW : UsW ((wr.alloc (Obj.cells #[.int .i64 (i : Int)] 3)).alloc (Obj.cells #[(Value.func (Fn.func 163) #[] #[.pointer (some ⟨w.heap.size + 1 + 1, 0, none⟩), .pointer (some ⟨wr.heap.size, 0, none⟩), .pointer (some ⟨w.heap.size, 0, none⟩), .pointer (some ⟨wr.heap.size + 1, 0, none⟩)])] 209)) (w.heap.size + 1 + 1) (w.heap.size + 1) w.heap.size wr.heap.size (wr.heap.size + 1) ts.length (.slice (some ad) ts.length c) (R : Int) i vs (usN R ts i) :=
    ⟨hC.below hb2, blk_alloc (blk_new _ _) _, by
     have := blk_new (wr.alloc (Obj.cells #[.int .i64 (i : Int)] 3)) (Obj.cells #[(Value.func (Fn.func 163) #[] #[.pointer (some ⟨w.heap.size + 1 + 1, 0, none⟩), .pointer (some ⟨wr.heap.size, 0, none⟩), .pointer (some ⟨w.heap.size, 0, none⟩), .pointer (some ⟨wr.heap.size + 1, 0, none⟩)])] 209)
     rwa [World.size_alloc] at this⟩
   have HW := Aside0.mk hW
   have HC := Aside0.mk hC
   have HLE : Aside0 (∀ k, k < ts.length → ((usN R ts i).getD k []).length + (occO R (tr ts i)).length ≤ 1073741824) := ⟨fun k hk => by
    have h1 := len_row_usN HTS.out (x := k) i i1
    have h2 := HSUM.out i i1
    have h3 := HONE.out i hi
    omega⟩
   clear hu hb2 hW hC
   go_wp2_with (first
    | (go_at_call 163; refine (usWalkO_in w _ _ _ _ _ _ _ R L hn hR hL i (by omega) (tr ts i) _ _ vs _ HU.out (HOK.out i hi) HW.out HLE.out).mono ?_; go_must (rintro e W3 ⟨rfl, vs3, hU3, hb3, hs3, hk3⟩; have HU3 := Aside0.mk hU3.c; have HB3 := Aside0.mk hb3; clear hU3 hb3 hs3 hk3)))
   go_roundg k1
   case measure => omega
   case rel => exact ⟨i + 1, vs3, by first | rfl, ⟨by omega, by omega⟩, HU3.out, ⟨us_below HC.out.bo HB.out HB3.out⟩⟩
end Go.Proofs.Ytdiilocgjnlmiaa.Tre
