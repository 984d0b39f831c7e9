import Derived.Test.YtdiilocgjnlmiaaCchUsersAll
import Derived.Test.YtdiilocgjnlmiaaCchRegKit
namespace Go.Proofs.Ytdiilocgjnlmiaa.Tre
open Go.RowKit Go.Proofs.YtdiilocgjnlmiaaW.PrintWords Go.Proofs.YtdiilocgjnlmiaaW.PrintLast Go.Proofs.YtdiilocgjnlmiaaW.PrintMore
open Go.Proofs.Ytdiilocgjnlmiaa.PAll
set_option linter.unusedVariables false
set_option linter.unusedSimpArgs false
def boolsV (m : List Bool) : List Value := m.map Value.bool
theorem boolsV_at {m : List Bool} {i : Nat} (hi : i < m.length) : (boolsV m).toArray[i]? = some (.bool (mkd m i)) := by
 simp [boolsV, mkd, List.getD_eq_getElem?_getD, hi]
theorem infoBo : (Try.prog.info? 4).map (fun i => (i.zero, i.size, i.bytes)) = some (some (.bool false), 1, 1) := by kernel_rfl
structure NlSt (w W : World) (A : Option Addr) (c R : Nat) (ts : List (Option Tr)) (og wb : Nat) (vs : Nat → Value) (m : List Bool) (v mp : Value) (items : List Nat) (p : Nat) : Prop where
 gbx : W.heap[w.heap.size]? = some (.cells #[.slice A ts.length c, .int .i64 (R : Int)] 116 (0, 0))
 mkx : W.heap[w.heap.size + 1]? = some (.cells (boolsV m).toArray 4 (0, 0))
 us : UsR W (w.heap.size + 1 + 1 + 1) og ts.length vs (usN R ts ts.length)
 og : og < wb
 vsl : ∀ j, j < ts.length → ∀ k, (vs j).ownBlock = some k → k < wb
 lt : w.heap.size + 1 < wb
 wk : WkSt W wb v mp items p
 bel : Below w.heap.size w W
theorem NlSt.step {w W W' : World} {A : Option Addr} {c R : Nat} {ts : List (Option Tr)} {og wb : Nat} {vs : Nat → Value} {m : List Bool} {v mp v' mp' : Value} {items items' : List Nat} {p p' : Nat} (h : NlSt w W A c R ts og wb vs m v mp items p) (hb : Below wb W W') (hs : W.heap.size ≤ W'.heap.size) (hk : WkSt W' wb v' mp' items' p') : NlSt w W' A c R ts og wb vs m v' mp' items' p' := by
 have hl := h.lt
 have hwl := blk_lt h.wk.box
 exact ⟨(hb.block _ (by omega)).trans h.gbx, (hb.block _ hl).trans h.mkx, h.us.below (Nat.le_of_lt hwl) h.og h.vsl hb, h.og, h.vsl, hl, hk, h.bel.trans ⟨hb.os, hb.tape, hb.output, hb.size, fun i hi => hb.block i (by omega)⟩⟩
theorem NlSt.below {w W W' : World} {A : Option Addr} {c R : Nat} {ts : List (Option Tr)} {og wb : Nat} {vs : Nat → Value} {m : List Bool} {v mp : Value} {items : List Nat} {p : Nat} (h : NlSt w W A c R ts og wb vs m v mp items p) (hb : Below W.heap.size W W') : NlSt w W' A c R ts og wb vs m v mp items p :=
 h.step ⟨hb.os, hb.tape, hb.output, hb.size, fun i hi => hb.block i (Nat.lt_trans hi (blk_lt h.wk.box))⟩ hb.size (h.wk.below hb)
theorem NlSt.drew {w W : World} {A : Option Addr} {c R : Nat} {ts : List (Option Tr)} {og wb : Nat} {vs : Nat → Value} {m : List Bool} {v mp : Value} {items : List Nat} {p : Nat} (h : NlSt w W A c R ts og wb vs m v mp items p) : NlSt w W.drew A c R ts og wb vs m v mp items p := h.below (Below.refl _ _).drew
theorem NlSt.mark {w W : World} {A : Option Addr} {c R : Nat} {ts : List (Option Tr)} {og wb : Nat} {vs : Nat → Value} {m : List Bool} {v mp : Value} {items : List Nat} {p x : Nat} (h : NlSt w W A c R ts og wb vs m v mp items p) (hx : x < m.length) : NlSt w (W.setCell ⟨w.heap.size + 1, x, none⟩ (.bool true)) A c R ts og wb vs (m.set x true) v mp items p := by
 have hl := h.lt
 obtain ⟨cs, r1, r2⟩ := h.us.row
 have g : ∀ b, b ≠ w.heap.size + 1 → (W.setCell ⟨w.heap.size + 1, x, none⟩ (.bool true)).heap[b]? = W.heap[b]? := fun b hb => Below.heap_setCell _ _ _ _ hb
 have hrow : ∀ {k : Nat} {cs : Array Value} {t : TypeId}, W.heap[k]? = some (.cells cs t (0, 0)) → t ≠ 4 → k ≠ w.heap.size + 1 := fun hk ht => blk_ne hk h.mkx ht
 have hq : ∀ {B : Nat} {u : Value} {n : Nat} {xs : List Value}, QRow W B 125 1 u n xs → QRow (W.setCell ⟨w.heap.size + 1, x, none⟩ (.bool true)) B 125 1 u n xs := fun hu => q_move hu fun k hk => by
  obtain ⟨_, cells, hc⟩ := q_typed hu k hk
  exact g k (hrow hc (by decide))
 refine ⟨(g _ (by omega)).trans h.gbx, ?_, ⟨⟨cs, (g og (hrow r1 (by decide))).trans r1, r2⟩, fun j hj => hq (h.us.own j hj), h.us.len⟩, h.og, h.vsl, hl, ⟨(g wb (by omega)).trans h.wk.box, hq h.wk.q, h.wk.map.imp id fun ⟨mb, f, h1, h2, h3, h4⟩ => ⟨mb, f, h1, h2, h3.setCell (by simp; omega) _, h4⟩⟩, h.bel.setCell (by simp) _⟩
 refine blk_put h.mkx x (.bool true) ?_
 simp [boolsV]
theorem addF_append (l a b : List Nat) : addF l (a ++ b) = addF (addF l a) b := List.foldl_append ..
theorem src_one {W : World} {wb : Nat} {v mp : Value} {items : List Nat} {p : Nat} (h : WkSt W wb v mp items p) (x : Nat) : WkSrc (W.alloc (Obj.cells #[.int .i64 (x : Int)] 125)) wb v mp (some ⟨W.heap.size, 0, none⟩) [x] := by
 refine ⟨fun j hj => ?_, fun ad e => ?_, fun ad e => ?_, fun ad e => ?_, fun ad e => ?_⟩
 ·obtain rfl : j = 0 := by simpa using hj
  exact ⟨_, rfl, by
   have e : (⟨W.heap.size, 0, none⟩ : Addr).add 0 = ⟨W.heap.size, 0, none⟩ := by unfold Addr.add; split <;> simp_all
   rw [e]
   exact blk_cell (blk_new W _) 0⟩
 ·cases e
  exact Nat.ne_of_gt (blk_lt h.box)
 ·cases e
  exact fun e => absurd (q_lt h.q _ e.symm) (Nat.lt_irrefl _)
 ·cases e
  rcases h.map with ⟨rfl, _⟩ | ⟨mb, f, rfl, _, h3, _⟩
  ·intro e; cases e
  intro e
  injection e with e
  injection e with e
  have h5 := h3.lt
  rw [e] at h5
  exact absurd h5 (Nat.lt_irrefl _)
 cases e
 simp
theorem src_row {W : World} {wb B : Nat} {v mp u : Value} {items xs : List Nat} {p : Nat} (h : WkSt W wb v mp items p) (hq : QRow W B 125 1 u xs.length (nodesV xs)) (hu : ∀ k, u.ownBlock = some k → k < wb) {A : Option Addr} {n c : Nat} (he : u = .slice A n c) : WkSrc W wb v mp A xs := by
 have hlt : ∀ ad, A = some ad → ad.block < wb := fun ad e => hu _ (by rw [he, e]; simp [Value.ownBlock])
 refine ⟨fun j hj => ?_, fun ad e => Nat.ne_of_lt (hlt ad e), fun ad e e2 => ?_, fun ad e e2 => ?_, fun ad e => Nat.lt_trans (hlt ad e) (blk_lt h.box)⟩
 ·obtain ⟨A2, c2, e2, _⟩ := q_slice hq
  rw [e2] at hq
  obtain ⟨ad, e3, hc⟩ := q_cells hq (by omega)
  rw [he] at e2
  injection e2 with e2 _ _
  subst e2
  exact ⟨ad, e3, hc j _ (by simp [nodesV, List.getD_eq_getElem?_getD, hj])⟩
 ·have := (q_typed h.q _ e2.symm).1
  have := hlt ad e
  omega
 rcases h.map with ⟨rfl, _⟩ | ⟨mb, f, rfl, h2, h3, _⟩
 ·cases e2
 injection e2 with e2
 injection e2 with e2
 have := hlt ad e
 omega
def NullsPost (w : World) (R : Nat) (ts : List (Option Tr)) (e : Ending) (w' : World) : Prop := ∃ v, e = .returned v ∧ w'.ownsRow w.heap.size 4 1 v ts.length (boolsV (nullF R ts)) ∧ Below w.heap.size w w'
def nlTest.T : Bool × List (List Nat × List Nat) := (true, [([], []), ([], []), ([0, 1], [0, 1]), ([2], [2]), ([3], [3]), ([4], [4]), ([5], [5]), ([5], [5]), ([7, 5], [5, 7]), ([5], [5]), ([8, 9, 5], [5, 8, 9]), ([10, 5], [5, 10]), ([5], [5]), ([6, 11, 12, 5, 5], [5, 6, 11, 12]), ([5, 13], [5, 13])])
def nlTest.B : List Nat := [0, 0, 3, 7, 15, 31, 63, 63, 191, 63, 959, 1983, 63, 8191, 16383]
theorem nlTest.tab : rtab .any (opsOf Try.f81 12) = nlTest.T := by kernel_rfl
theorem nlTest.bits : waitsOk nlTest.T.2 nlTest.B = true := by kernel_rfl
theorem work_p {R : Nat} {ts : List (Option Tr)} {m : List Bool} {items : List Nat} (h : Work R ts m items) : cntM m ≤ ts.length := by
 have := cnt_le m
 rw [h.len] at this
 exact this
theorem mkV_of_block {W : World} {g n : Nat} {m : List Bool} (h : W.heap[g]? = some (.cells (boolsV m).toArray 4 (0, 0))) (hl : m.length = n) (hm : n ≤ 1073741824) : MkV W (some ⟨g, 0, none⟩) n m := by
 subst hl
 refine ⟨Kd.C_of_reads (enc := Value.bool) (d := false) ⟨rfl, by omega, fun h0 => ⟨_, rfl, fun j hj => ?_⟩⟩, Nat.le_refl _⟩
 have e : (⟨g, 0, none⟩ : Addr).add j = ⟨g, j, none⟩ := by unfold Addr.add; split <;> simp_all
 rw [e, blk_cell h j, boolsV_at hj]
 rfl
theorem own_bools {W : World} {B g n : Nat} {m : List Bool} (h : W.heap[g]? = some (.cells (boolsV m).toArray 4 (0, 0))) (hl : m.length = n) (hB : B ≤ g) (hn : n ≤ maxLen) : W.ownsRow B 4 1 (.slice (some ⟨g, 0, none⟩) n n) n (boolsV m) := by
 subst hl
 refine ⟨by simp [boolsV], .inr ⟨g, m.length, _, rfl, hB, h, Nat.le_refl _, hn, by simp [boolsV], ?_⟩⟩
 rw [Nat.mul_one]
 exact List.take_of_length_le (by simp [boolsV])
set_option maxRecDepth 100000 in
set_option maxHeartbeats 8000000 in
theorem nullables_in (w : World) (A : Option Addr) (c : Nat) (R L : Nat) (ts : List (Option Tr)) (hT : TsV w A c ts) (hn : Aside0 (ts.length = R + L)) (hR : R ≤ 100) (hL : L ≤ 100) (hok : ∀ i, i < ts.length → okO R L (tr ts i)) (hts : okTs R ts) (hsum : ∀ i, i ≤ ts.length → occSum R ts i ≤ 1000000) (hone : ∀ i, i < ts.length → (occO R (tr ts i)).length ≤ 1000000) :
 Calls Try.prog 81 #[.agg #[.slice A ts.length c, .int .i64 (R : Int)]] w (NullsPost w R ts) := by
 obtain ⟨ii, hi, hz, hs1, hby⟩ := info_parts infoBo
 have hmk := make_one (P := Try.prog) 55 4 Try.underlying55 hi hz hs1 rfl ts.length (by rw [hby]; decide) (by have := hn.out; omega)
 have HT := Aside0.mk hT
 have HOK := Aside0.mk hok
 have HTS := Aside0.mk hts
 have HSUM := Aside0.mk hsum
 have HONE := Aside0.mk hone
 have hb0 : ts.length ≤ 200 := by have := hn.out; omega
 clear hT hok hts hsum hone hi hz hs1 hby
 have HB2 : Aside0 (Below w.heap.size w ((w.alloc (Obj.cells #[.slice A ts.length c, .int .i64 (R : Int)] 116)).alloc (Obj.cells (Array.replicate ts.length (.bool false)) 4))) := ⟨below_alloc (below_alloc (Below.refl _ _) _) _⟩
 have HG2 := Aside0.mk (blk_alloc (blk_new w (Obj.cells #[.slice A ts.length c, .int .i64 (R : Int)] 116)) (Obj.cells (Array.replicate ts.length (.bool false)) 4))
 have HM2 : Aside0 (((w.alloc (Obj.cells #[.slice A ts.length c, .int .i64 (R : Int)] 116)).alloc (Obj.cells (Array.replicate ts.length (.bool false)) 4)).heap[w.heap.size + 1]? = some (.cells (boolsV (List.replicate ts.length false)).toArray 4 (0, 0))) := ⟨by
  have := blk_new (w.alloc (Obj.cells #[.slice A ts.length c, .int .i64 (R : Int)] 116)) (Obj.cells (Array.replicate ts.length (.bool false)) 4)
  rw [World.size_alloc] at this
  rw [this]
  simp [boolsV]⟩
 have HS2 : Aside0 (((w.alloc (Obj.cells #[.slice A ts.length c, .int .i64 (R : Int)] 116)).alloc (Obj.cells (Array.replicate ts.length (.bool false)) 4)).heap.size = w.heap.size + 1 + 1) := ⟨by simp⟩
 go_enter Try.func81, Try.ntmps81
 go_wp2_with (first
  | (go_at_call 124; refine (users_in _ A c R L ts (HT.out.below HB2.out) hn hR hL HOK.out HTS.out HSUM.out HONE.out).mono ?_; go_must (rintro e W3 ⟨og, vs, rfl, hU, hb, hol⟩; rw [HS2.out] at hU hb; have HU := Aside0.mk hU; have HB3 := Aside0.mk hb; have HOL := Aside0.mk hol; have HS3 := Aside0.mk (Nat.le_trans (Nat.le_of_eq HS2.out.symm) hb.size); have hg3 := (hb.block w.heap.size (by omega)).trans HG2.out; have HG3 := Aside0.mk hg3; have g0 := blk_cell hg3 0; have g1 := blk_cell hg3 1; have HM3 := Aside0.mk ((hb.block (w.heap.size + 1) (by omega)).trans HM2.out); have lg := blk_lt hg3; clear hU hb hol hg3)))
 clear hmk
 have hS0 : NlSt w (W3.alloc (Obj.cells #[.slice none 0 0, .map none] 181)) A c R ts og W3.heap.size vs (List.replicate ts.length false) (.slice none 0 0) (.map none) (addF [] (List.range 0)) 0 := by
  have hb1 : Below W3.heap.size W3 (W3.alloc (Obj.cells #[.slice none 0 0, .map none] 181)) := below_alloc (Below.refl _ _) _
  have hs3 := HS3.out
  refine ⟨blk_below HG3.out hb1, blk_below HM3.out hb1, HU.out.below (Nat.le_refl _) HOL.out (fun j hj k hk => q_lt (HU.out.own j hj) k hk) hb1, HOL.out, fun j hj k hk => q_lt (HU.out.own j hj) k hk, by omega, ⟨blk_new _ _, q_of_own (own_nil _ _ _ _), .inl ⟨rfl, rfl⟩⟩, ?_⟩
  exact below_alloc (HB2.out.trans ⟨HB3.out.os, HB3.out.tape, HB3.out.output, HB3.out.size, fun k hk => HB3.out.block k (by omega)⟩) _
 generalize W3.alloc (Obj.cells #[.slice none 0 0, .map none] 181) = W4 at *
 obtain ⟨wb, hwb⟩ : ∃ wb, wb = W3.heap.size := ⟨_, rfl⟩
 rw [← hwb] at hS0 ⊢
 clear hwb g0 g1 lg HU HB3 HOL HS3 HG3 HM3 HB2 HG2 HM2 HS2
 go_loopg [18] (ts.length + 1) (fun kq v18 W' => ∃ (i : Nat) (v mp : Value), v18 = .int .i64 (i : Int) ∧ Aside0 (i ≤ ts.length ∧ ts.length < i + kq) ∧ NlSt w W' A c R ts og wb vs (List.replicate ts.length false) v mp (addF [] (List.range i)) i)
 case atStart => exact ⟨0, _, _, rfl, ⟨by omega, by omega⟩, hS0⟩
 case round =>
  clear hS0
  obtain ⟨i, v, mp, rfl, HI, hS⟩ := hrel
  obtain ⟨i1, i2⟩ := HI.out
  clear HI
  cases gk with
  | zero => omega
  | succ k1 =>
   by_cases hi : i < ts.length
   ·have d1 : decide ((i : Int) < (ts.length : Int)) = true := decide_eq_true (by omega)
    have HS := Aside0.mk hS
    have HADD := Aside0.mk (add_in _ wb v mp _ i (hS.wk.below (below_alloc (Below.refl _ _) (Obj.cells #[.int .i64 (i : Int)] 125))) (some ⟨wr.heap.size, 0, none⟩) 1 [i] (src_one hS.wk i) (by intro x hx; rw [List.mem_singleton] at hx; omega) (by simp) (by omega) (Nat.le_trans (addF_le _ _) (by simp; omega)))
    clear hS
    go_wp2_with (first
     | (go_at_call 125; refine HADD.out.mono ?_; go_must (rintro e W5 ⟨rfl, v5, mp5, hk5, hb5, hs5⟩; have HN := Aside0.mk ((HS.out.below (below_alloc (Below.refl _ _) (Obj.cells #[.int .i64 (i : Int)] 125))).step hb5 hs5 hk5); clear hk5 hb5 hs5)))
    go_roundg k1
    case measure => omega
    case rel => exact ⟨i + 1, v5, mp5, by first | rfl, ⟨by omega, by omega⟩, by rw [List.range_succ, addF_append]; exact HN.out⟩
   have d1 : decide ((i : Int) < (ts.length : Int)) = false := decide_eq_false (by omega)
   obtain rfl : i = ts.length := by omega
   have HS := Aside0.mk hS
   have HWK : Aside0 (Work R ts (List.replicate ts.length false) (addF [] (List.range ts.length))) := ⟨work_start⟩
   clear hS hi
   go_wp2_with (first
    | (go_at_call 126; refine (take_in _ wb v mp _ _ HS.out.wk HWK.out.nodup (fun x hx => by have := HWK.out.inn x hx; omega)).mono ?_; go_must (rintro e W5 ⟨x, b, rest, v5, mp5, rfl, hcur, hbf, hk5, hb5, hs5⟩; have HN := Aside0.mk (HS.out.step hb5 hs5 hk5); have HCUR := Aside0.mk hcur; clear hk5 hb5 hs5 hcur hbf)))
   have hW0 : Work R ts (List.replicate ts.length false) (curL b x rest) := by rw [← HCUR.out]; exact HWK.out
   have hS1 := HN.out
   clear HN HS HWK HCUR
   go_loopg [7, 8] (workLeft ts.length (List.replicate ts.length false) (curL b x rest) + 1) (fun kq v7 v8 W' => ∃ (m : List Bool) (v mp : Value) (x : Nat) (b : Bool) (rest : List Nat) (p : Nat), v7 = .int .i64 (x : Int) ∧ v8 = .bool b ∧ Aside0 (workLeft ts.length m (curL b x rest) < kq ∧ p ≤ ts.length + cntM m * 1000000) ∧ Aside0 (Work R ts m (curL b x rest)) ∧ NlSt w W' A c R ts og wb vs m v mp rest p)
   case atStart => exact ⟨_, v5, mp5, x, b, rest, ts.length, rfl, rfl, ⟨by omega, by omega⟩, ⟨hW0⟩, hS1⟩
   case round =>
    clear hW0 hS1
    obtain ⟨m, v, mp, x, b, rest, p, rfl, rfl, HM, HW, hS⟩ := hrel
    cases gk with
    | zero => exact absurd HM.out.1 (Nat.not_lt_zero _)
    | succ k1 =>
     cases b with
     | true =>
      have hx : x < ts.length := HW.out.inn x List.mem_cons_self
      have hxm : x < m.length := by rw [HW.out.len]; exact hx
      have e2 : (0 ≤ (x : Int)) = True := eq_true (by omega)
      have e3 : ((x : Int) < (ts.length : Int)) = True := eq_true (by omega)
      have m0 := (blk_cell hS.mkx x).trans (boolsV_at hxm)
      have m2 := blk_frozen hS.mkx x
      have lm := blk_lt hS.mkx
      have HS := Aside0.mk hS
      cases hmx : mkd m x with
      | true =>
       rw [hmx] at m0
       have HSK : Aside0 (Work R ts m rest) := ⟨HW.out.skip (.inl hmx)⟩
       clear hS hmx
       go_wp2_with fail
       refine start_ (n := 15) (S := fun W' => W'.cell? ⟨w.heap.size + 1, x, none⟩ = some (.bool true)) (ds := []) #[false, false, false, false, false, false, false, false, false, false, false, false, false, false, false] (by kernel_rfl) rfl rfl (m0) (fun hHeld => ?_); refine with_tabW nlTest.tab nlTest.bits (fun HT_ HW_ => ?_)
       refine pu_ 0 34 HT_ ?_
       refine pu_ 1 35 HT_ ?_
       refine pu_ 2 36 HT_ ?_
       refine take_ (i := 3) (N := (some 37)) (v := ?_) (a' := ?_) #[true, true, true, true, false, false, false, false, false, false, false, false, false, false, false] rfl rfl (take_ofW HT_.out HW_.out (by kernel_rfl)) (fun _ _ _ h => h) (Or.inl ⟨by rfl, ?_⟩) hHeld ?_ ?_
       rotate_left
       ·rintro w' s0; go_simp; with_reducible rfl
       rotate_left
       ·simp only [Act.put, List.setIfInBounds_toArray, List.set_cons_zero, List.set_cons_succ, i64_w, i32_w]; rfl
       refine pu_ 4 38 HT_ ?_
       refine pu_ 5 39 HT_ ?_
       refine pn_ 6 40 HT_ ?_
       refine pn_ 7 41 HT_ ?_
       refine pn_ 8 42 HT_ ?_
       refine pn_ 9 43 HT_ ?_
       refine pn_ 10 44 HT_ ?_
       refine pn_ 11 45 HT_ ?_
       refine pn_ 12 46 HT_ ?_
       refine pn_ 13 47 HT_ ?_
       refine pu_ 14 48 HT_ ?_
       refine done_ (done_of HT_.out (by kernel_rfl)) ?_
       go_wp2_with (first
        | (go_at_call 126; refine (take_in _ wb v mp _ _ HS.out.drew.wk HSK.out.nodup (fun y hy => by have := HSK.out.inn y hy; omega)).mono ?_; go_must (rintro e W5 ⟨x', b', rest', v5, mp5, rfl, hcur, hbf, hk5, hb5, hs5⟩; have HN := Aside0.mk (HS.out.drew.step hb5 hs5 hk5); have HCUR := Aside0.mk hcur; clear hk5 hb5 hs5 hcur hbf)))
       go_roundg k1
       case measure => omega
       case rel => exact ⟨m, v5, mp5, x', b', rest', p, rfl, rfl, ⟨by have h1 := HM.out.1; rw [← HCUR.out]; simp only [curL, cond_true, workLeft, List.length_cons] at h1 ⊢; omega, HM.out.2⟩, ⟨by rw [← HCUR.out]; exact HSK.out⟩, HN.out⟩
      | false =>
       rw [hmx] at m0
       obtain ⟨ad, u, rfl, x0, hu⟩ := HT.out.get x hx
       replace x0 := pw_cell_below hS.bel x0
       have y0 := blk_cell hS.gbx 0
       have y1 := blk_cell hS.gbx 1
       have HU := Aside0.mk hu
       have HB1 : Aside0 (Below w.heap.size w wr.drew) := ⟨hS.bel.drew⟩
       have HMK := Aside0.mk (show wr.drew.heap[w.heap.size + 1]? = _ from hS.mkx)
       have HML := Aside0.mk HW.out.len
       have HMX := Aside0.mk hmx
       cases hno : nullO R m (tr ts x) with
       | false =>
        have HNO := Aside0.mk hno
        have HSK : Aside0 (Work R ts m rest) := ⟨HW.out.skip (.inr hno)⟩
        clear hS hmx hu hno
        go_wp2_with fail
        refine start_ (n := 15) (S := fun W' => W'.cell? ⟨w.heap.size + 1, x, none⟩ = some (.bool false) ∧ W'.cell? ⟨w.heap.size, 0, none⟩ = some (.slice (some ad) ts.length c) ∧ W'.cell? ⟨w.heap.size, 1, none⟩ = some (.int .i64 (R : Int)) ∧ W'.cell? (ad.add x) = some u) (ds := []) #[false, false, false, false, false, false, false, false, false, false, false, false, false, false, false] (by kernel_rfl) rfl rfl (⟨m0, y0, y1, x0⟩) (fun hHeld => ?_); refine with_tabW nlTest.tab nlTest.bits (fun HT_ HW_ => ?_)
        refine pu_ 0 34 HT_ ?_
        refine pu_ 1 35 HT_ ?_
        refine pu_ 2 36 HT_ ?_
        refine ta_ 3 37 HT_ HW_ hHeld ?_
        refine pu_ 4 38 HT_ ?_
        refine pu_ 5 39 HT_ ?_
        refine ta_ 6 40 HT_ HW_ hHeld ?_
        refine pu_ 7 41 HT_ ?_
        refine ta_ 8 42 HT_ HW_ hHeld ?_
        refine pu_ 9 43 HT_ ?_
        refine pu_ 10 44 HT_ ?_
        refine ta_ 11 45 HT_ HW_ hHeld ?_
        refine pu_ 12 46 HT_ ?_
        refine one_ (i := 13) (N := (some 47)) #[true, true, true, true, true, true, true, true, true, true, true, true, true, true, false] rfl rfl (one_of HT_.out (by kernel_rfl)) (by decide) (fun K hK => ?_)
        refine goes_ Try.func127 (by kernel_rfl) rfl #[.agg #[.slice (some ad) ts.length c, .int .i64 (R : Int)], u, .slice (some ⟨w.heap.size + 1, 0, none⟩) ts.length ts.length] (by rfl) rfl rfl (by (try simp only [List.map_toArray, List.map_cons, List.map_nil]); first | rfl) ?_
        rw [← HML.out]
        refine (nullO_in (L := L) (by rw [HML.out]; exact hn) hR hL (some ad) m.length c (HU.out.below HB1.out) (HOK.out x hx) (mkV_of_block HMK.out rfl (by have := HML.out; omega))).mono ?_
        rintro e W5 ⟨rfl, hb5⟩
        refine ⟨_, rfl, ?_⟩
        rw [HNO.out]
        have HS5 := Aside0.mk (HS.out.drew.below hb5)
        have q0 := blk_cell HS5.out.gbx 0
        have q1 := blk_cell HS5.out.gbx 1
        have q2 := (blk_cell HS5.out.mkx x).trans (boolsV_at hxm)
        rw [HMX.out] at q2
        have q3 := pw_cell_below hb5 x0
        rw [HML.out]
        refine hK.out _ _ (⟨q2, q0, q1, q3⟩) (fun hHeld => ?_)
        clear hK K
        refine norm_ (a' := ?_) ?_ ?_
        rotate_left
        ·show Act.put _ (some 47) _ = _; simp only [Act.put, List.setIfInBounds_toArray, List.set_cons_zero, List.set_cons_succ, i64_w, i32_w]; rfl
        refine pu_ 14 48 HT_ ?_
        refine done_ (done_of HT_.out (by kernel_rfl)) ?_
        go_wp2_with (first
         | (go_at_call 126; refine (take_in _ wb v mp _ _ HS5.out.wk HSK.out.nodup (fun y hy => by have := HSK.out.inn y hy; omega)).mono ?_; go_must (rintro e W6 ⟨x', b', rest', v5, mp5, rfl, hcur, hbf, hk5, hb5, hs5⟩; have HN := Aside0.mk (HS5.out.step hb5 hs5 hk5); have HCUR := Aside0.mk hcur; clear hk5 hb5 hs5 hcur hbf)))
        go_roundg k1
        case measure => omega
        case rel => exact ⟨m, v5, mp5, x', b', rest', p, rfl, rfl, ⟨by have h1 := HM.out.1; rw [← HCUR.out]; simp only [curL, cond_true, workLeft, List.length_cons] at h1 ⊢; omega, HM.out.2⟩, ⟨by rw [← HCUR.out]; exact HSK.out⟩, HN.out⟩
       | true =>
        have HNO := Aside0.mk hno
        have hus : Work R ts (m.set x true) (addF rest ((usN R ts ts.length).getD x [])) := HW.out.mark hno (fun i hi => (mem_addF _ _).2 (.inl hi)) (fun i hi hx2 => (mem_addF _ _).2 (.inr ((mem_usN HTS.out _ (Nat.le_refl _)).2 ⟨hi, hx2⟩))) (nodup_addF _ _ (List.nodup_cons.1 HW.out.nodup).2) (fun i hi => ((mem_addF _ _).1 hi).elim (fun h => HW.out.inn i (List.mem_cons_of_mem _ h)) fun h => ((mem_usN HTS.out _ (Nat.le_refl _)).1 h).1)
        have HUS := Aside0.mk hus
        have HLF := Aside0.mk (left_mark HW.out hmx hus)
        have HCN := Aside0.mk (cnt_set hxm hmx)
        have HWP := Aside0.mk (work_p hus)
        have HRL : Aside0 (rest.length ≤ 1000) := ⟨by have := HW.out.items_le; rw [curL, cond_true, List.length_cons] at this; omega⟩
        have HRX : Aside0 (((usN R ts ts.length).getD x []).length ≤ 1000000) := ⟨Nat.le_trans (len_row_usN HTS.out _ (Nat.le_refl _)) (HSUM.out _ (Nat.le_refl _))⟩
        have HRM : Aside0 (∀ y ∈ (usN R ts ts.length).getD x [], y ≤ 1000) := ⟨fun y hy => by have := ((mem_usN HTS.out _ (Nat.le_refl _)).1 hy).1; omega⟩
        clear hS hmx hu hno hus
        go_wp2_with fail
        refine start_ (n := 15) (S := fun W' => W'.cell? ⟨w.heap.size + 1, x, none⟩ = some (.bool false) ∧ W'.cell? ⟨w.heap.size, 0, none⟩ = some (.slice (some ad) ts.length c) ∧ W'.cell? ⟨w.heap.size, 1, none⟩ = some (.int .i64 (R : Int)) ∧ W'.cell? (ad.add x) = some u) (ds := []) #[false, false, false, false, false, false, false, false, false, false, false, false, false, false, false] (by kernel_rfl) rfl rfl (⟨m0, y0, y1, x0⟩) (fun hHeld => ?_); refine with_tabW nlTest.tab nlTest.bits (fun HT_ HW_ => ?_)
        refine pu_ 0 34 HT_ ?_
        refine pu_ 1 35 HT_ ?_
        refine pu_ 2 36 HT_ ?_
        refine ta_ 3 37 HT_ HW_ hHeld ?_
        refine pu_ 4 38 HT_ ?_
        refine pu_ 5 39 HT_ ?_
        refine ta_ 6 40 HT_ HW_ hHeld ?_
        refine pu_ 7 41 HT_ ?_
        refine ta_ 8 42 HT_ HW_ hHeld ?_
        refine pu_ 9 43 HT_ ?_
        refine pu_ 10 44 HT_ ?_
        refine ta_ 11 45 HT_ HW_ hHeld ?_
        refine pu_ 12 46 HT_ ?_
        refine one_ (i := 13) (N := (some 47)) #[true, true, true, true, true, true, true, true, true, true, true, true, true, true, false] rfl rfl (one_of HT_.out (by kernel_rfl)) (by decide) (fun K hK => ?_)
        refine goes_ Try.func127 (by kernel_rfl) rfl #[.agg #[.slice (some ad) ts.length c, .int .i64 (R : Int)], u, .slice (some ⟨w.heap.size + 1, 0, none⟩) ts.length ts.length] (by rfl) rfl rfl (by (try simp only [List.map_toArray, List.map_cons, List.map_nil]); first | rfl) ?_
        rw [← HML.out]
        refine (nullO_in (L := L) (by rw [HML.out]; exact hn) hR hL (some ad) m.length c (HU.out.below HB1.out) (HOK.out x hx) (mkV_of_block HMK.out rfl (by have := HML.out; omega))).mono ?_
        rintro e W5 ⟨rfl, hb5⟩
        refine ⟨_, rfl, ?_⟩
        rw [HNO.out]
        have HS5 := Aside0.mk (HS.out.drew.below hb5)
        have q0 := blk_cell HS5.out.gbx 0
        have q1 := blk_cell HS5.out.gbx 1
        have q2 := (blk_cell HS5.out.mkx x).trans (boolsV_at hxm)
        rw [HMX.out] at q2
        have q3 := pw_cell_below hb5 x0
        rw [HML.out]
        refine hK.out _ _ (⟨q2, q0, q1, q3⟩) (fun hHeld => ?_)
        clear hK K
        refine norm_ (a' := ?_) ?_ ?_
        rotate_left
        ·show Act.put _ (some 47) _ = _; simp only [Act.put, List.setIfInBounds_toArray, List.set_cons_zero, List.set_cons_succ, i64_w, i32_w]; rfl
        refine pu_ 14 48 HT_ ?_
        refine done_ (done_of HT_.out (by kernel_rfl)) ?_
        have hs6 := HS5.out.mark hxm
        obtain ⟨csr, r1, r2, r3⟩ := hs6.us.row
        have hrow := hs6.us.own x hx
        obtain ⟨Ar, cr, hvx, _⟩ := q_slice hrow
        have u0 := (blk_cell r1 x).trans (r3 x hx)
        rw [hvx] at u0
        have m5 := blk_frozen HS5.out.mkx x
        have l5 := blk_lt HS5.out.mkx
        have HSRC := Aside0.mk (src_row hs6.wk hrow (hs6.vsl x hx) hvx)
        have HS6 := Aside0.mk hs6
        clear hs6 r1 r2 r3 hrow hvx x0 y0 y1 m0 m2 lm q0 q1 q3
        go_wp2_with (first
         | (go_at_call 125; refine (add_in _ wb v mp rest p HS6.out.wk Ar cr _ HSRC.out HRM.out (Nat.le_trans HRX.out (by decide)) (by have h1 := HM.out.2; have h2 := HWP.out; have h3 := HCN.out; omega) (Nat.le_trans HRL.out (by decide))).mono ?_; go_must (rintro e W7 ⟨rfl, v7, mp7, hk7, hb7, hs7⟩; have HS7 := Aside0.mk (HS6.out.step hb7 hs7 hk7); clear hk7 hb7 hs7))
         | (go_at_call 126; refine (take_in _ wb v7 mp7 _ _ HS7.out.wk HUS.out.nodup (fun y hy => by have := HUS.out.inn y hy; omega)).mono ?_; go_must (rintro e W8 ⟨x', b', rest', v8, mp8, rfl, hcur, hbf, hk8, hb8, hs8⟩; have HN := Aside0.mk (HS7.out.step hb8 hs8 hk8); have HCUR := Aside0.mk hcur; clear hk8 hb8 hs8 hcur hbf)))
        go_roundg k1
        case measure => omega
        case rel => exact ⟨m.set x true, v8, mp8, x', b', rest', _, rfl, rfl, ⟨by have h1 := HM.out.1; have h2 := HLF.out; rw [← HCUR.out]; rw [curL, cond_true] at h1; omega, by have h1 := HM.out.2; have h2 := HCN.out; have h3 := HRX.out; rw [h2, Nat.add_mul]; omega⟩, ⟨by rw [← HCUR.out]; exact HUS.out⟩, HN.out⟩
     | false =>
      obtain rfl := HW.out.finish
      have HS := Aside0.mk hS
      have HL := Aside0.mk HW.out.len
      clear hS HW
      go_wp2_with fail
      go_ret
      exact ⟨_, rfl, own_bools HS.out.mkx HL.out (by omega) (by unfold maxLen; omega), HS.out.bel⟩
end Go.Proofs.Ytdiilocgjnlmiaa.Tre
