import Derived.Test.YtdiilocgjnlmiaaCchMapB
import Derived.Test.YtdiilocgjnlmiaaCchWork
import Derived.Test.YtdiilocgjnlmiaaCchWKept
import Derived.Test.YtdiilocgjnlmiaaCchRegKit
namespace Go.Proofs.Ytdiilocgjnlmiaa.Tre
open Go.RowKit Go.Proofs.YtdiilocgjnlmiaaW.PrintWords Go.Proofs.YtdiilocgjnlmiaaW.PrintLast Go.Proofs.YtdiilocgjnlmiaaW.PrintMore
open Go.Proofs.Ytdiilocgjnlmiaa.PAll
set_option linter.unusedVariables false
set_option linter.unusedSimpArgs false
structure UsC (W : World) (base ob og gb n : Nat) (gA : Value) (R : Int) (vs : Nat → Value) (us : List (List Nat)) : Prop where
 box : W.heap[ob]? = some (.cells #[.slice (some ⟨og, 0, none⟩) n n] 176 (0, 0))
 gbx : W.heap[gb]? = some (.cells #[gA, .int .i64 R] 116 (0, 0))
 row : ∃ cs, W.heap[og]? = some (.cells cs 178 (0, 0)) ∧ cs.size = n ∧ ∀ j, j < n → cs[j]? = some (vs j)
 own : ∀ j, j < n → QRow W base 125 1 (vs j) (us.getD j []).length (nodesV (us.getD j []))
 apart : ∀ i j, i < n → j < n → i ≠ j → (vs i).ownBlock = none ∨ (vs i).ownBlock ≠ (vs j).ownBlock
 len : us.length = n
 bo : base ≤ og
theorem UsC.rest {W : World} {base ob og gb n : Nat} {gA : Value} {R : Int} {vs : Nat → Value} {us : List (List Nat)} (h : UsC W base ob og gb n gA R vs us) {j k : Nat} (hj : j < n) {t : TypeId} {cs : Array Value} (hk : W.heap[k]? = some (.cells cs t (0, 0))) (ht : 125 ≠ t) : some k ≠ (vs j).ownBlock := fun e => by
 obtain ⟨_, cells, hc⟩ := q_typed (h.own j hj) k e.symm
 rw [hk] at hc
 injection hc with hc
 injection hc with _ hc _
 exact ht hc.symm
theorem UsC.below {W W' : World} {base ob og gb n : Nat} {gA : Value} {R : Int} {vs : Nat → Value} {us : List (List Nat)} (h : UsC W base ob og gb n gA R vs us) (hb : Below W.heap.size W W') : UsC W' base ob og gb n gA R vs us := by
 obtain ⟨cs, h1, h2⟩ := h.row
 exact ⟨blk_below h.box hb, blk_below h.gbx hb, ⟨cs, blk_below h1 hb, h2⟩, fun j hj => q_move (h.own j hj) fun k hk => hb.block k (q_lt (h.own j hj) k hk), h.apart, h.len, h.bo⟩
def setF (vs : Nat → Value) (k : Nat) (v : Value) (j : Nat) : Value := if j = k then v else vs j
theorem UsC.push {W1 W4 : World} {base ob og gb n : Nat} {gA : Value} {R : Int} {vs : Nat → Value} {us : List (List Nat)} (h : UsC W1 base ob og gb n gA R vs us) {k i : Nat} (hk : k < n) {v' : Value}
 (hq : QRow W4 base 125 1 v' ((us.getD k []).length + 1) (nodesV (us.getD k []) ++ [.int .i64 (i : Int)])) (hg : W1.grownBy W4 (vs k).ownBlock) (hat : v'.ownBlock = (vs k).ownBlock ∨ ∃ b, v'.ownBlock = some b ∧ W1.heap.size ≤ b) :
 UsC (W4.setCell ⟨og, k, none⟩ v') base ob og gb n gA R (setF vs k v') (pushU i us k) ∧ ∃ cs, W4.heap[og]? = some (.cells cs 178 (0, 0)) ∧ cs.size = n := by
 obtain ⟨cs, h1, h2, h3⟩ := h.row
 have g0 := blk_grown h.box hg (h.rest hk h.box (by decide))
 have g1 := blk_grown h.gbx hg (h.rest hk h.gbx (by decide))
 have g2 := blk_grown h1 hg (h.rest hk h1 (by decide))
 have hne : ∀ j, j < n → j ≠ k → QRow W4 base 125 1 (vs j) (us.getD j []).length (nodesV (us.getD j [])) := fun j hj hjk => q_move (h.own j hj) fun b hb => hg.block b (q_lt (h.own j hj) b hb) fun e => by
  rcases h.apart j k hj hk hjk with h0 | h0
  ·rw [hb] at h0; cases h0
  exact h0 (by rw [hb, e])
 have hfar : ∀ {v : Value} {m : Nat} {xs : List Value}, QRow W4 base 125 1 v m xs → QRow (W4.setCell ⟨og, k, none⟩ v') base 125 1 v m xs := fun hv => q_move hv fun b hb => Below.heap_setCell _ _ _ _ fun e => by
  obtain ⟨_, cells, hc⟩ := q_typed hv b hb
  rw [e] at hc
  rw [g2] at hc
  injection hc with hc
  injection hc with _ hc _
  exact absurd hc (by decide)
 have hkl : k < us.length := by rw [h.len]; exact hk
 refine ⟨⟨blk_far g0 (blk_ne g0 g2 (by decide)) _, blk_far g1 (blk_ne g1 g2 (by decide)) _, ⟨cs.setIfInBounds k v', blk_put g2 k v' rfl, by simpa using h2, fun j hj => ?_⟩, fun j hj => ?_, fun a b ha hb hab => ?_, by rw [pushU, List.length_set]; exact h.len, h.bo⟩, cs, g2, h2⟩
 ·unfold setF
  by_cases e : j = k
  ·subst e
   rw [if_pos rfl, Array.getElem?_setIfInBounds_self_of_lt (by omega)]
  rw [if_neg e, Array.getElem?_setIfInBounds_ne (fun x => e x.symm)]
  exact h3 j hj
 ·unfold setF
  rw [getD_pushU hkl]
  by_cases e : j = k
  ·subst e
   rw [if_pos rfl, if_pos rfl, List.length_append, nodesV, List.map_append]
   exact hfar hq
  rw [if_neg e, if_neg (fun x => e x.symm)]
  exact hfar (hne j hj e)
 have hnew : ∀ j, j < n → j ≠ k → v'.ownBlock = none ∨ v'.ownBlock ≠ (vs j).ownBlock := fun j hj hjk => by
  rcases hat with e | ⟨b, e, hb⟩
  ·rw [e]
   exact h.apart k j hk hj fun x => hjk x.symm
  refine .inr fun e2 => ?_
  have := q_lt (h.own j hj) b (by rw [← e2, e])
  omega
 unfold setF
 by_cases ea : a = k
 ·subst ea
  rw [if_pos rfl, if_neg (fun x => hab x.symm)]
  exact hnew b hb fun x => hab x.symm
 rw [if_neg ea]
 by_cases eb : b = k
 ·subst eb
  rw [if_pos rfl]
  rcases hnew a ha hab with h0 | h0
  ·rcases hv : (vs a).ownBlock with _ | x
   ·exact .inl rfl
   right; rw [h0]; simp
  exact .inr fun e => h0 e.symm
 rw [if_neg eb]
 exact h.apart a b ha hb hab
theorem q_step {ops : Array Oper} {o : Oper} {a : Act} {w : World} {K : Act → World → Prop} {Q : Exit → Act → World → Prop} {E : Prop} {base n x : Nat} {v : Value} {xs : List Value} (hq : QRow w base 125 1 v n xs)
 (hgd : o.guard = none) (sl y : Operand) (ho : o.op = .call { callee := .builtin .append, args := #[sl, y], argTypes := #[178, 178] })
 (hs : a.eval sl = v) (c m : Nat) (hy : a.eval y = .slice (some ⟨m, 0, none⟩) 1 c) (hx : w.cell? ⟨m, 0, none⟩ = some (.int .i64 (x : Int))) (hl : n ≤ 1099511627776) (hb : base ≤ w.heap.size)
 (h : ∀ v' w', QRow w' base 125 1 v' (n + 1) (xs ++ [.int .i64 (x : Int)]) → w.grownBy w' v.ownBlock → (v'.ownBlock = v.ownBlock ∨ ∃ b, v'.ownBlock = some b ∧ w.heap.size ≤ b) → K (a.put o.dst v') w') :
 if Region.wanted o (yielded ops a.tmps) = true then Oper.wp Try.prog o a w K Q else E := by
 have hw : Region.wanted o (yielded ops a.tmps) = true := by simp [Region.wanted, hgd]
 rw [if_pos hw]
 obtain ⟨ii, hi, hz, hs1, hby⟩ := info_parts infoNd
 obtain ⟨v', w', hr, h1, h2, h3⟩ := q_append (P := Try.prog) w base 178 o.type 125 ii (.int .i64 0) 1 8 Try.underlying178 hi hz hs1 hby rfl (by decide) v n xs hq ⟨m, 0, none⟩ 1 c [.int .i64 (x : Int)] rfl
  (by
   intro j u hu
   match j, hu with
   | 0, hu =>
    cases hu
    have e : (⟨m, 0, none⟩ : Addr).add 0 = ⟨m, 0, none⟩ := by unfold Addr.add; split <;> simp_all
    rw [e]; exact hx
   | j + 1, hu => cases hu) (by intro u hu; rw [List.mem_singleton] at hu; rw [hu]; rfl) (by decide) (by unfold maxLen; omega) (by omega) hb
 unfold Oper.wp
 simp [execOp, ho, resolve, invoke, builtin, hs, hy, hr, Result.andThen]
 exact h v' w' h1 h2 h3
theorem grown_below {W W4 W5 : World} {row : Option Nat} (h : W.grownBy W4 row) (hb : Below W4.heap.size W4 W5) : W.grownBy W5 row := World.grownBy.trans h ⟨hb.os, hb.tape, hb.output, hb.size, fun k hk _ => hb.block k hk⟩
def usRef.T : Bool × List (List Nat × List Nat) := (true, [([], []), ([], []), ([1], [1]), ([], []), ([], []), ([4], [4]), ([3, 5], [3, 5]), ([6], [6]), ([], []), ([8], [8]), ([7, 9], [7, 9]), ([0, 2, 0, 1, 2, 3, 4, 5, 6, 7, 8, 9, 10], [0, 2]), ([11, 10, 10, 0, 1, 2, 3, 4, 5, 6, 7, 8, 9, 10], [10, 11])])
def usRef.B : List Nat := [0, 0, 2, 0, 0, 16, 56, 120, 0, 256, 1016, 2047, 4095]
theorem usRef.tab : rtab .any (opsOf Try.f163 3) = usRef.T := by kernel_rfl
theorem usRef.bits : waitsOk usRef.T.2 usRef.B = true := by kernel_rfl
def usThr.T : Bool × List (List Nat × List Nat) := (true, [([], []), ([], []), ([1], [1]), ([], []), ([3], [3]), ([2, 4], [2, 4]), ([], []), ([], []), ([7], [7]), ([], []), ([9], [9]), ([8, 10], [8, 10]), ([6, 11], [6, 11]), ([12], [12]), ([], []), ([14], [14]), ([13, 15], [13, 15]), ([0, 5, 0, 1, 2, 3, 4, 5, 6, 7, 8, 9, 10, 11, 12, 13, 14, 15, 16], [0, 5]), ([17, 16, 16, 0, 1, 2, 3, 4, 5, 6, 7, 8, 9, 10, 11, 12, 13, 14, 15, 16], [16, 17])])
def usThr.B : List Nat := [0, 0, 2, 0, 8, 30, 0, 0, 128, 0, 512, 1920, 4032, 8128, 0, 16384, 65472, 131071, 262143]
theorem usThr.tab : rtab .any (opsOf Try.f163 6) = usThr.T := by kernel_rfl
theorem usThr.bits : waitsOk usThr.T.2 usThr.B = true := by kernel_rfl
structure UsW (W : World) (ob og gb nb wk n : Nat) (gA : Value) (R : Int) (i : Nat) (vs : Nat → Value) (us : List (List Nat)) : Prop where
 c : UsC W og ob og gb n gA R vs us
 nbx : W.heap[nb]? = some (.cells #[.int .i64 (i : Int)] 3 (0, 0))
 wkx : W.heap[wk]? = some (.cells #[(Value.func (Fn.func 163) #[] #[.pointer (some ⟨ob, 0, none⟩), .pointer (some ⟨nb, 0, none⟩), .pointer (some ⟨gb, 0, none⟩), .pointer (some ⟨wk, 0, none⟩)])] 209 (0, 0))
theorem UsW.below {W W' : World} {ob og gb nb wk n : Nat} {gA : Value} {R : Int} {i : Nat} {vs : Nat → Value} {us : List (List Nat)} (h : UsW W ob og gb nb wk n gA R i vs us) (hb : Below W.heap.size W W') : UsW W' ob og gb nb wk n gA R i vs us :=
 ⟨h.c.below hb, blk_below h.nbx hb, blk_below h.wkx hb⟩
def Keep (w w' : World) : Prop := ∀ (b : Nat) (t : TypeId) (cs : Array Value), 125 ≠ t → 178 ≠ t → w.heap[b]? = some (.cells cs t (0, 0)) → w'.heap[b]? = some (.cells cs t (0, 0))
theorem Keep.trans {a b c : World} (h : Keep a b) (k : Keep b c) : Keep a c := fun x t cs h1 h2 hx => k x t cs h1 h2 (h x t cs h1 h2 hx)
theorem keep_below {w w' : World} (hb : Below w.heap.size w w') : Keep w w' := fun x t cs _ _ hx => blk_below hx hb
def WalkPost (w : World) (ob og gb nb wk n : Nat) (gA : Value) (R : Int) (i : Nat) (us : List (List Nat)) (e : Ending) (w' : World) : Prop := e = .returned (.tuple #[]) ∧ ∃ vs, UsW w' ob og gb nb wk n gA R i vs us ∧ Below og w w' ∧ w.heap.size ≤ w'.heap.size ∧ Keep w w'
theorem UsW.same {w : World} {ob og gb nb wk n : Nat} {gA : Value} {R : Int} {i : Nat} {vs : Nat → Value} {us : List (List Nat)} {W : World} (h : UsW w ob og gb nb wk n gA R i vs us) (hb : Below w.heap.size w W) : WalkPost w ob og gb nb wk n gA R i us (.returned (.tuple #[])) W := by
 obtain ⟨cs, h1, _⟩ := h.c.row
 exact ⟨rfl, vs, h.below hb, ⟨hb.os, hb.tape, hb.output, hb.size, fun b hbl => hb.block b (Nat.lt_trans hbl (blk_lt h1))⟩, hb.size, keep_below hb⟩
theorem UsW.push {w W1 W4 W5 : World} {ob og gb nb wk n : Nat} {gA : Value} {R : Int} {i k : Nat} {vs : Nat → Value} {us : List (List Nat)} (h0 : UsW w ob og gb nb wk n gA R i vs us) (hb0 : Below w.heap.size w W1) (hk : k < n) {A : Option Addr} {m c : Nat} (hv : vs k = .slice A m c) {v' : Value}
 (hq : QRow W4 og 125 1 v' ((us.getD k []).length + 1) (nodesV (us.getD k []) ++ [.int .i64 (i : Int)])) (hg : W1.grownBy W4 (Value.slice A m c).ownBlock) (hat : v'.ownBlock = (Value.slice A m c).ownBlock ∨ ∃ b, v'.ownBlock = some b ∧ W1.heap.size ≤ b) (hb : Below W4.heap.size W4 W5) :
 WalkPost w ob og gb nb wk n gA R i (pushU i us k) (.returned (.tuple #[])) (W5.setCell ⟨og, k, none⟩ v') := by
 have h := h0.below hb0
 rw [← hv] at hg hat
 have hg5 := grown_below hg hb
 have hq5 : QRow W5 og 125 1 v' ((us.getD k []).length + 1) (nodesV (us.getD k []) ++ [.int .i64 (i : Int)]) := q_move hq fun b hbk => hb.block b (q_lt hq b hbk)
 obtain ⟨hc, cs, hr, _⟩ := h.c.push hk hq5 hg5 hat
 obtain ⟨cs0, hr0, _⟩ := h0.c.row
 have n1 := blk_grown h.nbx hg5 (h.c.rest hk h.nbx (by decide))
 have n2 := blk_grown h.wkx hg5 (h.c.rest hk h.wkx (by decide))
 have ho := blk_lt hr0
 have hsz := hb0.size
 have hb1 : Below og w W1 := ⟨hb0.os, hb0.tape, hb0.output, hb0.size, fun b hbl => hb0.block b (Nat.lt_trans hbl ho)⟩
 have hb5 : Below og w W5 := hb1.grown hg5 (by omega) fun b hbb => (q_typed (h.c.own k hk) b hbb).1
 refine ⟨rfl, _, ⟨hc, blk_far n1 (blk_ne n1 hr (by decide)) _, blk_far n2 (blk_ne n2 hr (by decide)) _⟩, hb5.setCell (Nat.le_refl _) _, by simp; exact Nat.le_trans hsz hg5.size, fun x t cx q1 q2 hx => ?_⟩
 have hx5 := blk_grown (blk_below hx hb0) hg5 (h.c.rest hk (blk_below hx hb0) q1)
 exact blk_far hx5 (blk_ne hx5 hr (fun e => q2 e.symm)) _
theorem UsW.at4 {w W1 W4 : World} {ob og gb nb wk n : Nat} {gA : Value} {R : Int} {i k : Nat} {vs : Nat → Value} {us : List (List Nat)} (h0 : UsW w ob og gb nb wk n gA R i vs us) (hb0 : Below w.heap.size w W1) (hk : k < n) {A : Option Addr} {m c : Nat} (hv : vs k = .slice A m c) (hg : W1.grownBy W4 (Value.slice A m c).ownBlock) :
 W4.heap[ob]? = some (.cells #[.slice (some ⟨og, 0, none⟩) n n] 176 (0, 0)) ∧ (∃ cs, W4.heap[og]? = some (.cells cs 178 (0, 0)) ∧ cs[k]? = some (.slice A m c)) ∧ W4.heap[gb]? = some (.cells #[gA, .int .i64 R] 116 (0, 0)) ∧ ∀ (x : Nat) (t : TypeId) (cs : Array Value), 125 ≠ t → W1.heap[x]? = some (.cells cs t (0, 0)) → W4.heap[x]? = some (.cells cs t (0, 0)) := by
 have h := h0.below hb0
 rw [← hv] at hg
 obtain ⟨cs, r1, r2, r3⟩ := h.c.row
 have f : ∀ (x : Nat) (t : TypeId) (cs : Array Value), 125 ≠ t → W1.heap[x]? = some (.cells cs t (0, 0)) → W4.heap[x]? = some (.cells cs t (0, 0)) := fun x t cs ht hx => blk_grown hx hg (h.c.rest hk hx ht)
 exact ⟨f _ _ _ (by decide) h.c.box, ⟨cs, f _ _ _ (by decide) r1, by rw [← hv]; exact r3 k hk⟩, f _ _ _ (by decide) h.c.gbx, f⟩
set_option maxRecDepth 100000 in
set_option maxHeartbeats 8000000 in
theorem usWalk_in (w0 : World) (ob og gb nb wk n : Nat) (gA : Value) (R L : Nat) (hn : Aside0 (n = R + L)) (hR : R ≤ 100) (hL : L ≤ 100) (i : Nat) (hi : i ≤ 1000) : ∀ (t : Tr) (w : World) (v : Value) (vs : Nat → Value) (us : List (List Nat)), TrV w0 t v → okT R L t → UsW w ob og gb nb wk n gA (R : Int) i vs us → (∀ k, k < n → (us.getD k []).length + (occ R t).length ≤ 1073741824) →
 Calls Try.prog 163 #[v, .pointer (some ⟨ob, 0, none⟩), .pointer (some ⟨nb, 0, none⟩), .pointer (some ⟨gb, 0, none⟩), .pointer (some ⟨wk, 0, none⟩)] w (WalkPost w ob og gb nb wk n gA (R : Int) i (usT i us (occ R t))) := by
 intro t
 induction t with
 | emp =>
  intro w v vs us hv hok hU hle
  obtain rfl := hv
  have HU := Aside0.mk hU
  clear hok hU hle hn
  have a1 := ta_ref; have a2 := ta_thr; have a3 := ta_seq; have a4 := ta_alt; have a5 := ta_star; have a6 := ta_neg
  go_enter Try.func163, Try.ntmps163
  go_wp2_with fail
  go_end0
  exact HU.out.same (Below.refl _ _)
 | set s =>
  intro w v vs us hv hok hU hle
  obtain ⟨A, c, rfl, _⟩ := hv
  have HU := Aside0.mk hU
  clear hok hU hle hn
  have a1 := ta_ref; have a2 := ta_thr; have a3 := ta_seq; have a4 := ta_alt; have a5 := ta_star; have a6 := ta_neg
  go_enter Try.func163, Try.ntmps163
  go_wp2_with fail
  go_end0
  exact HU.out.same (Below.refl _ _)
 | ref k0 =>
  intro w v vs us hv hok hU hle
  obtain rfl := hv
  obtain ⟨k1, rfl⟩ : ∃ k : Nat, k0 = (k : Int) := ⟨k0.toNat, (Int.toNat_of_nonneg hok.1).symm⟩
  have hk : k1 < n := by have := hok.2; have := hn.out; omega
  have hle' := hle (k1) hk
  obtain ⟨A, c, hvk, _⟩ := q_slice (hU.c.own (k1) hk)
  have hU1 := hU.below (below_alloc (Below.refl _ _) (Obj.cells #[.int .i64 (k1 : Int)] 202))
  have hb1 : Below w.heap.size w (w.alloc (Obj.cells #[.int .i64 (k1 : Int)] 202)) := below_alloc (Below.refl _ _) _
  have hq := hU1.c.own (k1) hk
  rw [hvk] at hq
  obtain ⟨cs, r1, r2, r3⟩ := hU1.c.row
  have hx := blk_new w (Obj.cells #[.int .i64 (k1 : Int)] 202)
  have b0 := blk_cell hU1.c.box 0
  have g0 := blk_cell r1 (k1)
  rw [r3 (k1) hk, hvk] at g0
  have n0 := blk_cell hU1.nbx 0
  have y0 := blk_cell hU1.c.gbx 1
  have x0 := blk_cell hx 0
  have l1 := blk_lt r1
  have g2 := blk_frozen r1 (k1)
  have HNE : Aside0 (ob ≠ og ∧ nb ≠ og ∧ gb ≠ og ∧ w.heap.size ≠ og) := ⟨blk_ne hU1.c.box r1 (by decide), blk_ne hU1.nbx r1 (by decide), blk_ne hU1.c.gbx r1 (by decide), blk_ne hx r1 (by decide)⟩
  have e1 : (0 ≤ ((k1 : Int))) = True := eq_true (by omega)
  have e2 : (((k1 : Int)) < (n : Int)) = True := eq_true (by omega)
  have HU := Aside0.mk hU1
  have HU0 := Aside0.mk hU
  have HQ := Aside0.mk hq
  have HVK := Aside0.mk hvk
  have HK := Aside0.mk hk
  have HX := Aside0.mk hx
  have HB1 := Aside0.mk hb1
  clear hok hU hU1 hle hn r1 r2 r3 hk hvk hq hx hb1
  have a1 := ta_ref; have a2 := ta_thr; have a3 := ta_seq; have a4 := ta_alt; have a5 := ta_star; have a6 := ta_neg
  go_enter Try.func163, Try.ntmps163
  go_wp2_with fail
  generalize w.alloc (Obj.cells #[.int .i64 (k1 : Int)] 202) = W1 at *
  refine start_ (n := 13) (S := fun W' => W'.cell? ⟨ob, 0, none⟩ = some (.slice (some ⟨og, 0, none⟩) n n) ∧ W'.cell? ⟨w.heap.size, 0, none⟩ = some (.int .i64 (k1 : Int)) ∧ W'.cell? ⟨nb, 0, none⟩ = some (.int .i64 (i : Int)) ∧ W'.cell? ⟨og, k1, none⟩ = some (.slice A (us.getD k1 []).length c)) (ds := [12]) #[false, false, false, false, false, false, false, false, false, false, false, false, false] (by kernel_rfl) rfl rfl (⟨b0, x0, n0, g0⟩) (fun hHeld => ?_); refine with_tabW usRef.tab usRef.bits (fun HT_ HW_ => ?_)
  refine ta_ 0 16 HT_ HW_ hHeld ?_
  refine pu_ 1 17 HT_ ?_
  refine ta_ 2 18 HT_ HW_ hHeld ?_
  refine ta_ 3 19 HT_ HW_ hHeld ?_
  refine pu_ 4 20 HT_ ?_
  refine ta_ 5 21 HT_ HW_ hHeld ?_
  refine pu_ 6 22 HT_ ?_
  refine ta_ 7 23 HT_ HW_ hHeld ?_
  refine ta_ 8 24 HT_ HW_ hHeld ?_
  refine one_ (i := 9) (N := (some 25)) #[true, true, true, true, true, true, true, true, true, true, false, false, false] rfl rfl (one_of HT_.out (by kernel_rfl)) (by decide) (fun K hK => ?_)
  refine value_ (w1 := ?_) (v := ?_) (by rfl) rfl ?_ ?_
  rotate_left 2
  ·go_simp; constructor <;> rfl
  refine hK.out _ _ (⟨pw_cell_below (below_alloc (Below.refl _ _).drew _) b0, pw_cell_below (below_alloc (Below.refl _ _).drew _) x0, pw_cell_below (below_alloc (Below.refl _ _).drew _) n0, pw_cell_below (below_alloc (Below.refl _ _).drew _) g0⟩) (fun hHeld => ?_)
  clear hK K
  refine norm_ (a' := ?_) ?_ ?_
  rotate_left
  ·show Act.put _ (some 25) _ = _; simp only [Act.put, List.setIfInBounds_toArray, List.set_cons_zero, List.set_cons_succ, i64_w, i32_w]; rfl
  refine one_ (i := 10) (N := (some 26)) #[true, true, true, true, true, true, true, true, true, true, true, false, false] rfl rfl (one_of HT_.out (by kernel_rfl)) (by decide) (fun K hK => ?_)
  refine q_step (x := i) (xs := nodesV (us.getD k1 [])) (q_move HQ.out fun b hb => Below.block (below_alloc (Below.refl _ _).drew _) b (q_lt HQ.out b hb)) rfl (.tmp 23) (.tmp 25) rfl rfl _ _ rfl (by first | simp) (by omega) (by simp; omega) ?_
  intro v' W4 hq4 hg4 hat4
  obtain ⟨A', c', rfl, _⟩ := q_slice hq4
  obtain ⟨f0, ⟨cs4, f1, f2⟩, f3, f4⟩ := HU.out.at4 (below_alloc (Below.refl _ _).drew _) HK.out HVK.out hg4
  have z0 := blk_cell f0 0
  have z1 := blk_frozen f1 k1
  have z2 := blk_cell f1 k1
  rw [f2] at z2
  have z4 := blk_cell (f4 _ _ _ (by decide) (blk_below HX.out (below_alloc (Below.refl _ _).drew _))) 0
  have z6 := blk_cell (f4 _ _ _ (by decide) (blk_below HU.out.nbx (below_alloc (Below.refl _ _).drew _))) 0
  have HN := Aside0.mk (HU0.out.push (W5 := W4) (below_then HB1.out HB1.out.size (below_alloc (Below.refl _ _).drew _)) HK.out HVK.out hq4 hg4 hat4 (Below.refl _ _))
  clear hq4 hg4 hat4 f0 f1 f2 f3 f4
  refine hK.out _ _ (⟨z0, z4, z6, z2⟩) (fun hHeld => ?_)
  clear hK K
  refine norm_ (a' := ?_) ?_ ?_
  rotate_left
  ·show Act.put _ (some 26) _ = _; simp only [Act.put, List.setIfInBounds_toArray, List.set_cons_zero, List.set_cons_succ, i64_w, i32_w]; rfl
  refine pu_ 11 27 HT_ ?_
  refine last_ (i := 12) (N := none) #[true, true, true, true, true, true, true, true, true, true, true, true, true] rfl rfl (one_of HT_.out (by kernel_rfl)) (by decide) (fun K hK => ?_)
  refine skip_ (w1 := ?_) (by rfl) rfl ?_ ?_
  rotate_left
  ·go_simp; rfl
  refine hK.out _ _ ?_
  clear hK K
  refine done_ (done_of HT_.out (by kernel_rfl)) ?_
  go_wp2_with fail
  go_end0
  exact HN.out
 | thr k0 =>
  intro w v vs us hv hok hU hle
  obtain rfl := hv
  obtain ⟨k1, rfl⟩ : ∃ k : Nat, k0 = (k : Int) := ⟨k0.toNat, (Int.toNat_of_nonneg hok.1).symm⟩
  have hkL : (k1 : Int) < (L : Int) := hok.2
  have hk : R + k1 < n := by have := hn.out; omega
  have hle' := hle (R + k1) hk
  obtain ⟨A, c, hvk, _⟩ := q_slice (hU.c.own (R + k1) hk)
  have hU1 := hU.below (below_alloc (Below.refl _ _) (Obj.cells #[.int .i64 (k1 : Int)] 204))
  have hb1 : Below w.heap.size w (w.alloc (Obj.cells #[.int .i64 (k1 : Int)] 204)) := below_alloc (Below.refl _ _) _
  have hq := hU1.c.own (R + k1) hk
  rw [hvk] at hq
  obtain ⟨cs, r1, r2, r3⟩ := hU1.c.row
  have hx := blk_new w (Obj.cells #[.int .i64 (k1 : Int)] 204)
  have b0 := blk_cell hU1.c.box 0
  have g0 := blk_cell r1 (R + k1)
  rw [r3 (R + k1) hk, hvk] at g0
  have n0 := blk_cell hU1.nbx 0
  have y0 := blk_cell hU1.c.gbx 1
  have x0 := blk_cell hx 0
  have l1 := blk_lt r1
  have g2 := blk_frozen r1 (R + k1)
  have HNE : Aside0 (ob ≠ og ∧ nb ≠ og ∧ gb ≠ og ∧ w.heap.size ≠ og) := ⟨blk_ne hU1.c.box r1 (by decide), blk_ne hU1.nbx r1 (by decide), blk_ne hU1.c.gbx r1 (by decide), blk_ne hx r1 (by decide)⟩
  have HEW := Aside0.mk (wid (x := (R : Int) + (k1 : Int)) (by omega) (by omega))
  have e3 : ((R : Int) + (k1 : Int)).toNat = R + k1 := by omega
  have e1 : (0 ≤ (R : Int) + (k1 : Int)) = True := eq_true (by omega)
  have e2 : ((R : Int) + (k1 : Int) < (n : Int)) = True := eq_true (by omega)
  have HU := Aside0.mk hU1
  have HU0 := Aside0.mk hU
  have HQ := Aside0.mk hq
  have HVK := Aside0.mk hvk
  have HK := Aside0.mk hk
  have HX := Aside0.mk hx
  have HB1 := Aside0.mk hb1
  clear hok hU hU1 hle hn r1 r2 r3 hk hvk hq hx hb1
  have a1 := ta_ref; have a2 := ta_thr; have a3 := ta_seq; have a4 := ta_alt; have a5 := ta_star; have a6 := ta_neg
  go_enter Try.func163, Try.ntmps163
  go_wp2_with fail
  generalize w.alloc (Obj.cells #[.int .i64 (k1 : Int)] 204) = W1 at *
  refine start_ (n := 19) (S := fun W' => W'.cell? ⟨ob, 0, none⟩ = some (.slice (some ⟨og, 0, none⟩) n n) ∧ W'.cell? ⟨w.heap.size, 0, none⟩ = some (.int .i64 (k1 : Int)) ∧ W'.cell? ⟨nb, 0, none⟩ = some (.int .i64 (i : Int)) ∧ W'.cell? ⟨og, R + k1, none⟩ = some (.slice A (us.getD (R + k1) []).length c) ∧ W'.cell? ⟨gb, 1, none⟩ = some (.int .i64 (R : Int))) (ds := [18]) #[false, false, false, false, false, false, false, false, false, false, false, false, false, false, false, false, false, false, false] (by kernel_rfl) rfl rfl (⟨b0, x0, n0, g0, y0⟩) (fun hHeld => ?_); refine with_tabW usThr.tab usThr.bits (fun HT_ HW_ => ?_)
  refine ta_ 0 31 HT_ HW_ hHeld ?_ (ha := by simp only [Act.put, List.setIfInBounds_toArray, List.set_cons_zero, List.set_cons_succ, i64_w, i32_w, HEW.out]; rfl)
  refine pu_ 1 32 HT_ ?_ (ha := by simp only [Act.put, List.setIfInBounds_toArray, List.set_cons_zero, List.set_cons_succ, i64_w, i32_w, HEW.out]; rfl)
  refine ta_ 2 33 HT_ HW_ hHeld ?_ (ha := by simp only [Act.put, List.setIfInBounds_toArray, List.set_cons_zero, List.set_cons_succ, i64_w, i32_w, HEW.out]; rfl)
  refine pu_ 3 34 HT_ ?_ (ha := by simp only [Act.put, List.setIfInBounds_toArray, List.set_cons_zero, List.set_cons_succ, i64_w, i32_w, HEW.out]; rfl)
  refine ta_ 4 35 HT_ HW_ hHeld ?_ (ha := by simp only [Act.put, List.setIfInBounds_toArray, List.set_cons_zero, List.set_cons_succ, i64_w, i32_w, HEW.out]; rfl)
  refine pu_ 5 36 HT_ ?_ (ha := by simp only [Act.put, List.setIfInBounds_toArray, List.set_cons_zero, List.set_cons_succ, i64_w, i32_w, HEW.out]; rfl)
  refine ta_ 6 37 HT_ HW_ hHeld ?_ (ha := by simp only [Act.put, List.setIfInBounds_toArray, List.set_cons_zero, List.set_cons_succ, i64_w, i32_w, HEW.out]; rfl)
  refine pu_ 7 38 HT_ ?_ (ha := by simp only [Act.put, List.setIfInBounds_toArray, List.set_cons_zero, List.set_cons_succ, i64_w, i32_w, HEW.out]; rfl)
  refine ta_ 8 39 HT_ HW_ hHeld ?_ (ha := by simp only [Act.put, List.setIfInBounds_toArray, List.set_cons_zero, List.set_cons_succ, i64_w, i32_w, HEW.out]; rfl)
  refine pu_ 9 40 HT_ ?_ (ha := by simp only [Act.put, List.setIfInBounds_toArray, List.set_cons_zero, List.set_cons_succ, i64_w, i32_w, HEW.out]; rfl)
  refine ta_ 10 41 HT_ HW_ hHeld ?_ (ha := by simp only [Act.put, List.setIfInBounds_toArray, List.set_cons_zero, List.set_cons_succ, i64_w, i32_w, HEW.out]; rfl)
  refine pu_ 11 42 HT_ ?_ (ha := by simp only [Act.put, List.setIfInBounds_toArray, List.set_cons_zero, List.set_cons_succ, i64_w, i32_w, HEW.out]; rfl)
  refine pu_ 12 43 HT_ ?_ (ha := by simp only [Act.put, List.setIfInBounds_toArray, List.set_cons_zero, List.set_cons_succ, i64_w, i32_w, HEW.out]; rfl)
  refine ta_ 13 44 HT_ HW_ hHeld ?_ (ha := by simp only [Act.put, List.setIfInBounds_toArray, List.set_cons_zero, List.set_cons_succ, i64_w, i32_w, HEW.out]; rfl)
  refine ta_ 14 45 HT_ HW_ hHeld ?_ (ha := by simp only [Act.put, List.setIfInBounds_toArray, List.set_cons_zero, List.set_cons_succ, i64_w, i32_w, HEW.out]; rfl)
  refine one_ (i := 15) (N := (some 46)) #[true, true, true, true, true, true, true, true, true, true, true, true, true, true, true, true, false, false, false] rfl rfl (one_of HT_.out (by kernel_rfl)) (by decide) (fun K hK => ?_)
  refine value_ (w1 := ?_) (v := ?_) (by rfl) rfl ?_ ?_
  rotate_left 2
  ·go_simp; constructor <;> rfl
  refine hK.out _ _ (⟨pw_cell_below (below_alloc (Below.refl _ _).drew _) b0, pw_cell_below (below_alloc (Below.refl _ _).drew _) x0, pw_cell_below (below_alloc (Below.refl _ _).drew _) n0, pw_cell_below (below_alloc (Below.refl _ _).drew _) g0, pw_cell_below (below_alloc (Below.refl _ _).drew _) y0⟩) (fun hHeld => ?_)
  clear hK K
  refine norm_ (a' := ?_) ?_ ?_
  rotate_left
  ·show Act.put _ (some 46) _ = _; simp only [Act.put, List.setIfInBounds_toArray, List.set_cons_zero, List.set_cons_succ, i64_w, i32_w, HEW.out]; rfl
  refine one_ (i := 16) (N := (some 47)) #[true, true, true, true, true, true, true, true, true, true, true, true, true, true, true, true, true, false, false] rfl rfl (one_of HT_.out (by kernel_rfl)) (by decide) (fun K hK => ?_)
  refine q_step (x := i) (xs := nodesV (us.getD (R + k1) [])) (q_move HQ.out fun b hb => Below.block (below_alloc (Below.refl _ _).drew _) b (q_lt HQ.out b hb)) rfl (.tmp 44) (.tmp 46) rfl rfl _ _ rfl (by first | simp) (by omega) (by simp; omega) ?_
  intro v' W4 hq4 hg4 hat4
  obtain ⟨A', c', rfl, _⟩ := q_slice hq4
  obtain ⟨f0, ⟨cs4, f1, f2⟩, f3, f4⟩ := HU.out.at4 (below_alloc (Below.refl _ _).drew _) HK.out HVK.out hg4
  have z0 := blk_cell f0 0
  have z1 := blk_frozen f1 (R + k1)
  have z2 := blk_cell f1 (R + k1)
  rw [f2] at z2
  have z4 := blk_cell (f4 _ _ _ (by decide) (blk_below HX.out (below_alloc (Below.refl _ _).drew _))) 0
  have z5 := blk_cell f3 1
  have z6 := blk_cell (f4 _ _ _ (by decide) (blk_below HU.out.nbx (below_alloc (Below.refl _ _).drew _))) 0
  have HN := Aside0.mk (HU0.out.push (W5 := W4) (below_then HB1.out HB1.out.size (below_alloc (Below.refl _ _).drew _)) HK.out HVK.out hq4 hg4 hat4 (Below.refl _ _))
  clear hq4 hg4 hat4 f0 f1 f2 f3 f4
  refine hK.out _ _ (⟨z0, z4, z6, z2, z5⟩) (fun hHeld => ?_)
  clear hK K
  refine norm_ (a' := ?_) ?_ ?_
  rotate_left
  ·show Act.put _ (some 47) _ = _; simp only [Act.put, List.setIfInBounds_toArray, List.set_cons_zero, List.set_cons_succ, i64_w, i32_w, HEW.out]; rfl
  refine pu_ 17 48 HT_ ?_ (ha := by simp only [Act.put, List.setIfInBounds_toArray, List.set_cons_zero, List.set_cons_succ, i64_w, i32_w, HEW.out]; rfl)
  refine last_ (i := 18) (N := none) #[true, true, true, true, true, true, true, true, true, true, true, true, true, true, true, true, true, true, true] rfl rfl (one_of HT_.out (by kernel_rfl)) (by decide) (fun K hK => ?_)
  refine skip_ (w1 := ?_) (by rfl) rfl ?_ ?_
  rotate_left
  ·go_simp; rfl
  refine hK.out _ _ ?_
  clear hK K
  refine done_ (done_of HT_.out (by kernel_rfl)) ?_
  go_wp2_with fail
  go_end0
  exact HN.out
 | seq l r ihl ihr =>
  intro w v vs us hv hok hU hle
  obtain ⟨a, b, rfl, hl, hr⟩ := hv
  obtain ⟨Ta, ua, rfl⟩ := hl.iface
  obtain ⟨Tb, ub, rfl⟩ := hr.iface
  have hb1 : Below w.heap.size w (w.alloc (Obj.cells #[.iface Ta ua, .iface Tb ub] 189)) := below_alloc (Below.refl _ _) _
  have hU1 := hU.below hb1
  have hx := blk_new w (Obj.cells #[.iface Ta ua, .iface Tb ub] 189)
  have HLE : Aside0 (∀ k, k < n → (us.getD k []).length + ((occ R l).length + (occ R r).length) ≤ 1073741824) := ⟨fun k hk => by have := hle k hk; rw [occ, List.length_append] at this; exact this⟩
  have HKL : Aside0 (∀ k ∈ occ R l, k < n) := ⟨fun k hk => by have := okT_occ l hok.1 k hk; have := hn.out; omega⟩
  have k0 := blk_cell hU1.wkx 0
  have x0 := blk_cell hx 0
  have x1 := blk_cell hx 1
  have lx := blk_lt hx
  have HL := Aside0.mk hl
  have HR := Aside0.mk hr
  have HOK := Aside0.mk hok
  have HU := Aside0.mk hU1
  have HU0 := Aside0.mk hU
  have HX := Aside0.mk hx
  have HB1 := Aside0.mk hb1
  clear hl hr hok hU hU1 hle hn hx hb1
  have a1 := ta_ref; have a2 := ta_thr; have a3 := ta_seq; have a4 := ta_alt; have a5 := ta_star; have a6 := ta_neg
  go_enter Try.func163, Try.ntmps163
  go_wp2_with (first
   | (go_at_call 163; refine (ihr _ _ _ _ HR.out HOK.out.2 HU2.out HLE2.out).mono ?_; go_must (rintro e W3 ⟨rfl, vs3, hU3, hb3, hs3, hk3⟩; have HU3 := Aside0.mk hU3; have HB3 := Aside0.mk hb3; have HS3 := Aside0.mk hs3; have HK3 := Aside0.mk hk3; clear hU3 hb3 hs3 hk3))
   | (go_at_call 163; refine (ihl _ _ _ _ HL.out HOK.out.1 HU.out (fun k hk => by have := HLE.out k hk; omega)).mono ?_; go_must (rintro e W2 ⟨rfl, vs2, hU2, hb2, hs2, hk2⟩; have hx2 := hk2 _ _ _ (by decide) (by decide) HX.out; have y0 := blk_cell hx2 0; have y1 := blk_cell hx2 1; have y2 := blk_lt hx2; have y3 := blk_cell hU2.wkx 0; have HLE2 : Aside0 (∀ k, k < n → ((usT i us (occ R l)).getD k []).length + (occ R r).length ≤ 1073741824) := ⟨fun k hk => by have := HLE.out k hk; have := len_row_usT (i := i) (x := k) (occ R l) us (fun q hq => by rw [HU.out.c.len]; exact HKL.out q hq); omega⟩; have HU2 := Aside0.mk hU2; have HB2 := Aside0.mk hb2; have HS2 := Aside0.mk hs2; have HK2 := Aside0.mk hk2; clear hU2 hb2 hs2 hk2 hx2)))
  go_end0
  have hp := HU0.out.same HB1.out
  obtain ⟨_, _, _, hp1, hp2, hp3⟩ := hp
  exact ⟨rfl, vs3, by rw [occ, usT_append]; exact HU3.out, (hp1.trans HB2.out).trans HB3.out, Nat.le_trans hp2 (Nat.le_trans HS2.out HS3.out), (hp3.trans HK2.out).trans HK3.out⟩
 | alt l r ihl ihr =>
  intro w v vs us hv hok hU hle
  obtain ⟨a, b, rfl, hl, hr⟩ := hv
  obtain ⟨Ta, ua, rfl⟩ := hl.iface
  obtain ⟨Tb, ub, rfl⟩ := hr.iface
  have hb1 : Below w.heap.size w (w.alloc (Obj.cells #[.iface Ta ua, .iface Tb ub] 190)) := below_alloc (Below.refl _ _) _
  have hU1 := hU.below hb1
  have hx := blk_new w (Obj.cells #[.iface Ta ua, .iface Tb ub] 190)
  have HLE : Aside0 (∀ k, k < n → (us.getD k []).length + ((occ R l).length + (occ R r).length) ≤ 1073741824) := ⟨fun k hk => by have := hle k hk; rw [occ, List.length_append] at this; exact this⟩
  have HKL : Aside0 (∀ k ∈ occ R l, k < n) := ⟨fun k hk => by have := okT_occ l hok.1 k hk; have := hn.out; omega⟩
  have k0 := blk_cell hU1.wkx 0
  have x0 := blk_cell hx 0
  have x1 := blk_cell hx 1
  have lx := blk_lt hx
  have HL := Aside0.mk hl
  have HR := Aside0.mk hr
  have HOK := Aside0.mk hok
  have HU := Aside0.mk hU1
  have HU0 := Aside0.mk hU
  have HX := Aside0.mk hx
  have HB1 := Aside0.mk hb1
  clear hl hr hok hU hU1 hle hn hx hb1
  have a1 := ta_ref; have a2 := ta_thr; have a3 := ta_seq; have a4 := ta_alt; have a5 := ta_star; have a6 := ta_neg
  go_enter Try.func163, Try.ntmps163
  go_wp2_with (first
   | (go_at_call 163; refine (ihr _ _ _ _ HR.out HOK.out.2 HU2.out HLE2.out).mono ?_; go_must (rintro e W3 ⟨rfl, vs3, hU3, hb3, hs3, hk3⟩; have HU3 := Aside0.mk hU3; have HB3 := Aside0.mk hb3; have HS3 := Aside0.mk hs3; have HK3 := Aside0.mk hk3; clear hU3 hb3 hs3 hk3))
   | (go_at_call 163; refine (ihl _ _ _ _ HL.out HOK.out.1 HU.out (fun k hk => by have := HLE.out k hk; omega)).mono ?_; go_must (rintro e W2 ⟨rfl, vs2, hU2, hb2, hs2, hk2⟩; have hx2 := hk2 _ _ _ (by decide) (by decide) HX.out; have y0 := blk_cell hx2 0; have y1 := blk_cell hx2 1; have y2 := blk_lt hx2; have y3 := blk_cell hU2.wkx 0; have HLE2 : Aside0 (∀ k, k < n → ((usT i us (occ R l)).getD k []).length + (occ R r).length ≤ 1073741824) := ⟨fun k hk => by have := HLE.out k hk; have := len_row_usT (i := i) (x := k) (occ R l) us (fun q hq => by rw [HU.out.c.len]; exact HKL.out q hq); omega⟩; have HU2 := Aside0.mk hU2; have HB2 := Aside0.mk hb2; have HS2 := Aside0.mk hs2; have HK2 := Aside0.mk hk2; clear hU2 hb2 hs2 hk2 hx2)))
  go_end0
  have hp := HU0.out.same HB1.out
  obtain ⟨_, _, _, hp1, hp2, hp3⟩ := hp
  exact ⟨rfl, vs3, by rw [occ, usT_append]; exact HU3.out, (hp1.trans HB2.out).trans HB3.out, Nat.le_trans hp2 (Nat.le_trans HS2.out HS3.out), (hp3.trans HK2.out).trans HK3.out⟩
 | star x ih =>
  intro w v vs us hv hok hU hle
  obtain ⟨a, rfl, hl⟩ := hv
  obtain ⟨Ta, ua, rfl⟩ := hl.iface
  have hb1 : Below w.heap.size w (w.alloc (Obj.cells #[.iface Ta ua] 192)) := below_alloc (Below.refl _ _) _
  have hU1 := hU.below hb1
  have hx := blk_new w (Obj.cells #[.iface Ta ua] 192)
  have HLE : Aside0 (∀ k, k < n → (us.getD k []).length + (occ R x).length ≤ 1073741824) := ⟨hle⟩
  have k0 := blk_cell hU1.wkx 0
  have x0 := blk_cell hx 0
  have lx := blk_lt hx
  have HL := Aside0.mk hl
  have HOK : Aside0 (okT R L x) := Aside0.mk hok
  have HU := Aside0.mk hU1
  have HU0 := Aside0.mk hU
  have HB1 := Aside0.mk hb1
  clear hl hok hU hU1 hle hn hx hb1
  have a1 := ta_ref; have a2 := ta_thr; have a3 := ta_seq; have a4 := ta_alt; have a5 := ta_star; have a6 := ta_neg
  go_enter Try.func163, Try.ntmps163
  go_wp2_with (go_at_call 163; refine (ih _ _ _ _ HL.out HOK.out HU.out HLE.out).mono ?_; go_must (rintro e W3 ⟨rfl, vs3, hU3, hb3, hs3, hk3⟩; have HU3 := Aside0.mk hU3; have HB3 := Aside0.mk hb3; have HS3 := Aside0.mk hs3; have HK3 := Aside0.mk hk3; clear hU3 hb3 hs3 hk3))
  go_end0
  have hp := HU0.out.same HB1.out
  obtain ⟨_, _, _, hp1, hp2, hp3⟩ := hp
  exact ⟨rfl, vs3, HU3.out, hp1.trans HB3.out, Nat.le_trans hp2 HS3.out, hp3.trans HK3.out⟩
 | neg x ih =>
  intro w v vs us hv hok hU hle
  obtain ⟨a, rfl, hl⟩ := hv
  obtain ⟨Ta, ua, rfl⟩ := hl.iface
  have hb1 : Below w.heap.size w (w.alloc (Obj.cells #[.iface Ta ua] 193)) := below_alloc (Below.refl _ _) _
  have hU1 := hU.below hb1
  have hx := blk_new w (Obj.cells #[.iface Ta ua] 193)
  have HLE : Aside0 (∀ k, k < n → (us.getD k []).length + (occ R x).length ≤ 1073741824) := ⟨hle⟩
  have k0 := blk_cell hU1.wkx 0
  have x0 := blk_cell hx 0
  have lx := blk_lt hx
  have HL := Aside0.mk hl
  have HOK : Aside0 (okT R L x) := Aside0.mk hok
  have HU := Aside0.mk hU1
  have HU0 := Aside0.mk hU
  have HB1 := Aside0.mk hb1
  clear hl hok hU hU1 hle hn hx hb1
  have a1 := ta_ref; have a2 := ta_thr; have a3 := ta_seq; have a4 := ta_alt; have a5 := ta_star; have a6 := ta_neg
  go_enter Try.func163, Try.ntmps163
  go_wp2_with (go_at_call 163; refine (ih _ _ _ _ HL.out HOK.out HU.out HLE.out).mono ?_; go_must (rintro e W3 ⟨rfl, vs3, hU3, hb3, hs3, hk3⟩; have HU3 := Aside0.mk hU3; have HB3 := Aside0.mk hb3; have HS3 := Aside0.mk hs3; have HK3 := Aside0.mk hk3; clear hU3 hb3 hs3 hk3))
  go_end0
  have hp := HU0.out.same HB1.out
  obtain ⟨_, _, _, hp1, hp2, hp3⟩ := hp
  exact ⟨rfl, vs3, HU3.out, hp1.trans HB3.out, Nat.le_trans hp2 HS3.out, hp3.trans HK3.out⟩
end Go.Proofs.Ytdiilocgjnlmiaa.Tre
