/- Lemmas of the proof, and the walks of functions that it stands on. -/
import Derived.Test.YtdiilocgjnlmiaaCpgWork
import Derived.Test.YtdiilocgjnlmiaaCpgWEqStruct
import Derived.Laws.MakeOwn
import Derived.Test.YtdiilocgjnlmiaaCpgByteText
import Derived.Test.YtdiilocgjnlmiaaCpgFlat
section
namespace Go.Proofs.Ytdiilocgjnlmiaa.Tre
open Go.RowKit Go.Proofs.YtdiilocgjnlmiaaW.PrintWords Go.Proofs.YtdiilocgjnlmiaaW.PrintLast Go.Proofs.YtdiilocgjnlmiaaW.PrintMore
open Go.Proofs.Ytdiilocgjnlmiaa.PAll
set_option linter.unusedVariables false
set_option linter.unusedSimpArgs false
structure UsC (W : World) (base ob og gb n : Nat) (gA : Value) (R : Int) (vs : Nat → Value) (us : List (List Nat)) : Prop where
 box : W.heap[ob]? = some (.cells #[.slice (some ⟨og, 0, none⟩) n n] 176 (0, 0))
 gbx : W.heap[gb]? = some (.cells #[gA, .int .i64 R] 116 (0, 0))
 row : ∃ cs, W.heap[og]? = some (.cells cs 178 (0, 0)) ∧ cs.size = n ∧ ∀ j, j < n → cs[j]? = some (vs j)
 own : ∀ j, j < n → QRow W base 125 1 (vs j) (us.getD j []).length (nodesV (us.getD j []))
 apart : ∀ i j, i < n → j < n → i ≠ j → (vs i).ownBlock = none ∨ (vs i).ownBlock ≠ (vs j).ownBlock
 len : us.length = n
 bo : base ≤ og
theorem UsC.rest {W : World} {base ob og gb n : Nat} {gA : Value} {R : Int} {vs : Nat → Value} {us : List (List Nat)} (h : UsC W base ob og gb n gA R vs us) {j k : Nat} (hj : j < n) {t : TypeId} {cs : Array Value} (hk : W.heap[k]? = some (.cells cs t (0, 0))) (ht : 125 ≠ t) : some k ≠ (vs j).ownBlock := fun e => by
 obtain ⟨_, cells, hc⟩ := q_typed (h.own j hj) k e.symm
 rw [hk] at hc
 injection hc with hc
 injection hc with _ hc _
 exact ht hc.symm
theorem UsC.below {W W' : World} {base ob og gb n : Nat} {gA : Value} {R : Int} {vs : Nat → Value} {us : List (List Nat)} (h : UsC W base ob og gb n gA R vs us) (hb : Below W.heap.size W W') : UsC W' base ob og gb n gA R vs us := by
 obtain ⟨cs, h1, h2⟩ := h.row
 exact ⟨blk_below h.box hb, blk_below h.gbx hb, ⟨cs, blk_below h1 hb, h2⟩, fun j hj => q_move (h.own j hj) fun k hk => hb.block k (q_lt (h.own j hj) k hk), h.apart, h.len, h.bo⟩
def usRef.T : Bool × List (List Nat × List Nat) := (true, [([], []), ([], []), ([1], [1]), ([], []), ([], []), ([4], [4]), ([3, 5], [3, 5]), ([6], [6]), ([], []), ([8], [8]), ([7, 9], [7, 9]), ([0, 2, 0, 1, 2, 3, 4, 5, 6, 7, 8, 9, 10], [0, 2]), ([11, 10, 10, 0, 1, 2, 3, 4, 5, 6, 7, 8, 9, 10], [10, 11])])
def usRef.B : List Nat := [0, 0, 2, 0, 0, 16, 56, 120, 0, 256, 1016, 2047, 4095]
def usThr.T : Bool × List (List Nat × List Nat) := (true, [([], []), ([], []), ([1], [1]), ([], []), ([3], [3]), ([2, 4], [2, 4]), ([], []), ([], []), ([7], [7]), ([], []), ([9], [9]), ([8, 10], [8, 10]), ([6, 11], [6, 11]), ([12], [12]), ([], []), ([14], [14]), ([13, 15], [13, 15]), ([0, 5, 0, 1, 2, 3, 4, 5, 6, 7, 8, 9, 10, 11, 12, 13, 14, 15, 16], [0, 5]), ([17, 16, 16, 0, 1, 2, 3, 4, 5, 6, 7, 8, 9, 10, 11, 12, 13, 14, 15, 16], [16, 17])])
def usThr.B : List Nat := [0, 0, 2, 0, 8, 30, 0, 0, 128, 0, 512, 1920, 4032, 8128, 0, 16384, 65472, 131071, 262143]
structure UsW (W : World) (ob og gb nb wk n : Nat) (gA : Value) (R : Int) (i : Nat) (vs : Nat → Value) (us : List (List Nat)) : Prop where
 c : UsC W og ob og gb n gA R vs us
 nbx : W.heap[nb]? = some (.cells #[.int .i64 (i : Int)] 3 (0, 0))
 wkx : W.heap[wk]? = some (.cells #[(Value.func (Fn.func 163) #[] #[.pointer (some ⟨ob, 0, none⟩), .pointer (some ⟨nb, 0, none⟩), .pointer (some ⟨gb, 0, none⟩), .pointer (some ⟨wk, 0, none⟩)])] 209 (0, 0))
theorem UsW.below {W W' : World} {ob og gb nb wk n : Nat} {gA : Value} {R : Int} {i : Nat} {vs : Nat → Value} {us : List (List Nat)} (h : UsW W ob og gb nb wk n gA R i vs us) (hb : Below W.heap.size W W') : UsW W' ob og gb nb wk n gA R i vs us :=
 ⟨h.c.below hb, blk_below h.nbx hb, blk_below h.wkx hb⟩
def Keep (w w' : World) : Prop := ∀ (b : Nat) (t : TypeId) (cs : Array Value), 125 ≠ t → 178 ≠ t → w.heap[b]? = some (.cells cs t (0, 0)) → w'.heap[b]? = some (.cells cs t (0, 0))
theorem Keep.trans {a b c : World} (h : Keep a b) (k : Keep b c) : Keep a c := fun x t cs h1 h2 hx => k x t cs h1 h2 (h x t cs h1 h2 hx)
theorem keep_below {w w' : World} (hb : Below w.heap.size w w') : Keep w w' := fun x t cs _ _ hx => blk_below hx hb
def WalkPost (w : World) (ob og gb nb wk n : Nat) (gA : Value) (R : Int) (i : Nat) (us : List (List Nat)) (e : Ending) (w' : World) : Prop := e = .returned (.tuple #[]) ∧ ∃ vs, UsW w' ob og gb nb wk n gA R i vs us ∧ Below og w w' ∧ w.heap.size ≤ w'.heap.size ∧ Keep w w'
theorem UsW.same {w : World} {ob og gb nb wk n : Nat} {gA : Value} {R : Int} {i : Nat} {vs : Nat → Value} {us : List (List Nat)} {W : World} (h : UsW w ob og gb nb wk n gA R i vs us) (hb : Below w.heap.size w W) : WalkPost w ob og gb nb wk n gA R i us (.returned (.tuple #[])) W := by
 obtain ⟨cs, h1, _⟩ := h.c.row
 exact ⟨rfl, vs, h.below hb, ⟨hb.os, hb.tape, hb.output, hb.size, fun b hbl => hb.block b (Nat.lt_trans hbl (blk_lt h1))⟩, hb.size, keep_below hb⟩
end Go.Proofs.Ytdiilocgjnlmiaa.Tre
end
section
namespace Go.Proofs.Ytdiilocgjnlmiaa.Tre
open Go.RowKit Go.Proofs.YtdiilocgjnlmiaaW.PrintWords Go.Proofs.YtdiilocgjnlmiaaW.PrintLast Go.Proofs.YtdiilocgjnlmiaaW.PrintMore
open Go.Proofs.Ytdiilocgjnlmiaa.PAll
set_option linter.unusedVariables false
set_option linter.unusedSimpArgs false
structure UsR (W : World) (base og n : Nat) (vs : Nat → Value) (us : List (List Nat)) : Prop where
 row : ∃ cs, W.heap[og]? = some (.cells cs 178 (0, 0)) ∧ cs.size = n ∧ ∀ j, j < n → cs[j]? = some (vs j)
 own : ∀ j, j < n → QRow W base 125 1 (vs j) (us.getD j []).length (nodesV (us.getD j []))
 len : us.length = n
theorem UsR.below {W W' : World} {B base og n : Nat} {vs : Nat → Value} {us : List (List Nat)} (h : UsR W base og n vs us) (hs : B ≤ W.heap.size) (hB : og < B) (hv : ∀ j, j < n → ∀ k, (vs j).ownBlock = some k → k < B) (hb : Below B W W') : UsR W' base og n vs us := by
 obtain ⟨cs, h1, h2⟩ := h.row
 exact ⟨⟨cs, (hb.block og hB).trans h1, h2⟩, fun j hj => q_move (h.own j hj) fun k hk => hb.block k (hv j hj k hk), h.len⟩
end Go.Proofs.Ytdiilocgjnlmiaa.Tre
end
section
namespace Go.Proofs.Ytdiilocgjnlmiaa.Tre
open Go.RowKit Go.Proofs.YtdiilocgjnlmiaaW.PrintWords Go.Proofs.YtdiilocgjnlmiaaW.PrintLast Go.Proofs.YtdiilocgjnlmiaaW.PrintMore
open Go.Proofs.Ytdiilocgjnlmiaa.PAll
set_option linter.unusedVariables false
set_option linter.unusedSimpArgs false
def boolsV (m : List Bool) : List Value := m.map Value.bool
structure NlSt (w W : World) (A : Option Addr) (c R : Nat) (ts : List (Option Tr)) (og wb : Nat) (vs : Nat → Value) (m : List Bool) (v mp : Value) (items : List Nat) (p : Nat) : Prop where
 gbx : W.heap[w.heap.size]? = some (.cells #[.slice A ts.length c, .int .i64 (R : Int)] 116 (0, 0))
 mkx : W.heap[w.heap.size + 1]? = some (.cells (boolsV m).toArray 4 (0, 0))
 us : UsR W (w.heap.size + 1 + 1 + 1) og ts.length vs (usN R ts ts.length)
 og : og < wb
 vsl : ∀ j, j < ts.length → ∀ k, (vs j).ownBlock = some k → k < wb
 lt : w.heap.size + 1 < wb
 wk : WkSt W wb v mp items p
 bel : Below w.heap.size w W
theorem NlSt.step {w W W' : World} {A : Option Addr} {c R : Nat} {ts : List (Option Tr)} {og wb : Nat} {vs : Nat → Value} {m : List Bool} {v mp v' mp' : Value} {items items' : List Nat} {p p' : Nat} (h : NlSt w W A c R ts og wb vs m v mp items p) (hb : Below wb W W') (hs : W.heap.size ≤ W'.heap.size) (hk : WkSt W' wb v' mp' items' p') : NlSt w W' A c R ts og wb vs m v' mp' items' p' := by
 have hl := h.lt
 have hwl := blk_lt h.wk.box
 exact ⟨(hb.block _ (by omega)).trans h.gbx, (hb.block _ hl).trans h.mkx, h.us.below (Nat.le_of_lt hwl) h.og h.vsl hb, h.og, h.vsl, hl, hk, h.bel.trans ⟨hb.os, hb.tape, hb.output, hb.size, fun i hi => hb.block i (by omega)⟩⟩
theorem NlSt.below {w W W' : World} {A : Option Addr} {c R : Nat} {ts : List (Option Tr)} {og wb : Nat} {vs : Nat → Value} {m : List Bool} {v mp : Value} {items : List Nat} {p : Nat} (h : NlSt w W A c R ts og wb vs m v mp items p) (hb : Below W.heap.size W W') : NlSt w W' A c R ts og wb vs m v mp items p :=
 h.step ⟨hb.os, hb.tape, hb.output, hb.size, fun i hi => hb.block i (Nat.lt_trans hi (blk_lt h.wk.box))⟩ hb.size (h.wk.below hb)
def nlTest.T : Bool × List (List Nat × List Nat) := (true, [([], []), ([], []), ([0, 1], [0, 1]), ([2], [2]), ([3], [3]), ([4], [4]), ([5], [5]), ([5], [5]), ([7, 5], [5, 7]), ([5], [5]), ([8, 9, 5], [5, 8, 9]), ([10, 5], [5, 10]), ([5], [5]), ([6, 11, 12, 5, 5], [5, 6, 11, 12]), ([5, 13], [5, 13])])
def nlTest.B : List Nat := [0, 0, 3, 7, 15, 31, 63, 63, 191, 63, 959, 1983, 63, 8191, 16383]
end Go.Proofs.Ytdiilocgjnlmiaa.Tre
end
section
namespace Go.Proofs.Ytdiilocgjnlmiaa.Tre
open Go.RowKit Go.Proofs.YtdiilocgjnlmiaaW.PrintWords Go.Proofs.YtdiilocgjnlmiaaW.PrintLast Go.Proofs.YtdiilocgjnlmiaaW.PrintMore
open Go.Proofs.Ytdiilocgjnlmiaa.PAll
set_option linter.unusedVariables false
set_option linter.unusedSimpArgs false
theorem last_op {W : World} {A : Option Addr} {pre : List Op} {o : Op} (h : Kd.C k79 W A (pre ++ [o]).length (pre ++ [o])) : ∃ ad A1 c1, A = some ad ∧ W.cell? (ad.add (pre.length * 3)) = some (.int .i64 o.f0) ∧ W.cell? ⟨(ad.add (pre.length * 3)).block, (ad.add (pre.length * 3)).off + 1, none⟩ = some (.slice A1 o.f1.length c1) ∧ W.cell? ⟨(ad.add (pre.length * 3)).block, (ad.add (pre.length * 3)).off + 2, none⟩ = some (.int .i64 o.f2) ∧ o.f1.length ≤ c1 ∧ (Kd.int .i64).C W A1 o.f1.length o.f1 := by
 obtain ⟨ad, A1, c1, h1, h2, h3, h4, h5, h6⟩ := at_T79 h (pre.length : Int) (by omega) (by simp; omega)
 have e : rd_T79 (pre ++ [o]) (pre.length : Int) = o := rd_at rfl
 rw [e] at h2 h3 h4 h5 h6
 rw [Int.toNat_natCast] at h2 h3 h4
 exact ⟨ad, A1, c1, h1, h2, h3, h4, h5, h6⟩
structure SRow (U w : World) (b : Nat) (o : List Bool) : Prop where
 row : w.heap[b]? = some (.cells (boolsV o).toArray 4 (0, 0))
 bel : Below U.heap.size U w
def BegPost (U w : World) (b : Nat) (o : List Bool) (e : Ending) (w' : World) : Prop := e = .returned (.tuple #[]) ∧ SRow U w' b o ∧ w.heap.size ≤ w'.heap.size ∧ ∀ k, k < w.heap.size → k ≠ b → w'.heap[k]? = w.heap[k]?
theorem SRow.below {U w w' : World} {b : Nat} {o : List Bool} (h : SRow U w b o) (hb : Below w.heap.size w w') : SRow U w' b o := ⟨blk_below h.row hb, below_then h.bel h.bel.size hb⟩
theorem SRow.same {U w W : World} {b : Nat} {o : List Bool} (h : SRow U w b o) (hb : Below w.heap.size w W) : BegPost U w b o (.returned (.tuple #[])) W := ⟨rfl, h.below hb, hb.size, fun k hk _ => hb.block k hk⟩
def sbU.T : Bool × List (List Nat × List Nat) := (true, [([], []), ([], []), ([], []), ([2], [2]), ([1, 3], [1, 3]), ([], []), ([], []), ([0, 4, 5, 6], [0, 4, 5, 6])])
def sbU.B : List Nat := [0, 0, 0, 4, 14, 0, 0, 127]
def sbL.T : Bool × List (List Nat × List Nat) := (true, [([], []), ([], []), ([], []), ([1, 2], [1, 2]), ([], []), ([], []), ([0, 3, 4, 5], [0, 3, 4, 5])])
def sbL.B : List Nat := [0, 0, 0, 6, 0, 0, 63]
def sbG.T : Bool × List (List Nat × List Nat) := (true, [([], []), ([0], [0]), ([1], [1]), ([2], [2]), ([3], [3]), ([3], [3]), ([3], [3]), ([5, 6, 3], [3, 5, 6]), ([3], [3]), ([4, 7, 8, 3, 3], [3, 4, 7, 8]), ([3, 9], [3, 9])])
def sbG.B : List Nat := [0, 1, 3, 7, 15, 15, 15, 111, 15, 511, 1023]
def sbR.T : Bool × List (List Nat × List Nat) := (true, [([], []), ([], []), ([], []), ([], []), ([3], [3]), ([1, 2, 4], [1, 2, 4]), ([], []), ([], []), ([0, 5, 6, 7], [0, 5, 6, 7])])
def sbR.B : List Nat := [0, 0, 0, 0, 8, 30, 0, 0, 255]
end Go.Proofs.Ytdiilocgjnlmiaa.Tre
end
section
namespace Go.Proofs.YtdiilocgjnlmiaaW.PrintLast
open Go.RowKit Go.Proofs.YtdiilocgjnlmiaaW.PrintWords
set_option linter.unusedVariables false
section
variable {P : Program} {ops : Array Oper} {Q : Exit → Act → World → Prop} {md : Region.Mode} {S : World → Prop} {ds : List Nat} {T : Bool × List (List Nat × List Nat)} {B : List Nat} {oi : Oper} {v : Value} {fuel : Nat} {l l' : Array Bool} {a a' : Act} {w : World}
theorem pu_ (i N : Nat) (hT : Aside0 (rtab md ops = T)) (h : wpAnyLast P md ops Q S ds fuel l' a' w) (hi : ops[i]? = some oi := by exact rfl) (hN : oi.dst = some N := by exact rfl) (hl : l.setIfInBounds i true = l' := by exact rfl) (hc : anyT T l.toList l'.toList i = true := by kernel_rfl)
 (hw : Region.wanted oi (yielded ops a.tmps) = true := by rfl) (hy : ∀ w', (execOp a.eval oi).run P w' = .ok (.value v) w' := by intro w'; go_simp; with_reducible rfl) (ha : a.put (some N) v = a' := by simp only [Act.put, List.setIfInBounds_toArray, List.set_cons_zero, List.set_cons_succ, i64_w, i32_w]; rfl)
 (hQ : ∀ c a w, Q (.panic c) (a.put oi.dst v) w → Q (.panic c) a w := by exact fun _ _ _ h => h) : wpAnyLast P md ops Q S ds (fuel + 1) l a w :=
 pure_ l' hi hN (any_of hT.out hc) hQ (Or.inl ⟨hw, hy⟩) ha h
theorem pn_ (i N : Nat) (hT : Aside0 (rtab md ops = T)) (h : wpAnyLast P md ops Q S ds fuel l' a' w) (hi : ops[i]? = some oi := by exact rfl) (hN : oi.dst = some N := by exact rfl) (hl : l.setIfInBounds i true = l' := by exact rfl) (hc : anyT T l.toList l'.toList i = true := by kernel_rfl)
 (hw : Region.wanted oi (yielded ops a.tmps) = false := by rfl) (ha : a.put (some N) undef = a' := by simp only [Act.put, List.setIfInBounds_toArray, List.set_cons_zero, List.set_cons_succ, i64_w, i32_w]; rfl)
 (hQ : ∀ c a w, Q (.panic c) (a.put oi.dst undef) w → Q (.panic c) a w := by exact fun _ _ _ h => h) : wpAnyLast P md ops Q S ds (fuel + 1) l a w :=
 pure_ l' hi hN (any_of hT.out hc) hQ (Or.inr ⟨hw, rfl⟩) ha h
theorem ta_ (i N : Nat) (hT : Aside0 (rtab md ops = T)) (hB : Aside0 (waitsOk T.2 B = true)) (hS : S w) (h : wpAnyLast P md ops Q S ds fuel l' a' w) (hi : ops[i]? = some oi := by exact rfl) (hN : oi.dst = some N := by exact rfl) (hl : l.setIfInBounds i true = l' := by exact rfl) (hc : takeW T B ds l.toList l'.toList i = true := by kernel_rfl)
 (hw : Region.wanted oi (yielded ops a.tmps) = true := by rfl) (hy : ∀ w', S w' → (execOp a.eval oi).run P w' = .ok (.value v) w' := by intro w' hs; go_split_ands; go_simp; with_reducible rfl) (ha : a.put (some N) v = a' := by simp only [Act.put, List.setIfInBounds_toArray, List.set_cons_zero, List.set_cons_succ, i64_w, i32_w]; rfl)
 (hQ : ∀ c a w, Q (.panic c) (a.put oi.dst v) w → Q (.panic c) a w := by exact fun _ _ _ h => h) : wpAnyLast P md ops Q S ds (fuel + 1) l a w :=
 take_ l' hi hN (take_ofW hT.out hB.out hc) hQ (Or.inl ⟨hw, hy⟩) hS ha h
theorem on_ (i : Nat) (N : Option Tmp) (hT : Aside0 (rtab md ops = T)) (h : ∀ K : Act → World → Prop, Shut (∀ a' w', S w' → (S w' → wpAnyLast P md ops Q S ds fuel (l.setIfInBounds i true) a' w') → K a' w') → if Region.wanted oi (yielded ops a.tmps) = true then Oper.wp P oi a w K Q else K (a.put N undef) w)
 (hi : ops[i]? = some oi := by exact rfl) (hN : oi.dst = N := by exact rfl) (hc : (readyT T.2 l.toList == [i] && l.toList.set i true == (l.setIfInBounds i true).toList) = true := by kernel_rfl) (hd : i ∉ ds := by decide) : wpAnyLast P md ops Q S ds (fuel + 1) l a w :=
 one_ (l.setIfInBounds i true) hi hN (one_of hT.out hc) hd h
theorem no_ (N : Option Tmp) {a0 : Act} (h : wpAnyLast P md ops Q S ds fuel l a' w) (ha : a0.put N v = a' := by simp only [Act.put, List.setIfInBounds_toArray, List.set_cons_zero, List.set_cons_succ, i64_w, i32_w]; rfl) : wpAnyLast P md ops Q S ds fuel l (a0.put N v) w :=
 norm_ ha h
theorem ge_ {N : Option Tmp} {K : Act → World → Prop} {f : FuncId} {fn : Func} {as1 : Array Operand} {ts : Array TypeId} (hf : P.funcs[f]? = some fn) (args : Array Value) (h : Calls P f args w fun e w' => ∃ v, e = .returned v ∧ K (a.put N v) w') (hname : (fn.name == "runtime.NumGoroutine") = false := by kernel_rfl) (hb : fn.body.isSome = true := by exact rfl)
 (hw : Region.wanted oi (yielded ops a.tmps) = true := by rfl) (hN : oi.dst = N := by exact rfl) (hop : oi.op = .call { callee := .value (.func f), args := as1, argTypes := ts } := by exact rfl) (hargs : as1.map a.eval = args := by (try simp only [List.map_toArray, List.map_cons, List.map_nil]); first | done | rfl) : if Region.wanted oi (yielded ops a.tmps) = true then Oper.wp P oi a w K Q else K (a.put N undef) w :=
 goes_ hf hname hb args hw hN hop hargs h
end
end Go.Proofs.YtdiilocgjnlmiaaW.PrintLast
end
