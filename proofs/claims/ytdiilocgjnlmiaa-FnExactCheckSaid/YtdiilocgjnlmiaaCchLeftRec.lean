/- Lemmas of the proof, and the walks of functions that it stands on. -/
import Derived.Test.YtdiilocgjnlmiaaCchSBegins
import Derived.Test.YtdiilocgjnlmiaaCchGoodBody
import Derived.Test.YtdiilocgjnlmiaaCchNullables
import Derived.Test.YtdiilocgjnlmiaaCchMapB
section
namespace Go.Proofs.Ytdiilocgjnlmiaa.Tre
open Go.RowKit Go.Proofs.YtdiilocgjnlmiaaW.PrintWords Go.Proofs.YtdiilocgjnlmiaaW.PrintLast Go.Proofs.YtdiilocgjnlmiaaW.PrintMore
open Go.Proofs.Ytdiilocgjnlmiaa.PAll
set_option linter.unusedVariables false
set_option linter.unusedSimpArgs false
theorem C_pre {U : World} {A : Option Addr} {xs ys : List Op} {N : Nat} (h : Kd.C k79 U A N (xs ++ ys)) : Kd.C k79 U A xs.length xs := by
 have hl : (xs ++ ys).length = N := Kd.C_len h
 have := Kd.C_take (m := xs.length) (by rw [← hl] at h; exact h) (by simp)
 rwa [List.take_left' rfl] at this
theorem C_in {U : World} {A : Option Addr} {xs ys zs : List Op} {N c : Nat} (h : Kd.C k79 U A N (xs ++ ys ++ zs)) (hc : N ≤ c) : Kd.C k79 U (if c = xs.length then A else A.map (·.add (xs.length * 3))) ys.length ys := by
 have hl : (xs ++ ys ++ zs).length = N := Kd.C_len h
 have := Kd.C_mid (lo := xs.length) (hi := (xs ++ ys).length) (c := c) (by rw [← hl] at h; exact h) (by simp) (by simp) (by rw [hl]; exact hc)
 rwa [List.take_left' rfl, List.drop_left' rfl] at this
theorem sbegins_in (U : World) (A0 A1 : Option Addr) (c0 c1 : Nat) (Rs : List Ru) (Ls : List La) (Am : Option Addr) (cm : Nat) (m : List Bool) (b n : Nat) (hG : SG U A0 A1 c0 c1 Rs Ls Am cm m b) (hn : Aside0 (n = Rs.length + Ls.length)) :
 ∀ (x : Tr), okT Rs.length Ls.length x → (flat x).length ≤ 1000000 → ∀ (o : List Bool) (w : World) (A : Option Addr) (c : Nat), Kd.C k79 U A (flat x).length (flat x) → (flat x).length ≤ c → SRow U w b o → o.length = n →
 Calls Try.prog 83 #[.agg #[.slice A0 Rs.length c0, .slice A1 Ls.length c1], .slice A (flat x).length c, .slice Am m.length cm, .slice (some ⟨b, 0, none⟩) n n] w (BegPost U w b (setAll o (begT Rs.length m x))) := by
 have hnull : ∀ (x : Tr), okT Rs.length Ls.length x → (flat x).length ≤ 1000000 → ∀ (A : Option Addr) (c : Nat), Kd.C k79 U A (flat x).length (flat x) → (flat x).length ≤ c → ∀ w', Below U.heap.size U w' → Calls Try.prog 123 #[.agg #[.slice A0 Rs.length c0, .slice A1 Ls.length c1], .slice A (flat x).length c, .slice Am m.length cm] w' (BoolPost w' (nullT Rs.length m x)) := fun x hx hl A c hC hc w' hb =>
  spec_l3null.calls (4 * (flat x).length + 4) A0 c0 Rs A1 c1 Ls A c (flat x) Am cm m _ w' (Kd.C_below hG.r0 hb) hG.rc (Kd.C_below hG.l0 hb) hG.lc (Kd.C_below hC hb) hc (Kd.C_below hG.mk1.cells hb) hG.mk1.cap (l3null_flat Rs Ls m (by have := hG.r2; omega) (by have := hG.l2; omega) hG.ml x _ hx (by omega) (Nat.le_refl _))
 have hstart : ∀ (l r : Tr) (op : Op), (flat l ++ flat r ++ [op]).length ≤ 1000001 → ∀ (A : Option Addr) (N c : Nat), Kd.C k79 U A N (flat l ++ flat r ++ [op]) → N ≤ c → ∀ w', Below U.heap.size U w' → Calls Try.prog 129 #[.slice A N c, .int .i64 (((flat l ++ flat r).length : Nat) : Int)] w' (fun e w2 => e = .returned (.int .i64 ((flat l).length : Int)) ∧ Below w'.heap.size w' w2) := fun l r op hl A N c hC hc w' hb => by
  have hN : (flat l ++ flat r ++ [op]).length = N := Kd.C_len hC
  have hf := start_f r (flat l) [op] ((flat r).length + 1) (by omega) (by rw [List.append_assoc] at hl; omega)
  rw [← List.append_assoc, ← List.length_append] at hf
  have := spec_l2start.calls ((flat r).length + 1) A c (flat l ++ flat r ++ [op]) (((flat l ++ flat r).length : Nat) : Int) _ w' (by rw [hN]; exact Kd.C_below hC hb) (by rw [hN]; exact hc) hf
  rw [hN] at this
  exact this.mono fun e w2 h => ⟨h.1, h.2.below⟩
 intro x
 induction x with
 | emp =>
  intro hok hl o w A c hC hc hW ho
  exact beg_none U A0 A1 c0 c1 Rs Ls Am cm m b n hG hn o w A c 1 0 [] 0 [] (.inl rfl) rfl rfl (by omega) hC hc hW ho
 | set s =>
  intro hok hl o w A c hC hc hW ho
  exact beg_none U A0 A1 c0 c1 Rs Ls Am cm m b n hG hn o w A c 1 0 [] 1 s (.inr rfl) rfl rfl (by omega) hC hc hW ho
 | ref a =>
  intro hok hl o w A c hC hc hW ho
  obtain ⟨q, rfl⟩ : ∃ q : Nat, a = (q : Int) := ⟨a.toNat, (Int.toNat_of_nonneg hok.1).symm⟩
  exact beg_ref U A0 A1 c0 c1 Rs Ls Am cm m b n hG hn o w A c 1 0 [] [] q (by have := hok.2; omega) rfl rfl (by omega) hC hc hW ho
 | thr a =>
  intro hok hl o w A c hC hc hW ho
  obtain ⟨q, rfl⟩ : ∃ q : Nat, a = (q : Int) := ⟨a.toNat, (Int.toNat_of_nonneg hok.1).symm⟩
  exact beg_thr U A0 A1 c0 c1 Rs Ls Am cm m b n hG hn o w A c 1 0 [] [] q (by have := hok.2; omega) rfl rfl (by omega) hC hc hW ho
 | star x ih =>
  intro hok hl o w A c hC hc hW ho
  have e : (flat (.star x)).length = (flat x).length + 1 := by simp [flat]
  exact beg_un U A0 A1 c0 c1 Rs Ls Am cm m b n hG hn o w A c (flat (.star x)).length (flat x).length (flat x) 6 0 [] _ (.inl rfl) ⟨fun w' h => ih hok (by omega) o w' A c (C_pre hC) (by omega) h ho⟩ e rfl (by omega) hC hc hW ho
 | neg x ih =>
  intro hok hl o w A c hC hc hW ho
  have e : (flat (.neg x)).length = (flat x).length + 1 := by simp [flat]
  exact beg_un U A0 A1 c0 c1 Rs Ls Am cm m b n hG hn o w A c (flat (.neg x)).length (flat x).length (flat x) 7 0 [] _ (.inr rfl) ⟨fun w' h => ih hok (by omega) o w' A c (C_pre hC) (by omega) h ho⟩ e rfl (by omega) hC hc hW ho
 | alt l r ihl ihr =>
  intro hok hl o w A c hC hc hW ho
  have e0 : flat (.alt l r) = flat l ++ flat r ++ [⟨5, [], 0⟩] := by simp [flat]
  have e : (flat (.alt l r)).length = (flat l ++ flat r).length + 1 := by simp [flat]; omega
  have e2 : (flat l ++ flat r).length = (flat l).length + (flat r).length := List.length_append
  have hC' : Kd.C k79 U A (flat (.alt l r)).length (flat l ++ flat r ++ [⟨5, [], 0⟩]) := by rw [← e0]; exact hC
  have := beg_alt U A0 A1 c0 c1 Rs Ls Am cm m b n hG hn o w A c (flat (.alt l r)).length (flat l ++ flat r).length (flat l ++ flat r) 0 [] (flat l).length (flat r).length (c - (flat l).length) _ (setAll o (begT Rs.length m l)) (setAll (setAll o (begT Rs.length m l)) (begT Rs.length m r)) (by omega) rfl (by omega) rfl
   ⟨fun w' hb => hstart l r ⟨5, [], 0⟩ (by rw [← e0]; omega) A _ c hC' hc w' hb⟩ ⟨fun w' h => ihl hok.1 (by omega) o w' A c (C_pre (by rw [List.append_assoc] at hC'; exact hC')) (by omega) h ho⟩ ⟨fun w' h => ihr hok.2 (by omega) _ w' _ _ (C_in hC' hc) (by omega) h (by rw [setAll_len]; exact ho)⟩ e rfl (by omega) hC' hc hW ho
  rw [begT, setAll_app]
  exact this
 | seq l r ihl ihr =>
  intro hok hl o w A c hC hc hW ho
  have e0 : flat (.seq l r) = flat l ++ flat r ++ [⟨4, [], 0⟩] := by simp [flat]
  have e : (flat (.seq l r)).length = (flat l ++ flat r).length + 1 := by simp [flat]; omega
  have e2 : (flat l ++ flat r).length = (flat l).length + (flat r).length := List.length_append
  have hC' : Kd.C k79 U A (flat (.seq l r)).length (flat l ++ flat r ++ [⟨4, [], 0⟩]) := by rw [← e0]; exact hC
  have hCl : Kd.C k79 U A (flat l).length (flat l) := C_pre (by rw [List.append_assoc] at hC'; exact hC')
  have hnl := hnull l hok.1 (by omega) A c hCl (by omega)
  cases hb : nullT Rs.length m l with
  | true =>
   rw [hb] at hnl
   have := beg_seqT U A0 A1 c0 c1 Rs Ls Am cm m b n hG hn o w A c (flat (.seq l r)).length (flat l ++ flat r).length (flat l ++ flat r) 0 [] (flat l).length (flat r).length (c - (flat l).length) _ (setAll o (begT Rs.length m l)) (setAll (setAll o (begT Rs.length m l)) (begT Rs.length m r)) (by omega) rfl (by omega) rfl
    ⟨fun w' hb => hstart l r ⟨4, [], 0⟩ (by rw [← e0]; omega) A _ c hC' hc w' hb⟩ ⟨fun w' h => ihl hok.1 (by omega) o w' A c hCl (by omega) h ho⟩ ⟨fun w' h => ihr hok.2 (by omega) _ w' _ _ (C_in hC' hc) (by omega) h (by rw [setAll_len]; exact ho)⟩ ⟨hnl⟩ e rfl (by omega) hC' hc hW ho
   rw [begT, if_pos hb, setAll_app]
   exact this
  | false =>
   rw [hb] at hnl
   have := beg_seqF U A0 A1 c0 c1 Rs Ls Am cm m b n hG hn o w A c (flat (.seq l r)).length (flat l ++ flat r).length (flat l ++ flat r) 0 [] (flat l).length (flat r).length (c - (flat l).length) _ (setAll o (begT Rs.length m l)) o (by omega) rfl (by omega) rfl
    ⟨fun w' hb => hstart l r ⟨4, [], 0⟩ (by rw [← e0]; omega) A _ c hC' hc w' hb⟩ ⟨fun w' h => ihl hok.1 (by omega) o w' A c hCl (by omega) h ho⟩ ⟨hnl⟩ e rfl (by omega) hC' hc hW ho
   rw [begT, if_neg (by rw [hb]; simp), List.append_nil]
   exact this
set_option maxRecDepth 100000 in
set_option maxHeartbeats 8000000 in
theorem beg_nil (U : World) (A0 A1 : Option Addr) (c0 c1 : Nat) (Rs : List Ru) (Ls : List La) (Am : Option Addr) (cm : Nat) (m : List Bool) (b n : Nat) (o : List Bool) (w : World) (A : Option Addr) (c : Nat) (hW : SRow U w b o) :
 Calls Try.prog 83 #[.agg #[.slice A0 Rs.length c0, .slice A1 Ls.length c1], .slice A 0 c, .slice Am m.length cm, .slice (some ⟨b, 0, none⟩) n n] w (BegPost U w b o) := by
 have HW := Aside0.mk hW
 clear hW
 go_enter Try.func83, Try.ntmps83
 go_wp2_with fail
 go_end0
 exact HW.out.same (below_alloc (Below.refl _ _) _)
theorem sbeginsO_in {U : World} {A0 A1 : Option Addr} {c0 c1 : Nat} {Rs : List Ru} {Ls : List La} {Am : Option Addr} {cm : Nat} {m : List Bool} {b n : Nat} (hG : SG U A0 A1 c0 c1 Rs Ls Am cm m b) (hn : Aside0 (n = Rs.length + Ls.length)) (hN : Nice Rs Ls) {i : Nat} (hi : i < Rs.length + Ls.length) {o : List Bool} {w : World} {A : Option Addr} {c : Nat} (hC : Kd.C k79 U A (bodyN Rs Ls i).length (bodyN Rs Ls i)) (hc : (bodyN Rs Ls i).length ≤ c) (hW : SRow U w b o) (ho : o.length = n) :
 Calls Try.prog 83 #[.agg #[.slice A0 Rs.length c0, .slice A1 Ls.length c1], .slice A (bodyN Rs Ls i).length c, .slice Am m.length cm, .slice (some ⟨b, 0, none⟩) n n] w (BegPost U w b (setAll o (edges Rs.length (trees Rs Ls) m i))) := by
 rcases hN.body i hi with ⟨e1, e2⟩ | ⟨x, e1, e2, e3, e4⟩
 ·rw [edges, e2, e1]
  exact beg_nil U A0 A1 c0 c1 Rs Ls Am cm m b n o w A c hW
 rw [edges, e1]
 rw [e2] at hC hc ⊢
 exact sbegins_in U A0 A1 c0 c1 Rs Ls Am cm m b n hG hn x e3 (by omega) o w A c hC hc hW ho
end Go.Proofs.Ytdiilocgjnlmiaa.Tre
end
section
namespace Go.Proofs.Ytdiilocgjnlmiaa.Tre
open Go.RowKit Go.Proofs.YtdiilocgjnlmiaaW.PrintWords Go.Proofs.YtdiilocgjnlmiaaW.PrintLast Go.Proofs.YtdiilocgjnlmiaaW.PrintMore
open Go.Proofs.Ytdiilocgjnlmiaa.PAll
set_option linter.unusedVariables false
set_option linter.unusedSimpArgs false
def BodyPost (U w : World) (ops : List Op) (e : Ending) (w' : World) : Prop := ∃ A c, e = .returned (.slice A ops.length c) ∧ Kd.C k79 U A ops.length ops ∧ ops.length ≤ c ∧ Below w.heap.size w w'
set_option maxRecDepth 100000 in
set_option maxHeartbeats 8000000 in
theorem sbody_in {U : World} {A0 A1 : Option Addr} {c0 c1 : Nat} {Rs : List Ru} {Ls : List La} (hr : Kd.C k68 U A0 Rs.length Rs) (hl : Kd.C k72 U A1 Ls.length Ls) (r2 : Rs.length ≤ 100) (l2 : Ls.length ≤ 100) (i : Nat) (hi : i < Rs.length + Ls.length) (w : World) (hb : Below U.heap.size U w) :
 Calls Try.prog 84 #[.agg #[.slice A0 Rs.length c0, .slice A1 Ls.length c1], .int .i64 (i : Int)] w (BodyPost U w (bodyN Rs Ls i)) := by
 by_cases hlt : i < Rs.length
 ·obtain ⟨ad, X0, d0, X1, d1, rfl, x0, x1, y0, y1, y2, y3⟩ := at_T68 hr (i : Int) (by omega) (by omega)
  rw [Int.toNat_natCast] at x0 x1
  replace x1 := pw_cell_below hb x1
  replace x0 := pw_cell_below hb x0
  have lx := World.block_lt_of_cell? _ _ x0
  have lx1 := World.block_lt_of_cell? _ _ x1
  have e1 : decide ((i : Int) < (Rs.length : Int)) = true := decide_eq_true (by omega)
  have e2 : (0 ≤ (i : Int)) = True := eq_true (by omega)
  have e3 : ((i : Int) < (Rs.length : Int)) = True := eq_true (by omega)
  have HE : Aside0 (bodyN Rs Ls i = (rd_T68 Rs (i : Int)).f1) := ⟨by rw [bodyN_ru hlt]⟩
  have HY := Aside0.mk (And.intro y2 y3)
  clear y0 y1 y2 y3 hr hl hb hi
  go_enter Try.func84, Try.ntmps84
  go_wp2_with fail
  go_ret
  rw [HE.out]
  exact ⟨_, _, rfl, HY.out.2, HY.out.1, below_alloc (Below.refl _ _) _⟩
 obtain ⟨j, rfl⟩ : ∃ j, i = Rs.length + j := ⟨i - Rs.length, by omega⟩
 obtain ⟨ad, X0, d0, X1, d1, rfl, x0, x1, x2, y0, y1, y2, y3⟩ := at_T72 hl (j : Int) (by omega) (by omega)
 rw [Int.toNat_natCast] at x0 x1 x2
 replace x0 := pw_cell_below hb x0
 replace x2 := pw_cell_below hb x2
 have lx := World.block_lt_of_cell? _ _ x0
 have lx2 := World.block_lt_of_cell? _ _ x2
 have e1 : decide (((Rs.length + j : Nat) : Int) < (Rs.length : Int)) = false := decide_eq_false (by omega)
 have ew : IntKind.i64.wrap (((Rs.length + j : Nat) : Int) - (Rs.length : Int)) = (j : Int) := (i64_w _).trans (by rw [wid (by omega) (by omega)]; omega)
 have e2 : (0 ≤ (j : Int)) = True := eq_true (by omega)
 have e3 : ((j : Int) < (Ls.length : Int)) = True := eq_true (by omega)
 have HE : Aside0 (bodyN Rs Ls (Rs.length + j) = (rd_T72 Ls (j : Int)).f2) := ⟨by rw [bodyN_la (by omega)]⟩
 obtain ⟨i, hI⟩ : ∃ i : Nat, i = Rs.length + j := ⟨_, rfl⟩
 rw [← hI] at e1 ew HE ⊢
 have hq : ¬ i < Rs.length := by omega
 have e4 : decide (i < Rs.length) = false := decide_eq_false hq
 have HY := Aside0.mk (And.intro y2 y3)
 clear y0 y1 y2 y3 hr hl hb hi hI hlt
 go_enter Try.func84, Try.ntmps84
 go_wp2_with fail
 go_ret
 rw [HE.out]
 exact ⟨_, _, rfl, HY.out.2, HY.out.1, below_alloc (Below.refl _ _) _⟩
end Go.Proofs.Ytdiilocgjnlmiaa.Tre
end
section
namespace Go.Proofs.Ytdiilocgjnlmiaa.Tre
open Go.RowKit Go.Proofs.YtdiilocgjnlmiaaW.PrintWords Go.Proofs.YtdiilocgjnlmiaaW.PrintLast Go.Proofs.YtdiilocgjnlmiaaW.PrintMore
open Go.Proofs.Ytdiilocgjnlmiaa.PAll
set_option linter.unusedVariables false
set_option linter.unusedSimpArgs false
structure StM (U W : World) (ob n i : Nat) (bs : Nat → Nat) (M : List (List Bool)) : Prop where
 out : ∃ cs, W.heap[ob]? = some (.cells cs 55 (0, 0)) ∧ cs.size = n ∧ (∀ j, j < i → cs[j]? = some (.slice (some ⟨bs j, 0, none⟩) n n)) ∧ ∀ j, i ≤ j → j < n → cs[j]? = some (.slice none 0 0)
 row : ∀ j, j < i → W.heap[bs j]? = some (.cells (boolsV (M.getD j [])).toArray 4 (0, 0))
 inj : ∀ j k, j < i → k < i → bs j = bs k → j = k
 lo : ∀ j, j < i → U.heap.size ≤ bs j
 olo : U.heap.size ≤ ob
 len : M.length = i
 wid : ∀ j, j < i → (M.getD j []).length = n
 bel : Below U.heap.size U W
theorem StM.below {U W W' : World} {ob n i : Nat} {bs : Nat → Nat} {M : List (List Bool)} (h : StM U W ob n i bs M) (hb : Below W.heap.size W W') : StM U W' ob n i bs M := by
 obtain ⟨cs, h1, h2⟩ := h.out
 exact ⟨⟨cs, blk_below h1 hb, h2⟩, fun j hj => blk_below (h.row j hj) hb, h.inj, h.lo, h.olo, h.len, h.wid, below_then h.bel h.bel.size hb⟩
theorem getD_set {M : List (List Bool)} {q j : Nat} {o : List Bool} (hq : q < M.length) : (M.set q o).getD j [] = if j = q then o else M.getD j [] := by
 simp only [List.getD_eq_getElem?_getD, List.getElem?_set]
 by_cases c : j = q
 ·subst c; simp [hq]
 rw [if_neg (fun e => c e.symm), if_neg c]
theorem StM.apart {U W : World} {ob n i : Nat} {bs : Nat → Nat} {M : List (List Bool)} (h : StM U W ob n i bs M) {q : Nat} (hq : q < i) : bs q ≠ ob := by
 obtain ⟨cs, h1, _⟩ := h.out
 exact fun e => absurd rfl (blk_ne (h.row q hq) h1 (by decide) |> fun hne => fun (_ : bs q = bs q) => hne e)
theorem StM.put {U W W' : World} {ob n i : Nat} {bs : Nat → Nat} {M : List (List Bool)} (h : StM U W ob n i bs M) {q : Nat} (hq : q < i) {o : List Bool} (ho : o.length = n) (hr : W'.heap[bs q]? = some (.cells (boolsV o).toArray 4 (0, 0))) (hs : ∀ k, k < W.heap.size → k ≠ bs q → W'.heap[k]? = W.heap[k]?) (hb : Below U.heap.size U W') : StM U W' ob n i bs (M.set q o) := by
 obtain ⟨cs, h1, h2⟩ := h.out
 have hl := h.len
 refine ⟨⟨cs, (hs ob (blk_lt h1) (fun e => h.apart hq e.symm)).trans h1, h2⟩, fun j hj => ?_, h.inj, h.lo, h.olo, by rw [List.length_set]; exact hl, fun j hj => ?_, hb⟩
 ·rw [getD_set (by omega)]
  by_cases c : j = q
  ·rw [if_pos c, c]; exact hr
  rw [if_neg c]
  exact (hs _ (blk_lt (h.row j hj)) (fun e => c (h.inj j q hj hq e))).trans (h.row j hj)
 rw [getD_set (by omega)]
 by_cases c : j = q
 ·rw [if_pos c]; exact ho
 rw [if_neg c]; exact h.wid j hj
theorem StM.push {U W : World} {ob n i : Nat} {bs : Nat → Nat} {M : List (List Bool)} (h : StM U W ob n i bs M) (hi : i < n) :
 StM U ((W.alloc (Obj.cells (Array.replicate n (.bool false)) 4)).setCell ⟨ob, i, none⟩ (.slice (some ⟨W.heap.size, 0, none⟩) n n)) ob n (i + 1) (fun j => if j = i then W.heap.size else bs j) (M ++ [List.replicate n false]) := by
 obtain ⟨cs, h1, h2, h3, h4⟩ := h.out
 have hl := h.len
 have hob := blk_lt h1
 have hbl := h.bel.size
 have h1' := blk_alloc h1 (Obj.cells (Array.replicate n (.bool false)) 4)
 have g : ∀ k, k ≠ ob → ((W.alloc (Obj.cells (Array.replicate n (.bool false)) 4)).setCell ⟨ob, i, none⟩ (.slice (some ⟨W.heap.size, 0, none⟩) n n)).heap[k]? = (W.alloc (Obj.cells (Array.replicate n (.bool false)) 4)).heap[k]? := fun k hk => Below.heap_setCell _ _ _ _ hk
 refine ⟨⟨cs.setIfInBounds i (.slice (some ⟨W.heap.size, 0, none⟩) n n), blk_put h1' i _ rfl, by simpa using h2, fun j hj => ?_, fun j hj hn => ?_⟩, fun j hj => ?_, fun j k hj hk e => ?_, fun j hj => ?_, h.olo, by simp [hl], fun j hj => ?_, (below_alloc h.bel _).setCell h.olo _⟩
 ·simp only [Array.getElem?_setIfInBounds]
  by_cases c : i = j
  ·subst c; simp [h2, hi]
  rw [if_neg c]
  simp only [if_neg (fun e : j = i => c e.symm)]
  exact h3 j (by omega)
 ·simp only [Array.getElem?_setIfInBounds]
  rw [if_neg (by omega)]
  exact h4 j (by omega) hn
 ·by_cases c : j = i
  ·subst c
   simp only [if_true]
   rw [g _ (by omega), blk_new]
   simp [boolsV, List.getD_eq_getElem?_getD, hl]
  simp only [if_neg c]
  rw [g _ (h.apart (by omega))]
  have := blk_alloc (h.row j (by omega)) (Obj.cells (Array.replicate n (.bool false)) 4)
  rw [this]
  simp [List.getD_eq_getElem?_getD, List.getElem?_append_left (show j < M.length by omega)]
 ·have hb : ∀ q, q < i → bs q < W.heap.size := fun q hq => blk_lt (h.row q hq)
  by_cases c1 : j = i
  ·by_cases c2 : k = i
   ·omega
   simp only [if_pos c1, if_neg c2] at e
   have := hb k (by omega)
   omega
  by_cases c2 : k = i
  ·simp only [if_neg c1, if_pos c2] at e
   have := hb j (by omega)
   omega
  simp only [if_neg c1, if_neg c2] at e
  exact h.inj j k (by omega) (by omega) e
 ·by_cases c : j = i
  ·simp only [if_pos c]; exact hbl
  simp only [if_neg c]; exact h.lo j (by omega)
 by_cases c : j = i
 ·subst c
  simp [List.getD_eq_getElem?_getD, hl]
 have := h.wid j (by omega)
 rw [List.getD_eq_getElem?_getD] at this ⊢
 rw [List.getElem?_append_left (by omega)]
 exact this
def rowsN (n : Nat) (E : Nat → List Nat) (i : Nat) : List (List Bool) := (List.range i).map fun j => setAll (List.replicate n false) (E j)
theorem rowsN_len (n : Nat) (E : Nat → List Nat) (i : Nat) : (rowsN n E i).length = i := by simp [rowsN]
theorem rowsN_succ (n : Nat) (E : Nat → List Nat) (i : Nat) : (rowsN n E i ++ [List.replicate n false]).set i (setAll (List.replicate n false) (E i)) = rowsN n E (i + 1) := by
 rw [List.set_append_right _ _ (by rw [rowsN_len]; exact Nat.le_refl _), rowsN_len, Nat.sub_self]
 simp [rowsN, List.range_succ]
theorem StM.start {U : World} {n : Nat} : StM U (U.alloc (Obj.cells (Array.replicate n (.slice none 0 0)) 55)) U.heap.size n 0 (fun _ => 0) [] :=
 ⟨⟨Array.replicate n (.slice none 0 0), blk_new _ _, Array.size_replicate, fun j hj => absurd hj (Nat.not_lt_zero _), fun j _ hj => by simp [hj]⟩, fun j hj => absurd hj (Nat.not_lt_zero _), fun j k hj => absurd hj (Nat.not_lt_zero _), fun j hj => absurd hj (Nat.not_lt_zero _), Nat.le_refl _, rfl, fun j hj => absurd hj (Nat.not_lt_zero _), below_alloc (Below.refl _ _) _⟩
theorem StM.push' {U W : World} {ob n i : Nat} {bs : Nat → Nat} {M : List (List Bool)} (h : StM U W ob n i bs M) (hi : i < n) :
 StM U ((W.setCell ⟨ob, i, none⟩ (.slice (some ⟨W.heap.size, 0, none⟩) n n)).alloc (Obj.cells (Array.replicate n (.bool false)) 4)) ob n (i + 1) (fun j => if j = i then W.heap.size else bs j) (M ++ [List.replicate n false]) := by
 have hp := h.push hi
 obtain ⟨cs, h1, _⟩ := h.out
 rw [World.setCell_alloc_past _ _ _ _ (blk_lt h1)] at hp
 exact hp
end Go.Proofs.Ytdiilocgjnlmiaa.Tre
end
section
namespace Go.Proofs.Ytdiilocgjnlmiaa.Tre
open Go.RowKit Go.Proofs.YtdiilocgjnlmiaaW.PrintWords Go.Proofs.YtdiilocgjnlmiaaW.PrintLast Go.Proofs.YtdiilocgjnlmiaaW.PrintMore
open Go.Proofs.Ytdiilocgjnlmiaa.PAll
set_option linter.unusedVariables false
set_option linter.unusedSimpArgs false
theorem bl_ext {a b : List Bool} (h : a.length = b.length) (hk : ∀ k, k < a.length → mkd a k = mkd b k) : a = b := by
 apply List.ext_getElem h
 intro k h1 h2
 have := hk k h1
 simpa [mkd, List.getD_eq_getElem?_getD, List.getElem?_eq_getElem h1, List.getElem?_eq_getElem h2] using this
def pr (row rk : List Bool) (j : Nat) : List Bool := (orL row rk).take j ++ row.drop j
theorem pr_zero (row rk : List Bool) : pr row rk 0 = row := by simp [pr]
theorem pr_len {row rk : List Bool} (h : row.length = rk.length) (j : Nat) : (pr row rk j).length = row.length := by
 simp only [pr, List.length_append, List.length_take, List.length_drop, orL_len h]
 omega
theorem pr_self (l : List Bool) (j : Nat) : pr l l j = l := by rw [pr, orL_self, List.take_append_drop]
theorem pr_end {row rk : List Bool} (h : row.length = rk.length) : pr row rk row.length = orL row rk := by
 rw [pr, List.drop_length, List.append_nil, List.take_of_length_le (by rw [orL_len h]; exact Nat.le_refl _)]
theorem mkd_pr {row rk : List Bool} (h : row.length = rk.length) (j k : Nat) : mkd (pr row rk j) k = if k < j then (mkd row k || mkd rk k) else mkd row k := by
 by_cases hj : j ≤ row.length
 ·have hl : ((orL row rk).take j).length = j := by rw [List.length_take, orL_len h]; omega
  by_cases c : k < j
  ·rw [if_pos c, ← mkd_orL h]
   simp only [mkd, pr, List.getD_eq_getElem?_getD]
   rw [List.getElem?_append_left (by omega), List.getElem?_take_of_lt c]
  rw [if_neg c]
  simp only [mkd, pr, List.getD_eq_getElem?_getD]
  rw [List.getElem?_append_right (by omega), hl, List.getElem?_drop, Nat.add_sub_cancel' (by omega)]
 have e : pr row rk j = orL row rk := by
  rw [pr, List.drop_of_length_le (by omega), List.append_nil, List.take_of_length_le (by rw [orL_len h]; omega)]
 rw [e, mkd_orL h]
 split
 ·rfl
 have h1 : mkd row k = false := by simp only [mkd, List.getD_eq_getElem?_getD]; rw [List.getElem?_eq_none (by omega)]; rfl
 have h2 : mkd rk k = false := by simp only [mkd, List.getD_eq_getElem?_getD]; rw [List.getElem?_eq_none (by omega)]; rfl
 rw [h1, h2]; rfl
theorem pr_true {row rk : List Bool} (h : row.length = rk.length) {j : Nat} (hj : j < row.length) (hb : mkd rk j = true) : (pr row rk j).set j true = pr row rk (j + 1) := by
 apply bl_ext
 ·rw [List.length_set, pr_len h, pr_len h]
 intro k hk
 rw [mkd_put (by rw [pr_len h]; exact hj), mkd_pr h, mkd_pr h]
 by_cases c : k = j
 ·subst c
  rw [if_pos rfl, if_pos (by omega), hb, Bool.or_true]
 rw [if_neg c]
 by_cases d : k < j
 ·rw [if_pos d, if_pos (by omega)]
 rw [if_neg d, if_neg (by omega)]
theorem pr_false {row rk : List Bool} (h : row.length = rk.length) {j : Nat} (hb : mkd rk j = false) : pr row rk j = pr row rk (j + 1) := by
 apply bl_ext
 ·rw [pr_len h, pr_len h]
 intro k hk
 rw [mkd_pr h, mkd_pr h]
 by_cases c : k = j
 ·subst c
  rw [if_neg (by omega), if_pos (by omega), hb, Bool.or_false]
 by_cases d : k < j
 ·rw [if_pos d, if_pos (by omega)]
 rw [if_neg d, if_neg (by omega)]
def mi (M : List (List Bool)) (k i : Nat) : List (List Bool) := (fwK M k).take i ++ M.drop i
theorem fwK_len (M : List (List Bool)) (k : Nat) : (fwK M k).length = M.length := by simp [fwK]
theorem mi_zero (M : List (List Bool)) (k : Nat) : mi M k 0 = M := by simp [mi]
theorem mi_len (M : List (List Bool)) (k i : Nat) : (mi M k i).length = M.length := by
 simp only [mi, List.length_append, List.length_take, List.length_drop, fwK_len]
 omega
theorem mi_end {M : List (List Bool)} {n : Nat} (h : M.length = n) (k : Nat) : mi M k n = fwK M k := by
 rw [mi, List.drop_of_length_le (by omega), List.append_nil, List.take_of_length_le (by rw [fwK_len]; omega)]
theorem mi_at {M : List (List Bool)} {i : Nat} (hi : i ≤ M.length) (k q : Nat) : (mi M k i).getD q [] = if q < i then (fwK M k).getD q [] else M.getD q [] := by
 have hl : ((fwK M k).take i).length = i := by rw [List.length_take, fwK_len]; omega
 simp only [mi, List.getD_eq_getElem?_getD]
 by_cases c : q < i
 ·rw [if_pos c, List.getElem?_append_left (by omega), List.getElem?_take_of_lt c]
 rw [if_neg c, List.getElem?_append_right (by omega), hl, List.getElem?_drop, Nat.add_sub_cancel' (by omega)]
theorem mi_k {M : List (List Bool)} {n k i : Nat} (h : Mat n M) (hk : k < n) (hi : i ≤ n) : (mi M k i).getD k [] = M.getD k [] := by
 rw [mi_at (by rw [h.len]; exact hi)]
 split
 ·rw [fwK_at h hk, fwRow_self]
 rfl
theorem mi_i {M : List (List Bool)} {n k i : Nat} (h : Mat n M) (hi : i ≤ n) : (mi M k i).getD i [] = M.getD i [] := by
 rw [mi_at (by rw [h.len]; exact hi), if_neg (by omega)]
theorem rows_ext {a b : List (List Bool)} (h : a.length = b.length) (hk : ∀ k, k < a.length → a.getD k [] = b.getD k []) : a = b := by
 apply List.ext_getElem h
 intro k h1 h2
 have := hk k h1
 simpa [List.getD_eq_getElem?_getD, List.getElem?_eq_getElem h1, List.getElem?_eq_getElem h2] using this
theorem mi_next {M : List (List Bool)} {n k i : Nat} (h : Mat n M) (hi : i < n) : (mi M k i).set i (fwRow (M.getD i []) (M.getD k []) k) = mi M k (i + 1) := by
 have hl := h.len
 apply rows_ext
 ·rw [List.length_set, mi_len, mi_len]
 intro q hq
 rw [List.length_set, mi_len] at hq
 rw [getD_set (by rw [mi_len]; omega), mi_at (by omega), mi_at (by omega)]
 by_cases c : q = i
 ·subst c
  rw [if_pos rfl, if_pos (by omega), fwK_at h hi]
 rw [if_neg c]
 by_cases d : q < i
 ·rw [if_pos d, if_pos (by omega)]
 rw [if_neg d, if_neg (by omega)]
theorem set_k {M : List (List Bool)} {n k i : Nat} (h : Mat n M) (hk : k < n) (hi : i < n) (j : Nat) : ((mi M k i).set i (pr (M.getD i []) (M.getD k []) j)).getD k [] = M.getD k [] := by
 rw [getD_set (by rw [mi_len, h.len]; exact hi)]
 split
 ·rename_i c
  subst c
  exact pr_self _ _
 exact mi_k h hk (by omega)
theorem set_i {M : List (List Bool)} {n k i : Nat} (h : Mat n M) (hi : i < n) (o : List Bool) : ((mi M k i).set i o).getD i [] = o := by
 rw [getD_set (by rw [mi_len, h.len]; exact hi), if_pos rfl]
theorem set_self {M : List (List Bool)} {n k i : Nat} (h : Mat n M) (hi : i < n) : (mi M k i).set i (M.getD i []) = mi M k i := by
 have hl := h.len
 apply rows_ext
 ·rw [List.length_set]
 intro q hq
 rw [getD_set (by rw [mi_len]; omega)]
 split
 ·rename_i c
  subst c
  exact (mi_i h (by omega)).symm
 rfl
end Go.Proofs.Ytdiilocgjnlmiaa.Tre
end
section
namespace Go.Proofs.Ytdiilocgjnlmiaa.Tre
open Go.RowKit Go.Proofs.YtdiilocgjnlmiaaW.PrintWords Go.Proofs.YtdiilocgjnlmiaaW.PrintLast Go.Proofs.YtdiilocgjnlmiaaW.PrintMore
open Go.Proofs.Ytdiilocgjnlmiaa.PAll
set_option linter.unusedVariables false
set_option linter.unusedSimpArgs false
structure LP where
 gb : Nat
 sb : Nat
 mb : Nat
 sr : Nat
 sn : Nat
 fb : Nat
 wb : Nat
 n : Nat
 R : Nat
 st : Nat
 gA : Option Addr
 gn : Nat
 gc : Nat
 mA : Option Addr
 mn : Nat
 mc : Nat
structure LrW (U W : World) (p : LP) (s : Bool × List Bool) : Prop where
 gbx : W.heap[p.gb]? = some (.cells #[.slice p.gA p.gn p.gc, .int .i64 (p.R : Int)] 116 (0, 0))
 sbx : W.heap[p.sb]? = some (.cells #[.int .i64 (p.st : Int)] 125 (0, 0))
 mbx : W.heap[p.mb]? = some (.cells #[.slice p.mA p.mn p.mc] 55 (0, 0))
 srx : W.heap[p.sr]? = some (.cells (boolsV s.2).toArray 4 (0, 0))
 snx : W.heap[p.sn]? = some (.cells #[.slice (some ⟨p.sr, 0, none⟩) p.n p.n] 55 (0, 0))
 fbx : W.heap[p.fb]? = some (.cells #[.bool s.1] 4 (0, 0))
 wbx : W.heap[p.wb]? = some (.cells #[(Value.func (Fn.func 130) #[] #[.pointer (some ⟨p.gb, 0, none⟩), .pointer (some ⟨p.mb, 0, none⟩), .pointer (some ⟨p.fb, 0, none⟩), .pointer (some ⟨p.sb, 0, none⟩), .pointer (some ⟨p.sn, 0, none⟩), .pointer (some ⟨p.wb, 0, none⟩)])] 186 (0, 0))
 len : s.2.length = p.n
 ne : p.sr ≠ p.fb
 lo : U.heap.size ≤ p.sr ∧ U.heap.size ≤ p.fb
 bel : Below U.heap.size U W
theorem LrW.below {U W W' : World} {p : LP} {s : Bool × List Bool} (h : LrW U W p s) (hb : Below W.heap.size W W') : LrW U W' p s :=
 ⟨blk_below h.gbx hb, blk_below h.sbx hb, blk_below h.mbx hb, blk_below h.srx hb, blk_below h.snx hb, blk_below h.fbx hb, blk_below h.wbx hb, h.len, h.ne, h.lo, below_then h.bel h.bel.size hb⟩
def KeepB (w w' : World) : Prop := ∀ (b : Nat) (t : TypeId) (cs : Array Value), 4 ≠ t → w.heap[b]? = some (.cells cs t (0, 0)) → w'.heap[b]? = some (.cells cs t (0, 0))
theorem KeepB.trans {a b c : World} (h : KeepB a b) (k : KeepB b c) : KeepB a c := fun x t cs h1 hx => k x t cs h1 (h x t cs h1 hx)
theorem keepB_below {w w' : World} (hb : Below w.heap.size w w') : KeepB w w' := fun x t cs _ hx => blk_below hx hb
def VPost (U w : World) (p : LP) (s : Bool × List Bool) (e : Ending) (w' : World) : Prop := e = .returned (.tuple #[]) ∧ LrW U w' p s ∧ w.heap.size ≤ w'.heap.size ∧ KeepB w w'
theorem LrW.same {U w W : World} {p : LP} {s : Bool × List Bool} (h : LrW U w p s) (hb : Below w.heap.size w W) : VPost U w p s (.returned (.tuple #[])) W := ⟨rfl, h.below hb, hb.size, keepB_below hb⟩
theorem VPost.join {U w W1 W2 : World} {p : LP} {s s' : Bool × List Bool} {e e' : Ending} (h : VPost U w p s e W1) (k : VPost U W1 p s' e' W2) : VPost U w p s' e' W2 := ⟨k.1, k.2.1, Nat.le_trans h.2.2.1 k.2.2.1, h.2.2.2.trans k.2.2.2⟩
def VF (p : LP) : Value := Value.func (Fn.func 132) #[] #[.pointer (some ⟨p.fb, 0, none⟩), .pointer (some ⟨p.sb, 0, none⟩), .pointer (some ⟨p.sn, 0, none⟩), .pointer (some ⟨p.wb, 0, none⟩)]
def VisC (U : World) (p : LP) (E : Nat → List Nat) (k : Nat) : Prop := ∀ (s : Bool × List Bool) (q : Nat) (w : World), q < p.n → uns s.2 ≤ k → LrW U w p s →
 Calls Try.prog 132 #[.int .i64 (q : Int), .pointer (some ⟨p.fb, 0, none⟩), .pointer (some ⟨p.sb, 0, none⟩), .pointer (some ⟨p.sn, 0, none⟩), .pointer (some ⟨p.wb, 0, none⟩)] w (VPost U w p (dfs E p.st k s q))
set_option maxRecDepth 100000 in
set_option maxHeartbeats 8000000 in
theorem begins_in (U : World) (p : LP) (R L : Nat) (m : List Bool) (Am : Option Addr) (cm k : Nat) (E : Nat → List Nat) (hn : Aside0 (p.n = R + L)) (hR : R ≤ 100) (hL : L ≤ 100) (hml : Aside0 (m.length = R + L)) (HE : Aside0 (∀ a, a < p.n → ∀ b ∈ E a, b < p.n)) (HM : Aside0 (MkV U Am cm m)) (HV : Aside0 (VisC U p E k)) (gA : Option Addr) (gn gc : Nat) :
 ∀ (t : Tr) (s : Bool × List Bool) (w : World) (v : Value), TrV U t v → okT R L t → uns s.2 ≤ k → LrW U w p s →
 Calls Try.prog 131 #[.agg #[.slice gA gn gc, .int .i64 (R : Int)], v, .slice Am m.length cm, VF p] w (VPost U w p ((begT R m t).foldl (dfs E p.st k) s)) := by
 intro t
 induction t with
 | emp =>
  intro s w v hv hok hu hL
  obtain rfl := hv
  have HL := Aside0.mk hL
  clear hok hu hL
  have a1 := ta_ref; have a2 := ta_thr; have a3 := ta_seq; have a4 := ta_alt; have a5 := ta_star; have a6 := ta_neg
  go_enter Try.func131, Try.ntmps131
  go_wp2_with fail
  go_end0
  exact HL.out.same (below_alloc (Below.refl _ _) _)
 | set x =>
  intro s w v hv hok hu hL
  obtain ⟨A, c, rfl, _⟩ := hv
  have HL := Aside0.mk hL
  clear hok hu hL
  have a1 := ta_ref; have a2 := ta_thr; have a3 := ta_seq; have a4 := ta_alt; have a5 := ta_star; have a6 := ta_neg
  go_enter Try.func131, Try.ntmps131
  go_wp2_with fail
  go_end0
  exact HL.out.same (below_alloc (Below.refl _ _) _)
 | ref k0 =>
  intro s w v hv hok hu hL
  obtain rfl := hv
  obtain ⟨k1, rfl⟩ : ∃ q : Nat, k0 = (q : Int) := ⟨k0.toNat, (Int.toNat_of_nonneg hok.1).symm⟩
  have hk : k1 < p.n := by have := hok.2; have := hn.out; omega
  have HL := Aside0.mk hL
  have HK := Aside0.mk hk
  have HU := Aside0.mk hu
  have hb1 : Below w.heap.size w ((w.alloc (Obj.cells #[.slice gA gn gc, .int .i64 (R : Int)] 116)).alloc (Obj.cells #[.int .i64 (k1 : Int)] 202)) := below_alloc (below_alloc (Below.refl _ _) _) _
  have HB1 := Aside0.mk hb1
  clear hok hu hL hk hb1
  have a1 := ta_ref; have a2 := ta_thr; have a3 := ta_seq; have a4 := ta_alt; have a5 := ta_star; have a6 := ta_neg
  unfold VF
  go_enter Try.func131, Try.ntmps131
  go_wp2_with (first
   | (go_at_call 132; refine (HV.out s k1 _ HK.out HU.out (HL.out.below HB1.out)).mono ?_; go_must (rintro e W2 hp; have HP := Aside0.mk hp; obtain rfl := hp.1; clear hp)))
  go_end0
  exact (HL.out.same HB1.out).join HP.out
 | thr k0 =>
  intro s w v hv hok hu hL
  obtain rfl := hv
  obtain ⟨k1, rfl⟩ : ∃ q : Nat, k0 = (q : Int) := ⟨k0.toNat, (Int.toNat_of_nonneg hok.1).symm⟩
  have hk : R + k1 < p.n := by have := hok.2; have := hn.out; omega
  have hk2 := hok.2
  have HL := Aside0.mk hL
  have HK := Aside0.mk hk
  have HU := Aside0.mk hu
  have HEW := Aside0.mk (wid (x := (R : Int) + (k1 : Int)) (by omega) (by omega))
  have HEC : Aside0 ((R : Int) + (k1 : Int) = ((R + k1 : Nat) : Int)) := ⟨by omega⟩
  have hb1 : Below w.heap.size w ((w.alloc (Obj.cells #[.slice gA gn gc, .int .i64 (R : Int)] 116)).alloc (Obj.cells #[.int .i64 (k1 : Int)] 204)) := below_alloc (below_alloc (Below.refl _ _) _) _
  have HB1 := Aside0.mk hb1
  clear hok hu hL hk hk2 hb1
  have a1 := ta_ref; have a2 := ta_thr; have a3 := ta_seq; have a4 := ta_alt; have a5 := ta_star; have a6 := ta_neg
  unfold VF
  go_enter Try.func131, Try.ntmps131
  go_wp2_with (first
   | (go_at_call 132; (try rw [i64_w]); rw [HEW.out]; rw [HEC.out]; refine (HV.out s (R + k1) _ HK.out HU.out (HL.out.below HB1.out)).mono ?_; go_must (rintro e W2 hp; have HP := Aside0.mk hp; obtain rfl := hp.1; clear hp)))
  go_end0
  exact (HL.out.same HB1.out).join HP.out
 | star x ih =>
  intro s w v hv hok hu hL
  obtain ⟨a, rfl, hx⟩ := hv
  obtain ⟨Ta, ua, rfl⟩ := hx.iface
  have HL := Aside0.mk hL
  have HX := Aside0.mk hx
  have HO := Aside0.mk hok
  have HU := Aside0.mk hu
  have hb1 : Below w.heap.size w ((w.alloc (Obj.cells #[.slice gA gn gc, .int .i64 (R : Int)] 116)).alloc (Obj.cells #[.iface Ta ua] 192)) := below_alloc (below_alloc (Below.refl _ _) _) _
  have HB1 := Aside0.mk hb1
  clear hok hu hL hx hb1
  have a1 := ta_ref; have a2 := ta_thr; have a3 := ta_seq; have a4 := ta_alt; have a5 := ta_star; have a6 := ta_neg
  go_enter Try.func131, Try.ntmps131
  go_wp2_with (first
   | (go_at_call 131; refine (ih s _ _ HX.out HO.out HU.out (HL.out.below HB1.out)).mono ?_; go_must (rintro e W2 hp; have HP := Aside0.mk hp; obtain rfl := hp.1; clear hp)))
  go_end0
  exact (HL.out.same HB1.out).join HP.out
 | neg x ih =>
  intro s w v hv hok hu hL
  obtain ⟨a, rfl, hx⟩ := hv
  obtain ⟨Ta, ua, rfl⟩ := hx.iface
  have HL := Aside0.mk hL
  have HX := Aside0.mk hx
  have HO := Aside0.mk hok
  have HU := Aside0.mk hu
  have hb1 : Below w.heap.size w ((w.alloc (Obj.cells #[.slice gA gn gc, .int .i64 (R : Int)] 116)).alloc (Obj.cells #[.iface Ta ua] 193)) := below_alloc (below_alloc (Below.refl _ _) _) _
  have HB1 := Aside0.mk hb1
  clear hok hu hL hx hb1
  have a1 := ta_ref; have a2 := ta_thr; have a3 := ta_seq; have a4 := ta_alt; have a5 := ta_star; have a6 := ta_neg
  go_enter Try.func131, Try.ntmps131
  go_wp2_with (first
   | (go_at_call 131; refine (ih s _ _ HX.out HO.out HU.out (HL.out.below HB1.out)).mono ?_; go_must (rintro e W2 hp; have HP := Aside0.mk hp; obtain rfl := hp.1; clear hp)))
  go_end0
  exact (HL.out.same HB1.out).join HP.out
 | seq l r ihl ihr =>
  intro s w v hv hok hu hL
  obtain ⟨a, b, rfl, hl, hr⟩ := hv
  obtain ⟨Ta, ua, rfl⟩ := hl.iface
  obtain ⟨Tb, ub, rfl⟩ := hr.iface
  have hE1 : ∀ x ∈ begT R m l, x < p.n := fun x hx => by rw [hn.out]; exact begT_lt l hok.1 x hx
  have HF := Aside0.mk (dfs_fold (st := p.st) (dfs_ok HE.out k) (begT R m l) s hE1 hL.len hu)
  have HL := Aside0.mk hL
  have HXL := Aside0.mk hl
  have HXR := Aside0.mk hr
  have HO := Aside0.mk hok
  have HU := Aside0.mk hu
  have hb1 : Below w.heap.size w ((w.alloc (Obj.cells #[.slice gA gn gc, .int .i64 (R : Int)] 116)).alloc (Obj.cells #[.iface Ta ua, .iface Tb ub] 189)) := below_alloc (below_alloc (Below.refl _ _) _) _
  have hg := blk_alloc (blk_new w (Obj.cells #[.slice gA gn gc, .int .i64 (R : Int)] 116)) (Obj.cells #[.iface Ta ua, .iface Tb ub] 189)
  have hx := blk_new (w.alloc (Obj.cells #[.slice gA gn gc, .int .i64 (R : Int)] 116)) (Obj.cells #[.iface Ta ua, .iface Tb ub] 189)
  rw [World.size_alloc] at hx
  have HG := Aside0.mk hg
  have HX := Aside0.mk hx
  have HB1 := Aside0.mk hb1
  clear hok hu hL hl hr hb1 hE1 hg hx
  have a1 := ta_ref; have a2 := ta_thr; have a3 := ta_seq; have a4 := ta_alt; have a5 := ta_star; have a6 := ta_neg
  cases hnl : nullT R m l with
  | false =>
   have HN := Lib.hid hnl
   have HQ : Aside0 (begT R m (.seq l r) = begT R m l) := ⟨by simp [begT, hnl]⟩
   clear hnl
   go_enter Try.func131, Try.ntmps131
   go_wp2_with (first
    | (go_at_call 127; refine (nullT_in R L m Am cm hml hR hL gA gn gc l W2 _ (TrV.below HL2.out.bel HXL.out) HO.out.1 (HM.out.below HL2.out.bel)).mono ?_; go_must (rintro e W3 ⟨rfl, hb3⟩; rw [HN.out]; have HB3 := Aside0.mk hb3; have u0 := blk_cell (blk_below HG2.out hb3) 0; have u1 := blk_cell (blk_below HG2.out hb3) 1; have t0 := blk_cell (blk_below HX2.out hb3) 0; have t1 := blk_cell (blk_below HX2.out hb3) 1; clear hb3))
    | (go_at_call 131; refine (ihl s _ _ HXL.out HO.out.1 HU.out (HL.out.below HB1.out)).mono ?_; go_must (rintro e W2 hp; have HP := Aside0.mk hp; obtain ⟨rfl, hL2, hs2, hk2⟩ := hp; have hg2 := hk2 _ _ _ (by decide) HG.out; have hx2 := hk2 _ _ _ (by decide) HX.out; have y0 := blk_cell hg2 0; have y1 := blk_cell hg2 1; have y2 := blk_lt hg2; have z0 := blk_cell hx2 0; have z1 := blk_cell hx2 1; have z2 := blk_lt hx2; have HL2 := Aside0.mk hL2; have HG2 := Aside0.mk hg2; have HX2 := Aside0.mk hx2; clear hL2 hs2 hk2 hg2 hx2)))
   go_end0
   rw [HQ.out]
   exact ((HL.out.same HB1.out).join HP.out).join (HL2.out.same HB3.out)
  | true =>
   have HN := Lib.hid hnl
   have HQ : Aside0 (begT R m (.seq l r) = begT R m l ++ begT R m r) := ⟨by simp [begT, hnl]⟩
   clear hnl
   go_enter Try.func131, Try.ntmps131
   go_wp2_with (first
    | (go_at_call 131; refine (ihr _ _ _ HXR.out HO.out.2 (Nat.le_trans HF.out.un HU.out) (HL2.out.below HB3.out)).mono ?_; go_must (rintro e W4 hp; have HP4 := Aside0.mk hp; obtain rfl := hp.1; clear hp))
    | (go_at_call 127; refine (nullT_in R L m Am cm hml hR hL gA gn gc l W2 _ (TrV.below HL2.out.bel HXL.out) HO.out.1 (HM.out.below HL2.out.bel)).mono ?_; go_must (rintro e W3 ⟨rfl, hb3⟩; rw [HN.out]; have HB3 := Aside0.mk hb3; have u0 := blk_cell (blk_below HG2.out hb3) 0; have u1 := blk_cell (blk_below HG2.out hb3) 1; have t0 := blk_cell (blk_below HX2.out hb3) 0; have t1 := blk_cell (blk_below HX2.out hb3) 1; clear hb3))
    | (go_at_call 131; refine (ihl s _ _ HXL.out HO.out.1 HU.out (HL.out.below HB1.out)).mono ?_; go_must (rintro e W2 hp; have HP := Aside0.mk hp; obtain ⟨rfl, hL2, hs2, hk2⟩ := hp; have hg2 := hk2 _ _ _ (by decide) HG.out; have hx2 := hk2 _ _ _ (by decide) HX.out; have y0 := blk_cell hg2 0; have y1 := blk_cell hg2 1; have y2 := blk_lt hg2; have z0 := blk_cell hx2 0; have z1 := blk_cell hx2 1; have z2 := blk_lt hx2; have HL2 := Aside0.mk hL2; have HG2 := Aside0.mk hg2; have HX2 := Aside0.mk hx2; clear hL2 hs2 hk2 hg2 hx2)))
   go_end0
   have h3 := (((HL.out.same HB1.out).join HP.out).join (HL2.out.same HB3.out)).join HP4.out
   rw [HQ.out, List.foldl_append]
   exact h3
 | alt l r ihl ihr =>
  intro s w v hv hok hu hL
  obtain ⟨a, b, rfl, hl, hr⟩ := hv
  obtain ⟨Ta, ua, rfl⟩ := hl.iface
  obtain ⟨Tb, ub, rfl⟩ := hr.iface
  have hE1 : ∀ x ∈ begT R m l, x < p.n := fun x hx => by rw [hn.out]; exact begT_lt l hok.1 x hx
  have HF := Aside0.mk (dfs_fold (st := p.st) (dfs_ok HE.out k) (begT R m l) s hE1 hL.len hu)
  have HL := Aside0.mk hL
  have HXL := Aside0.mk hl
  have HXR := Aside0.mk hr
  have HO := Aside0.mk hok
  have HU := Aside0.mk hu
  have hb1 : Below w.heap.size w ((w.alloc (Obj.cells #[.slice gA gn gc, .int .i64 (R : Int)] 116)).alloc (Obj.cells #[.iface Ta ua, .iface Tb ub] 190)) := below_alloc (below_alloc (Below.refl _ _) _) _
  have hg := blk_alloc (blk_new w (Obj.cells #[.slice gA gn gc, .int .i64 (R : Int)] 116)) (Obj.cells #[.iface Ta ua, .iface Tb ub] 190)
  have hx := blk_new (w.alloc (Obj.cells #[.slice gA gn gc, .int .i64 (R : Int)] 116)) (Obj.cells #[.iface Ta ua, .iface Tb ub] 190)
  rw [World.size_alloc] at hx
  have HG := Aside0.mk hg
  have HX := Aside0.mk hx
  have HB1 := Aside0.mk hb1
  clear hok hu hL hl hr hb1 hE1 hg hx
  have a1 := ta_ref; have a2 := ta_thr; have a3 := ta_seq; have a4 := ta_alt; have a5 := ta_star; have a6 := ta_neg
  go_enter Try.func131, Try.ntmps131
  go_wp2_with (first
   | (go_at_call 131; refine (ihr _ _ _ HXR.out HO.out.2 (Nat.le_trans HF.out.un HU.out) HL2.out).mono ?_; go_must (rintro e W3 hp; have HP3 := Aside0.mk hp; obtain rfl := hp.1; clear hp))
   | (go_at_call 131; refine (ihl s _ _ HXL.out HO.out.1 HU.out (HL.out.below HB1.out)).mono ?_; go_must (rintro e W2 hp; have HP := Aside0.mk hp; obtain ⟨rfl, hL2, hs2, hk2⟩ := hp; have hg2 := hk2 _ _ _ (by decide) HG.out; have hx2 := hk2 _ _ _ (by decide) HX.out; have y0 := blk_cell hg2 0; have y1 := blk_cell hg2 1; have y2 := blk_lt hg2; have z0 := blk_cell hx2 0; have z1 := blk_cell hx2 1; have z2 := blk_lt hx2; have HL2 := Aside0.mk hL2; have HG2 := Aside0.mk hg2; have HX2 := Aside0.mk hx2; clear hL2 hs2 hk2 hg2 hx2)))
  go_end0
  have h3 := ((HL.out.same HB1.out).join HP.out).join HP3.out
  rw [← List.foldl_append] at h3
  exact h3
end Go.Proofs.Ytdiilocgjnlmiaa.Tre
end
section
namespace Go.Proofs.Ytdiilocgjnlmiaa.Tre
open Go.RowKit Go.Proofs.YtdiilocgjnlmiaaW.PrintWords Go.Proofs.YtdiilocgjnlmiaaW.PrintLast Go.Proofs.YtdiilocgjnlmiaaW.PrintMore
open Go.Proofs.Ytdiilocgjnlmiaa.PAll
set_option linter.unusedVariables false
set_option linter.unusedSimpArgs false
theorem LrW.found {U w : World} {p : LP} {s : Bool × List Bool} (h : LrW U w p s) (b : Bool) : VPost U w p (b, s.2) (.returned (.tuple #[])) (w.setCell ⟨p.fb, 0, none⟩ (.bool b)) := by
 have g : ∀ k, k ≠ p.fb → (w.setCell ⟨p.fb, 0, none⟩ (.bool b)).heap[k]? = w.heap[k]? := fun k hk => Below.heap_setCell _ _ _ _ hk
 have hr : ∀ {k : Nat} {cs : Array Value} {t : TypeId}, w.heap[k]? = some (.cells cs t (0, 0)) → t ≠ 4 → k ≠ p.fb := fun hk ht => blk_ne hk h.fbx ht
 exact ⟨rfl, ⟨(g _ (hr h.gbx (by decide))).trans h.gbx, (g _ (hr h.sbx (by decide))).trans h.sbx, (g _ (hr h.mbx (by decide))).trans h.mbx, (g _ h.ne).trans h.srx, (g _ (hr h.snx (by decide))).trans h.snx, blk_put h.fbx 0 (.bool b) rfl, (g _ (hr h.wbx (by decide))).trans h.wbx, h.len, h.ne, h.lo, h.bel.setCell h.lo.2 _⟩, by simp, fun k t cs ht hk => (g k (hr hk (fun e => ht e.symm))).trans hk⟩
theorem LrW.mark {U w : World} {p : LP} {s : Bool × List Bool} (h : LrW U w p s) {q : Nat} (hq : q < p.n) : VPost U w p (s.1, s.2.set q true) (.returned (.tuple #[])) (w.setCell ⟨p.sr, q, none⟩ (.bool true)) := by
 have g : ∀ k, k ≠ p.sr → (w.setCell ⟨p.sr, q, none⟩ (.bool true)).heap[k]? = w.heap[k]? := fun k hk => Below.heap_setCell _ _ _ _ hk
 have hr : ∀ {k : Nat} {cs : Array Value} {t : TypeId}, w.heap[k]? = some (.cells cs t (0, 0)) → t ≠ 4 → k ≠ p.sr := fun hk ht => blk_ne hk h.srx ht
 refine ⟨rfl, ⟨(g _ (hr h.gbx (by decide))).trans h.gbx, (g _ (hr h.sbx (by decide))).trans h.sbx, (g _ (hr h.mbx (by decide))).trans h.mbx, blk_put h.srx q (.bool true) ?_, (g _ (hr h.snx (by decide))).trans h.snx, (g _ (fun e => h.ne e.symm)).trans h.fbx, (g _ (hr h.wbx (by decide))).trans h.wbx, by simpa using h.len, h.ne, h.lo, h.bel.setCell h.lo.1 _⟩, by simp, fun k t cs ht hk => (g k (hr hk (fun e => ht e.symm))).trans hk⟩
 simp [boolsV]
def SeaC (U : World) (p : LP) (E : Nat → List Nat) (k : Nat) : Prop := ∀ (s : Bool × List Bool) (q : Nat) (w : World), q < p.n → uns s.2 ≤ k → LrW U w p s →
 Calls Try.prog 130 #[.int .i64 (q : Int), .pointer (some ⟨p.gb, 0, none⟩), .pointer (some ⟨p.mb, 0, none⟩), .pointer (some ⟨p.fb, 0, none⟩), .pointer (some ⟨p.sb, 0, none⟩), .pointer (some ⟨p.sn, 0, none⟩), .pointer (some ⟨p.wb, 0, none⟩)] w (VPost U w p ((E q).foldl (dfs E p.st k) s))
set_option maxRecDepth 100000 in
set_option maxHeartbeats 8000000 in
theorem visit_seen (U : World) (p : LP) (hn2 : p.n ≤ 200) (s : Bool × List Bool) (q : Nat) (w : World) (hq : q < p.n) (hm : mkd s.2 q = true) (hL : LrW U w p s) :
 Calls Try.prog 132 #[.int .i64 (q : Int), .pointer (some ⟨p.fb, 0, none⟩), .pointer (some ⟨p.sb, 0, none⟩), .pointer (some ⟨p.sn, 0, none⟩), .pointer (some ⟨p.wb, 0, none⟩)] w (VPost U w p (s.1 || q == p.st, s.2)) := by
 obtain ⟨f, l⟩ := s
 have hm1 : mkd l q = true := hm
 have hql : q < l.length := by rw [show l.length = p.n from hL.len]; exact hq
 have b0 := blk_cell hL.fbx 0
 have b1 := blk_cell hL.sbx 0
 have b2 := blk_frozen hL.fbx 0
 have b3 := blk_lt hL.fbx
 have e2 : (0 ≤ (q : Int)) = True := eq_true (by omega)
 have e3 : ((q : Int) < (p.n : Int)) = True := eq_true (by omega)
 cases f with
 | true =>
  have hb : (true || q == p.st) = true := by rfl
  show Calls _ _ _ _ (VPost U w p (true || q == p.st, l))
  rw [hb]
  have hF := hL.found true
  have c0 := blk_cell hF.2.1.snx 0
  have c1 := blk_cell hF.2.1.srx q
  rw [show (true, ((true, l) : Bool × List Bool).2).2 = l from rfl, boolsV_at hql, hm1] at c1
  have c2 := blk_lt hF.2.1.srx
  have HF := Aside0.mk hF
  clear hL hF hb hm1 hm hql hq
  go_enter Try.func132, Try.ntmps132
  go_upto_region 1 with fail
  generalize w.setCell ⟨p.fb, 0, none⟩ (.bool true) = W1 at *
  go_wp2_with fail
  go_end0
  have h9 := HF.out
  exact h9
 | false =>
  by_cases c : q = p.st
  ·have h1 : ((q : Int) == (p.st : Int)) = true := by rw [c]; simp
   have hb : (false || q == p.st) = true := by rw [c]; simp
   show Calls _ _ _ _ (VPost U w p (false || q == p.st, l))
   rw [hb]
   have hF := hL.found true
   have c0 := blk_cell hF.2.1.snx 0
   have c1 := blk_cell hF.2.1.srx q
   rw [show (true, ((false, l) : Bool × List Bool).2).2 = l from rfl, boolsV_at hql, hm1] at c1
   have c2 := blk_lt hF.2.1.srx
   have HF := Aside0.mk hF
   clear hL hF hb hm1 hm hql hq c
   go_enter Try.func132, Try.ntmps132
   go_upto_region 1 with fail
   generalize w.setCell ⟨p.fb, 0, none⟩ (.bool true) = W1 at *
   go_wp2_with fail
   go_end0
   have h9 := HF.out
   exact h9
  have h1 : ((q : Int) == (p.st : Int)) = false := by rw [beq_eq_false_iff_ne]; omega
  have hb : (false || q == p.st) = false := by simp [c]
  show Calls _ _ _ _ (VPost U w p (false || q == p.st, l))
  rw [hb]
  have hF := hL.found false
  have c0 := blk_cell hF.2.1.snx 0
  have c1 := blk_cell hF.2.1.srx q
  rw [show (false, ((false, l) : Bool × List Bool).2).2 = l from rfl, boolsV_at hql, hm1] at c1
  have c2 := blk_lt hF.2.1.srx
  have HF := Aside0.mk hF
  clear hL hF hb hm1 hm hql hq c
  go_enter Try.func132, Try.ntmps132
  go_upto_region 1 with fail
  generalize w.setCell ⟨p.fb, 0, none⟩ (.bool false) = W1 at *
  go_wp2_with fail
  go_end0
  have h9 := HF.out
  exact h9
set_option maxRecDepth 100000 in
set_option maxHeartbeats 8000000 in
theorem visit_new (U : World) (p : LP) (hn2 : p.n ≤ 200) (E : Nat → List Nat) (k : Nat) (HS : Aside0 (SeaC U p E k)) (s : Bool × List Bool) (q : Nat) (w : World) (hq : q < p.n) (hm : mkd s.2 q = false) (hu : uns s.2 ≤ k + 1) (hL : LrW U w p s) :
 Calls Try.prog 132 #[.int .i64 (q : Int), .pointer (some ⟨p.fb, 0, none⟩), .pointer (some ⟨p.sb, 0, none⟩), .pointer (some ⟨p.sn, 0, none⟩), .pointer (some ⟨p.wb, 0, none⟩)] w (VPost U w p ((E q).foldl (dfs E p.st k) (s.1 || q == p.st, s.2.set q true))) := by
 obtain ⟨f, l⟩ := s
 have hm1 : mkd l q = false := hm
 have hql : q < l.length := by rw [show l.length = p.n from hL.len]; exact hq
 have b0 := blk_cell hL.fbx 0
 have b1 := blk_cell hL.sbx 0
 have b2 := blk_frozen hL.fbx 0
 have b3 := blk_lt hL.fbx
 have e2 : (0 ≤ (q : Int)) = True := eq_true (by omega)
 have e3 : ((q : Int) < (p.n : Int)) = True := eq_true (by omega)
 cases f with
 | true =>
  have hb : (true || q == p.st) = true := by rfl
  show Calls _ _ _ _ (VPost U w p ((E q).foldl (dfs E p.st k) (true || q == p.st, l.set q true)))
  rw [hb]
  have hF := hL.found true
  have c0 := blk_cell hF.2.1.snx 0
  have c1 := blk_cell hF.2.1.srx q
  rw [show (true, ((true, l) : Bool × List Bool).2).2 = l from rfl, boolsV_at hql, hm1] at c1
  have c2 := blk_lt hF.2.1.srx
  have hK := hF.2.1.mark hq
  have k0 := blk_cell hK.2.1.wbx 0
  have c3 := blk_frozen hF.2.1.srx q
  have HK := Aside0.mk hK
  have HU : Aside0 (uns (l.set q true) ≤ k) := ⟨by have := uns_set l q hql hm1; have h0 : uns l ≤ k + 1 := hu; omega⟩
  have HQ := Aside0.mk hq
  have HF := Aside0.mk hF
  clear hL hF hb hm1 hm hql hK hu hq
  go_enter Try.func132, Try.ntmps132
  go_upto_region 1 with fail
  generalize w.setCell ⟨p.fb, 0, none⟩ (.bool true) = W1 at *
  go_upto_region 3 with fail
  generalize W1.setCell ⟨p.sr, q, none⟩ (.bool true) = W2 at *
  go_wp2_with (first
   | (go_at_call 130; refine (HS.out (true, l.set q true) q W2 HQ.out HU.out HK.out.2.1).mono ?_; go_must (rintro e W3 hp; have HP := Aside0.mk hp; obtain rfl := hp.1; clear hp)))
  go_end0
  have h9 := (HF.out.join HK.out).join HP.out
  exact h9
 | false =>
  by_cases c : q = p.st
  ·have h1 : ((q : Int) == (p.st : Int)) = true := by rw [c]; simp
   have hb : (false || q == p.st) = true := by rw [c]; simp
   show Calls _ _ _ _ (VPost U w p ((E q).foldl (dfs E p.st k) (false || q == p.st, l.set q true)))
   rw [hb]
   have hF := hL.found true
   have c0 := blk_cell hF.2.1.snx 0
   have c1 := blk_cell hF.2.1.srx q
   rw [show (true, ((false, l) : Bool × List Bool).2).2 = l from rfl, boolsV_at hql, hm1] at c1
   have c2 := blk_lt hF.2.1.srx
   have hK := hF.2.1.mark hq
   have k0 := blk_cell hK.2.1.wbx 0
   have c3 := blk_frozen hF.2.1.srx q
   have HK := Aside0.mk hK
   have HU : Aside0 (uns (l.set q true) ≤ k) := ⟨by have := uns_set l q hql hm1; have h0 : uns l ≤ k + 1 := hu; omega⟩
   have HQ := Aside0.mk hq
   have HF := Aside0.mk hF
   clear hL hF hb hm1 hm hql hK hu hq c
   go_enter Try.func132, Try.ntmps132
   go_upto_region 1 with fail
   generalize w.setCell ⟨p.fb, 0, none⟩ (.bool true) = W1 at *
   go_upto_region 3 with fail
   generalize W1.setCell ⟨p.sr, q, none⟩ (.bool true) = W2 at *
   go_wp2_with (first
    | (go_at_call 130; refine (HS.out (true, l.set q true) q W2 HQ.out HU.out HK.out.2.1).mono ?_; go_must (rintro e W3 hp; have HP := Aside0.mk hp; obtain rfl := hp.1; clear hp)))
   go_end0
   have h9 := (HF.out.join HK.out).join HP.out
   exact h9
  have h1 : ((q : Int) == (p.st : Int)) = false := by rw [beq_eq_false_iff_ne]; omega
  have hb : (false || q == p.st) = false := by simp [c]
  show Calls _ _ _ _ (VPost U w p ((E q).foldl (dfs E p.st k) (false || q == p.st, l.set q true)))
  rw [hb]
  have hF := hL.found false
  have c0 := blk_cell hF.2.1.snx 0
  have c1 := blk_cell hF.2.1.srx q
  rw [show (false, ((false, l) : Bool × List Bool).2).2 = l from rfl, boolsV_at hql, hm1] at c1
  have c2 := blk_lt hF.2.1.srx
  have hK := hF.2.1.mark hq
  have k0 := blk_cell hK.2.1.wbx 0
  have c3 := blk_frozen hF.2.1.srx q
  have HK := Aside0.mk hK
  have HU : Aside0 (uns (l.set q true) ≤ k) := ⟨by have := uns_set l q hql hm1; have h0 : uns l ≤ k + 1 := hu; omega⟩
  have HQ := Aside0.mk hq
  have HF := Aside0.mk hF
  clear hL hF hb hm1 hm hql hK hu hq c
  go_enter Try.func132, Try.ntmps132
  go_upto_region 1 with fail
  generalize w.setCell ⟨p.fb, 0, none⟩ (.bool false) = W1 at *
  go_upto_region 3 with fail
  generalize W1.setCell ⟨p.sr, q, none⟩ (.bool true) = W2 at *
  go_wp2_with (first
   | (go_at_call 130; refine (HS.out (false, l.set q true) q W2 HQ.out HU.out HK.out.2.1).mono ?_; go_must (rintro e W3 hp; have HP := Aside0.mk hp; obtain rfl := hp.1; clear hp)))
  go_end0
  have h9 := (HF.out.join HK.out).join HP.out
  exact h9
theorem dfs_zero {E : Nat → List Nat} {st : Nat} {k : Nat} {s : Bool × List Bool} {q : Nat} (h : mkd s.2 q = true) : dfs E st k s q = (s.1 || q == st, s.2) := by
 cases k with
 | zero => rfl
 | succ k => rw [dfs, if_pos h]
theorem dfs_new {E : Nat → List Nat} {st : Nat} {k : Nat} {s : Bool × List Bool} {q : Nat} (h : mkd s.2 q = false) : dfs E st (k + 1) s q = (E q).foldl (dfs E st k) (s.1 || q == st, s.2.set q true) := by
 rw [dfs, if_neg (by rw [h]; simp)]
structure GrV (U : World) (p : LP) (L : Nat) (m : List Bool) (Ts : List (Option Tr)) : Prop where
 n : p.n = p.R + L
 r : p.R ≤ 100
 l : L ≤ 100
 ml : m.length = p.R + L
 pm : p.mn = m.length
 tl : Ts.length = p.n
 gl : p.gn = Ts.length
 mv : MkV U p.mA p.mc m
 ts : TsV U p.gA p.gc Ts
 ok : ∀ i, i < p.n → okO p.R L (tr Ts i)
theorem GrV.edge {U : World} {p : LP} {L : Nat} {m : List Bool} {Ts : List (Option Tr)} (h : GrV U p L m Ts) : ∀ a, a < p.n → ∀ b ∈ edges p.R Ts m a, b < p.n := fun a ha b hb => by
 rw [h.n]
 exact begO_lt (h.ok a ha) b hb
set_option maxRecDepth 100000 in
set_option maxHeartbeats 8000000 in
theorem beginsO_in (U : World) (p : LP) (R L : Nat) (m : List Bool) (Am : Option Addr) (cm k : Nat) (E : Nat → List Nat) (hn : Aside0 (p.n = R + L)) (hR : R ≤ 100) (hL : L ≤ 100) (hml : Aside0 (m.length = R + L)) (HE : Aside0 (∀ a, a < p.n → ∀ b ∈ E a, b < p.n)) (HM : Aside0 (MkV U Am cm m)) (HV : Aside0 (VisC U p E k)) (gA : Option Addr) (gn gc : Nat)
 (o : Option Tr) (s : Bool × List Bool) (w : World) (v : Value) (hv : OV U o v) (hok : okO R L o) (hu : uns s.2 ≤ k) (hl : LrW U w p s) :
 Calls Try.prog 131 #[.agg #[.slice gA gn gc, .int .i64 (R : Int)], v, .slice Am m.length cm, VF p] w (VPost U w p ((begO R m o).foldl (dfs E p.st k) s)) := by
 cases o with
 | some t => exact begins_in U p R L m Am cm k E hn hR hL hml HE HM HV gA gn gc t s w v hv (hok t rfl) hu hl
 | none =>
  obtain rfl := hv
  have HL := Aside0.mk hl
  clear hok hu hl
  have a1 := tn_ref; have a2 := tn_thr; have a3 := tn_seq; have a4 := tn_alt; have a5 := tn_star; have a6 := tn_neg
  go_enter Try.func131, Try.ntmps131
  go_wp2_with fail
  go_end0
  exact HL.out.same (below_alloc (Below.refl _ _) _)
end Go.Proofs.Ytdiilocgjnlmiaa.Tre
end
