/- Lemmas of the proof, and the walks of functions that it stands on. -/
import Derived.Test.YtdiilocgjnlmiaaCcoAsmExpr
import Derived.Test.YtdiilocgjnlmiaaCcoSBegins
import Derived.Test.YtdiilocgjnlmiaaCcoSExpr
import Derived.Test.YtdiilocgjnlmiaaCcoAsm
import Derived.Maps.OwnOps
import Derived.Maps.Views
import Derived.Lib.BytesEntry
import Derived.Lib.Bytealg
import Derived.Shelf.Abstract
import Derived.Test.YtdiilocgjnlmiaaCcoFlat
section
namespace Go.Proofs.Ytdiilocgjnlmiaa.Tre
open Go.RowKit Go.Proofs.YtdiilocgjnlmiaaW.PrintWords Go.Proofs.YtdiilocgjnlmiaaW.PrintLast Go.Proofs.YtdiilocgjnlmiaaW.PrintMore
open Go.Proofs.Ytdiilocgjnlmiaa.PAll
set_option linter.unusedVariables false
set_option linter.unusedSimpArgs false
def rtI (pr pt : Int → Int) (k a : Int) (x : Tr) (n : Nat) : List In := [⟨k, a, 0, []⟩] ++ exT pr pt x (n + 1) ++ [⟨11, 0, 0, []⟩] ++ [⟨7, 0, 0, []⟩]
set_option maxRecDepth 100000 in
set_option maxHeartbeats 8000000 in
theorem routine_in (U w : World) (B b : Nat) (code : List In) (mr ml : Value) (k a : Int) (A : Option Addr) (c : Nat) (bd : List Op) (x : Tr) (hU : U.heap.size ≤ B) (hUw : Below U.heap.size U w) (hA : Asm w B b code mr ml) (hC : Kd.C k79 U A bd.length bd) (hc : bd.length ≤ c) (hbl : bd.length ≤ 2000) (htf : treeF bd = some x) (hs : smT x) (n : Nat) (hn : n = code.length) (hl : n + szT x + 3 ≤ 900000) :
 Calls Try.prog 96 #[.pointer (some ⟨b, 0, none⟩), .agg #[.int .i64 k, .int .i64 a, .int .i64 0, .slice none 0 0], .slice A bd.length c] w (fun e w' => e = .returned (.int .i64 (n : Int)) ∧ Asm w' B b (code ++ rtI id id k a x n) mr ml ∧ AFr b B w w') := by
 have hbx : Below w.heap.size w (w.alloc (Obj.cells #[.int .i64 k, .int .i64 a, .int .i64 0, .slice none 0 0] 88)) := below_alloc (Below.refl _ _) _
 have HA0 := Aside0.mk (hA.below hbx)
 have HF0 := Aside0.mk (AFr.of_below (b := b) hA.size hbx)
 have HUW := Aside0.mk hUw
 have HC := Aside0.mk hC
 have HTF := Aside0.mk htf
 have HN := Aside0.mk hn
 have hn9 : n ≤ 900000 := by omega
 clear hA hUw hC htf hn hbx
 go_enter Try.func96, Try.ntmps96
 go_wp2_with (first
  | (go_at_call 95; refine (emitK_in 7 0 0 rfl HA4.out (by have h1 := HN.out; simp only [List.length_append, List.length_singleton, exT_len]; omega)).mono ?_; go_must (rintro e W5 ⟨rfl, hA, hF⟩; have HA5 := Aside0.mk hA; have HF5 := Aside0.mk (HF4.out.trans hF); clear hA hF))
  | (go_at_call 95; refine (emitK_in 11 0 0 rfl HA3.out (by have h1 := HN.out; simp only [List.length_append, List.length_singleton, exT_len]; omega)).mono ?_; go_must (rintro e W4 ⟨rfl, hA, hF⟩; have HA4 := Aside0.mk hA; have HF4 := Aside0.mk (HF3.out.trans hF); clear hA hF))
  | (go_at_call 141; refine (asm_in U B b mr ml hU x _ _ _ HTV.out ⟨HF2.out.low hU HUW.out⟩ hs HA2.out (by have h1 := HN.out; simp only [List.length_append, List.length_singleton]; omega)).mono ?_; go_must (rintro e W3 ⟨rfl, hA, hF⟩; have HA3 := Aside0.mk hA; have HF3 := Aside0.mk (HF2.out.trans hF); clear hA hF))
  | (go_at_call 90; refine (tree_at U _ ⟨HF1.out.low hU HUW.out⟩ A c bd HC.out hc (by omega)).mono ?_; go_must (rintro e W2 hp; obtain ⟨u, b2, rfl, hu, hb⟩ := ov_of_post hp; rw [HTF.out] at hu; obtain ⟨T, uu, rfl⟩ := TrV.iface hu; have HTV := Aside0.mk hu; have HA2 := Aside0.mk (HA1.out.below hb); have HF2 := Aside0.mk (HF1.out.trans (AFr.of_below HA1.out.size hb)); clear hp hu hb))
  | (go_at_call 95; refine (emitK_in k a 0 HN.out HA0.out (by have h1 := HN.out; omega)).mono ?_; go_must (rintro e W1 ⟨rfl, hA, hF⟩; have HA1 := Aside0.mk hA; have HF1 := Aside0.mk (HF0.out.trans hF); clear hA hF)))
 go_ret
 refine ⟨rfl, ?_, HF5.out⟩
 have h := HA5.out
 rw [rtI, HN.out]
 simp only [List.append_assoc, List.length_append, List.length_singleton] at h ⊢
 exact h
end Go.Proofs.Ytdiilocgjnlmiaa.Tre
end
section
namespace Go.Proofs.Ytdiilocgjnlmiaa.Tre
open Go.RowKit Go.Proofs.YtdiilocgjnlmiaaW.PrintWords Go.Proofs.YtdiilocgjnlmiaaW.PrintLast Go.Proofs.YtdiilocgjnlmiaaW.PrintMore
open Go.Proofs.Ytdiilocgjnlmiaa.PAll
set_option linter.unusedVariables false
set_option linter.unusedSimpArgs false
def ndK (R i : Nat) : Int := if i < R then 9 else 10
def ndA (R i : Nat) : Int := if i < R then (i : Int) else ((i - R : Nat) : Int)
def ndI (pr pt : Int → Int) (R : Nat) (Ts : List (Option Tr)) (i : Nat) : List In := match tr Ts i with
 | none => []
 | some x => rtI pr pt (ndK R i) (ndA R i) x (begN Ts i)
def progN (pr pt : Int → Int) (R : Nat) (Ts : List (Option Tr)) : Nat → List In
 | 0 => [⟨6, 0, pr 0, []⟩, ⟨12, 0, 0, []⟩]
 | i + 1 => progN pr pt R Ts i ++ ndI pr pt R Ts i
theorem rtI_len (pr pt : Int → Int) (k a : Int) (x : Tr) (n : Nat) : (rtI pr pt k a x n).length = 3 + szT x := by
 simp only [rtI, List.length_append, List.length_singleton, exT_len]
 omega
theorem progN_len (pr pt : Int → Int) (R : Nat) (Ts : List (Option Tr)) : ∀ i, (progN pr pt R Ts i).length = begN Ts i
 | 0 => rfl
 | i + 1 => by
  rw [progN, List.length_append, progN_len pr pt R Ts i, begN, ndI]
  cases h : tr Ts i with
  | none => rfl
  | some x => simp only [rtI_len, szO]
theorem ndK_aim (R i : Nat) (a : Int) (pr pt : Int → Int) : aim pr pt ⟨ndK R i, a, 0, []⟩ = ⟨ndK R i, a, 0, []⟩ := by
 unfold aim ndK
 split <;> simp
theorem aim_ndI (pr pt : Int → Int) (R : Nat) (Ts : List (Option Tr)) (i : Nat) : (ndI id id R Ts i).map (aim pr pt) = ndI pr pt R Ts i := by
 unfold ndI
 cases h : tr Ts i with
 | none => rfl
 | some x => simp only [rtI, List.map_append, aim_exT, List.map_cons, List.map_nil, ndK_aim]; rfl
theorem aim_progN (pr pt : Int → Int) (R : Nat) (Ts : List (Option Tr)) : ∀ i, (progN id id R Ts i).map (aim pr pt) = progN pr pt R Ts i
 | 0 => rfl
 | i + 1 => by rw [progN, List.map_append, aim_progN pr pt R Ts i, aim_ndI, progN]
def okI (R L : Nat) (x : In) : Prop := (x.f0 = 6 → 0 ≤ x.f2 ∧ x.f2 < (R : Int)) ∧ (x.f0 = 8 → 0 ≤ x.f2 ∧ x.f2 < (L : Int)) ∧ x.f3.length ≤ 1048576
theorem okI_plain {R L : Nat} {x : In} (h6 : x.f0 ≠ 6) (h8 : x.f0 ≠ 8) (h3 : x.f3 = []) : okI R L x := ⟨fun h => absurd h h6, fun h => absurd h h8, by rw [h3]; simp⟩
theorem okI_exT {R L : Nat} : ∀ (t : Tr) (n : Nat), okT R L t → smT t → ∀ x ∈ exT id id t n, okI R L x
 | .emp, n, _, _, x, hx => by cases hx
 | .set s, n, _, hs, x, hx => by
  obtain rfl := List.mem_singleton.1 hx
  exact ⟨fun h => absurd h (show (0 : Int) ≠ 6 by decide), fun h => absurd h (show (0 : Int) ≠ 8 by decide), hs⟩
 | .ref k, n, h, _, x, hx => by
  obtain rfl := List.mem_singleton.1 hx
  exact ⟨fun _ => h, fun h => absurd h (show (6 : Int) ≠ 8 by decide), by simp⟩
 | .thr k, n, h, _, x, hx => by
  obtain rfl := List.mem_singleton.1 hx
  exact ⟨fun h => absurd h (show (8 : Int) ≠ 6 by decide), fun _ => h, by simp⟩
 | .seq l r, n, h, hs, x, hx => by
  rcases List.mem_append.1 hx with hx | hx
  ·exact okI_exT l _ h.1 hs.1 x hx
  exact okI_exT r _ h.2 hs.2 x hx
 | .alt l r, n, h, hs, x, hx => by
  simp only [exT, List.mem_append, List.mem_singleton] at hx
  rcases hx with ((rfl | hx) | rfl) | hx
  ·exact okI_plain (by simp) (by simp) rfl
  ·exact okI_exT l _ h.1 hs.1 x hx
  ·exact okI_plain (by simp) (by simp) rfl
  exact okI_exT r _ h.2 hs.2 x hx
 | .star y, n, h, hs, x, hx => by
  simp only [exT, List.mem_append, List.mem_singleton] at hx
  rcases hx with (rfl | hx) | rfl
  ·exact okI_plain (by simp) (by simp) rfl
  ·exact okI_exT y _ h hs x hx
  exact okI_plain (by simp) (by simp) rfl
 | .neg y, n, h, hs, x, hx => by
  simp only [exT, List.mem_append, List.mem_singleton] at hx
  rcases hx with (rfl | hx) | rfl
  ·exact okI_plain (by simp) (by simp) rfl
  ·exact okI_exT y _ h hs x hx
  exact okI_plain (by simp) (by simp) rfl
theorem okI_progN {R L : Nat} (hR : 0 < R) {Ts : List (Option Tr)} (hok : ∀ i, okO R L (tr Ts i)) (hsm : ∀ i x, tr Ts i = some x → smT x) : ∀ i, ∀ x ∈ progN id id R Ts i, okI R L x
 | 0, x, hx => by
  simp only [progN, List.mem_cons, List.not_mem_nil, or_false] at hx
  rcases hx with rfl | rfl
  ·exact ⟨fun _ => ⟨Int.le_refl 0, show (0 : Int) < R by omega⟩, fun h => absurd h (show (6 : Int) ≠ 8 by decide), by simp⟩
  exact okI_plain (by simp) (by simp) rfl
 | i + 1, x, hx => by
  rcases List.mem_append.1 hx with hx | hx
  ·exact okI_progN hR hok hsm i x hx
  unfold ndI at hx
  cases h : tr Ts i with
  | none => rw [h] at hx; cases hx
  | some t =>
   rw [h] at hx
   simp only [rtI, List.mem_append, List.mem_singleton] at hx
   rcases hx with ((rfl | hx) | rfl) | rfl
   ·refine okI_plain ?_ ?_ rfl
    ·simp only [ndK]; split <;> decide
    simp only [ndK]; split <;> decide
   ·exact okI_exT t _ (hok i t h) (hsm i t h) x hx
   ·exact okI_plain (by simp) (by simp) rfl
   exact okI_plain (by simp) (by simp) rfl
def ai (g : In → In) (C : List In) (q : Nat) : List In := (C.take q).map g ++ C.drop q
theorem ai_zero (g : In → In) (C : List In) : ai g C 0 = C := by simp [ai]
theorem ai_len (g : In → In) (C : List In) (q : Nat) : (ai g C q).length = C.length := by
 simp only [ai, List.length_append, List.length_map, List.length_take, List.length_drop]
 omega
theorem ai_end (g : In → In) {C : List In} {q : Nat} (h : C.length = q) : ai g C q = C.map g := by
 rw [ai, List.drop_of_length_le (by omega), List.append_nil, List.take_of_length_le (by omega)]
theorem ai_split {g : In → In} {C : List In} {q : Nat} (hq : q < C.length) : ai g C q = (C.take q).map g ++ ([inn C q] ++ C.drop (q + 1)) := by
 rw [ai, List.drop_eq_getElem_cons hq, inn_get hq]
 rfl
theorem ai_succ {g : In → In} {C : List In} {q : Nat} (hq : q < C.length) : ai g C (q + 1) = (C.take q).map g ++ ([g (inn C q)] ++ C.drop (q + 1)) := by
 rw [ai, List.take_succ_eq_append_getElem hq, List.map_append, inn_get hq, List.append_assoc]
 rfl
theorem ai_inn {g : In → In} {C : List In} {q : Nat} (hq : q < C.length) : inn (ai g C q) q = inn C q := by
 have hl : ((C.take q).map g).length = q := by rw [List.length_map, List.length_take]; omega
 have := inn_mid (a := (C.take q).map g) (r := C.drop (q + 1)) (x := inn C q)
 rw [hl] at this
 rw [ai_split hq]
 exact this
theorem ai_put {g : In → In} {C : List In} {q : Nat} (hq : q < C.length) {y : In} (hy : y = g (inn C q)) : (ai g C q).set q y = ai g C (q + 1) := by
 have hl : ((C.take q).map g).length = q := by rw [List.length_map, List.length_take]; omega
 have := set_mid (a := (C.take q).map g) (r := C.drop (q + 1)) (x := inn C q) (y := y)
 rw [hl] at this
 rw [ai_split hq, ai_succ hq, this, hy]
theorem ai_same {g : In → In} {C : List In} {q : Nat} (hq : q < C.length) (hy : g (inn C q) = inn C q) : ai g C (q + 1) = ai g C q := by
 rw [ai_split hq, ai_succ hq, hy]
end Go.Proofs.Ytdiilocgjnlmiaa.Tre
end
section
namespace Go.Proofs.Ytdiilocgjnlmiaa.Tre
open Go.RowKit Go.Proofs.YtdiilocgjnlmiaaW.PrintWords Go.Proofs.YtdiilocgjnlmiaaW.PrintLast Go.Proofs.YtdiilocgjnlmiaaW.PrintMore
open Go.Proofs.Ytdiilocgjnlmiaa.PAll
set_option linter.unusedVariables false
set_option linter.unusedSimpArgs false
theorem sexpr_in (U : World) (A0 A1 : Option Addr) (c0 c1 : Nat) (Rs : List Ru) (Ls : List La) (hG : GrC U A0 c0 A1 c1 Rs Ls) (hN : Nice Rs Ls) (pr pt : Int → Int) (hpr : ∀ n : Nat, pr (n : Int) = plc (trees Rs Ls) n) (hpt : ∀ n : Nat, pt (n : Int) = plc (trees Rs Ls) (Rs.length + n)) :
 ∀ (x : Tr), okT Rs.length Ls.length x → smT x → (flat x).length ≤ 2000 → ∀ (w : World) (A : Option Addr) (c at_ : Nat), Below U.heap.size U w → Kd.C k79 U A (flat x).length (flat x) → (flat x).length ≤ c → at_ + szT x ≤ 1000000 →
 Calls Try.prog 140 #[.agg #[.slice A0 Rs.length c0, .slice A1 Ls.length c1], .slice A (flat x).length c, .int .i64 (at_ : Int)] w (InsPost w (exT pr pt x at_)) := by
 have hR := hN.r
 have hL := hN.l
 have hsize : ∀ (ops : List Op), ops.length ≤ 2000 → ∀ (A : Option Addr) (c : Nat), Kd.C k79 U A ops.length ops → ops.length ≤ c → ∀ w', Below U.heap.size U w' → Calls Try.prog 169 #[.slice A ops.length c] w' (fun e w2 => e = .returned (.int .i64 (szL ops : Int)) ∧ Below w'.heap.size w' w2) := fun ops hl A c hC hc w' hb =>
  (spec_l4size.calls 5000 A c ops _ w' (Kd.C_below hC hb) hc (size_f (by omega) (by omega))).mono fun e w2 h => ⟨h.1, h.2.below⟩
 have hplace : ∀ i, i < Rs.length + Ls.length → ∀ w', Below U.heap.size U w' → Calls Try.prog 168 #[.agg #[.slice A0 Rs.length c0, .slice A1 Ls.length c1], .int .i64 (i : Int)] w' (fun e w2 => e = .returned (.int .i64 (plc (trees Rs Ls) i)) ∧ Below w'.heap.size w' w2) := fun i hi w' hb =>
  spec_l4place.calls 6000 A0 c0 Rs A1 c1 Ls (i : Int) _ w' (Kd.C_below hG.r hb) hG.rc (Kd.C_below hG.l hb) hG.lc (place_f hN hi)
 have hstart : ∀ (l r : Tr) (op : Op), (flat l ++ flat r ++ [op]).length ≤ 1000001 → ∀ (A : Option Addr) (N c : Nat), Kd.C k79 U A N (flat l ++ flat r ++ [op]) → N ≤ c → ∀ w', Below U.heap.size U w' → Calls Try.prog 129 #[.slice A N c, .int .i64 (((flat l ++ flat r).length : Nat) : Int)] w' (fun e w2 => e = .returned (.int .i64 ((flat l).length : Int)) ∧ Below w'.heap.size w' w2) := fun l r op hl A N c hC hc w' hb => by
  have hN : (flat l ++ flat r ++ [op]).length = N := Kd.C_len hC
  have hf := start_f r (flat l) [op] ((flat r).length + 1) (by omega) (by rw [List.append_assoc] at hl; omega)
  rw [← List.append_assoc, ← List.length_append] at hf
  have := spec_l2start.calls ((flat r).length + 1) A c (flat l ++ flat r ++ [op]) (((flat l ++ flat r).length : Nat) : Int) _ w' (by rw [hN]; exact Kd.C_below hC hb) (by rw [hN]; exact hc) hf
  rw [hN] at this
  exact this.mono fun e w2 h => ⟨h.1, h.2.below⟩
 intro x
 induction x with
 | emp =>
  intro hok hs hl w A c at_ hb hC hc hat
  exact ex_emp U A0 A1 c0 c1 Rs Ls hG w hb A c at_ (by omega) 1 0 [] [] 0 rfl rfl (by omega) hC hc
 | set s =>
  intro hok hs hl w A c at_ hb hC hc hat
  exact ex_set U A0 A1 c0 c1 Rs Ls hG w hb A c at_ (by omega) 1 0 [] s 0 hs rfl rfl (by omega) hC hc
 | ref a =>
  intro hok hs hl w A c at_ hb hC hc hat
  obtain ⟨q, rfl⟩ : ∃ q : Nat, a = (q : Int) := ⟨a.toNat, (Int.toNat_of_nonneg hok.1).symm⟩
  have hq : q < Rs.length := by have := hok.2; omega
  rw [exT, hpr]
  exact ex_ref U A0 A1 c0 c1 Rs Ls hG w hb A c at_ (by omega) 1 0 [] [] q _ ⟨hplace q (by omega)⟩ rfl rfl (by omega) hC hc
 | thr a =>
  intro hok hs hl w A c at_ hb hC hc hat
  obtain ⟨q, rfl⟩ : ∃ q : Nat, a = (q : Int) := ⟨a.toNat, (Int.toNat_of_nonneg hok.1).symm⟩
  have hq : q < Ls.length := by have := hok.2; omega
  rw [exT, hpt]
  exact ex_thr U A0 A1 c0 c1 Rs Ls hG w hb A c at_ (by omega) 1 0 [] [] q (Rs.length + q) _ ⟨hplace (Rs.length + q) (by omega)⟩ ⟨target_thr Rs Ls [] q hR (by omega)⟩ rfl rfl (by omega) hC hc
 | star x ih =>
  intro hok hs hl w A c at_ hb hC hc hat
  have e : (flat (.star x)).length = (flat x).length + 1 := by simp [flat]
  have hz := szL_flat (.star x)
  have h2 := szT_le x
  have hsz := hsize (flat (.star x)) hl A c hC hc
  rw [hz] at hsz
  rw [exT]
  simp only [szT] at hat
  exact ex_star U A0 A1 c0 c1 Rs Ls hG w hb A c at_ (by omega) (flat (.star x)).length (flat x).length (flat x) [] 0 (szT (.star x)) (at_ + 1) (at_ + szT (.star x)) _ rfl rfl (by simp only [szT]; omega) (by rw [exT_len]; omega) ⟨hsz⟩ ⟨fun w' h => ih hok hs (by omega) w' A c (at_ + 1) h (C_pre hC) (by omega) (by omega)⟩ e rfl (by omega) hC hc
 | neg x ih =>
  intro hok hs hl w A c at_ hb hC hc hat
  have e : (flat (.neg x)).length = (flat x).length + 1 := by simp [flat]
  have hz := szL_flat (.neg x)
  have h2 := szT_le x
  have hsz := hsize (flat (.neg x)) hl A c hC hc
  rw [hz] at hsz
  rw [exT]
  simp only [szT] at hat
  exact ex_neg U A0 A1 c0 c1 Rs Ls hG w hb A c at_ (by omega) (flat (.neg x)).length (flat x).length (flat x) [] 0 (szT (.neg x)) (at_ + 1) (at_ + szT (.neg x)) _ rfl rfl (by simp only [szT]; omega) (by rw [exT_len]; omega) ⟨hsz⟩ ⟨fun w' h => ih hok hs (by omega) w' A c (at_ + 1) h (C_pre hC) (by omega) (by omega)⟩ e rfl (by omega) hC hc
 | seq l r ihl ihr =>
  intro hok hs hl w A c at_ hb hC hc hat
  have e0 : flat (.seq l r) = flat l ++ flat r ++ [⟨4, [], 0⟩] := by simp [flat]
  have e : (flat (.seq l r)).length = (flat l ++ flat r).length + 1 := by simp [flat]; omega
  have e2 : (flat l ++ flat r).length = (flat l).length + (flat r).length := List.length_append
  have hC' : Kd.C k79 U A (flat (.seq l r)).length (flat l ++ flat r ++ [⟨4, [], 0⟩]) := by rw [← e0]; exact hC
  have hCl : Kd.C k79 U A (flat l).length (flat l) := C_pre (by rw [List.append_assoc] at hC'; exact hC')
  have hz := szL_flat l
  have h2 := szT_le l
  have h3 := szT_le r
  have hsz := hsize (flat l) (by omega) A c hCl (by omega)
  rw [hz] at hsz
  rw [exT]
  simp only [szT] at hat
  exact ex_seq U A0 A1 c0 c1 Rs Ls hG w hb A c at_ (by omega) (flat (.seq l r)).length (flat l ++ flat r).length (flat l ++ flat r) [] 0 (flat l).length (flat r).length (c - (flat l).length) (szT l) _ (exT pr pt l at_) (exT pr pt r (at_ + szT l)) (by omega) rfl (by omega) rfl (by omega) (by rw [exT_len]; omega) (by rw [exT_len]; omega)
   ⟨fun w' hb => hstart l r ⟨4, [], 0⟩ (by rw [← e0]; omega) A _ c hC' hc w' hb⟩ ⟨hsz⟩ (at_ + szT l) rfl ⟨fun w' h => ihl hok.1 hs.1 (by omega) w' A c at_ h hCl (by omega) (by omega)⟩ ⟨fun w' h => ihr hok.2 hs.2 (by omega) w' _ _ (at_ + szT l) h (C_in hC' hc) (by omega) (by omega)⟩ e rfl (by omega) hC' hc
 | alt l r ihl ihr =>
  intro hok hs hl w A c at_ hb hC hc hat
  have e0 : flat (.alt l r) = flat l ++ flat r ++ [⟨5, [], 0⟩] := by simp [flat]
  have e : (flat (.alt l r)).length = (flat l ++ flat r).length + 1 := by simp [flat]; omega
  have e2 : (flat l ++ flat r).length = (flat l).length + (flat r).length := List.length_append
  have hC' : Kd.C k79 U A (flat (.alt l r)).length (flat l ++ flat r ++ [⟨5, [], 0⟩]) := by rw [← e0]; exact hC
  have hCl : Kd.C k79 U A (flat l).length (flat l) := C_pre (by rw [List.append_assoc] at hC'; exact hC')
  have hz := szL_flat l
  have hzt := szL_flat (.alt l r)
  have h2 := szT_le l
  have h3 := szT_le r
  have hsz := hsize (flat l) (by omega) A c hCl (by omega)
  rw [hz] at hsz
  have hszt := hsize (flat (.alt l r)) (by omega) A c hC (by omega)
  rw [hzt] at hszt
  rw [exT]
  simp only [szT] at hat
  exact ex_alt U A0 A1 c0 c1 Rs Ls hG w hb A c at_ (by omega) (flat (.alt l r)).length (flat l ++ flat r).length (flat l ++ flat r) [] 0 (flat l).length (flat r).length (c - (flat l).length) (szT l) _ (exT pr pt l (at_ + 1)) (exT pr pt r (at_ + szT l + 2)) (by omega) rfl (by omega) rfl (by omega) (by rw [exT_len]; omega) (by rw [exT_len]; omega)
   ⟨fun w' hb => hstart l r ⟨5, [], 0⟩ (by rw [← e0]; omega) A _ c hC' hc w' hb⟩ ⟨hsz⟩ (at_ + 1) (szT (.alt l r)) (at_ + szT l) (at_ + szT l + 2) (at_ + szT (.alt l r)) rfl rfl rfl rfl (by simp only [szT]; omega) ⟨hszt⟩ ⟨fun w' h => ihl hok.1 hs.1 (by omega) w' A c (at_ + 1) h hCl (by omega) (by omega)⟩ ⟨fun w' h => ihr hok.2 hs.2 (by omega) w' _ _ (at_ + szT l + 2) h (C_in hC' hc) (by omega) (by omega)⟩ e rfl (by omega) hC' hc
end Go.Proofs.Ytdiilocgjnlmiaa.Tre
end
section
namespace Go.Proofs.Ytdiilocgjnlmiaa.Tre
open Go.RowKit Go.Proofs.YtdiilocgjnlmiaaW.PrintWords Go.Proofs.YtdiilocgjnlmiaaW.PrintLast Go.Proofs.YtdiilocgjnlmiaaW.PrintMore
open Go.Proofs.Ytdiilocgjnlmiaa.PAll
set_option linter.unusedVariables false
set_option linter.unusedSimpArgs false
def BodyPost (U w : World) (ops : List Op) (e : Ending) (w' : World) : Prop := ∃ A c, e = .returned (.slice A ops.length c) ∧ Kd.C k79 U A ops.length ops ∧ ops.length ≤ c ∧ Below w.heap.size w w'
set_option maxRecDepth 100000 in
set_option maxHeartbeats 8000000 in
theorem sbody_in {U : World} {A0 A1 : Option Addr} {c0 c1 : Nat} {Rs : List Ru} {Ls : List La} (hr : Kd.C k68 U A0 Rs.length Rs) (hl : Kd.C k72 U A1 Ls.length Ls) (r2 : Rs.length ≤ 100) (l2 : Ls.length ≤ 100) (i : Nat) (hi : i < Rs.length + Ls.length) (w : World) (hb : Below U.heap.size U w) :
 Calls Try.prog 84 #[.agg #[.slice A0 Rs.length c0, .slice A1 Ls.length c1], .int .i64 (i : Int)] w (BodyPost U w (bodyN Rs Ls i)) := by
 by_cases hlt : i < Rs.length
 ·obtain ⟨ad, X0, d0, X1, d1, rfl, x0, x1, y0, y1, y2, y3⟩ := at_T68 hr (i : Int) (by omega) (by omega)
  rw [Int.toNat_natCast] at x0 x1
  replace x1 := pw_cell_below hb x1
  replace x0 := pw_cell_below hb x0
  have lx := World.block_lt_of_cell? _ _ x0
  have lx1 := World.block_lt_of_cell? _ _ x1
  have e1 : decide ((i : Int) < (Rs.length : Int)) = true := decide_eq_true (by omega)
  have e2 : (0 ≤ (i : Int)) = True := eq_true (by omega)
  have e3 : ((i : Int) < (Rs.length : Int)) = True := eq_true (by omega)
  have HE : Aside0 (bodyN Rs Ls i = (rd_T68 Rs (i : Int)).f1) := ⟨by rw [bodyN_ru hlt]⟩
  have HY := Aside0.mk (And.intro y2 y3)
  clear y0 y1 y2 y3 hr hl hb hi
  go_enter Try.func84, Try.ntmps84
  go_wp2_with fail
  go_ret
  rw [HE.out]
  exact ⟨_, _, rfl, HY.out.2, HY.out.1, below_alloc (Below.refl _ _) _⟩
 obtain ⟨j, rfl⟩ : ∃ j, i = Rs.length + j := ⟨i - Rs.length, by omega⟩
 obtain ⟨ad, X0, d0, X1, d1, rfl, x0, x1, x2, y0, y1, y2, y3⟩ := at_T72 hl (j : Int) (by omega) (by omega)
 rw [Int.toNat_natCast] at x0 x1 x2
 replace x0 := pw_cell_below hb x0
 replace x2 := pw_cell_below hb x2
 have lx := World.block_lt_of_cell? _ _ x0
 have lx2 := World.block_lt_of_cell? _ _ x2
 have e1 : decide (((Rs.length + j : Nat) : Int) < (Rs.length : Int)) = false := decide_eq_false (by omega)
 have ew : IntKind.i64.wrap (((Rs.length + j : Nat) : Int) - (Rs.length : Int)) = (j : Int) := (i64_w _).trans (by rw [wid (by omega) (by omega)]; omega)
 have e2 : (0 ≤ (j : Int)) = True := eq_true (by omega)
 have e3 : ((j : Int) < (Ls.length : Int)) = True := eq_true (by omega)
 have HE : Aside0 (bodyN Rs Ls (Rs.length + j) = (rd_T72 Ls (j : Int)).f2) := ⟨by rw [bodyN_la (by omega)]⟩
 obtain ⟨i, hI⟩ : ∃ i : Nat, i = Rs.length + j := ⟨_, rfl⟩
 rw [← hI] at e1 ew HE ⊢
 have hq : ¬ i < Rs.length := by omega
 have e4 : decide (i < Rs.length) = false := decide_eq_false hq
 have HY := Aside0.mk (And.intro y2 y3)
 clear y0 y1 y2 y3 hr hl hb hi hI hlt
 go_enter Try.func84, Try.ntmps84
 go_wp2_with fail
 go_ret
 rw [HE.out]
 exact ⟨_, _, rfl, HY.out.2, HY.out.1, below_alloc (Below.refl _ _) _⟩
end Go.Proofs.Ytdiilocgjnlmiaa.Tre
end
section
namespace Go.Proofs.Ytdiilocgjnlmiaa.Tre
open Go.RowKit Go.Proofs.YtdiilocgjnlmiaaW.PrintWords Go.Proofs.YtdiilocgjnlmiaaW.PrintLast Go.Proofs.YtdiilocgjnlmiaaW.PrintMore
open Go.Proofs.Ytdiilocgjnlmiaa.PAll Go.Maps
set_option linter.unusedVariables false
def MapI (w : World) (b n : Nat) (f : Nat → Int) : Prop :=
 ∃ D : DataW Unit, w.ownsMap Try.prog 3 (plainElem Try.prog 3) b n D ∧ IsMap D ∧ ∀ k : Nat, D.atKey (.int .i64 (k : Int)) (.lit (.int .i64 0)) = .lit (.int .i64 (f k))
section
variable {w : World} {b n : Nat} {f : Nat → Int}
theorem MapI.made (w : World) : MapI (w.alloc (.map #[] 0)) w.heap.size 0 (fun _ => 0) := ⟨.map [], World.ownsMap_made w Try.prog 3 _, isMap_empty, fun k => rfl⟩
theorem MapI.lt (h : MapI w b n f) : b < w.heap.size := by
 obtain ⟨D, h, _⟩ := h
 exact h.lt
theorem MapI.obj (h : MapI w b n f) : ∃ o, w.heap[b]? = some o ∧ ∀ cs t fz, o ≠ .cells cs t fz := by
 obtain ⟨D, ⟨es, clock, h1, h2⟩, h3⟩ := h
 exact ⟨_, h1, fun cs t fz e => by cases e⟩
theorem MapI.step {w' : World} (h : MapI w b n f) (hb : w'.heap[b]? = w.heap[b]?) : MapI w' b n f := by
 obtain ⟨D, ⟨es, clock, h1, h2⟩, h3⟩ := h
 exact ⟨D, ⟨es, clock, hb.trans h1, h2⟩, h3⟩
theorem MapI.below {w' : World} (h : MapI w b n f) (hb : Below w.heap.size w w') : MapI w' b n f := h.step (hb.block b h.lt)
theorem MapI.grown {w' : World} {row : Option Nat} (h : MapI w b n f) (hg : w.grownBy w' row) (hne : some b ≠ row) : MapI w' b n f := h.step (hg.block b h.lt hne)
theorem MapI.mono (h : MapI w b n f) {m : Nat} (hm : n ≤ m) : MapI w b m f := by
 obtain ⟨D, h, h2⟩ := h
 exact ⟨D, h.mono hm, h2⟩
set_option maxRecDepth 100000 in
theorem MapI.look (h : MapI w b n f) (k : Nat) (hk : k ≤ 1000000) : (Instr.lookup 144 (.map (some b)) (.int .i64 (k : Int)) false).run Try.prog w = .ok (.int .i64 (f k)) w := by
 obtain ⟨D, h1, h2, h3⟩ := h
 obtain ⟨c, hrun, hc, _⟩ := h1.lookup_int (q := .i64) (key := .int .i64 (k : Int)) (kl := .int .i64 (k : Int)) keyI Try.underlying144 Try.underlying3 rfl (keyOf_int_mk Try.underlying3 (wf64 (by omega) (by omega)))
 rw [h3 k] at hc
 injection hc with hc
 injection hc with _ hc
 rw [hrun, hc]
theorem wfI {q : Int} (h0 : -1 ≤ q) (h1 : q ≤ 1099511627776) : (Lit.int .i64 q).wf = true := by
 have e1 : IntKind.i64.min = -9223372036854775808 := by decide
 have e2 : IntKind.i64.max = 9223372036854775807 := by decide
 simp [Lit.wf, e1, e2]
 omega
theorem MapI.put (h : MapI w b n f) (hn : n < 1000000) (k : Nat) (hk : k ≤ 1000000) (y : Int) (h0 : -1 ≤ y) (h1 : y ≤ 1000000) : ∃ w', (Instr.mapUpdate 144 (.map (some b)) (.int .i64 (k : Int)) (.int .i64 y)).run Try.prog w = .ok () w' ∧ MapI w' b (n + 1) (fun j => if j = k then y else f j) ∧ w.grownBy w' (some b) := by
 obtain ⟨D, o1, o2, o3⟩ := h
 obtain ⟨w', hrun, g1, g2⟩ := o1.store (key := .int .i64 (k : Int)) (val := .int .i64 y) (kl := .int .i64 (k : Int)) (d := .lit (.int .i64 y)) (ps := []) keyI Try.underlying144 (by unfold maxLen; omega) (keyOf_int_mk Try.underlying3 (wf64 (by omega) (by omega))) (plainElem_int Try.underlying3 (wfI (by omega) (by omega)))
 refine ⟨w', hrun, ⟨_, g1, o2.put _ _, fun j => ?_⟩, g2.grown⟩
 show _ = DataW.lit (.int .i64 (if j = k then y else f j))
 by_cases e : j = k
 ·subst e
  rw [if_pos rfl, atKey_put_same o2 (show WideAt.IsKeyLit (Lit.int .i64 (j : Int)) from trivial)]
 rw [if_neg e, atKey_put_other (by intro h; injection h with _ h; omega), o3 j]
end
theorem step_mapPut {ops : Array Oper} {o : Oper} {a : Act} {w : World} {K : Act → World → Prop} {Q : Exit → Act → World → Prop} {E : Prop} {b n : Nat} {f : Nat → Int} (hg : o.guard = none) (m x v : Operand) (hop : o.op = Op.mapUpdate 144 m x v) (h : MapI w b n f) (hm : a.eval m = .map (some b)) (k : Nat) (hx : a.eval x = .int .i64 (k : Int)) (y : Int) (hv : a.eval v = .int .i64 y) (hn : n < 1000000) (hk : k ≤ 1000000) (h0 : -1 ≤ y) (h1 : y ≤ 1000000)
 (hK : ∀ w', MapI w' b (n + 1) (fun j => if j = k then y else f j) → w.grownBy w' (some b) → K (a.put o.dst undef) w') : if Region.wanted o (yielded ops a.tmps) = true then Oper.wp Try.prog o a w K Q else E := by
 have hw : Region.wanted o (yielded ops a.tmps) = true := by simp [Region.wanted, hg]
 rw [if_pos hw]
 obtain ⟨w', hrun, r1, r2⟩ := h.put hn k hk y h0 h1
 unfold Oper.wp
 simp [execOp, hop, hm, hx, hv, hrun, Result.andThen]
 exact hK w' r1 r2
theorem list_mapPut {ops : Array Oper} {rest : List Oper} {o : Oper} {a : Act} {w : World} {Q : Exit → Act → World → Prop} {b n : Nat} {f : Nat → Int} (hg : o.guard = none) (m x v : Operand) (hop : o.op = Op.mapUpdate 144 m x v) (h : MapI w b n f) (hm : a.eval m = .map (some b)) (k : Nat) (hx : a.eval x = .int .i64 (k : Int)) (y : Int) (hv : a.eval v = .int .i64 y) (hn : n < 1000000) (hk : k ≤ 1000000) (h0 : -1 ≤ y) (h1 : y ≤ 1000000)
 (h' : ∀ w', MapI w' b (n + 1) (fun j => if j = k then y else f j) → w.grownBy w' (some b) → wpList Try.prog ops Q rest (a.put o.dst undef) w') : wpList Try.prog ops Q (o :: rest) a w := by
 refine wpList_plain hg fun K' hK' => ?_
 obtain ⟨w', hrun, r1, r2⟩ := h.put hn k hk y h0 h1
 unfold Oper.wp
 simp [execOp, hop, hm, hx, hv, hrun, Result.andThen]
 exact hK' _ _ (h' w' r1 r2)
end Go.Proofs.Ytdiilocgjnlmiaa.Tre
end
section
namespace Go.Proofs.Ytdiilocgjnlmiaa.Tre
open Go.RowKit Go.Proofs.YtdiilocgjnlmiaaW.PrintWords Go.Proofs.YtdiilocgjnlmiaaW.PrintLast Go.Proofs.YtdiilocgjnlmiaaW.PrintMore
open Go.Proofs.Ytdiilocgjnlmiaa.PAll
set_option linter.unusedVariables false
theorem run_bytesOf {P : Program} {w : World} {A : Option Addr} {l : List Int} (c : Nat) (hr : Kd.C (Kd.int .u8) w A l.length l) :
 (Extern.Bytes.bytesOf (.slice A l.length c)).run P w = .ok ⟨(Lib.bytesOf l).toArray⟩ w := by
 cases l with
 | nil =>
  cases A with
  | none => simp [Extern.Bytes.bytesOf, Lib.bytesOf, ByteArray.empty, ByteArray.emptyWithCapacity]; rfl
  | some a => simp [Extern.Bytes.bytesOf, Extern.Bytes.loadBytes, Lib.bytesOf, ByteArray.empty, ByteArray.emptyWithCapacity]; rfl
 | cons x l =>
  cases A with
  | none =>
   exfalso
   obtain ⟨ad, c, e, _⟩ := Kd.C_get hr (0 : Int) 0 (by omega) (by simp)
   cases e
  | some a =>
   have h := Lib.run_loadBytesX (P := P) w (x :: l) a .empty (fun j y hj => by
    have hjl : j < (x :: l).length := (List.getElem?_eq_some_iff.1 hj).1
    have := Kd.foot_int hr (j : Int) (by omega) (by omega)
    rw [Int.toNat_natCast] at this
    rw [this]
    simp only [rd, Int.toNat_natCast, List.getD_eq_getElem?_getD, hj, Option.getD_some])
   show (Extern.Bytes.loadBytes a (x :: l).length .empty).run P w = _
   rw [h]
   simp [ByteArray.empty, ByteArray.emptyWithCapacity]
   rfl
theorem compare_neg : ∀ a b : List UInt8, (decide (0 ≤ Lib.compareBytes a b)) = !Op.bytesLess a b
 | [], [] => rfl
 | [], _ :: _ => rfl
 | _ :: _, [] => rfl
 | x :: a, y :: b => by
  unfold Lib.compareBytes Op.bytesLess
  by_cases h1 : x < y
  ·simp [h1]
  rw [if_neg h1]
  by_cases h2 : y < x
  ·rw [if_pos h2]
   have hne : ¬ x = y := fun e => by subst e; exact UInt8.lt_irrefl x h2
   simp [h1, hne]
  rw [if_neg h2, compare_neg a b]
  have he : x = y := UInt8.le_antisymm (UInt8.not_lt.1 h2) (UInt8.not_lt.1 h1)
  subst he
  simp
set_option maxHeartbeats 1000000 in
set_option maxRecDepth 100000 in
theorem compare_calls (w : World) (A B : Option Addr) (l m : List Int) (c d : Nat) (h1 : Kd.C (Kd.int .u8) w A l.length l) (h2 : Kd.C (Kd.int .u8) w B m.length m) :
 Calls Try.prog 55 #[.slice A l.length c, .slice B m.length d] w fun e w' => e = .returned (.int .i64 (Lib.compareBytes (Lib.bytesOf l) (Lib.bytesOf m))) ∧ w' = w := by
 have hrun : (Extern.BytealgCompare.compare #[.slice A l.length c, .slice B m.length d]).run Try.prog w = .ok (.int .i64 (Lib.compareBytes (Lib.bytesOf l) (Lib.bytesOf m))) w := by
  change Sem.run Try.prog (do pure (goInt (Extern.BytealgCompare.cmp (← Extern.Bytes.bytesOf (.slice A l.length c)) (← Extern.Bytes.bytesOf (.slice B m.length d))))) w = _
  simp only [Sem.run_bind, Sem.run_pure, run_bytesOf c h1, run_bytesOf d h2, Result.andThen_ok]
  rw [Lib.cmp_eq]
  rfl
 generalize Lib.compareBytes (Lib.bytesOf l) (Lib.bytesOf m) = r at *
 go_enter Try.func55, Try.ntmps55
 go_wp2
 rw [run_callFunc_extern Try.func108 (by kernel_rfl) (by kernel_rfl) (by kernel_rfl) (e := Extern.BytealgCompare.compare) (by kernel_rfl), hrun]
 simp only [Result.andThen]
 rw [Oper.upon_value]
 go_wp2
 go_ret
 exact ⟨rfl, rfl⟩
end Go.Proofs.Ytdiilocgjnlmiaa.Tre
end
