/- Lemmas of the proof, and the walks of functions that it stands on. -/
import Derived.Test.YtdiilocgjnlmiaaCcoValid
import Derived.Test.YtdiilocgjnlmiaaCcoPAllx1
import Derived.Test.YtdiilocgjnlmiaaCcoPAllx6
import Derived.Test.YtdiilocgjnlmiaaCcoPAllx9
import Derived.Test.YtdiilocgjnlmiaaCcoFlat
section
namespace Go.Proofs.Ytdiilocgjnlmiaa.Tre
open Go.RowKit Go.Proofs.YtdiilocgjnlmiaaW.PrintWords Go.Proofs.YtdiilocgjnlmiaaW.PrintLast
open Go.Proofs.Ytdiilocgjnlmiaa.PAll
set_option linter.unusedVariables false
set_option linter.unusedSimpArgs false
abbrev LOp := S234
abbrev LRu := S153
abbrev LLa := S156
def cvO (a : LOp) : Op := ⟨a.f0, a.f1, a.f2⟩
def cvR (a : LRu) : Ru := ⟨a.f0, a.f1.map cvO⟩
def cvL (a : LLa) : La := ⟨a.f0, a.f1, a.f2.map cvO⟩
def smO (a : LOp) : Prop := a.f1.length ≤ 1048576
def smOs (l : List LOp) : Prop := l.length ≤ 1048576 ∧ ∀ a ∈ l, smO a
def smR (a : LRu) : Prop := a.f0.length ≤ 1048576 ∧ smOs a.f1
def smRs (l : List LRu) : Prop := l.length ≤ 1048576 ∧ ∀ a ∈ l, smR a
def smL (a : LLa) : Prop := a.f0.length ≤ 1048576 ∧ smOs a.f2
def smLs (l : List LLa) : Prop := l.length ≤ 1048576 ∧ ∀ a ∈ l, smL a
theorem rd_LOp {l : List LOp} {i : Nat} (hi : i < l.length) : rd_T234 l (i : Int) = l[i] := by simp [rd_T234, List.getD_eq_getElem?_getD, hi]
theorem rd_LRu {l : List LRu} {i : Nat} (hi : i < l.length) : rd_T153 l (i : Int) = l[i] := by simp [rd_T153, List.getD_eq_getElem?_getD, hi]
theorem rd_LLa {l : List LLa} {i : Nat} (hi : i < l.length) : rd_T156 l (i : Int) = l[i] := by simp [rd_T156, List.getD_eq_getElem?_getD, hi]
theorem toByteS_l0 (l : List Int) (hm : l.length ≤ 1048576) : ∀ (k : Nat) (out : List Int) (i : Nat), out.length = l.length → (∀ j, j < i → out[j]? = l[j]?) → i ≤ l.length → l.length - i < k → laws_toByteS.l0 k l out (i : Int) = some l
 | 0, _, _, _, _, _, h => by omega
 | k + 1, out, i, ho, hj, hi, hk => by
  rw [laws_toByteS.l0]
  by_cases c : i < l.length
  ·rw [if_pos (by omega), if_pos (by omega), if_pos (by omega), wid (x := (i : Int) + 1) (by omega) (by omega)]
   refine toByteS_l0 l hm k _ (i + 1) (by simp [ho]) ?_ (by omega) (by omega)
   intro j hji
   rw [Int.toNat_natCast, List.getElem?_set]
   by_cases e : j = i
   ·subst e
    rw [if_pos rfl, if_pos (by omega)]
    simp [rd, List.getD_eq_getElem?_getD, c]
   rw [if_neg (fun h => e h.symm), hj j (by omega)]
  rw [if_neg (by omega)]
  congr 1
  apply List.ext_getElem?
  intro j
  by_cases e : j < i
  ·exact hj j e
  rw [List.getElem?_eq_none (by omega), List.getElem?_eq_none (by omega)]
theorem toByteS_f (l : List Int) (hm : l.length ≤ 1048576) (k : Nat) (hk : 1048576 < k) : laws_toByteS.f k l = some l := by
 rw [laws_toByteS.f, if_pos (by omega), if_pos (by omega)]
 exact toByteS_l0 l hm k _ 0 (by simp) (fun j h => by omega) (by omega) (by omega)
theorem toIntS_l0 (l : List Int) (hm : l.length ≤ 1048576) : ∀ (k : Nat) (out : List Int) (i : Nat), out.length = l.length → (∀ j, j < i → out[j]? = l[j]?) → i ≤ l.length → l.length - i < k → laws_toIntS.l0 k l out (i : Int) = some l
 | 0, _, _, _, _, _, h => by omega
 | k + 1, out, i, ho, hj, hi, hk => by
  rw [laws_toIntS.l0]
  by_cases c : i < l.length
  ·rw [if_pos (by omega), if_pos (by omega), if_pos (by omega), wid (x := (i : Int) + 1) (by omega) (by omega)]
   refine toIntS_l0 l hm k _ (i + 1) (by simp [ho]) ?_ (by omega) (by omega)
   intro j hji
   rw [Int.toNat_natCast, List.getElem?_set]
   by_cases e : j = i
   ·subst e
    rw [if_pos rfl, if_pos (by omega)]
    simp [rd, List.getD_eq_getElem?_getD, c]
   rw [if_neg (fun h => e h.symm), hj j (by omega)]
  rw [if_neg (by omega)]
  congr 1
  apply List.ext_getElem?
  intro j
  by_cases e : j < i
  ·exact hj j e
  rw [List.getElem?_eq_none (by omega), List.getElem?_eq_none (by omega)]
theorem toIntS_f (l : List Int) (hm : l.length ≤ 1048576) (k : Nat) (hk : 1048576 < k) : laws_toIntS.f k l = some l := by
 rw [laws_toIntS.f, if_pos (by omega), if_pos (by omega)]
 exact toIntS_l0 l hm k _ 0 (by simp) (fun j h => by omega) (by omega) (by omega)
theorem toOpS_l0 (l : List LOp) (hm : l.length ≤ 1048576) (hs : ∀ a ∈ l, smO a) : ∀ (k : Nat) (out : List Op) (i : Nat), out.length = l.length → (∀ j, j < i → out[j]? = (l.map cvO)[j]?) → i ≤ l.length → l.length - i + 1048577 < k →
 laws_toOpS.l0 k l out (i : Int) = some (l.map cvO)
 | 0, _, _, _, _, _, h => by omega
 | k + 1, out, i, ho, hj, hi, hk => by
  rw [laws_toOpS.l0]
  by_cases c : i < l.length
  ·have hsm := hs _ (List.getElem_mem c)
   rw [if_pos (by omega), if_pos (by omega), rd_LOp c]
   rw [laws_toOp.f, toIntS_f _ hsm k (by omega)]
   simp only [Option.bind_some]
   rw [if_pos (by omega), wid (x := (i : Int) + 1) (by omega) (by omega)]
   refine toOpS_l0 l hm hs k _ (i + 1) (by simp [ho]) ?_ (by omega) (by omega)
   intro j hji
   rw [Int.toNat_natCast, List.getElem?_set]
   by_cases e : j = i
   ·subst e
    rw [if_pos rfl, if_pos (by omega)]
    simp [c, cvO]
   rw [if_neg (fun h => e h.symm), hj j (by omega)]
  rw [if_neg (by omega)]
  congr 1
  apply List.ext_getElem?
  intro j
  by_cases e : j < i
  ·exact hj j e
  rw [List.getElem?_eq_none (by omega), List.getElem?_eq_none (by simp; omega)]
theorem toOpS_f (l : List LOp) (hm : l.length ≤ 1048576) (hs : ∀ a ∈ l, smO a) (k : Nat) (hk : 1048576 + 1048577 < k) : laws_toOpS.f k l = some (l.map cvO) := by
 rw [laws_toOpS.f, if_pos (by omega), if_pos (by omega)]
 exact toOpS_l0 l hm hs k _ 0 (by simp) (fun j h => by omega) (by omega) (by omega)
theorem toRuleS_l0 (l : List LRu) (hm : l.length ≤ 1048576) (hs : ∀ a ∈ l, smR a) : ∀ (k : Nat) (out : List Ru) (i : Nat), out.length = l.length → (∀ j, j < i → out[j]? = (l.map cvR)[j]?) → i ≤ l.length → l.length - i + 2097160 < k →
 laws_toRuleS.l0 k l out (i : Int) = some (l.map cvR)
 | 0, _, _, _, _, _, h => by omega
 | k + 1, out, i, ho, hj, hi, hk => by
  rw [laws_toRuleS.l0]
  by_cases c : i < l.length
  rotate_left
  ·rw [if_neg (by omega)]
   congr 1
   apply List.ext_getElem?
   intro j
   by_cases e : j < i
   ·exact hj j e
   rw [List.getElem?_eq_none (by omega), List.getElem?_eq_none (by simp; omega)]
  have hsm := hs _ (List.getElem_mem c)
  rw [if_pos (by omega), if_pos (by omega), rd_LRu c]
  rw [laws_toRule.f, toByteS_f _ hsm.1 k (by omega)]
  simp only [Option.bind_some]
  rw [toOpS_f _ hsm.2.1 hsm.2.2 k (by omega)]
  simp only [Option.bind_some]
  rw [if_pos (by omega), wid (x := (i : Int) + 1) (by omega) (by omega)]
  refine toRuleS_l0 l hm hs k _ (i + 1) (by simp [ho]) ?_ (by omega) (by omega)
  intro j hji
  rw [Int.toNat_natCast, List.getElem?_set]
  by_cases e : j = i
  ·subst e
   rw [if_pos rfl, if_pos (by omega)]
   simp [c, cvR]
  rw [if_neg (fun h => e h.symm), hj j (by omega)]
theorem toRuleS_f (l : List LRu) (hm : l.length ≤ 1048576) (hs : ∀ a ∈ l, smR a) (k : Nat) (hk : 1048576 + 2097160 < k) : laws_toRuleS.f k l = some (l.map cvR) := by
 rw [laws_toRuleS.f, if_pos (by omega), if_pos (by omega)]
 exact toRuleS_l0 l hm hs k _ 0 (by simp) (fun j h => by omega) (by omega) (by omega)
theorem toLabelS_l0 (l : List LLa) (hm : l.length ≤ 1048576) (hs : ∀ a ∈ l, smL a) : ∀ (k : Nat) (out : List La) (i : Nat), out.length = l.length → (∀ j, j < i → out[j]? = (l.map cvL)[j]?) → i ≤ l.length → l.length - i + 2097160 < k →
 laws_toLabelS.l0 k l out (i : Int) = some (l.map cvL)
 | 0, _, _, _, _, _, h => by omega
 | k + 1, out, i, ho, hj, hi, hk => by
  rw [laws_toLabelS.l0]
  by_cases c : i < l.length
  rotate_left
  ·rw [if_neg (by omega)]
   congr 1
   apply List.ext_getElem?
   intro j
   by_cases e : j < i
   ·exact hj j e
   rw [List.getElem?_eq_none (by omega), List.getElem?_eq_none (by simp; omega)]
  have hsm := hs _ (List.getElem_mem c)
  rw [if_pos (by omega), if_pos (by omega), rd_LLa c]
  rw [laws_toLabel.f, toByteS_f _ hsm.1 k (by omega)]
  simp only [Option.bind_some]
  rw [toOpS_f _ hsm.2.1 hsm.2.2 k (by omega)]
  simp only [Option.bind_some]
  rw [if_pos (by omega), wid (x := (i : Int) + 1) (by omega) (by omega)]
  refine toLabelS_l0 l hm hs k _ (i + 1) (by simp [ho]) ?_ (by omega) (by omega)
  intro j hji
  rw [Int.toNat_natCast, List.getElem?_set]
  by_cases e : j = i
  ·subst e
   rw [if_pos rfl, if_pos (by omega)]
   simp [c, cvL]
  rw [if_neg (fun h => e h.symm), hj j (by omega)]
theorem toLabelS_f (l : List LLa) (hm : l.length ≤ 1048576) (hs : ∀ a ∈ l, smL a) (k : Nat) (hk : 1048576 + 2097160 < k) : laws_toLabelS.f k l = some (l.map cvL) := by
 rw [laws_toLabelS.f, if_pos (by omega), if_pos (by omega)]
 exact toLabelS_l0 l hm hs k _ 0 (by simp) (fun j h => by omega) (by omega) (by omega)
theorem toGrammar_f (Rs : List LRu) (Ls : List LLa) (hR : smRs Rs) (hL : smLs Ls) (k : Nat) (hk : 3200000 < k) : laws_toGrammar.f k Rs Ls = some (Rs.map cvR, Ls.map cvL) := by
 rw [laws_toGrammar.f, toRuleS_f Rs hR.1 hR.2 k (by omega)]
 simp only [Option.bind_some]
 rw [toLabelS_f Ls hL.1 hL.2 k (by omega)]
 rfl
def ssO (a : Op) : Prop := a.f1.length ≤ 1048576
def ssOs (l : List Op) : Prop := l.length ≤ 1048576 ∧ ∀ a ∈ l, ssO a
def ssR (a : Ru) : Prop := a.f0.length ≤ 1048576 ∧ ssOs a.f1
def ssRs (l : List Ru) : Prop := l.length ≤ 1048576 ∧ ∀ a ∈ l, ssR a
def ssL (a : La) : Prop := a.f0.length ≤ 1048576 ∧ ssOs a.f2
def ssLs (l : List La) : Prop := l.length ≤ 1048576 ∧ ∀ a ∈ l, ssL a
theorem rd_Op {l : List Op} {i : Nat} (hi : i < l.length) : rd_T79 l (i : Int) = l[i] := by simp [rd_T79, List.getD_eq_getElem?_getD, hi]
theorem rd_Ru {l : List Ru} {i : Nat} (hi : i < l.length) : rd_T68 l (i : Int) = l[i] := by simp [rd_T68, List.getD_eq_getElem?_getD, hi]
theorem rd_La {l : List La} {i : Nat} (hi : i < l.length) : rd_T72 l (i : Int) = l[i] := by simp [rd_T72, List.getD_eq_getElem?_getD, hi]
theorem eqByteS_l0 (l : List Int) (hm : l.length ≤ 1048576) : ∀ (k : Nat) (i : Nat), i ≤ l.length → l.length - i < k → laws_eqByteS.l0 k l l (i : Int) = some true
 | 0, _, _, h => by omega
 | k + 1, i, hi, hk => by
  rw [laws_eqByteS.l0]
  by_cases c : i < l.length
  ·rw [if_pos (by omega), if_pos (by omega), if_pos (by omega), if_pos rfl, wid (x := (i : Int) + 1) (by omega) (by omega)]
   exact eqByteS_l0 l hm k (i + 1) (by omega) (by omega)
  rw [if_neg (by omega)]
theorem eqByteS_f (l : List Int) (hm : l.length ≤ 1048576) (k : Nat) (hk : 1048576 < k) : laws_eqByteS.f k l l = some true := by
 rw [laws_eqByteS.f, if_pos rfl]; exact eqByteS_l0 l hm k 0 (by omega) (by omega)
theorem eqIntS_l0 (l : List Int) (hm : l.length ≤ 1048576) : ∀ (k : Nat) (i : Nat), i ≤ l.length → l.length - i < k → laws_eqIntS.l0 k l l (i : Int) = some true
 | 0, _, _, h => by omega
 | k + 1, i, hi, hk => by
  rw [laws_eqIntS.l0]
  by_cases c : i < l.length
  ·rw [if_pos (by omega), if_pos (by omega), if_pos (by omega), if_pos rfl, wid (x := (i : Int) + 1) (by omega) (by omega)]
   exact eqIntS_l0 l hm k (i + 1) (by omega) (by omega)
  rw [if_neg (by omega)]
theorem eqIntS_f (l : List Int) (hm : l.length ≤ 1048576) (k : Nat) (hk : 1048576 < k) : laws_eqIntS.f k l l = some true := by
 rw [laws_eqIntS.f, if_pos rfl]; exact eqIntS_l0 l hm k 0 (by omega) (by omega)
theorem eqOpS_l0 (l : List Op) (hm : l.length ≤ 1048576) (hs : ∀ a ∈ l, ssO a) : ∀ (k : Nat) (i : Nat), i ≤ l.length → l.length - i + 1048577 < k → laws_eqOpS.l0 k l l (i : Int) = some true
 | 0, _, _, h => by omega
 | k + 1, i, hi, hk => by
  rw [laws_eqOpS.l0]
  by_cases c : i < l.length
  ·have hsm := hs _ (List.getElem_mem c)
   rw [if_pos (by omega), if_pos (by omega), if_pos (by omega), rd_Op c]
   rw [laws_eqOp.f, if_pos rfl, eqIntS_f _ hsm k (by omega), Option.bind_some, if_pos rfl, if_pos rfl]
   rw [Option.bind_some, if_pos rfl, wid (x := (i : Int) + 1) (by omega) (by omega)]
   exact eqOpS_l0 l hm hs k (i + 1) (by omega) (by omega)
  rw [if_neg (by omega)]
theorem eqOpS_f (l : List Op) (hm : l.length ≤ 1048576) (hs : ∀ a ∈ l, ssO a) (k : Nat) (hk : 1048576 + 1048577 < k) : laws_eqOpS.f k l l = some true := by
 rw [laws_eqOpS.f, if_pos rfl]; exact eqOpS_l0 l hm hs k 0 (by omega) (by omega)
theorem eqRuleS_l0 (l : List Ru) (hm : l.length ≤ 1048576) (hs : ∀ a ∈ l, ssR a) : ∀ (k : Nat) (i : Nat), i ≤ l.length → l.length - i + 2097160 < k → laws_eqRuleS.l0 k l l (i : Int) = some true
 | 0, _, _, h => by omega
 | k + 1, i, hi, hk => by
  rw [laws_eqRuleS.l0]
  by_cases c : i < l.length
  ·have hsm := hs _ (List.getElem_mem c)
   rw [if_pos (by omega), if_pos (by omega), if_pos (by omega), rd_Ru c]
   rw [laws_eqRule.f, eqByteS_f _ hsm.1 k (by omega), Option.bind_some, if_pos rfl, eqOpS_f _ hsm.2.1 hsm.2.2 k (by omega), Option.bind_some, if_pos rfl]
   rw [Option.bind_some, if_pos rfl, wid (x := (i : Int) + 1) (by omega) (by omega)]
   exact eqRuleS_l0 l hm hs k (i + 1) (by omega) (by omega)
  rw [if_neg (by omega)]
theorem eqRuleS_f (l : List Ru) (hm : l.length ≤ 1048576) (hs : ∀ a ∈ l, ssR a) (k : Nat) (hk : 1048576 + 2097160 < k) : laws_eqRuleS.f k l l = some true := by
 rw [laws_eqRuleS.f, if_pos rfl]; exact eqRuleS_l0 l hm hs k 0 (by omega) (by omega)
theorem eqLabelS_l0 (l : List La) (hm : l.length ≤ 1048576) (hs : ∀ a ∈ l, ssL a) : ∀ (k : Nat) (i : Nat), i ≤ l.length → l.length - i + 2097160 < k → laws_eqLabelS.l0 k l l (i : Int) = some true
 | 0, _, _, h => by omega
 | k + 1, i, hi, hk => by
  rw [laws_eqLabelS.l0]
  by_cases c : i < l.length
  ·have hsm := hs _ (List.getElem_mem c)
   rw [if_pos (by omega), if_pos (by omega), if_pos (by omega), rd_La c]
   rw [laws_eqLabel.f, eqByteS_f _ hsm.1 k (by omega), Option.bind_some, if_pos rfl, if_neg (by simp), eqOpS_f _ hsm.2.1 hsm.2.2 k (by omega), Option.bind_some, if_pos rfl]
   rw [Option.bind_some, if_pos rfl, wid (x := (i : Int) + 1) (by omega) (by omega)]
   exact eqLabelS_l0 l hm hs k (i + 1) (by omega) (by omega)
  rw [if_neg (by omega)]
theorem eqLabelS_f (l : List La) (hm : l.length ≤ 1048576) (hs : ∀ a ∈ l, ssL a) (k : Nat) (hk : 1048576 + 2097160 < k) : laws_eqLabelS.f k l l = some true := by
 rw [laws_eqLabelS.f, if_pos rfl]; exact eqLabelS_l0 l hm hs k 0 (by omega) (by omega)
theorem eqGrammar_f (Rs : List Ru) (Ls : List La) (hR : ssRs Rs) (hL : ssLs Ls) (k : Nat) (hk : 3200000 < k) : laws_eqGrammar.f k Rs Ls Rs Ls = some true := by
 rw [laws_eqGrammar.f, eqRuleS_f Rs hR.1 hR.2 k (by omega), Option.bind_some, if_pos rfl, eqLabelS_f Ls hL.1 hL.2 k (by omega)]
 rfl
theorem ssOs_of {l : List LOp} (h : smOs l) : ssOs (l.map cvO) := ⟨by rw [List.length_map]; exact h.1, fun a ha => by
 obtain ⟨b, hb, rfl⟩ := List.mem_map.1 ha
 exact h.2 b hb⟩
theorem ssRs_of {l : List LRu} (h : smRs l) : ssRs (l.map cvR) := ⟨by rw [List.length_map]; exact h.1, fun a ha => by
 obtain ⟨b, hb, rfl⟩ := List.mem_map.1 ha
 exact ⟨(h.2 b hb).1, ssOs_of (h.2 b hb).2⟩⟩
theorem ssLs_of {l : List LLa} (h : smLs l) : ssLs (l.map cvL) := ⟨by rw [List.length_map]; exact h.1, fun a ha => by
 obtain ⟨b, hb, rfl⟩ := List.mem_map.1 ha
 exact ⟨(h.2 b hb).1, ssOs_of (h.2 b hb).2⟩⟩
theorem okOps_of {l : List Op} (h : ssOs l) : okOps l = true := by
 unfold okOps
 rw [Bool.and_eq_true, decide_eq_true_eq, List.all_eq_true]
 exact ⟨by have := h.1; omega, fun a ha => decide_eq_true (by have := h.2 a ha; unfold ssO at this; omega)⟩
theorem okG_of {Rs : List Ru} {Ls : List La} (hR : ssRs Rs) (hL : ssLs Ls) : okG Rs Ls = true := by
 unfold okG
 rw [Bool.and_eq_true, Bool.and_eq_true, decide_eq_true_eq, List.all_eq_true, List.all_eq_true]
 refine ⟨⟨⟨by have := hR.1; omega, by have := hL.1; omega⟩, fun a ha => ?_⟩, fun a ha => ?_⟩
 ·rw [Bool.and_eq_true, decide_eq_true_eq]
  exact ⟨by have := (hR.2 a ha).1; omega, okOps_of (hR.2 a ha).2⟩
 rw [Bool.and_eq_true, decide_eq_true_eq]
 exact ⟨by have := (hL.2 a ha).1; omega, okOps_of (hL.2 a ha).2⟩
theorem szNum_f (l : List Int) (m : Int) (h0 : 0 ≤ m) (h1 : m ≤ 1048576) (hl : l.length ≤ 9223372036854775807) : ∃ r, laws_szIntS.f l m = some r ∧ laws_szByteS.f l m = some r ∧ (r = -1 ∨ (0 ≤ r ∧ r ≤ m ∧ l.length ≤ 1048576)) := by
 rw [laws_szIntS.f, laws_szByteS.f, wid (by omega) (by omega)]
 by_cases c : m - (l.length : Int) < 0
 ·exact ⟨-1, by rw [if_pos c], by rw [if_pos c], .inl rfl⟩
 exact ⟨m - l.length, by rw [if_neg c], by rw [if_neg c], .inr ⟨by omega, by omega, by omega⟩⟩
theorem szOp_f (a : LOp) (m : Int) (h0 : 0 ≤ m) (h1 : m ≤ 1048576) (hl : a.f1.length ≤ 9223372036854775807) : ∃ r, laws_szOp.f a.f0 a.f1 a.f2 m = some r ∧ (r = -1 ∨ (0 ≤ r ∧ r ≤ m ∧ smO a)) := by
 obtain ⟨r, hr, _, hr2⟩ := szNum_f a.f1 m h0 h1 hl
 rw [laws_szOp.f, hr, Option.bind_some]
 rcases hr2 with rfl | ⟨q1, q2, q3⟩
 ·exact ⟨-1, by rw [if_pos (by decide)], .inl rfl⟩
 exact ⟨r, by rw [if_neg (by omega)], .inr ⟨q1, q2, q3⟩⟩
theorem szOpS_l0 (l : List LOp) (hm : l.length ≤ 1048576) (hl : ∀ a ∈ l, a.f1.length ≤ 9223372036854775807) : ∀ (d k i : Nat) (m : Int), l.length = i + d → d + 0 < k → 0 ≤ m → m ≤ 1048576 → ∃ r, laws_szOpS.l0 k l m (i : Int) = some r ∧ (r = -1 ∨ (0 ≤ r ∧ r ≤ m ∧ ∀ a ∈ l.drop i, smO a))
 | d, 0, i, m, _, h, _, _ => by omega
 | 0, k + 1, i, m, h1, _, h2, _ => by
  refine ⟨m, by rw [laws_szOpS.l0, if_neg (by omega)], .inr ⟨h2, by omega, fun a ha => ?_⟩⟩
  rw [List.drop_eq_nil_of_le (by omega)] at ha
  cases ha
 | d + 1, k + 1, i, m, h1, hk, h2, h3 => by
  have hi : i < l.length := by omega
  have hln := hl _ (List.getElem_mem hi)
  rw [laws_szOpS.l0, if_pos (by omega), if_pos (by omega), rd_LOp hi]
  obtain ⟨r, hr, hr2⟩ := szOp_f l[i] m h2 h3 hln
  rw [hr, Option.bind_some]
  rcases hr2 with rfl | ⟨q1, q2, q3⟩
  ·exact ⟨-1, by rw [if_pos (by decide)], .inl rfl⟩
  rw [if_neg (by omega), wid (x := (i : Int) + 1) (by omega) (by omega)]
  obtain ⟨r', hr', hr2'⟩ := szOpS_l0 l hm hl d k (i + 1) r (by omega) (by omega) q1 (by omega)
  rw [Int.natCast_succ] at hr'
  refine ⟨r', hr', ?_⟩
  rcases hr2' with h | ⟨p1, p2, p3⟩
  ·exact .inl h
  refine .inr ⟨p1, by omega, fun a ha => ?_⟩
  rw [List.drop_eq_getElem_cons hi] at ha
  rcases List.mem_cons.1 ha with rfl | ha
  ·exact q3
  exact p3 a ha
theorem szOpS_f (l : List LOp) (hl0 : l.length ≤ 9223372036854775807) (hl : ∀ a ∈ l, a.f1.length ≤ 9223372036854775807) (k : Nat) (hk : 1048576 + 0 < k) (m : Int) (h0 : 0 ≤ m) (h1 : m ≤ 1048576) : ∃ r, laws_szOpS.f k l m = some r ∧ (r = -1 ∨ (0 ≤ r ∧ r ≤ m ∧ l.length ≤ 1048576 ∧ ∀ a ∈ l, smO a)) := by
 rw [laws_szOpS.f, wid (by omega) (by omega)]
 by_cases c : m - (l.length : Int) < 0
 ·exact ⟨-1, by rw [if_pos c], .inl rfl⟩
 rw [if_neg c]
 obtain ⟨r, hr, hr2⟩ := szOpS_l0 l (by omega) hl l.length k 0 (m - l.length) (by omega) (by omega) (by omega) (by omega)
 refine ⟨r, hr, ?_⟩
 rcases hr2 with h | ⟨p1, p2, p3⟩
 ·exact .inl h
 exact .inr ⟨p1, by omega, by omega, p3⟩
theorem szRule_f (a : LRu) (k : Nat) (hk : 1048576 < k) (m : Int) (h0 : 0 ≤ m) (h1 : m ≤ 1048576) (hl : a.f0.length ≤ 9223372036854775807 ∧ a.f1.length ≤ 9223372036854775807 ∧ ∀ b ∈ a.f1, b.f1.length ≤ 9223372036854775807) : ∃ r, laws_szRule.f k a.f0 a.f1 m = some r ∧ (r = -1 ∨ (0 ≤ r ∧ r ≤ m ∧ smR a)) := by
 obtain ⟨r, _, hr, hr2⟩ := szNum_f a.f0 m h0 h1 hl.1
 rw [laws_szRule.f, hr, Option.bind_some]
 rcases hr2 with rfl | ⟨q1, q2, q3⟩
 ·exact ⟨-1, by rw [if_pos (by decide)], .inl rfl⟩
 rw [if_neg (by omega)]
 obtain ⟨r', hr', hr2'⟩ := szOpS_f a.f1 hl.2.1 hl.2.2 k (by omega) r q1 (by omega)
 rw [hr', Option.bind_some]
 rcases hr2' with rfl | ⟨p1, p2, p3, p4⟩
 ·exact ⟨-1, by rw [if_pos (by decide)], .inl rfl⟩
 exact ⟨r', by rw [if_neg (by omega)], .inr ⟨p1, by omega, q3, p3, p4⟩⟩
theorem szRuleS_l0 (l : List LRu) (hm : l.length ≤ 1048576) (hl : ∀ a ∈ l, a.f0.length ≤ 9223372036854775807 ∧ a.f1.length ≤ 9223372036854775807 ∧ ∀ b ∈ a.f1, b.f1.length ≤ 9223372036854775807) : ∀ (d k i : Nat) (m : Int), l.length = i + d → d + 1048577 < k → 0 ≤ m → m ≤ 1048576 → ∃ r, laws_szRuleS.l0 k l m (i : Int) = some r ∧ (r = -1 ∨ (0 ≤ r ∧ r ≤ m ∧ ∀ a ∈ l.drop i, smR a))
 | d, 0, i, m, _, h, _, _ => by omega
 | 0, k + 1, i, m, h1, _, h2, _ => by
  refine ⟨m, by rw [laws_szRuleS.l0, if_neg (by omega)], .inr ⟨h2, by omega, fun a ha => ?_⟩⟩
  rw [List.drop_eq_nil_of_le (by omega)] at ha
  cases ha
 | d + 1, k + 1, i, m, h1, hk, h2, h3 => by
  have hi : i < l.length := by omega
  have hln := hl _ (List.getElem_mem hi)
  rw [laws_szRuleS.l0, if_pos (by omega), if_pos (by omega), rd_LRu hi]
  obtain ⟨r, hr, hr2⟩ := szRule_f l[i] k (by omega) m h2 h3 hln
  rw [hr, Option.bind_some]
  rcases hr2 with rfl | ⟨q1, q2, q3⟩
  ·exact ⟨-1, by rw [if_pos (by decide)], .inl rfl⟩
  rw [if_neg (by omega), wid (x := (i : Int) + 1) (by omega) (by omega)]
  obtain ⟨r', hr', hr2'⟩ := szRuleS_l0 l hm hl d k (i + 1) r (by omega) (by omega) q1 (by omega)
  rw [Int.natCast_succ] at hr'
  refine ⟨r', hr', ?_⟩
  rcases hr2' with h | ⟨p1, p2, p3⟩
  ·exact .inl h
  refine .inr ⟨p1, by omega, fun a ha => ?_⟩
  rw [List.drop_eq_getElem_cons hi] at ha
  rcases List.mem_cons.1 ha with rfl | ha
  ·exact q3
  exact p3 a ha
theorem szRuleS_f (l : List LRu) (hl0 : l.length ≤ 9223372036854775807) (hl : ∀ a ∈ l, a.f0.length ≤ 9223372036854775807 ∧ a.f1.length ≤ 9223372036854775807 ∧ ∀ b ∈ a.f1, b.f1.length ≤ 9223372036854775807) (k : Nat) (hk : 1048576 + 1048577 < k) (m : Int) (h0 : 0 ≤ m) (h1 : m ≤ 1048576) : ∃ r, laws_szRuleS.f k l m = some r ∧ (r = -1 ∨ (0 ≤ r ∧ r ≤ m ∧ l.length ≤ 1048576 ∧ ∀ a ∈ l, smR a)) := by
 rw [laws_szRuleS.f, wid (by omega) (by omega)]
 by_cases c : m - (l.length : Int) < 0
 ·exact ⟨-1, by rw [if_pos c], .inl rfl⟩
 rw [if_neg c]
 obtain ⟨r, hr, hr2⟩ := szRuleS_l0 l (by omega) hl l.length k 0 (m - l.length) (by omega) (by omega) (by omega) (by omega)
 refine ⟨r, hr, ?_⟩
 rcases hr2 with h | ⟨p1, p2, p3⟩
 ·exact .inl h
 exact .inr ⟨p1, by omega, by omega, p3⟩
theorem szLabel_f (a : LLa) (k : Nat) (hk : 1048576 < k) (m : Int) (h0 : 0 ≤ m) (h1 : m ≤ 1048576) (hl : a.f0.length ≤ 9223372036854775807 ∧ a.f2.length ≤ 9223372036854775807 ∧ ∀ b ∈ a.f2, b.f1.length ≤ 9223372036854775807) : ∃ r, laws_szLabel.f k a.f0 a.f1 a.f2 m = some r ∧ (r = -1 ∨ (0 ≤ r ∧ r ≤ m ∧ smL a)) := by
 obtain ⟨r, _, hr, hr2⟩ := szNum_f a.f0 m h0 h1 hl.1
 rw [laws_szLabel.f, hr, Option.bind_some]
 rcases hr2 with rfl | ⟨q1, q2, q3⟩
 ·exact ⟨-1, by rw [if_pos (by decide)], .inl rfl⟩
 rw [if_neg (by omega)]
 obtain ⟨r', hr', hr2'⟩ := szOpS_f a.f2 hl.2.1 hl.2.2 k (by omega) r q1 (by omega)
 rw [hr', Option.bind_some]
 rcases hr2' with rfl | ⟨p1, p2, p3, p4⟩
 ·exact ⟨-1, by rw [if_pos (by decide)], .inl rfl⟩
 exact ⟨r', by rw [if_neg (by omega)], .inr ⟨p1, by omega, q3, p3, p4⟩⟩
theorem szLabelS_l0 (l : List LLa) (hm : l.length ≤ 1048576) (hl : ∀ a ∈ l, a.f0.length ≤ 9223372036854775807 ∧ a.f2.length ≤ 9223372036854775807 ∧ ∀ b ∈ a.f2, b.f1.length ≤ 9223372036854775807) : ∀ (d k i : Nat) (m : Int), l.length = i + d → d + 1048577 < k → 0 ≤ m → m ≤ 1048576 → ∃ r, laws_szLabelS.l0 k l m (i : Int) = some r ∧ (r = -1 ∨ (0 ≤ r ∧ r ≤ m ∧ ∀ a ∈ l.drop i, smL a))
 | d, 0, i, m, _, h, _, _ => by omega
 | 0, k + 1, i, m, h1, _, h2, _ => by
  refine ⟨m, by rw [laws_szLabelS.l0, if_neg (by omega)], .inr ⟨h2, by omega, fun a ha => ?_⟩⟩
  rw [List.drop_eq_nil_of_le (by omega)] at ha
  cases ha
 | d + 1, k + 1, i, m, h1, hk, h2, h3 => by
  have hi : i < l.length := by omega
  have hln := hl _ (List.getElem_mem hi)
  rw [laws_szLabelS.l0, if_pos (by omega), if_pos (by omega), rd_LLa hi]
  obtain ⟨r, hr, hr2⟩ := szLabel_f l[i] k (by omega) m h2 h3 hln
  rw [hr, Option.bind_some]
  rcases hr2 with rfl | ⟨q1, q2, q3⟩
  ·exact ⟨-1, by rw [if_pos (by decide)], .inl rfl⟩
  rw [if_neg (by omega), wid (x := (i : Int) + 1) (by omega) (by omega)]
  obtain ⟨r', hr', hr2'⟩ := szLabelS_l0 l hm hl d k (i + 1) r (by omega) (by omega) q1 (by omega)
  rw [Int.natCast_succ] at hr'
  refine ⟨r', hr', ?_⟩
  rcases hr2' with h | ⟨p1, p2, p3⟩
  ·exact .inl h
  refine .inr ⟨p1, by omega, fun a ha => ?_⟩
  rw [List.drop_eq_getElem_cons hi] at ha
  rcases List.mem_cons.1 ha with rfl | ha
  ·exact q3
  exact p3 a ha
theorem szLabelS_f (l : List LLa) (hl0 : l.length ≤ 9223372036854775807) (hl : ∀ a ∈ l, a.f0.length ≤ 9223372036854775807 ∧ a.f2.length ≤ 9223372036854775807 ∧ ∀ b ∈ a.f2, b.f1.length ≤ 9223372036854775807) (k : Nat) (hk : 1048576 + 1048577 < k) (m : Int) (h0 : 0 ≤ m) (h1 : m ≤ 1048576) : ∃ r, laws_szLabelS.f k l m = some r ∧ (r = -1 ∨ (0 ≤ r ∧ r ≤ m ∧ l.length ≤ 1048576 ∧ ∀ a ∈ l, smL a)) := by
 rw [laws_szLabelS.f, wid (by omega) (by omega)]
 by_cases c : m - (l.length : Int) < 0
 ·exact ⟨-1, by rw [if_pos c], .inl rfl⟩
 rw [if_neg c]
 obtain ⟨r, hr, hr2⟩ := szLabelS_l0 l (by omega) hl l.length k 0 (m - l.length) (by omega) (by omega) (by omega) (by omega)
 refine ⟨r, hr, ?_⟩
 rcases hr2 with h | ⟨p1, p2, p3⟩
 ·exact .inl h
 exact .inr ⟨p1, by omega, by omega, p3⟩
def inR (l : List LRu) : Prop := l.length ≤ 9223372036854775807 ∧ ∀ a ∈ l, a.f0.length ≤ 9223372036854775807 ∧ a.f1.length ≤ 9223372036854775807 ∧ ∀ b ∈ a.f1, b.f1.length ≤ 9223372036854775807
def inL (l : List LLa) : Prop := l.length ≤ 9223372036854775807 ∧ ∀ a ∈ l, a.f0.length ≤ 9223372036854775807 ∧ a.f2.length ≤ 9223372036854775807 ∧ ∀ b ∈ a.f2, b.f1.length ≤ 9223372036854775807
theorem szGrammar_f (Rs : List LRu) (Ls : List LLa) (hR : inR Rs) (hL : inL Ls) (k : Nat) (hk : 3200000 < k) : ∃ r, laws_szGrammar.f k Rs Ls 1048576 = some r ∧ (r < 0 ∨ (0 ≤ r ∧ smRs Rs ∧ smLs Ls)) := by
 obtain ⟨r, hr, hr2⟩ := szRuleS_f Rs hR.1 hR.2 k (by omega) 1048576 (by omega) (by omega)
 rw [laws_szGrammar.f, hr, Option.bind_some]
 rcases hr2 with rfl | ⟨q1, q2, q3, q4⟩
 ·exact ⟨-1, by rw [if_pos (by decide)], .inl (by decide)⟩
 rw [if_neg (by omega)]
 obtain ⟨r', hr', hr2'⟩ := szLabelS_f Ls hL.1 hL.2 k (by omega) r q1 (by omega)
 rw [hr', Option.bind_some]
 rcases hr2' with rfl | ⟨p1, p2, p3, p4⟩
 ·exact ⟨-1, by rw [if_pos (by decide)], .inl (by decide)⟩
 exact ⟨r', by rw [if_neg (by omega)], .inr ⟨p1, ⟨q3, q4⟩, ⟨p3, p4⟩⟩⟩
end Go.Proofs.Ytdiilocgjnlmiaa.Tre
end
section
namespace Go.Proofs.Ytdiilocgjnlmiaa.Open
open Go.RowKit Go.Deep Go.Proofs.YtdiilocgjnlmiaaW.PrintWords Go.Proofs.YtdiilocgjnlmiaaW.PrintLast Go.Proofs.Ytdiilocgjnlmiaa.PAll Go.Proofs.Ytdiilocgjnlmiaa.Tre
section
variable {H : Type} {enc : TypeId × Value → H} {w : World} {base : Nat} {spare : Nat → Bool} {held : Bool}
theorem opens_mono {α : Type} {P : Program} {t : TypeId} {k : Kd α} {g g' : α → Prop} (h : Opens enc P w base spare held t k g) (hg : ∀ a, g a → g' a) : Opens enc P w base spare held t k g' := fun fuel cs x hx => by
 obtain ⟨a, h1, h2⟩ := h fuel cs x hx
 exact ⟨a, h1, hg a h2⟩
theorem opens_ints : Opens enc Try.prog w base spare held 38 (Kd.slice 3 (Kd.int .i64)) (fun l => l.length ≤ 9223372036854775807) :=
 opens_mono (opens_slice Try.underlying38 (by kernel_rfl) (opens_int Try.underlying3)) fun _ h => h.2
theorem opens_bytes : Opens enc Try.prog w base spare held 36 (Kd.slice 5 (Kd.int .u8)) (fun l => l.length ≤ 9223372036854775807) :=
 opens_mono (opens_slice Try.underlying36 (by kernel_rfl) (opens_int Try.underlying5)) fun _ h => h.2
theorem opens_op : Opens enc Try.prog w base spare held 234 k234 (fun a => a.f1.length ≤ 9223372036854775807) :=
 opens_mono (opens_iso _ (fun x => ⟨x.1, x.2.1, x.2.2⟩) (fun _ => rfl) (opens_3 (a := Kd.int .i64) (b := Kd.slice 3 (Kd.int .i64)) (c := Kd.int .i64) Try.underlying234 (by kernel_rfl) rfl rfl rfl (by kernel_rfl) (by kernel_rfl) (by kernel_rfl)
  (opens_int Try.underlying3) opens_ints (opens_int Try.underlying3))) fun _ h => h.2.1
theorem opens_ops : Opens enc Try.prog w base spare held 151 (Kd.slice 234 k234) (fun l => l.length ≤ 9223372036854775807 ∧ ∀ b ∈ l, b.f1.length ≤ 9223372036854775807) :=
 opens_mono (opens_slice Try.underlying151 (by kernel_rfl) opens_op) fun _ h => ⟨h.2, h.1⟩
theorem opens_rule : Opens enc Try.prog w base spare held 153 k153 (fun a => a.f0.length ≤ 9223372036854775807 ∧ a.f1.length ≤ 9223372036854775807 ∧ ∀ b ∈ a.f1, b.f1.length ≤ 9223372036854775807) :=
 opens_mono (opens_iso _ (fun x => ⟨x.1, x.2⟩) (fun _ => rfl) (opens_2 (a := Kd.slice 5 (Kd.int .u8)) (b := Kd.slice 234 k234) Try.underlying153 (by kernel_rfl) rfl rfl (by kernel_rfl) (by kernel_rfl) opens_bytes opens_ops)) fun _ h => ⟨h.1, h.2.1, h.2.2⟩
theorem opens_label : Opens enc Try.prog w base spare held 156 k156 (fun a => a.f0.length ≤ 9223372036854775807 ∧ a.f2.length ≤ 9223372036854775807 ∧ ∀ b ∈ a.f2, b.f1.length ≤ 9223372036854775807) :=
 opens_mono (opens_iso _ (fun x => ⟨x.1, x.2.1, x.2.2⟩) (fun _ => rfl) (opens_3 (a := Kd.slice 5 (Kd.int .u8)) (b := Kd.bool) (c := Kd.slice 234 k234) Try.underlying156 (by kernel_rfl) rfl rfl rfl (by kernel_rfl) (by kernel_rfl) (by kernel_rfl) opens_bytes (opens_bool Try.underlying4) opens_ops)) fun _ h => ⟨h.1, h.2.2.1, h.2.2.2⟩
theorem opens_rules : Opens enc Try.prog w base spare held 22 (Kd.slice 153 k153) inR :=
 opens_mono (opens_slice Try.underlying22 (by kernel_rfl) opens_rule) fun _ h => ⟨h.2, h.1⟩
theorem opens_labels : Opens enc Try.prog w base spare held 23 (Kd.slice 156 k156) inL :=
 opens_mono (opens_slice Try.underlying23 (by kernel_rfl) opens_label) fun _ h => ⟨h.2, h.1⟩
end
end Go.Proofs.Ytdiilocgjnlmiaa.Open
end
section
namespace Go.Proofs.Ytdiilocgjnlmiaa.Tre
open Go.RowKit Go.Proofs.YtdiilocgjnlmiaaW.PrintWords Go.Proofs.YtdiilocgjnlmiaaW.PrintLast Go.Proofs.YtdiilocgjnlmiaaW.PrintMore
open Go.Proofs.Ytdiilocgjnlmiaa.PAll
set_option linter.unusedVariables false
set_option linter.unusedSimpArgs false
def occ (R : Nat) : Tr → List Nat
 | .emp => []
 | .set _ => []
 | .ref n => [n.toNat]
 | .thr n => [R + n.toNat]
 | .seq l r => occ R l ++ occ R r
 | .alt l r => occ R l ++ occ R r
 | .star x => occ R x
 | .neg x => occ R x
def okT (R L : Nat) : Tr → Prop
 | .emp => True
 | .set _ => True
 | .ref n => 0 ≤ n ∧ n < (R : Int)
 | .thr n => 0 ≤ n ∧ n < (L : Int)
 | .seq l r => okT R L l ∧ okT R L r
 | .alt l r => okT R L l ∧ okT R L r
 | .star x => okT R L x
 | .neg x => okT R L x
def mkd (m : List Bool) (k : Nat) : Bool := m.getD k false
def nullT (R : Nat) (m : List Bool) : Tr → Bool
 | .emp => true
 | .set _ => false
 | .ref n => mkd m n.toNat
 | .thr n => mkd m (R + n.toNat)
 | .seq l r => nullT R m l && nullT R m r
 | .alt l r => nullT R m l || nullT R m r
 | .star _ => true
 | .neg _ => true
def nullO (R : Nat) (m : List Bool) : Option Tr → Bool
 | none => false
 | some t => nullT R m t
def okO (R L : Nat) (o : Option Tr) : Prop := ∀ t, o = some t → okT R L t
def occO (R : Nat) : Option Tr → List Nat
 | none => []
 | some t => occ R t
def LeM (m m' : List Bool) : Prop := ∀ k, mkd m k = true → mkd m' k = true
def roundM (R : Nat) (ts : List (Option Tr)) (m : List Bool) : List Bool := ts.map (nullO R m)
def iterM (R : Nat) (ts : List (Option Tr)) : Nat → List Bool
 | 0 => List.replicate ts.length false
 | k + 1 => roundM R ts (iterM R ts k)
def tr (ts : List (Option Tr)) (i : Nat) : Option Tr := ts.getD i none
def Closed (R : Nat) (ts : List (Option Tr)) (m : List Bool) : Prop := ∀ i, i < ts.length → nullO R m (tr ts i) = true → mkd m i = true
structure Work (R : Nat) (ts : List (Option Tr)) (m : List Bool) (items : List Nat) : Prop where
 len : m.length = ts.length
 sound : ∀ x, Closed R ts x → LeM m x
 nodup : items.Nodup
 inn : ∀ i ∈ items, i < ts.length
 done : ∀ i, i < ts.length → mkd m i = false → i ∉ items → nullO R m (tr ts i) = false
theorem Work.skip {R : Nat} {ts : List (Option Tr)} {m : List Bool} {x : Nat} {rest : List Nat} (h : Work R ts m (x :: rest)) (hx : mkd m x = true ∨ nullO R m (tr ts x) = false) : Work R ts m rest := by
 refine ⟨h.len, h.sound, (List.nodup_cons.1 h.nodup).2, fun i hi => h.inn i (List.mem_cons_of_mem _ hi), fun i hi hm hn => ?_⟩
 by_cases e : i = x
 ·subst e
  rcases hx with h1 | h1
  ·rw [hm] at h1; cases h1
  exact h1
 exact h.done i hi hm fun hc => (List.mem_cons.1 hc).elim e hn
def pushU (i : Nat) (us : List (List Nat)) (k : Nat) : List (List Nat) := us.set k (us.getD k [] ++ [i])
def usT (i : Nat) (us : List (List Nat)) (ks : List Nat) : List (List Nat) := ks.foldl (pushU i) us
def usN (R : Nat) (ts : List (Option Tr)) : Nat → List (List Nat)
 | 0 => List.replicate ts.length []
 | i + 1 => usT i (usN R ts i) (occO R (tr ts i))
end Go.Proofs.Ytdiilocgjnlmiaa.Tre
end
section
namespace Go.Proofs.Ytdiilocgjnlmiaa.PAll
open Go.RowKit Go.Proofs.YtdiilocgjnlmiaaW.PrintWords Go.Proofs.YtdiilocgjnlmiaaW.PrintLast Go.Proofs.YtdiilocgjnlmiaaW.PrintMore
attribute [local go_sem] max2_int min2_int max_two min_two max_three min_three max_four min_four   -- for this text's walks alone
set_option linter.unusedVariables false
set_option linter.unusedSimpArgs false
def laws_heldIntS.l0 : Nat → List Int → Int → Int → Option (Int)
 | 0, _, _, _ => none
 | k + 1, x0, x1, x5 => if x5 < (x0.length : Int) then (if 0 ≤ x5 then (if (rd x0 x5) = x1 then (laws_heldIntS.l0 k x0 (wrap64 (x1 + 1)) (wrap64 (x5 + 1))) else (some (-1))) else (none)) else (some x1)
def laws_heldIntS.f (k : Nat) (l0 : List Int) (a1 : Int) : Option (Int) := laws_heldIntS.l0 k l0 a1 0
theorem laws_heldIntS.mono_l : ∀ k, (∀ y0 y1 y2, LeO (laws_heldIntS.l0 k y0 y1 y2) (laws_heldIntS.l0 (k + 1) y0 y1 y2))
 | 0 => fun _ _ _ r h => by simp [laws_heldIntS.l0] at h
 | k + 1 => by
  have ih0 := laws_heldIntS.mono_l k
  intro y0 y1 y2
  unfold laws_heldIntS.l0
  repeat' first
  | (with_reducible exact ih0 _ _ _)
  | (with_reducible exact LeO.refl _)
  | (with_reducible exact LeO.none _)
  | (with_reducible refine LeO.ite ?_ ?_)
  | (with_reducible refine LeO.bind ?_ (fun _ => ?_))
  | exact ih0 _ _ _
  | exact LeO.none _
  | refine LeO.ite ?_ ?_
  | refine LeO.bind ?_ (fun _ => ?_)
theorem laws_heldIntS.mono : ∀ a0 a1 k, LeO (laws_heldIntS.f k a0 a1) (laws_heldIntS.f (k + 1) a0 a1) := by
 intro a0 a1 k
 have ih0 := laws_heldIntS.mono_l k
 unfold laws_heldIntS.f
 repeat' first
  | (with_reducible exact ih0 _ _ _)
  | (with_reducible exact LeO.refl _)
  | (with_reducible exact LeO.none _)
  | (with_reducible refine LeO.ite ?_ ?_)
  | (with_reducible refine LeO.bind ?_ (fun _ => ?_))
  | exact ih0 _ _ _
  | exact LeO.none _
  | refine LeO.ite ?_ ?_
  | refine LeO.bind ?_ (fun _ => ?_)
set_option maxHeartbeats 8000000 in
set_option maxRecDepth 100000 in
theorem laws_heldIntS.calls (k : Nat) (A0 : Option Addr) (c0 : Nat) (l0 : List Int) (a1 : Int) (r : Int) (w : World) (hr0 : Kd.C (Kd.int .i64) w A0 l0.length l0) (hc0 : l0.length ≤ c0) (h : laws_heldIntS.f k l0 a1 = some r) :
 Calls Try.prog 70 #[.slice A0 l0.length c0, .int .i64 a1] w fun e w' => e = .returned (.int .i64 r) ∧ Drawn0 w w' := by
 have HR0 := Aside0.mk hr0
 have HC0 := Aside0.mk hc0
 clear hr0 hc0
 have H : (laws_heldIntS.l0 k l0 a1 0) = some r := h
 clear h
 have H' := Aside0.mk H
 clear H
 go_enter Try.func70, Try.ntmps70
 go_wp2
 go_loopg [1, 5] k (fun kq v1 v5 w' => ∃ (x1_1 : Int) (x5_1 : Int), v1 = .int .i64 x1_1 ∧ v5 = .int .i64 x5_1 ∧ Aside0 (laws_heldIntS.l0 kq l0 x1_1 x5_1 = some r) ∧ Aside0 (kq ≤ k) ∧ Drawn0 w w')
 case atStart => exact ⟨(a1), (0), (by first | rfl | (simp; done) | (simp [*]; done)), (by first | rfl | (simp; done) | (simp [*]; done)), H', ⟨Nat.le_refl _⟩, dr_⟩
 case round =>
  clear H'
  try clear p2
  obtain ⟨x1_1, x5_1, rfl, rfl, HA, HK1, ⟨m1, rfl⟩⟩ := hrel
  cases gk with
  | zero => exact absurd HA.out (by simp [laws_heldIntS.l0])
  | succ k1 =>
   have H := HA.out
   clear HA
   simp only [laws_heldIntS.l0] at H
   by_cases c3 : x5_1 < (l0.length : Int)
   rotate_left
   ·rw [if_neg c3] at H
    have c3b0 : decide (x5_1 < (l0.length : Int)) = false := decide_eq_false c3
    clear c3
    obtain rfl := Option.some.inj H
    go_wp2
    go_ret
    exact ⟨by first | rfl | (simp; done) | (simp [*]; done), dr_⟩
   rw [if_pos c3] at H
   have c3b0 : decide (x5_1 < (l0.length : Int)) = true := decide_eq_true c3
   clear c3
   by_cases c4 : 0 ≤ x5_1
   rotate_left
   ·rw [if_neg c4] at H
    exact absurd H (by simp)
   rw [if_pos c4] at H
   have c4b0 : decide (0 ≤ x5_1) = true := decide_eq_true c4
   clear c4
   by_cases c5 : (rd l0 x5_1) = x1_1
   ·rw [if_pos c5] at H
    have c5b0 : ((rd l0 x5_1) == x1_1) = true := beq_iff_eq.mpr c5
    have c5b1 : ((rd l0 x5_1) != x1_1) = false := bne_eq_false_iff_eq.mpr c5
    clear c5
    have H' := Aside0.mk H
    clear H
    have p730 : 0 ≤ (x5_1 : Int) := of_decide_eq_true as_
    have q730 : x5_1 < (l0.length : Int) := of_decide_eq_true as_
    obtain ⟨ad730, e730, hx730_0⟩ := Kd.at_int HR0.out x5_1 p730 q730
    cases e730
    replace p730 := eq_true p730
    replace q730 := eq_true q730
    go_wp2
    go_roundg k1
    case measure => have := HK1.out; omega
    case rel => exact ⟨(wrap64 (x1_1 + 1)), (wrap64 (x5_1 + 1)), (by first | rfl | (simp; done) | (simp [*]; done)), (by first | rfl | (simp; done) | (simp [*]; done)), H', ⟨by have := HK1.out; omega⟩, dr_⟩
   rw [if_neg c5] at H
   have c5b0 : ((rd l0 x5_1) == x1_1) = false := beq_eq_false_iff_ne.mpr c5
   have c5b1 : ((rd l0 x5_1) != x1_1) = true := bne_iff_ne.mpr c5
   obtain rfl := Option.some.inj H
   have p730 : 0 ≤ (x5_1 : Int) := of_decide_eq_true as_
   have q730 : x5_1 < (l0.length : Int) := of_decide_eq_true as_
   obtain ⟨ad730, e730, hx730_0⟩ := Kd.at_int HR0.out x5_1 p730 q730
   cases e730
   replace p730 := eq_true p730
   replace q730 := eq_true q730
   go_wp2
   go_ret
   exact ⟨by first | rfl | (simp; done) | (simp [*]; done), dr_⟩
def laws_heldEventS.l0 : Nat → List (S103) → Int → Int → Option (Int)
 | 0, _, _, _ => none
 | k + 1, x0, x1, x5 => if x5 < (x0.length : Int) then (if 0 ≤ x5 then (if ((rd_T103 x0 x5).f0) = x1 then (if ((rd_T103 x0 x5).f1) = (wrap64 (x1 + 1)) then (if ((rd_T103 x0 x5).f2) = (wrap64 ((wrap64 (x1 + 1)) + 1)) then (laws_heldEventS.l0 k x0 (wrap64 ((wrap64 ((wrap64 (x1 + 1)) + 1)) + 1)) (wrap64 (x5 + 1))) else (some (-1))) else (some (-1))) else (some (-1))) else (none)) else (some x1)
def laws_heldEventS.f (k : Nat) (l0 : List (S103)) (a1 : Int) : Option (Int) := laws_heldEventS.l0 k l0 a1 0
theorem laws_heldEventS.mono_l : ∀ k, (∀ y0 y1 y2, LeO (laws_heldEventS.l0 k y0 y1 y2) (laws_heldEventS.l0 (k + 1) y0 y1 y2))
 | 0 => fun _ _ _ r h => by simp [laws_heldEventS.l0] at h
 | k + 1 => by
  have ih0 := laws_heldEventS.mono_l k
  intro y0 y1 y2
  unfold laws_heldEventS.l0
  repeat' first
  | (with_reducible exact ih0 _ _ _)
  | (with_reducible exact LeO.refl _)
  | (with_reducible exact LeO.none _)
  | (with_reducible refine LeO.ite ?_ ?_)
  | (with_reducible refine LeO.bind ?_ (fun _ => ?_))
  | exact ih0 _ _ _
  | exact LeO.none _
  | refine LeO.ite ?_ ?_
  | refine LeO.bind ?_ (fun _ => ?_)
theorem laws_heldEventS.mono : ∀ a0 a1 k, LeO (laws_heldEventS.f k a0 a1) (laws_heldEventS.f (k + 1) a0 a1) := by
 intro a0 a1 k
 have ih0 := laws_heldEventS.mono_l k
 unfold laws_heldEventS.f
 repeat' first
  | (with_reducible exact ih0 _ _ _)
  | (with_reducible exact LeO.refl _)
  | (with_reducible exact LeO.none _)
  | (with_reducible refine LeO.ite ?_ ?_)
  | (with_reducible refine LeO.bind ?_ (fun _ => ?_))
  | exact ih0 _ _ _
  | exact LeO.none _
  | refine LeO.ite ?_ ?_
  | refine LeO.bind ?_ (fun _ => ?_)
def laws_heldOutcome.f (k : Nat) (a0_0 : Int) (a0_1 : Int) (a0_2 : Int) (a0_3 : Int) (l0_4 : List Int) (a0_5 : Int) (a0_6 : Int) (l0_7 : List (S103)) (a1 : Int) : Option (Int) := (laws_heldIntS.f k l0_4 a1).bind fun t735 => (if t735 < 0 then (some (-1)) else ((laws_heldEventS.f k l0_7 t735).bind fun t736 => (if t736 < 0 then (some (-1)) else (some t736))))
theorem laws_heldOutcome.mono : ∀ a0 a1 a2 a3 a4 a5 a6 a7 a8 k, LeO (laws_heldOutcome.f k a0 a1 a2 a3 a4 a5 a6 a7 a8) (laws_heldOutcome.f (k + 1) a0 a1 a2 a3 a4 a5 a6 a7 a8) := by
 intro a0 a1 a2 a3 a4 a5 a6 a7 a8 k
 unfold laws_heldOutcome.f
 repeat' first
  | (with_reducible exact laws_heldEventS.mono _ _ _)
  | (with_reducible exact laws_heldIntS.mono _ _ _)
  | (with_reducible exact LeO.refl _)
  | (with_reducible exact LeO.none _)
  | (with_reducible refine LeO.ite ?_ ?_)
  | (with_reducible refine LeO.bind ?_ (fun _ => ?_))
  | exact laws_heldEventS.mono _ _ _
  | exact laws_heldIntS.mono _ _ _
  | exact LeO.none _
  | refine LeO.ite ?_ ?_
  | refine LeO.bind ?_ (fun _ => ?_)
def spec_l2copy.l0 : Nat → List (S79) → List (S79) → Int → Option ((List (S79)))
 | 0, _, _, _ => none
 | k + 1, x0, x3, x4 => if x4 < (x0.length : Int) then (if 0 ≤ x4 then (if ([] : List Int).length + ((rd_T79 x0 x4).f1).length < 17592186044416 then (if x3.length < 3518437208883 then (spec_l2copy.l0 k x0 (x3 ++ [(⟨(rd_T79 x0 x4).f0, (([] : List Int) ++ ((rd_T79 x0 x4).f1)), (rd_T79 x0 x4).f2⟩ : S79)]) (wrap64 (x4 + 1))) else (none)) else (none)) else (none)) else (some x3)
def spec_l2copy.f (k : Nat) (l0 : List (S79)) : Option ((List (S79))) := spec_l2copy.l0 k l0 ([] : List (S79)) 0
theorem spec_l2copy.mono_l : ∀ k, (∀ y0 y1 y2, LeO (spec_l2copy.l0 k y0 y1 y2) (spec_l2copy.l0 (k + 1) y0 y1 y2))
 | 0 => fun _ _ _ r h => by simp [spec_l2copy.l0] at h
 | k + 1 => by
  have ih0 := spec_l2copy.mono_l k
  intro y0 y1 y2
  unfold spec_l2copy.l0
  repeat' first
  | (with_reducible exact ih0 _ _ _)
  | (with_reducible exact LeO.refl _)
  | (with_reducible exact LeO.none _)
  | (with_reducible refine LeO.ite ?_ ?_)
  | (with_reducible refine LeO.bind ?_ (fun _ => ?_))
  | exact ih0 _ _ _
  | exact LeO.none _
  | refine LeO.ite ?_ ?_
  | refine LeO.bind ?_ (fun _ => ?_)
theorem spec_l2copy.mono : ∀ a0 k, LeO (spec_l2copy.f k a0) (spec_l2copy.f (k + 1) a0) := by
 intro a0 k
 have ih0 := spec_l2copy.mono_l k
 unfold spec_l2copy.f
 repeat' first
  | (with_reducible exact ih0 _ _ _)
  | (with_reducible exact LeO.refl _)
  | (with_reducible exact LeO.none _)
  | (with_reducible refine LeO.ite ?_ ?_)
  | (with_reducible refine LeO.bind ?_ (fun _ => ?_))
  | exact ih0 _ _ _
  | exact LeO.none _
  | refine LeO.ite ?_ ?_
  | refine LeO.bind ?_ (fun _ => ?_)
def laws_heldByteS.l0 : Nat → List Int → Int → Int → Option (Int)
 | 0, _, _, _ => none
 | k + 1, x0, x1, x5 => if x5 < (x0.length : Int) then (if 0 ≤ x5 then (if (rd x0 x5) = ((x1) % 256) then (laws_heldByteS.l0 k x0 (wrap64 (x1 + 1)) (wrap64 (x5 + 1))) else (some (-1))) else (none)) else (some x1)
def laws_heldByteS.f (k : Nat) (l0 : List Int) (a1 : Int) : Option (Int) := laws_heldByteS.l0 k l0 a1 0
theorem laws_heldByteS.mono_l : ∀ k, (∀ y0 y1 y2, LeO (laws_heldByteS.l0 k y0 y1 y2) (laws_heldByteS.l0 (k + 1) y0 y1 y2))
 | 0 => fun _ _ _ r h => by simp [laws_heldByteS.l0] at h
 | k + 1 => by
  have ih0 := laws_heldByteS.mono_l k
  intro y0 y1 y2
  unfold laws_heldByteS.l0
  repeat' first
  | (with_reducible exact ih0 _ _ _)
  | (with_reducible exact LeO.refl _)
  | (with_reducible exact LeO.none _)
  | (with_reducible refine LeO.ite ?_ ?_)
  | (with_reducible refine LeO.bind ?_ (fun _ => ?_))
  | exact ih0 _ _ _
  | exact LeO.none _
  | refine LeO.ite ?_ ?_
  | refine LeO.bind ?_ (fun _ => ?_)
theorem laws_heldByteS.mono : ∀ a0 a1 k, LeO (laws_heldByteS.f k a0 a1) (laws_heldByteS.f (k + 1) a0 a1) := by
 intro a0 a1 k
 have ih0 := laws_heldByteS.mono_l k
 unfold laws_heldByteS.f
 repeat' first
  | (with_reducible exact ih0 _ _ _)
  | (with_reducible exact LeO.refl _)
  | (with_reducible exact LeO.none _)
  | (with_reducible refine LeO.ite ?_ ?_)
  | (with_reducible refine LeO.bind ?_ (fun _ => ?_))
  | exact ih0 _ _ _
  | exact LeO.none _
  | refine LeO.ite ?_ ?_
  | refine LeO.bind ?_ (fun _ => ?_)
end Go.Proofs.Ytdiilocgjnlmiaa.PAll
end
