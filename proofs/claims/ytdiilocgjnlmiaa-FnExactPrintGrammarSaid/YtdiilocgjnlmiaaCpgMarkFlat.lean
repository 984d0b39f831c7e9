/- Lemmas of the proof, and the walks of functions that it stands on. -/
import Derived.Test.YtdiilocgjnlmiaaCpgValid
import Derived.Test.YtdiilocgjnlmiaaCpgPAllx1
import Derived.Test.YtdiilocgjnlmiaaCpgPAllx6
import Derived.Test.YtdiilocgjnlmiaaCpgPAllx9
import Derived.Test.YtdiilocgjnlmiaaCpgFlat
import Derived.Deep.DeepMust
import Derived.Deep.RegionHeld
section
namespace Go.Proofs.Ytdiilocgjnlmiaa.Tre
open Go.RowKit Go.Proofs.YtdiilocgjnlmiaaW.PrintWords Go.Proofs.YtdiilocgjnlmiaaW.PrintLast
open Go.Proofs.Ytdiilocgjnlmiaa.PAll
set_option linter.unusedVariables false
set_option linter.unusedSimpArgs false
abbrev LOp := S234
abbrev LRu := S153
abbrev LLa := S156
def cvO (a : LOp) : Op := ⟨a.f0, a.f1, a.f2⟩
def cvR (a : LRu) : Ru := ⟨a.f0, a.f1.map cvO⟩
def cvL (a : LLa) : La := ⟨a.f0, a.f1, a.f2.map cvO⟩
def smO (a : LOp) : Prop := a.f1.length ≤ 1048576
def smOs (l : List LOp) : Prop := l.length ≤ 1048576 ∧ ∀ a ∈ l, smO a
def smR (a : LRu) : Prop := a.f0.length ≤ 1048576 ∧ smOs a.f1
def smRs (l : List LRu) : Prop := l.length ≤ 1048576 ∧ ∀ a ∈ l, smR a
def smL (a : LLa) : Prop := a.f0.length ≤ 1048576 ∧ smOs a.f2
def smLs (l : List LLa) : Prop := l.length ≤ 1048576 ∧ ∀ a ∈ l, smL a
theorem rd_LOp {l : List LOp} {i : Nat} (hi : i < l.length) : rd_T234 l (i : Int) = l[i] := by simp [rd_T234, List.getD_eq_getElem?_getD, hi]
theorem rd_LRu {l : List LRu} {i : Nat} (hi : i < l.length) : rd_T153 l (i : Int) = l[i] := by simp [rd_T153, List.getD_eq_getElem?_getD, hi]
theorem rd_LLa {l : List LLa} {i : Nat} (hi : i < l.length) : rd_T156 l (i : Int) = l[i] := by simp [rd_T156, List.getD_eq_getElem?_getD, hi]
theorem toByteS_l0 (l : List Int) (hm : l.length ≤ 1048576) : ∀ (k : Nat) (out : List Int) (i : Nat), out.length = l.length → (∀ j, j < i → out[j]? = l[j]?) → i ≤ l.length → l.length - i < k → laws_toByteS.l0 k l out (i : Int) = some l
 | 0, _, _, _, _, _, h => by omega
 | k + 1, out, i, ho, hj, hi, hk => by
  rw [laws_toByteS.l0]
  by_cases c : i < l.length
  ·rw [if_pos (by omega), if_pos (by omega), if_pos (by omega), wid (x := (i : Int) + 1) (by omega) (by omega)]
   refine toByteS_l0 l hm k _ (i + 1) (by simp [ho]) ?_ (by omega) (by omega)
   intro j hji
   rw [Int.toNat_natCast, List.getElem?_set]
   by_cases e : j = i
   ·subst e
    rw [if_pos rfl, if_pos (by omega)]
    simp [rd, List.getD_eq_getElem?_getD, c]
   rw [if_neg (fun h => e h.symm), hj j (by omega)]
  rw [if_neg (by omega)]
  congr 1
  apply List.ext_getElem?
  intro j
  by_cases e : j < i
  ·exact hj j e
  rw [List.getElem?_eq_none (by omega), List.getElem?_eq_none (by omega)]
theorem toByteS_f (l : List Int) (hm : l.length ≤ 1048576) (k : Nat) (hk : 1048576 < k) : laws_toByteS.f k l = some l := by
 rw [laws_toByteS.f, if_pos (by omega), if_pos (by omega)]
 exact toByteS_l0 l hm k _ 0 (by simp) (fun j h => by omega) (by omega) (by omega)
theorem toIntS_l0 (l : List Int) (hm : l.length ≤ 1048576) : ∀ (k : Nat) (out : List Int) (i : Nat), out.length = l.length → (∀ j, j < i → out[j]? = l[j]?) → i ≤ l.length → l.length - i < k → laws_toIntS.l0 k l out (i : Int) = some l
 | 0, _, _, _, _, _, h => by omega
 | k + 1, out, i, ho, hj, hi, hk => by
  rw [laws_toIntS.l0]
  by_cases c : i < l.length
  ·rw [if_pos (by omega), if_pos (by omega), if_pos (by omega), wid (x := (i : Int) + 1) (by omega) (by omega)]
   refine toIntS_l0 l hm k _ (i + 1) (by simp [ho]) ?_ (by omega) (by omega)
   intro j hji
   rw [Int.toNat_natCast, List.getElem?_set]
   by_cases e : j = i
   ·subst e
    rw [if_pos rfl, if_pos (by omega)]
    simp [rd, List.getD_eq_getElem?_getD, c]
   rw [if_neg (fun h => e h.symm), hj j (by omega)]
  rw [if_neg (by omega)]
  congr 1
  apply List.ext_getElem?
  intro j
  by_cases e : j < i
  ·exact hj j e
  rw [List.getElem?_eq_none (by omega), List.getElem?_eq_none (by omega)]
theorem toIntS_f (l : List Int) (hm : l.length ≤ 1048576) (k : Nat) (hk : 1048576 < k) : laws_toIntS.f k l = some l := by
 rw [laws_toIntS.f, if_pos (by omega), if_pos (by omega)]
 exact toIntS_l0 l hm k _ 0 (by simp) (fun j h => by omega) (by omega) (by omega)
theorem toOpS_l0 (l : List LOp) (hm : l.length ≤ 1048576) (hs : ∀ a ∈ l, smO a) : ∀ (k : Nat) (out : List Op) (i : Nat), out.length = l.length → (∀ j, j < i → out[j]? = (l.map cvO)[j]?) → i ≤ l.length → l.length - i + 1048577 < k →
 laws_toOpS.l0 k l out (i : Int) = some (l.map cvO)
 | 0, _, _, _, _, _, h => by omega
 | k + 1, out, i, ho, hj, hi, hk => by
  rw [laws_toOpS.l0]
  by_cases c : i < l.length
  ·have hsm := hs _ (List.getElem_mem c)
   rw [if_pos (by omega), if_pos (by omega), rd_LOp c]
   rw [laws_toOp.f, toIntS_f _ hsm k (by omega)]
   simp only [Option.bind_some]
   rw [if_pos (by omega), wid (x := (i : Int) + 1) (by omega) (by omega)]
   refine toOpS_l0 l hm hs k _ (i + 1) (by simp [ho]) ?_ (by omega) (by omega)
   intro j hji
   rw [Int.toNat_natCast, List.getElem?_set]
   by_cases e : j = i
   ·subst e
    rw [if_pos rfl, if_pos (by omega)]
    simp [c, cvO]
   rw [if_neg (fun h => e h.symm), hj j (by omega)]
  rw [if_neg (by omega)]
  congr 1
  apply List.ext_getElem?
  intro j
  by_cases e : j < i
  ·exact hj j e
  rw [List.getElem?_eq_none (by omega), List.getElem?_eq_none (by simp; omega)]
theorem toOpS_f (l : List LOp) (hm : l.length ≤ 1048576) (hs : ∀ a ∈ l, smO a) (k : Nat) (hk : 1048576 + 1048577 < k) : laws_toOpS.f k l = some (l.map cvO) := by
 rw [laws_toOpS.f, if_pos (by omega), if_pos (by omega)]
 exact toOpS_l0 l hm hs k _ 0 (by simp) (fun j h => by omega) (by omega) (by omega)
theorem toRuleS_l0 (l : List LRu) (hm : l.length ≤ 1048576) (hs : ∀ a ∈ l, smR a) : ∀ (k : Nat) (out : List Ru) (i : Nat), out.length = l.length → (∀ j, j < i → out[j]? = (l.map cvR)[j]?) → i ≤ l.length → l.length - i + 2097160 < k →
 laws_toRuleS.l0 k l out (i : Int) = some (l.map cvR)
 | 0, _, _, _, _, _, h => by omega
 | k + 1, out, i, ho, hj, hi, hk => by
  rw [laws_toRuleS.l0]
  by_cases c : i < l.length
  rotate_left
  ·rw [if_neg (by omega)]
   congr 1
   apply List.ext_getElem?
   intro j
   by_cases e : j < i
   ·exact hj j e
   rw [List.getElem?_eq_none (by omega), List.getElem?_eq_none (by simp; omega)]
  have hsm := hs _ (List.getElem_mem c)
  rw [if_pos (by omega), if_pos (by omega), rd_LRu c]
  rw [laws_toRule.f, toByteS_f _ hsm.1 k (by omega)]
  simp only [Option.bind_some]
  rw [toOpS_f _ hsm.2.1 hsm.2.2 k (by omega)]
  simp only [Option.bind_some]
  rw [if_pos (by omega), wid (x := (i : Int) + 1) (by omega) (by omega)]
  refine toRuleS_l0 l hm hs k _ (i + 1) (by simp [ho]) ?_ (by omega) (by omega)
  intro j hji
  rw [Int.toNat_natCast, List.getElem?_set]
  by_cases e : j = i
  ·subst e
   rw [if_pos rfl, if_pos (by omega)]
   simp [c, cvR]
  rw [if_neg (fun h => e h.symm), hj j (by omega)]
theorem toRuleS_f (l : List LRu) (hm : l.length ≤ 1048576) (hs : ∀ a ∈ l, smR a) (k : Nat) (hk : 1048576 + 2097160 < k) : laws_toRuleS.f k l = some (l.map cvR) := by
 rw [laws_toRuleS.f, if_pos (by omega), if_pos (by omega)]
 exact toRuleS_l0 l hm hs k _ 0 (by simp) (fun j h => by omega) (by omega) (by omega)
theorem toLabelS_l0 (l : List LLa) (hm : l.length ≤ 1048576) (hs : ∀ a ∈ l, smL a) : ∀ (k : Nat) (out : List La) (i : Nat), out.length = l.length → (∀ j, j < i → out[j]? = (l.map cvL)[j]?) → i ≤ l.length → l.length - i + 2097160 < k →
 laws_toLabelS.l0 k l out (i : Int) = some (l.map cvL)
 | 0, _, _, _, _, _, h => by omega
 | k + 1, out, i, ho, hj, hi, hk => by
  rw [laws_toLabelS.l0]
  by_cases c : i < l.length
  rotate_left
  ·rw [if_neg (by omega)]
   congr 1
   apply List.ext_getElem?
   intro j
   by_cases e : j < i
   ·exact hj j e
   rw [List.getElem?_eq_none (by omega), List.getElem?_eq_none (by simp; omega)]
  have hsm := hs _ (List.getElem_mem c)
  rw [if_pos (by omega), if_pos (by omega), rd_LLa c]
  rw [laws_toLabel.f, toByteS_f _ hsm.1 k (by omega)]
  simp only [Option.bind_some]
  rw [toOpS_f _ hsm.2.1 hsm.2.2 k (by omega)]
  simp only [Option.bind_some]
  rw [if_pos (by omega), wid (x := (i : Int) + 1) (by omega) (by omega)]
  refine toLabelS_l0 l hm hs k _ (i + 1) (by simp [ho]) ?_ (by omega) (by omega)
  intro j hji
  rw [Int.toNat_natCast, List.getElem?_set]
  by_cases e : j = i
  ·subst e
   rw [if_pos rfl, if_pos (by omega)]
   simp [c, cvL]
  rw [if_neg (fun h => e h.symm), hj j (by omega)]
theorem toLabelS_f (l : List LLa) (hm : l.length ≤ 1048576) (hs : ∀ a ∈ l, smL a) (k : Nat) (hk : 1048576 + 2097160 < k) : laws_toLabelS.f k l = some (l.map cvL) := by
 rw [laws_toLabelS.f, if_pos (by omega), if_pos (by omega)]
 exact toLabelS_l0 l hm hs k _ 0 (by simp) (fun j h => by omega) (by omega) (by omega)
theorem toGrammar_f (Rs : List LRu) (Ls : List LLa) (hR : smRs Rs) (hL : smLs Ls) (k : Nat) (hk : 3200000 < k) : laws_toGrammar.f k Rs Ls = some (Rs.map cvR, Ls.map cvL) := by
 rw [laws_toGrammar.f, toRuleS_f Rs hR.1 hR.2 k (by omega)]
 simp only [Option.bind_some]
 rw [toLabelS_f Ls hL.1 hL.2 k (by omega)]
 rfl
def ssO (a : Op) : Prop := a.f1.length ≤ 1048576
def ssOs (l : List Op) : Prop := l.length ≤ 1048576 ∧ ∀ a ∈ l, ssO a
def ssR (a : Ru) : Prop := a.f0.length ≤ 1048576 ∧ ssOs a.f1
def ssRs (l : List Ru) : Prop := l.length ≤ 1048576 ∧ ∀ a ∈ l, ssR a
def ssL (a : La) : Prop := a.f0.length ≤ 1048576 ∧ ssOs a.f2
def ssLs (l : List La) : Prop := l.length ≤ 1048576 ∧ ∀ a ∈ l, ssL a
theorem rd_Op {l : List Op} {i : Nat} (hi : i < l.length) : rd_T79 l (i : Int) = l[i] := by simp [rd_T79, List.getD_eq_getElem?_getD, hi]
theorem rd_Ru {l : List Ru} {i : Nat} (hi : i < l.length) : rd_T68 l (i : Int) = l[i] := by simp [rd_T68, List.getD_eq_getElem?_getD, hi]
theorem rd_La {l : List La} {i : Nat} (hi : i < l.length) : rd_T72 l (i : Int) = l[i] := by simp [rd_T72, List.getD_eq_getElem?_getD, hi]
theorem eqByteS_l0 (l : List Int) (hm : l.length ≤ 1048576) : ∀ (k : Nat) (i : Nat), i ≤ l.length → l.length - i < k → laws_eqByteS.l0 k l l (i : Int) = some true
 | 0, _, _, h => by omega
 | k + 1, i, hi, hk => by
  rw [laws_eqByteS.l0]
  by_cases c : i < l.length
  ·rw [if_pos (by omega), if_pos (by omega), if_pos (by omega), if_pos rfl, wid (x := (i : Int) + 1) (by omega) (by omega)]
   exact eqByteS_l0 l hm k (i + 1) (by omega) (by omega)
  rw [if_neg (by omega)]
theorem eqByteS_f (l : List Int) (hm : l.length ≤ 1048576) (k : Nat) (hk : 1048576 < k) : laws_eqByteS.f k l l = some true := by
 rw [laws_eqByteS.f, if_pos rfl]; exact eqByteS_l0 l hm k 0 (by omega) (by omega)
theorem eqIntS_l0 (l : List Int) (hm : l.length ≤ 1048576) : ∀ (k : Nat) (i : Nat), i ≤ l.length → l.length - i < k → laws_eqIntS.l0 k l l (i : Int) = some true
 | 0, _, _, h => by omega
 | k + 1, i, hi, hk => by
  rw [laws_eqIntS.l0]
  by_cases c : i < l.length
  ·rw [if_pos (by omega), if_pos (by omega), if_pos (by omega), if_pos rfl, wid (x := (i : Int) + 1) (by omega) (by omega)]
   exact eqIntS_l0 l hm k (i + 1) (by omega) (by omega)
  rw [if_neg (by omega)]
theorem eqIntS_f (l : List Int) (hm : l.length ≤ 1048576) (k : Nat) (hk : 1048576 < k) : laws_eqIntS.f k l l = some true := by
 rw [laws_eqIntS.f, if_pos rfl]; exact eqIntS_l0 l hm k 0 (by omega) (by omega)
theorem eqOpS_l0 (l : List Op) (hm : l.length ≤ 1048576) (hs : ∀ a ∈ l, ssO a) : ∀ (k : Nat) (i : Nat), i ≤ l.length → l.length - i + 1048577 < k → laws_eqOpS.l0 k l l (i : Int) = some true
 | 0, _, _, h => by omega
 | k + 1, i, hi, hk => by
  rw [laws_eqOpS.l0]
  by_cases c : i < l.length
  ·have hsm := hs _ (List.getElem_mem c)
   rw [if_pos (by omega), if_pos (by omega), if_pos (by omega), rd_Op c]
   rw [laws_eqOp.f, if_pos rfl, eqIntS_f _ hsm k (by omega), Option.bind_some, if_pos rfl, if_pos rfl]
   rw [Option.bind_some, if_pos rfl, wid (x := (i : Int) + 1) (by omega) (by omega)]
   exact eqOpS_l0 l hm hs k (i + 1) (by omega) (by omega)
  rw [if_neg (by omega)]
theorem eqOpS_f (l : List Op) (hm : l.length ≤ 1048576) (hs : ∀ a ∈ l, ssO a) (k : Nat) (hk : 1048576 + 1048577 < k) : laws_eqOpS.f k l l = some true := by
 rw [laws_eqOpS.f, if_pos rfl]; exact eqOpS_l0 l hm hs k 0 (by omega) (by omega)
theorem eqRuleS_l0 (l : List Ru) (hm : l.length ≤ 1048576) (hs : ∀ a ∈ l, ssR a) : ∀ (k : Nat) (i : Nat), i ≤ l.length → l.length - i + 2097160 < k → laws_eqRuleS.l0 k l l (i : Int) = some true
 | 0, _, _, h => by omega
 | k + 1, i, hi, hk => by
  rw [laws_eqRuleS.l0]
  by_cases c : i < l.length
  ·have hsm := hs _ (List.getElem_mem c)
   rw [if_pos (by omega), if_pos (by omega), if_pos (by omega), rd_Ru c]
   rw [laws_eqRule.f, eqByteS_f _ hsm.1 k (by omega), Option.bind_some, if_pos rfl, eqOpS_f _ hsm.2.1 hsm.2.2 k (by omega), Option.bind_some, if_pos rfl]
   rw [Option.bind_some, if_pos rfl, wid (x := (i : Int) + 1) (by omega) (by omega)]
   exact eqRuleS_l0 l hm hs k (i + 1) (by omega) (by omega)
  rw [if_neg (by omega)]
theorem eqRuleS_f (l : List Ru) (hm : l.length ≤ 1048576) (hs : ∀ a ∈ l, ssR a) (k : Nat) (hk : 1048576 + 2097160 < k) : laws_eqRuleS.f k l l = some true := by
 rw [laws_eqRuleS.f, if_pos rfl]; exact eqRuleS_l0 l hm hs k 0 (by omega) (by omega)
theorem eqLabelS_l0 (l : List La) (hm : l.length ≤ 1048576) (hs : ∀ a ∈ l, ssL a) : ∀ (k : Nat) (i : Nat), i ≤ l.length → l.length - i + 2097160 < k → laws_eqLabelS.l0 k l l (i : Int) = some true
 | 0, _, _, h => by omega
 | k + 1, i, hi, hk => by
  rw [laws_eqLabelS.l0]
  by_cases c : i < l.length
  ·have hsm := hs _ (List.getElem_mem c)
   rw [if_pos (by omega), if_pos (by omega), if_pos (by omega), rd_La c]
   rw [laws_eqLabel.f, eqByteS_f _ hsm.1 k (by omega), Option.bind_some, if_pos rfl, if_neg (by simp), eqOpS_f _ hsm.2.1 hsm.2.2 k (by omega), Option.bind_some, if_pos rfl]
   rw [Option.bind_some, if_pos rfl, wid (x := (i : Int) + 1) (by omega) (by omega)]
   exact eqLabelS_l0 l hm hs k (i + 1) (by omega) (by omega)
  rw [if_neg (by omega)]
theorem eqLabelS_f (l : List La) (hm : l.length ≤ 1048576) (hs : ∀ a ∈ l, ssL a) (k : Nat) (hk : 1048576 + 2097160 < k) : laws_eqLabelS.f k l l = some true := by
 rw [laws_eqLabelS.f, if_pos rfl]; exact eqLabelS_l0 l hm hs k 0 (by omega) (by omega)
theorem eqGrammar_f (Rs : List Ru) (Ls : List La) (hR : ssRs Rs) (hL : ssLs Ls) (k : Nat) (hk : 3200000 < k) : laws_eqGrammar.f k Rs Ls Rs Ls = some true := by
 rw [laws_eqGrammar.f, eqRuleS_f Rs hR.1 hR.2 k (by omega), Option.bind_some, if_pos rfl, eqLabelS_f Ls hL.1 hL.2 k (by omega)]
 rfl
theorem ssOs_of {l : List LOp} (h : smOs l) : ssOs (l.map cvO) := ⟨by rw [List.length_map]; exact h.1, fun a ha => by
 obtain ⟨b, hb, rfl⟩ := List.mem_map.1 ha
 exact h.2 b hb⟩
theorem ssRs_of {l : List LRu} (h : smRs l) : ssRs (l.map cvR) := ⟨by rw [List.length_map]; exact h.1, fun a ha => by
 obtain ⟨b, hb, rfl⟩ := List.mem_map.1 ha
 exact ⟨(h.2 b hb).1, ssOs_of (h.2 b hb).2⟩⟩
theorem ssLs_of {l : List LLa} (h : smLs l) : ssLs (l.map cvL) := ⟨by rw [List.length_map]; exact h.1, fun a ha => by
 obtain ⟨b, hb, rfl⟩ := List.mem_map.1 ha
 exact ⟨(h.2 b hb).1, ssOs_of (h.2 b hb).2⟩⟩
theorem okOps_of {l : List Op} (h : ssOs l) : okOps l = true := by
 unfold okOps
 rw [Bool.and_eq_true, decide_eq_true_eq, List.all_eq_true]
 exact ⟨by have := h.1; omega, fun a ha => decide_eq_true (by have := h.2 a ha; unfold ssO at this; omega)⟩
theorem okG_of {Rs : List Ru} {Ls : List La} (hR : ssRs Rs) (hL : ssLs Ls) : okG Rs Ls = true := by
 unfold okG
 rw [Bool.and_eq_true, Bool.and_eq_true, decide_eq_true_eq, List.all_eq_true, List.all_eq_true]
 refine ⟨⟨⟨by have := hR.1; omega, by have := hL.1; omega⟩, fun a ha => ?_⟩, fun a ha => ?_⟩
 ·rw [Bool.and_eq_true, decide_eq_true_eq]
  exact ⟨by have := (hR.2 a ha).1; omega, okOps_of (hR.2 a ha).2⟩
 rw [Bool.and_eq_true, decide_eq_true_eq]
 exact ⟨by have := (hL.2 a ha).1; omega, okOps_of (hL.2 a ha).2⟩
theorem szNum_f (l : List Int) (m : Int) (h0 : 0 ≤ m) (h1 : m ≤ 1048576) (hl : l.length ≤ 9223372036854775807) : ∃ r, laws_szIntS.f l m = some r ∧ laws_szByteS.f l m = some r ∧ (r = -1 ∨ (0 ≤ r ∧ r ≤ m ∧ l.length ≤ 1048576)) := by
 rw [laws_szIntS.f, laws_szByteS.f, wid (by omega) (by omega)]
 by_cases c : m - (l.length : Int) < 0
 ·exact ⟨-1, by rw [if_pos c], by rw [if_pos c], .inl rfl⟩
 exact ⟨m - l.length, by rw [if_neg c], by rw [if_neg c], .inr ⟨by omega, by omega, by omega⟩⟩
theorem szOp_f (a : LOp) (m : Int) (h0 : 0 ≤ m) (h1 : m ≤ 1048576) (hl : a.f1.length ≤ 9223372036854775807) : ∃ r, laws_szOp.f a.f0 a.f1 a.f2 m = some r ∧ (r = -1 ∨ (0 ≤ r ∧ r ≤ m ∧ smO a)) := by
 obtain ⟨r, hr, _, hr2⟩ := szNum_f a.f1 m h0 h1 hl
 rw [laws_szOp.f, hr, Option.bind_some]
 rcases hr2 with rfl | ⟨q1, q2, q3⟩
 ·exact ⟨-1, by rw [if_pos (by decide)], .inl rfl⟩
 exact ⟨r, by rw [if_neg (by omega)], .inr ⟨q1, q2, q3⟩⟩
theorem szOpS_l0 (l : List LOp) (hm : l.length ≤ 1048576) (hl : ∀ a ∈ l, a.f1.length ≤ 9223372036854775807) : ∀ (d k i : Nat) (m : Int), l.length = i + d → d + 0 < k → 0 ≤ m → m ≤ 1048576 → ∃ r, laws_szOpS.l0 k l m (i : Int) = some r ∧ (r = -1 ∨ (0 ≤ r ∧ r ≤ m ∧ ∀ a ∈ l.drop i, smO a))
 | d, 0, i, m, _, h, _, _ => by omega
 | 0, k + 1, i, m, h1, _, h2, _ => by
  refine ⟨m, by rw [laws_szOpS.l0, if_neg (by omega)], .inr ⟨h2, by omega, fun a ha => ?_⟩⟩
  rw [List.drop_eq_nil_of_le (by omega)] at ha
  cases ha
 | d + 1, k + 1, i, m, h1, hk, h2, h3 => by
  have hi : i < l.length := by omega
  have hln := hl _ (List.getElem_mem hi)
  rw [laws_szOpS.l0, if_pos (by omega), if_pos (by omega), rd_LOp hi]
  obtain ⟨r, hr, hr2⟩ := szOp_f l[i] m h2 h3 hln
  rw [hr, Option.bind_some]
  rcases hr2 with rfl | ⟨q1, q2, q3⟩
  ·exact ⟨-1, by rw [if_pos (by decide)], .inl rfl⟩
  rw [if_neg (by omega), wid (x := (i : Int) + 1) (by omega) (by omega)]
  obtain ⟨r', hr', hr2'⟩ := szOpS_l0 l hm hl d k (i + 1) r (by omega) (by omega) q1 (by omega)
  rw [Int.natCast_succ] at hr'
  refine ⟨r', hr', ?_⟩
  rcases hr2' with h | ⟨p1, p2, p3⟩
  ·exact .inl h
  refine .inr ⟨p1, by omega, fun a ha => ?_⟩
  rw [List.drop_eq_getElem_cons hi] at ha
  rcases List.mem_cons.1 ha with rfl | ha
  ·exact q3
  exact p3 a ha
theorem szOpS_f (l : List LOp) (hl0 : l.length ≤ 9223372036854775807) (hl : ∀ a ∈ l, a.f1.length ≤ 9223372036854775807) (k : Nat) (hk : 1048576 + 0 < k) (m : Int) (h0 : 0 ≤ m) (h1 : m ≤ 1048576) : ∃ r, laws_szOpS.f k l m = some r ∧ (r = -1 ∨ (0 ≤ r ∧ r ≤ m ∧ l.length ≤ 1048576 ∧ ∀ a ∈ l, smO a)) := by
 rw [laws_szOpS.f, wid (by omega) (by omega)]
 by_cases c : m - (l.length : Int) < 0
 ·exact ⟨-1, by rw [if_pos c], .inl rfl⟩
 rw [if_neg c]
 obtain ⟨r, hr, hr2⟩ := szOpS_l0 l (by omega) hl l.length k 0 (m - l.length) (by omega) (by omega) (by omega) (by omega)
 refine ⟨r, hr, ?_⟩
 rcases hr2 with h | ⟨p1, p2, p3⟩
 ·exact .inl h
 exact .inr ⟨p1, by omega, by omega, p3⟩
theorem szRule_f (a : LRu) (k : Nat) (hk : 1048576 < k) (m : Int) (h0 : 0 ≤ m) (h1 : m ≤ 1048576) (hl : a.f0.length ≤ 9223372036854775807 ∧ a.f1.length ≤ 9223372036854775807 ∧ ∀ b ∈ a.f1, b.f1.length ≤ 9223372036854775807) : ∃ r, laws_szRule.f k a.f0 a.f1 m = some r ∧ (r = -1 ∨ (0 ≤ r ∧ r ≤ m ∧ smR a)) := by
 obtain ⟨r, _, hr, hr2⟩ := szNum_f a.f0 m h0 h1 hl.1
 rw [laws_szRule.f, hr, Option.bind_some]
 rcases hr2 with rfl | ⟨q1, q2, q3⟩
 ·exact ⟨-1, by rw [if_pos (by decide)], .inl rfl⟩
 rw [if_neg (by omega)]
 obtain ⟨r', hr', hr2'⟩ := szOpS_f a.f1 hl.2.1 hl.2.2 k (by omega) r q1 (by omega)
 rw [hr', Option.bind_some]
 rcases hr2' with rfl | ⟨p1, p2, p3, p4⟩
 ·exact ⟨-1, by rw [if_pos (by decide)], .inl rfl⟩
 exact ⟨r', by rw [if_neg (by omega)], .inr ⟨p1, by omega, q3, p3, p4⟩⟩
theorem szRuleS_l0 (l : List LRu) (hm : l.length ≤ 1048576) (hl : ∀ a ∈ l, a.f0.length ≤ 9223372036854775807 ∧ a.f1.length ≤ 9223372036854775807 ∧ ∀ b ∈ a.f1, b.f1.length ≤ 9223372036854775807) : ∀ (d k i : Nat) (m : Int), l.length = i + d → d + 1048577 < k → 0 ≤ m → m ≤ 1048576 → ∃ r, laws_szRuleS.l0 k l m (i : Int) = some r ∧ (r = -1 ∨ (0 ≤ r ∧ r ≤ m ∧ ∀ a ∈ l.drop i, smR a))
 | d, 0, i, m, _, h, _, _ => by omega
 | 0, k + 1, i, m, h1, _, h2, _ => by
  refine ⟨m, by rw [laws_szRuleS.l0, if_neg (by omega)], .inr ⟨h2, by omega, fun a ha => ?_⟩⟩
  rw [List.drop_eq_nil_of_le (by omega)] at ha
  cases ha
 | d + 1, k + 1, i, m, h1, hk, h2, h3 => by
  have hi : i < l.length := by omega
  have hln := hl _ (List.getElem_mem hi)
  rw [laws_szRuleS.l0, if_pos (by omega), if_pos (by omega), rd_LRu hi]
  obtain ⟨r, hr, hr2⟩ := szRule_f l[i] k (by omega) m h2 h3 hln
  rw [hr, Option.bind_some]
  rcases hr2 with rfl | ⟨q1, q2, q3⟩
  ·exact ⟨-1, by rw [if_pos (by decide)], .inl rfl⟩
  rw [if_neg (by omega), wid (x := (i : Int) + 1) (by omega) (by omega)]
  obtain ⟨r', hr', hr2'⟩ := szRuleS_l0 l hm hl d k (i + 1) r (by omega) (by omega) q1 (by omega)
  rw [Int.natCast_succ] at hr'
  refine ⟨r', hr', ?_⟩
  rcases hr2' with h | ⟨p1, p2, p3⟩
  ·exact .inl h
  refine .inr ⟨p1, by omega, fun a ha => ?_⟩
  rw [List.drop_eq_getElem_cons hi] at ha
  rcases List.mem_cons.1 ha with rfl | ha
  ·exact q3
  exact p3 a ha
theorem szRuleS_f (l : List LRu) (hl0 : l.length ≤ 9223372036854775807) (hl : ∀ a ∈ l, a.f0.length ≤ 9223372036854775807 ∧ a.f1.length ≤ 9223372036854775807 ∧ ∀ b ∈ a.f1, b.f1.length ≤ 9223372036854775807) (k : Nat) (hk : 1048576 + 1048577 < k) (m : Int) (h0 : 0 ≤ m) (h1 : m ≤ 1048576) : ∃ r, laws_szRuleS.f k l m = some r ∧ (r = -1 ∨ (0 ≤ r ∧ r ≤ m ∧ l.length ≤ 1048576 ∧ ∀ a ∈ l, smR a)) := by
 rw [laws_szRuleS.f, wid (by omega) (by omega)]
 by_cases c : m - (l.length : Int) < 0
 ·exact ⟨-1, by rw [if_pos c], .inl rfl⟩
 rw [if_neg c]
 obtain ⟨r, hr, hr2⟩ := szRuleS_l0 l (by omega) hl l.length k 0 (m - l.length) (by omega) (by omega) (by omega) (by omega)
 refine ⟨r, hr, ?_⟩
 rcases hr2 with h | ⟨p1, p2, p3⟩
 ·exact .inl h
 exact .inr ⟨p1, by omega, by omega, p3⟩
theorem szLabel_f (a : LLa) (k : Nat) (hk : 1048576 < k) (m : Int) (h0 : 0 ≤ m) (h1 : m ≤ 1048576) (hl : a.f0.length ≤ 9223372036854775807 ∧ a.f2.length ≤ 9223372036854775807 ∧ ∀ b ∈ a.f2, b.f1.length ≤ 9223372036854775807) : ∃ r, laws_szLabel.f k a.f0 a.f1 a.f2 m = some r ∧ (r = -1 ∨ (0 ≤ r ∧ r ≤ m ∧ smL a)) := by
 obtain ⟨r, _, hr, hr2⟩ := szNum_f a.f0 m h0 h1 hl.1
 rw [laws_szLabel.f, hr, Option.bind_some]
 rcases hr2 with rfl | ⟨q1, q2, q3⟩
 ·exact ⟨-1, by rw [if_pos (by decide)], .inl rfl⟩
 rw [if_neg (by omega)]
 obtain ⟨r', hr', hr2'⟩ := szOpS_f a.f2 hl.2.1 hl.2.2 k (by omega) r q1 (by omega)
 rw [hr', Option.bind_some]
 rcases hr2' with rfl | ⟨p1, p2, p3, p4⟩
 ·exact ⟨-1, by rw [if_pos (by decide)], .inl rfl⟩
 exact ⟨r', by rw [if_neg (by omega)], .inr ⟨p1, by omega, q3, p3, p4⟩⟩
theorem szLabelS_l0 (l : List LLa) (hm : l.length ≤ 1048576) (hl : ∀ a ∈ l, a.f0.length ≤ 9223372036854775807 ∧ a.f2.length ≤ 9223372036854775807 ∧ ∀ b ∈ a.f2, b.f1.length ≤ 9223372036854775807) : ∀ (d k i : Nat) (m : Int), l.length = i + d → d + 1048577 < k → 0 ≤ m → m ≤ 1048576 → ∃ r, laws_szLabelS.l0 k l m (i : Int) = some r ∧ (r = -1 ∨ (0 ≤ r ∧ r ≤ m ∧ ∀ a ∈ l.drop i, smL a))
 | d, 0, i, m, _, h, _, _ => by omega
 | 0, k + 1, i, m, h1, _, h2, _ => by
  refine ⟨m, by rw [laws_szLabelS.l0, if_neg (by omega)], .inr ⟨h2, by omega, fun a ha => ?_⟩⟩
  rw [List.drop_eq_nil_of_le (by omega)] at ha
  cases ha
 | d + 1, k + 1, i, m, h1, hk, h2, h3 => by
  have hi : i < l.length := by omega
  have hln := hl _ (List.getElem_mem hi)
  rw [laws_szLabelS.l0, if_pos (by omega), if_pos (by omega), rd_LLa hi]
  obtain ⟨r, hr, hr2⟩ := szLabel_f l[i] k (by omega) m h2 h3 hln
  rw [hr, Option.bind_some]
  rcases hr2 with rfl | ⟨q1, q2, q3⟩
  ·exact ⟨-1, by rw [if_pos (by decide)], .inl rfl⟩
  rw [if_neg (by omega), wid (x := (i : Int) + 1) (by omega) (by omega)]
  obtain ⟨r', hr', hr2'⟩ := szLabelS_l0 l hm hl d k (i + 1) r (by omega) (by omega) q1 (by omega)
  rw [Int.natCast_succ] at hr'
  refine ⟨r', hr', ?_⟩
  rcases hr2' with h | ⟨p1, p2, p3⟩
  ·exact .inl h
  refine .inr ⟨p1, by omega, fun a ha => ?_⟩
  rw [List.drop_eq_getElem_cons hi] at ha
  rcases List.mem_cons.1 ha with rfl | ha
  ·exact q3
  exact p3 a ha
theorem szLabelS_f (l : List LLa) (hl0 : l.length ≤ 9223372036854775807) (hl : ∀ a ∈ l, a.f0.length ≤ 9223372036854775807 ∧ a.f2.length ≤ 9223372036854775807 ∧ ∀ b ∈ a.f2, b.f1.length ≤ 9223372036854775807) (k : Nat) (hk : 1048576 + 1048577 < k) (m : Int) (h0 : 0 ≤ m) (h1 : m ≤ 1048576) : ∃ r, laws_szLabelS.f k l m = some r ∧ (r = -1 ∨ (0 ≤ r ∧ r ≤ m ∧ l.length ≤ 1048576 ∧ ∀ a ∈ l, smL a)) := by
 rw [laws_szLabelS.f, wid (by omega) (by omega)]
 by_cases c : m - (l.length : Int) < 0
 ·exact ⟨-1, by rw [if_pos c], .inl rfl⟩
 rw [if_neg c]
 obtain ⟨r, hr, hr2⟩ := szLabelS_l0 l (by omega) hl l.length k 0 (m - l.length) (by omega) (by omega) (by omega) (by omega)
 refine ⟨r, hr, ?_⟩
 rcases hr2 with h | ⟨p1, p2, p3⟩
 ·exact .inl h
 exact .inr ⟨p1, by omega, by omega, p3⟩
def inR (l : List LRu) : Prop := l.length ≤ 9223372036854775807 ∧ ∀ a ∈ l, a.f0.length ≤ 9223372036854775807 ∧ a.f1.length ≤ 9223372036854775807 ∧ ∀ b ∈ a.f1, b.f1.length ≤ 9223372036854775807
def inL (l : List LLa) : Prop := l.length ≤ 9223372036854775807 ∧ ∀ a ∈ l, a.f0.length ≤ 9223372036854775807 ∧ a.f2.length ≤ 9223372036854775807 ∧ ∀ b ∈ a.f2, b.f1.length ≤ 9223372036854775807
theorem szGrammar_f (Rs : List LRu) (Ls : List LLa) (hR : inR Rs) (hL : inL Ls) (k : Nat) (hk : 3200000 < k) : ∃ r, laws_szGrammar.f k Rs Ls 1048576 = some r ∧ (r < 0 ∨ (0 ≤ r ∧ smRs Rs ∧ smLs Ls)) := by
 obtain ⟨r, hr, hr2⟩ := szRuleS_f Rs hR.1 hR.2 k (by omega) 1048576 (by omega) (by omega)
 rw [laws_szGrammar.f, hr, Option.bind_some]
 rcases hr2 with rfl | ⟨q1, q2, q3, q4⟩
 ·exact ⟨-1, by rw [if_pos (by decide)], .inl (by decide)⟩
 rw [if_neg (by omega)]
 obtain ⟨r', hr', hr2'⟩ := szLabelS_f Ls hL.1 hL.2 k (by omega) r q1 (by omega)
 rw [hr', Option.bind_some]
 rcases hr2' with rfl | ⟨p1, p2, p3, p4⟩
 ·exact ⟨-1, by rw [if_pos (by decide)], .inl (by decide)⟩
 exact ⟨r', by rw [if_neg (by omega)], .inr ⟨p1, ⟨q3, q4⟩, ⟨p3, p4⟩⟩⟩
end Go.Proofs.Ytdiilocgjnlmiaa.Tre
end
section
namespace Go.Proofs.Ytdiilocgjnlmiaa.Open
open Go.RowKit Go.Deep Go.Proofs.YtdiilocgjnlmiaaW.PrintWords Go.Proofs.YtdiilocgjnlmiaaW.PrintLast Go.Proofs.Ytdiilocgjnlmiaa.PAll Go.Proofs.Ytdiilocgjnlmiaa.Tre
section
variable {H : Type} {enc : TypeId × Value → H} {w : World} {base : Nat} {spare : Nat → Bool} {held : Bool}
theorem opens_mono {α : Type} {P : Program} {t : TypeId} {k : Kd α} {g g' : α → Prop} (h : Opens enc P w base spare held t k g) (hg : ∀ a, g a → g' a) : Opens enc P w base spare held t k g' := fun fuel cs x hx => by
 obtain ⟨a, h1, h2⟩ := h fuel cs x hx
 exact ⟨a, h1, hg a h2⟩
theorem opens_ints : Opens enc Try.prog w base spare held 38 (Kd.slice 3 (Kd.int .i64)) (fun l => l.length ≤ 9223372036854775807) :=
 opens_mono (opens_slice Try.underlying38 (by kernel_rfl) (opens_int Try.underlying3)) fun _ h => h.2
theorem opens_bytes : Opens enc Try.prog w base spare held 36 (Kd.slice 5 (Kd.int .u8)) (fun l => l.length ≤ 9223372036854775807) :=
 opens_mono (opens_slice Try.underlying36 (by kernel_rfl) (opens_int Try.underlying5)) fun _ h => h.2
theorem opens_op : Opens enc Try.prog w base spare held 234 k234 (fun a => a.f1.length ≤ 9223372036854775807) :=
 opens_mono (opens_iso _ (fun x => ⟨x.1, x.2.1, x.2.2⟩) (fun _ => rfl) (opens_3 (a := Kd.int .i64) (b := Kd.slice 3 (Kd.int .i64)) (c := Kd.int .i64) Try.underlying234 (by kernel_rfl) rfl rfl rfl (by kernel_rfl) (by kernel_rfl) (by kernel_rfl)
  (opens_int Try.underlying3) opens_ints (opens_int Try.underlying3))) fun _ h => h.2.1
theorem opens_ops : Opens enc Try.prog w base spare held 151 (Kd.slice 234 k234) (fun l => l.length ≤ 9223372036854775807 ∧ ∀ b ∈ l, b.f1.length ≤ 9223372036854775807) :=
 opens_mono (opens_slice Try.underlying151 (by kernel_rfl) opens_op) fun _ h => ⟨h.2, h.1⟩
theorem opens_rule : Opens enc Try.prog w base spare held 153 k153 (fun a => a.f0.length ≤ 9223372036854775807 ∧ a.f1.length ≤ 9223372036854775807 ∧ ∀ b ∈ a.f1, b.f1.length ≤ 9223372036854775807) :=
 opens_mono (opens_iso _ (fun x => ⟨x.1, x.2⟩) (fun _ => rfl) (opens_2 (a := Kd.slice 5 (Kd.int .u8)) (b := Kd.slice 234 k234) Try.underlying153 (by kernel_rfl) rfl rfl (by kernel_rfl) (by kernel_rfl) opens_bytes opens_ops)) fun _ h => ⟨h.1, h.2.1, h.2.2⟩
theorem opens_label : Opens enc Try.prog w base spare held 156 k156 (fun a => a.f0.length ≤ 9223372036854775807 ∧ a.f2.length ≤ 9223372036854775807 ∧ ∀ b ∈ a.f2, b.f1.length ≤ 9223372036854775807) :=
 opens_mono (opens_iso _ (fun x => ⟨x.1, x.2.1, x.2.2⟩) (fun _ => rfl) (opens_3 (a := Kd.slice 5 (Kd.int .u8)) (b := Kd.bool) (c := Kd.slice 234 k234) Try.underlying156 (by kernel_rfl) rfl rfl rfl (by kernel_rfl) (by kernel_rfl) (by kernel_rfl) opens_bytes (opens_bool Try.underlying4) opens_ops)) fun _ h => ⟨h.1, h.2.2.1, h.2.2.2⟩
theorem opens_rules : Opens enc Try.prog w base spare held 22 (Kd.slice 153 k153) inR :=
 opens_mono (opens_slice Try.underlying22 (by kernel_rfl) opens_rule) fun _ h => ⟨h.2, h.1⟩
theorem opens_labels : Opens enc Try.prog w base spare held 23 (Kd.slice 156 k156) inL :=
 opens_mono (opens_slice Try.underlying23 (by kernel_rfl) opens_label) fun _ h => ⟨h.2, h.1⟩
end
end Go.Proofs.Ytdiilocgjnlmiaa.Open
end
section
namespace Go.Proofs.Ytdiilocgjnlmiaa.Tre
open Go.RowKit Go.Proofs.YtdiilocgjnlmiaaW.PrintWords Go.Proofs.YtdiilocgjnlmiaaW.PrintLast Go.Proofs.YtdiilocgjnlmiaaW.PrintMore
open Go.Proofs.Ytdiilocgjnlmiaa.PAll
set_option linter.unusedVariables false
set_option linter.unusedSimpArgs false
def BoolPost (w : World) (b : Bool) (e : Ending) (w' : World) : Prop := e = .returned (.bool b) ∧ Below w.heap.size w w'
theorem opB_cases (R L k : Int) (s : List Int) (n : Int) : opB R L ⟨k, s, n⟩ = ((if k = 1 then canonB s else decide (s.length = 0)) && decide (0 ≤ n ∧ n < mostF R L k)) := rfl
theorem all_false {R L : Int} {ops : List Op} {i : Nat} {o : Op} (h : ops.all (opB R L) = (o :: ops.drop (i + 1)).all (opB R L)) (ho : opB R L o = false) : bodyB R L ops = false := by
 unfold bodyB
 rw [h, List.all_cons, ho]; rfl
theorem all_step {R L : Int} {ops : List Op} {i : Nat} {o : Op} (h : ops.all (opB R L) = (o :: ops.drop (i + 1)).all (opB R L)) (ho : opB R L o = true) : ops.all (opB R L) = (ops.drop (i + 1)).all (opB R L) := by
 rw [h, List.all_cons, ho]; rfl
theorem good_no {w W : World} {b : Bool} (h : b = false) (hb : Below w.heap.size w W) : BoolPost w b (.returned (.bool false)) W := ⟨by rw [h], hb⟩
theorem good_yes {w W : World} {b c : Bool} (h : b = c) (hb : Below w.heap.size w W) : BoolPost w b (.returned (.bool c)) W := ⟨by rw [h], hb⟩
theorem cell_new (w : World) (cs : Array Value) (t : TypeId) (j : Nat) (v : Value) (h : cs[j]? = some v) : (w.alloc (.cells cs t)).cell? ⟨w.heap.size, j, none⟩ = some v := by
 rw [cell_of_row _ _ _ _ _ _ (World.alloc_heap_new w _)]
 exact h
set_option maxRecDepth 100000 in
set_option maxHeartbeats 8000000 in
theorem goodBody_in (w : World) (A A0 A1 : Option Addr) (c R L c0 cL : Nat) (ops : List Op) (hr : Kd.C k79 w A ops.length ops) (hc : ops.length ≤ c) (hm : ops.length ≤ 1099511627776) (hs : ∀ o ∈ ops, o.f1.length ≤ 1099511627776) (hR : R ≤ 1099511627776) (hL : L ≤ 1099511627776) :
 Calls Try.prog 54 #[.agg #[.slice A0 R c0, .slice A1 L cL], .slice A ops.length c] w (BoolPost w (bodyB R L ops)) := by
 obtain ⟨K, hK⟩ : ∃ K : Nat, 1099511627776 < K := ⟨_, Nat.lt_succ_self _⟩
 have HK := Aside0.mk hK
 clear hK
 go_enter Try.func54, Try.ntmps54
 go_wp2
 have hw0 : Below w.heap.size w (w.alloc (Obj.cells #[.slice A0 R c0, .slice A1 L cL] 31)) := below_alloc (Below.refl _ _) _
 have g0 : (w.alloc (Obj.cells #[.slice A0 R c0, .slice A1 L cL] 31)).cell? ⟨w.heap.size, 0, none⟩ = some (.slice A0 R c0) := cell_new w _ _ 0 _ rfl
 have g1 : (w.alloc (Obj.cells #[.slice A0 R c0, .slice A1 L cL] 31)).cell? ⟨w.heap.size, 1, none⟩ = some (.slice A1 L cL) := cell_new w _ _ 1 _ rfl
 generalize hww : w.alloc (Obj.cells #[.slice A0 R c0, .slice A1 L cL] 31) = w0 at *
 have hr0 := Kd.C_below hr hw0
 have HW0 := Aside0.mk hw0
 clear hww hw0
 go_loopg [12] (ops.length + 1) (fun kq v12 w' => ∃ (i : Nat), v12 = .int .i64 (i : Int) ∧ Aside0 (i ≤ ops.length ∧ ops.length < i + kq ∧ ops.all (opB R L) = (ops.drop i).all (opB R L)) ∧ Aside0 (Below w0.heap.size w0 w'))
 case atStart => exact ⟨0, rfl, ⟨by omega, by omega, rfl⟩, ⟨Below.refl _ _⟩⟩
 case round =>
  obtain ⟨i, rfl, HI, hB0⟩ := hrel
  have hB := hB0.out
  clear hB0
  obtain ⟨i1, i2, i3⟩ := HI.out
  clear HI
  cases gk with
  | zero => omega
  | succ k1 =>
   replace g0 := pw_cell_below hB g0
   replace g1 := pw_cell_below hB g1
   have lb : w.heap.size < wr.heap.size := World.block_lt_of_cell? wr ⟨w.heap.size, 0, none⟩ g0
   by_cases hi : i < ops.length
   rotate_left
   ·have d1 : decide ((i : Int) < (ops.length : Int)) = false := decide_eq_false (by omega)
    rw [List.drop_eq_nil_of_le (by omega)] at i3
    have I3 := Lib.hid i3
    have HB := Aside0.mk hB
    have hr1 := Kd.C_below hr0 hB
    have HR := Aside0.mk hr1
    clear i3 hB hr hr0 hr1
    go_wp2_with (first
     | ((with_reducible refine gate_dst (N := 57) rfl ?_); go_must (refine goesL_ (some 57) rfl rfl Try.func90 (by kernel_rfl) rfl #[.slice A ops.length c] rfl (by (try simp only [List.map_toArray, List.map_cons, List.map_nil]); first | done | rfl) ?_; refine (tree_in _ A c ops HR.out hc hm).mono ?_); rintro e w' ⟨v, b, rfl, hb1, hb2, -, -⟩; have HB1 := Aside0.mk hb1; have HB2 := Lib.hid hb2; clear hb1 hb2; refine ⟨_, rfl, ?_⟩))
    go_ret
    refine good_yes ?_ (below_then HW0.out HW0.out.size (below_then HB.out HB.out.size HB1.out))
    rw [HB2.out]
    unfold bodyB
    rw [I3.out]; rfl
   have d1 : decide ((i : Int) < (ops.length : Int)) = true := decide_eq_true (by omega)
   obtain ⟨ad, AS, cS, rfl, x0, x1, x2, y1, y2⟩ := at_T79 hr0 (i : Int) (by omega) (by omega)
   rw [Int.toNat_natCast] at x0 x1 x2
   replace x0 := pw_cell_below hB x0
   replace x1 := pw_cell_below hB x1
   replace x2 := pw_cell_below hB x2
   replace y2 := Kd.C_below y2 hB
   have d2 : (0 ≤ (i : Int)) = True := eq_true (by omega)
   have d3 : ((i : Int) < (ops.length : Int)) = True := eq_true (by omega)
   have hsz := hs (rd_T79 ops (i : Int)) (by
    have := drop_op (ops := ops) (i := i) (by omega)
    exact List.mem_of_mem_drop (by rw [this]; exact List.mem_cons_self))
   rw [drop_op hi] at i3
   generalize ho : rd_T79 ops (i : Int) = o at *
   obtain ⟨k, s, n⟩ := o
   simp only at x0 x1 x2 y1 y2 hsz
   have I3 := Lib.hid i3
   clear i3 ho
   have HY := Aside0.mk y2
   have HB := Aside0.mk hB
   clear y2 hr hB hr0 hs
   have fin : ∀ (W : World), Below w0.heap.size w0 W → Below w.heap.size w W := fun W h => below_then HW0.out HW0.out.size h
   have FIN := Aside0.mk fin
   clear fin
   rcases (by omega : k = 1 ∨ k = 2 ∨ k = 3 ∨ (k ≠ 1 ∧ k ≠ 2 ∧ k ≠ 3)) with rfl | rfl | rfl | ⟨ka, kb, kc⟩
   ·have hf := canonical_f s hsz K (by have := HK.out; omega)
    have hop := opB_cases R L 1 s n
    rw [if_pos rfl, show mostF R L 1 = 1 from rfl] at hop
    cases hcb : canonB s
    ·rw [hcb] at hf hop
     have HO : Hid (opB R L ⟨1, s, n⟩ = false) := hop
     clear hop hcb
     go_wp2_with (first
      | ((with_reducible refine gate_dst (N := 22) rfl ?_); go_must (refine goesL_ (some 22) rfl rfl Try.func107 (by kernel_rfl) rfl #[.slice AS s.length cS] rfl (by (try simp only [List.map_toArray, List.map_cons, List.map_nil]); first | done | rfl) ?_; refine (impl_canonical.calls K _ cS s _ _ (Kd.C_alloc HY.out _) y1 hf).mono ?_); rintro e w' ⟨rfl, ⟨nd, rfl⟩⟩; refine ⟨_, rfl, ?_⟩))
     go_ret
     exact good_no (all_false I3.out HO.out) (FIN.out _ (by repeat (with_reducible first | exact HB.out | apply below_alloc | apply pw_below_drewN | apply below_drew1)))
    rw [hcb] at hf hop
    clear hcb
    by_cases ca : n < 0
    ·have fa : decide (n < 0) = true := decide_eq_true ca
     have HO : Hid (opB R L ⟨1, s, n⟩ = false) := by rw [hop, decide_eq_false (by omega)]; rfl
     clear hop
     go_wp2_with (first
      | ((with_reducible refine gate_dst (N := 22) rfl ?_); go_must (refine goesL_ (some 22) rfl rfl Try.func107 (by kernel_rfl) rfl #[.slice AS s.length cS] rfl (by (try simp only [List.map_toArray, List.map_cons, List.map_nil]); first | done | rfl) ?_; refine (impl_canonical.calls K _ cS s _ _ (Kd.C_alloc HY.out _) y1 hf).mono ?_); rintro e w' ⟨rfl, ⟨nd, rfl⟩⟩; refine ⟨_, rfl, ?_⟩))
     go_ret
     exact good_no (all_false I3.out HO.out) (FIN.out _ (by repeat (with_reducible first | exact HB.out | apply below_alloc | apply pw_below_drewN | apply below_drew1)))
    have fa : decide (n < 0) = false := decide_eq_false ca
    by_cases cb : n ≥ 1
    ·have fb : decide (n ≥ 1) = true := decide_eq_true cb
     have HO : Hid (opB R L ⟨1, s, n⟩ = false) := by rw [hop, decide_eq_false (by omega)]; rfl
     clear hop
     go_wp2_with (first
      | ((with_reducible refine gate_dst (N := 22) rfl ?_); go_must (refine goesL_ (some 22) rfl rfl Try.func107 (by kernel_rfl) rfl #[.slice AS s.length cS] rfl (by (try simp only [List.map_toArray, List.map_cons, List.map_nil]); first | done | rfl) ?_; refine (impl_canonical.calls K _ cS s _ _ (Kd.C_alloc HY.out _) y1 hf).mono ?_); rintro e w' ⟨rfl, ⟨nd, rfl⟩⟩; refine ⟨_, rfl, ?_⟩))
     go_ret
     exact good_no (all_false I3.out HO.out) (FIN.out _ (by repeat (with_reducible first | exact HB.out | apply below_alloc | apply pw_below_drewN | apply below_drew1)))
    have fb : decide (n ≥ 1) = false := decide_eq_false cb
    have HO : Hid (opB R L ⟨1, s, n⟩ = true) := by rw [hop, decide_eq_true (by omega)]; rfl
    clear hop
    go_wp2_with (first
     | ((with_reducible refine gate_dst (N := 22) rfl ?_); go_must (refine goesL_ (some 22) rfl rfl Try.func107 (by kernel_rfl) rfl #[.slice AS s.length cS] rfl (by (try simp only [List.map_toArray, List.map_cons, List.map_nil]); first | done | rfl) ?_; refine (impl_canonical.calls K _ cS s _ _ (Kd.C_alloc HY.out _) y1 hf).mono ?_); rintro e w' ⟨rfl, ⟨nd, rfl⟩⟩; refine ⟨_, rfl, ?_⟩))
    go_roundg k1
    case measure => omega
    case rel => exact ⟨i + 1, by first | rfl | (simp; done) | (rw [wid (by omega) (by omega)]; simp), ⟨by omega, by omega, all_step I3.out HO.out⟩, ⟨by repeat (with_reducible first | exact HB.out | apply below_alloc | apply pw_below_drewN | apply below_drew1)⟩⟩
   ·have hop := opB_cases R L 2 s n
    rw [if_neg (by decide), show mostF (R : Int) L 2 = (R : Int) from rfl] at hop
    by_cases cs : s.length = 0
    rotate_left
    ·have fs : ((s.length : Int) != 0) = true := by rw [bne_iff_ne]; omega
     have HO : Hid (opB R L ⟨2, s, n⟩ = false) := by rw [hop, decide_eq_false cs]; rfl
     clear hop
     go_wp2
     go_ret
     exact good_no (all_false I3.out HO.out) (FIN.out _ (by repeat (with_reducible first | exact HB.out | apply below_alloc | apply pw_below_drewN | apply below_drew1)))
    have fs : ((s.length : Int) != 0) = false := by rw [bne_eq_false_iff_eq]; omega
    rw [decide_eq_true cs] at hop
    clear cs
    by_cases ca : n < 0
    ·have fa : decide (n < 0) = true := decide_eq_true ca
     have HO : Hid (opB R L ⟨2, s, n⟩ = false) := by rw [hop, decide_eq_false (by omega)]; rfl
     clear hop
     go_wp2
     go_ret
     exact good_no (all_false I3.out HO.out) (FIN.out _ (by repeat (with_reducible first | exact HB.out | apply below_alloc | apply pw_below_drewN | apply below_drew1)))
    have fa : decide (n < 0) = false := decide_eq_false ca
    by_cases cb : n ≥ (R : Int)
    ·have fb : decide (n ≥ (R : Int)) = true := decide_eq_true cb
     have HO : Hid (opB R L ⟨2, s, n⟩ = false) := by rw [hop, decide_eq_false (by omega)]; rfl
     clear hop
     go_wp2
     go_ret
     exact good_no (all_false I3.out HO.out) (FIN.out _ (by repeat (with_reducible first | exact HB.out | apply below_alloc | apply pw_below_drewN | apply below_drew1)))
    have fb : decide (n ≥ (R : Int)) = false := decide_eq_false cb
    have HO : Hid (opB R L ⟨2, s, n⟩ = true) := by rw [hop, decide_eq_true (by omega)]; rfl
    clear hop
    go_wp2
    go_roundg k1
    case measure => omega
    case rel => exact ⟨i + 1, by first | rfl | (simp; done) | (rw [wid (by omega) (by omega)]; simp), ⟨by omega, by omega, all_step I3.out HO.out⟩, ⟨by repeat (with_reducible first | exact HB.out | apply below_alloc | apply pw_below_drewN | apply below_drew1)⟩⟩
   ·have hop := opB_cases R L 3 s n
    rw [if_neg (by decide), show mostF (R : Int) L 3 = (L : Int) from rfl] at hop
    by_cases cs : s.length = 0
    rotate_left
    ·have fs : ((s.length : Int) != 0) = true := by rw [bne_iff_ne]; omega
     have HO : Hid (opB R L ⟨3, s, n⟩ = false) := by rw [hop, decide_eq_false cs]; rfl
     clear hop
     go_wp2
     go_ret
     exact good_no (all_false I3.out HO.out) (FIN.out _ (by repeat (with_reducible first | exact HB.out | apply below_alloc | apply pw_below_drewN | apply below_drew1)))
    have fs : ((s.length : Int) != 0) = false := by rw [bne_eq_false_iff_eq]; omega
    rw [decide_eq_true cs] at hop
    clear cs
    by_cases ca : n < 0
    ·have fa : decide (n < 0) = true := decide_eq_true ca
     have HO : Hid (opB R L ⟨3, s, n⟩ = false) := by rw [hop, decide_eq_false (by omega)]; rfl
     clear hop
     go_wp2
     go_ret
     exact good_no (all_false I3.out HO.out) (FIN.out _ (by repeat (with_reducible first | exact HB.out | apply below_alloc | apply pw_below_drewN | apply below_drew1)))
    have fa : decide (n < 0) = false := decide_eq_false ca
    by_cases cb : n ≥ (L : Int)
    ·have fb : decide (n ≥ (L : Int)) = true := decide_eq_true cb
     have HO : Hid (opB R L ⟨3, s, n⟩ = false) := by rw [hop, decide_eq_false (by omega)]; rfl
     clear hop
     go_wp2
     go_ret
     exact good_no (all_false I3.out HO.out) (FIN.out _ (by repeat (with_reducible first | exact HB.out | apply below_alloc | apply pw_below_drewN | apply below_drew1)))
    have fb : decide (n ≥ (L : Int)) = false := decide_eq_false cb
    have HO : Hid (opB R L ⟨3, s, n⟩ = true) := by rw [hop, decide_eq_true (by omega)]; rfl
    clear hop
    go_wp2
    go_roundg k1
    case measure => omega
    case rel => exact ⟨i + 1, by first | rfl | (simp; done) | (rw [wid (by omega) (by omega)]; simp), ⟨by omega, by omega, all_step I3.out HO.out⟩, ⟨by repeat (with_reducible first | exact HB.out | apply below_alloc | apply pw_below_drewN | apply below_drew1)⟩⟩
   have fk1 : (k == 1) = false := by simpa using ka
   have fk2 : (k == 2) = false := by simpa using kb
   have fk3 : (k == 3) = false := by simpa using kc
   have fk4 : (k != 1) = true := by simpa using ka
   have hop := opB_cases R L k s n
   rw [if_neg ka, show mostF R L k = 1 by unfold mostF; rw [if_neg kc, if_neg kb]] at hop
   by_cases cs : s.length = 0
   rotate_left
   ·have fs : ((s.length : Int) != 0) = true := by rw [bne_iff_ne]; omega
    have HO : Hid (opB R L ⟨k, s, n⟩ = false) := by rw [hop, decide_eq_false cs]; rfl
    clear hop
    go_wp2
    go_ret
    exact good_no (all_false I3.out HO.out) (FIN.out _ (by repeat (with_reducible first | exact HB.out | apply below_alloc | apply pw_below_drewN | apply below_drew1)))
   have fs : ((s.length : Int) != 0) = false := by rw [bne_eq_false_iff_eq]; omega
   rw [decide_eq_true cs] at hop
   clear cs
   by_cases ca : n < 0
   ·have fa : decide (n < 0) = true := decide_eq_true ca
    have HO : Hid (opB R L ⟨k, s, n⟩ = false) := by rw [hop, decide_eq_false (by omega)]; rfl
    clear hop
    go_wp2
    go_ret
    exact good_no (all_false I3.out HO.out) (FIN.out _ (by repeat (with_reducible first | exact HB.out | apply below_alloc | apply pw_below_drewN | apply below_drew1)))
   have fa : decide (n < 0) = false := decide_eq_false ca
   by_cases cb : n ≥ 1
   ·have fb : decide (n ≥ 1) = true := decide_eq_true cb
    have HO : Hid (opB R L ⟨k, s, n⟩ = false) := by rw [hop, decide_eq_false (by omega)]; rfl
    clear hop
    go_wp2
    go_ret
    exact good_no (all_false I3.out HO.out) (FIN.out _ (by repeat (with_reducible first | exact HB.out | apply below_alloc | apply pw_below_drewN | apply below_drew1)))
   have fb : decide (n ≥ 1) = false := decide_eq_false cb
   have HO : Hid (opB R L ⟨k, s, n⟩ = true) := by rw [hop, decide_eq_true (by omega)]; rfl
   clear hop
   go_wp2
   go_roundg k1
   case measure => omega
   case rel => exact ⟨i + 1, by first | rfl | (simp; done) | (rw [wid (by omega) (by omega)]; simp), ⟨by omega, by omega, all_step I3.out HO.out⟩, ⟨by repeat (with_reducible first | exact HB.out | apply below_alloc | apply pw_below_drewN | apply below_drew1)⟩⟩
end Go.Proofs.Ytdiilocgjnlmiaa.Tre
end
section
namespace Go.Proofs.Ytdiilocgjnlmiaa.Tre
open Go.RowKit Go.Proofs.YtdiilocgjnlmiaaW.PrintWords Go.Proofs.YtdiilocgjnlmiaaW.PrintLast Go.Proofs.YtdiilocgjnlmiaaW.PrintMore
open Go.Proofs.Ytdiilocgjnlmiaa.PAll
set_option linter.unusedVariables false
set_option linter.unusedSimpArgs false
def Like (v v' : Value) : Prop := v' = v ∨ (∃ k a b, v = .int k a ∧ v' = .int k b) ∨ (∃ a b, v = .bool a ∧ v' = .bool b)
theorem Like.refl (v : Value) : Like v v := .inl rfl
theorem Like.trans {a b c : Value} (h : Like a b) (k : Like b c) : Like a c := by
 rcases h with rfl | ⟨q, x, y, rfl, rfl⟩ | ⟨x, y, rfl, rfl⟩
 ·exact k
 ·rcases k with rfl | ⟨q', x', y', h', rfl⟩ | ⟨x', y', h', rfl⟩
  ·exact .inr (.inl ⟨_, _, _, rfl, rfl⟩)
  ·cases h'; exact .inr (.inl ⟨_, _, _, rfl, rfl⟩)
  cases h'
 rcases k with rfl | ⟨q', x', y', h', rfl⟩ | ⟨x', y', h', rfl⟩
 ·exact .inr (.inr ⟨_, _, rfl, rfl⟩)
 ·cases h'
 exact .inr (.inr ⟨_, _, rfl, rfl⟩)
theorem Like.slice {A : Option Addr} {n c : Nat} {v : Value} (h : Like (.slice A n c) v) : v = .slice A n c := by
 rcases h with rfl | ⟨q, x, y, h, rfl⟩ | ⟨x, y, h, rfl⟩
 ·rfl
 ·cases h
 cases h
theorem Like.int {k : IntKind} {a : Int} {v : Value} (h : Like (.int k a) v) : ∃ b, v = .int k b := by
 rcases h with rfl | ⟨q, x, y, h, rfl⟩ | ⟨x, y, h, rfl⟩
 ·exact ⟨_, rfl⟩
 ·cases h; exact ⟨_, rfl⟩
 cases h
theorem Like.bool {a : Bool} {v : Value} (h : Like (.bool a) v) : ∃ b, v = .bool b := by
 rcases h with rfl | ⟨q, x, y, h, rfl⟩ | ⟨x, y, h, rfl⟩
 ·exact ⟨_, rfl⟩
 ·cases h
 cases h; exact ⟨_, rfl⟩
structure Evo (X : Nat → Prop) (W W' : World) : Prop where
 os : W'.os = W.os
 tape : W'.tape = W.tape
 output : W'.output = W.output
 size : W.heap.size ≤ W'.heap.size
 same : ∀ k, k < W.heap.size → ¬ X k → W'.heap[k]? = W.heap[k]?
 like : ∀ (k : Nat) (cur : Array Value) (t : TypeId) (fz : Nat × Nat), W.heap[k]? = some (Obj.cells cur t fz) → ∃ cur' : Array Value, W'.heap[k]? = some (Obj.cells cur' t fz) ∧ cur'.size = cur.size ∧ ∀ (j : Nat) (v : Value), cur[j]? = some v → ∃ v' : Value, cur'[j]? = some v' ∧ Like v v'
theorem Evo.refl (X : Nat → Prop) (W : World) : Evo X W W := ⟨rfl, rfl, rfl, Nat.le_refl _, fun _ _ _ => rfl, fun k cur t fz h => ⟨cur, h, rfl, fun j v hv => ⟨v, hv, Like.refl v⟩⟩⟩
theorem Evo.mono {X Y : Nat → Prop} {W W' : World} (h : Evo X W W') (hX : ∀ k, X k → Y k) : Evo Y W W' := ⟨h.os, h.tape, h.output, h.size, fun k hk hy => h.same k hk fun hx => hy (hX k hx), h.like⟩
theorem Evo.trans {X : Nat → Prop} {A B C : World} (h : Evo X A B) (k : Evo X B C) : Evo X A C :=
 ⟨k.os.trans h.os, k.tape.trans h.tape, k.output.trans h.output, Nat.le_trans h.size k.size, fun b hb hx => (k.same b (Nat.lt_of_lt_of_le hb h.size) hx).trans (h.same b hb hx), fun b cur t fz hb => by
  obtain ⟨c1, e1, s1, l1⟩ := h.like b cur t fz hb
  obtain ⟨c2, e2, s2, l2⟩ := k.like b c1 t fz e1
  refine ⟨c2, e2, s2.trans s1, fun j v hv => ?_⟩
  obtain ⟨v1, hv1, g1⟩ := l1 j v hv
  obtain ⟨v2, hv2, g2⟩ := l2 j v1 hv1
  exact ⟨v2, hv2, g1.trans g2⟩⟩
theorem Evo.of_below {X : Nat → Prop} {W W' : World} (h : Below W.heap.size W W') : Evo X W W' :=
 ⟨h.os, h.tape, h.output, h.size, fun k hk _ => h.block k hk, fun k cur t fz hk => by
  have hlt : k < W.heap.size := (Array.getElem?_eq_some_iff.1 hk).1
  exact ⟨cur, (h.block k hlt).trans hk, rfl, fun j v hv => ⟨v, hv, Like.refl v⟩⟩⟩
theorem Evo.below {X : Nat → Prop} {B : Nat} {W W' : World} (h : Evo X W W') (hB : B ≤ W.heap.size) (hX : ∀ k, X k → B ≤ k) : Below B W W' :=
 ⟨h.os, h.tape, h.output, h.size, fun k hk => h.same k (by omega) fun hx => by have := hX k hx; omega⟩
theorem Evo.set {X : Nat → Prop} {W : World} {g j : Nat} {cur : Array Value} {t : TypeId} {fz : Nat × Nat} {v u : Value} (hg : W.heap[g]? = some (Obj.cells cur t fz)) (hj : cur[j]? = some v) (hX : X g) (hl : Like v u) : Evo X W (W.setCell ⟨g, j, none⟩ u) := by
 have hs := setCell_eq_setRow W g j cur t fz u hg
 rw [hs]
 refine ⟨rfl, rfl, rfl, by simp, fun k hk hx => setRow_other W g k _ fun e => hx (e ▸ hX), fun k c t' fz' hk => ?_⟩
 by_cases e : k = g
 rotate_left
 ·exact ⟨c, (setRow_other W g k _ e).trans hk, rfl, fun i x hx => ⟨x, hx, Like.refl x⟩⟩
 subst e
 rw [hg] at hk
 cases hk
 refine ⟨_, setRow_heap W k cur _ t _ hg, by simp, fun i x hx => ?_⟩
 by_cases e : i = j
 ·subst e
  rw [hj] at hx
  cases hx
  have hi : i < cur.size := (Array.getElem?_eq_some_iff.1 hj).1
  exact ⟨u, by simp [hi], hl⟩
 exact ⟨x, by rw [Array.getElem?_setIfInBounds_ne (fun h => e h.symm)]; exact hx, Like.refl x⟩
def WRow (W : World) (X : Nat → Prop) (t : TypeId) (sz : Nat) (p : Nat → List Value → Prop) (v : Value) (n : Nat) : Prop :=
 ∃ A c, v = .slice A n c ∧ n ≤ c ∧ n ≤ 1099511627776 ∧ ((A = none ∧ n = 0) ∨ ∃ (g : Nat) (cur : Array Value), A = some ⟨g, 0, none⟩ ∧ X g ∧ W.heap[g]? = some (Obj.cells cur t (0, 0)) ∧ ∀ i, i < n → ∃ cs : List Value, cs.length = sz ∧ (∀ (j : Nat) (u : Value), cs[j]? = some u → cur[i * sz + j]? = some u) ∧ p i cs)
theorem WRow.evo {W W' : World} {X Y : Nat → Prop} {t : TypeId} {sz : Nat} {p p' : Nat → List Value → Prop} {v : Value} {n : Nat} (h : WRow W X t sz p v n) (he : Evo Y W W') (hp : ∀ (i : Nat) (cs cs' : List Value), p i cs → cs'.length = cs.length → (∀ (j : Nat) (u : Value), cs[j]? = some u → ∃ u' : Value, cs'[j]? = some u' ∧ Like u u') → p' i cs') : WRow W' X t sz p' v n := by
 obtain ⟨A, c, rfl, hc, hn, h⟩ := h
 refine ⟨A, c, rfl, hc, hn, ?_⟩
 rcases h with h | ⟨g, cur, rfl, hX, hg, h⟩
 ·exact .inl h
 obtain ⟨cur', hg', hs, hl⟩ := he.like g cur t _ hg
 refine .inr ⟨g, cur', rfl, hX, hg', fun i hi => ?_⟩
 obtain ⟨cs, hcs, hcell, hpi⟩ := h i hi
 have hx : ∀ j, j < sz → ∃ u u' : Value, cs[j]? = some u ∧ cur'[i * sz + j]? = some u' ∧ Like u u' := fun j hj => by
  have hu : cs[j]? = some cs[j] := List.getElem?_eq_getElem (by omega)
  obtain ⟨u', h1, h2⟩ := hl _ _ (hcell j _ hu)
  exact ⟨_, u', hu, h1, h2⟩
 refine ⟨(List.range sz).map fun j => (cur'[i * sz + j]?).getD undef, by simp, fun j u hu => ?_, hp i cs _ hpi (by simp [hcs]) fun j u hu => ?_⟩
 ·have hj : j < sz := by
   have := (List.getElem?_eq_some_iff.1 hu).1
   simpa using this
  obtain ⟨_, u', _, h2, _⟩ := hx j hj
  simp [hj, h2] at hu
  rw [h2, hu]
 have hj : j < sz := by
  have := (List.getElem?_eq_some_iff.1 hu).1
  omega
 obtain ⟨u0, u', h1, h2, h3⟩ := hx j hj
 rw [h1] at hu
 cases hu
 exact ⟨u', by simp [hj, h2], h3⟩
def pInt (k : IntKind) : Nat → List Value → Prop := fun _ cs => ∃ a, cs = [.int k a]
abbrev WInts (W : World) (X : Nat → Prop) (t : TypeId) (k : IntKind) (v : Value) (n : Nat) : Prop := WRow W X t 1 (pInt k) v n
theorem like_one {cs cs' : List Value} {x : Value} (h : cs = [x]) (hl : cs'.length = cs.length) (hh : ∀ (j : Nat) (u : Value), cs[j]? = some u → ∃ u' : Value, cs'[j]? = some u' ∧ Like u u') : ∃ x', cs' = [x'] ∧ Like x x' := by
 subst h
 obtain ⟨x', h1, h2⟩ := hh 0 x rfl
 match cs', hl, h1 with
 | [y], _, h1 => cases h1; exact ⟨_, rfl, h2⟩
theorem WInts.evo {W W' : World} {X Y : Nat → Prop} {t : TypeId} {k : IntKind} {v : Value} {n : Nat} (h : WInts W X t k v n) (he : Evo Y W W') : WInts W' X t k v n :=
 WRow.evo h he fun i cs cs' ⟨a, e⟩ hl hh => by
  obtain ⟨x', rfl, h2⟩ := like_one e hl hh
  obtain ⟨b, rfl⟩ := h2.int
  exact ⟨b, rfl⟩
theorem WInts.at {W : World} {X : Nat → Prop} {t : TypeId} {k : IntKind} {A : Option Addr} {c n i : Nat} (h : WInts W X t k (.slice A n c) n) (hi : i < n) : ∃ g cur a, A = some ⟨g, 0, none⟩ ∧ X g ∧ W.heap[g]? = some (Obj.cells cur t (0, 0)) ∧ cur[i]? = some (.int k a) ∧ W.cell? ⟨g, i, none⟩ = some (.int k a) ∧ W.frozen? ⟨g, i, none⟩ = false := by
 obtain ⟨A', c', e, hc, hn, h⟩ := h
 cases e
 rcases h with h | ⟨g, cur, rfl, hX, hg, h⟩
 ·omega
 obtain ⟨cs, _, h2, ⟨a, rfl⟩⟩ := h i hi
 have h3 := h2 0 _ rfl
 rw [Nat.mul_one, Nat.add_zero] at h3
 refine ⟨g, cur, a, rfl, hX, hg, h3, ?_, ?_⟩
 ·rw [cell_of_row _ _ _ _ _ _ hg]; exact h3
 simp [World.frozen?, hg]
theorem WRow.block {W : World} {X : Nat → Prop} {t : TypeId} {sz : Nat} {p : Nat → List Value → Prop} {v : Value} {n b : Nat} (h : WRow W X t sz p v n) (hb : v.ownBlock = some b) : X b ∧ ∃ cur, W.heap[b]? = some (Obj.cells cur t (0, 0)) := by
 obtain ⟨A, c, rfl, hc, hn, h⟩ := h
 rcases h with ⟨rfl, _⟩ | ⟨g, cur, rfl, hX, hg, h⟩
 ·simp [Value.ownBlock] at hb
 simp [Value.ownBlock] at hb
 subst hb
 exact ⟨hX, cur, hg⟩
end Go.Proofs.Ytdiilocgjnlmiaa.Tre
end
section
namespace Go.Proofs.Ytdiilocgjnlmiaa.Tre
open Go.RowKit Go.Proofs.YtdiilocgjnlmiaaW.PrintWords Go.Proofs.YtdiilocgjnlmiaaW.PrintLast Go.Proofs.YtdiilocgjnlmiaaW.PrintMore
open Go.Proofs.Ytdiilocgjnlmiaa.PAll
set_option linter.unusedVariables false
set_option linter.unusedSimpArgs false
def ownX (A : Option Addr) (b : Nat) : Prop := ∃ a, A = some a ∧ a.block = b
structure FlatSt (W W' : World) (A : Option Addr) (i : Nat) (f : Nat → Value) : Prop where
 evo : Evo (ownX A) W W'
 cont : ∀ g, A = some ⟨g, 0, none⟩ → ∀ j, j < i → W'.cell? ⟨g, j, none⟩ = some (f j)
def FlatPost (W : World) (A : Option Addr) (n : Nat) (f : Nat → Value) (k' : Int) (e : Ending) (W' : World) : Prop := e = .returned (.int .i64 k') ∧ FlatSt W W' A n f
theorem FlatSt.start (W : World) (A : Option Addr) (f : Nat → Value) : FlatSt W W A 0 f := ⟨Evo.refl _ _, fun g hg j hj => absurd hj (Nat.not_lt_zero _)⟩
theorem FlatSt.next {W W' : World} {g i : Nat} {f : Nat → Value} {cur : Array Value} {t : TypeId} {v : Value} (h : FlatSt W W' (some ⟨g, 0, none⟩) i f) (hg : W'.heap[g]? = some (Obj.cells cur t (0, 0))) (hj : cur[i]? = some v) (hl : Like v (f i)) :
 FlatSt W (W'.setCell ⟨g, i, none⟩ (f i)) (some ⟨g, 0, none⟩) (i + 1) f := by
 refine ⟨h.evo.trans (Evo.set hg hj ⟨_, rfl, rfl⟩ hl), fun g' e j hj' => ?_⟩
 cases e
 have hi : i < cur.size := (Array.getElem?_eq_some_iff.1 hj).1
 have hs := setCell_eq_setRow W' g i cur t (0, 0) (f i) hg
 rw [hs, cell_of_row _ _ _ _ _ _ (setRow_heap W' g cur _ t _ hg)]
 by_cases e : j = i
 ·subst e
  simp [hi]
 rw [Array.getElem?_setIfInBounds_ne (fun h => e h.symm)]
 have := h.cont g rfl j (by omega)
 rw [cell_of_row _ _ _ _ _ _ hg] at this
 exact this
set_option maxRecDepth 100000 in
set_option maxHeartbeats 4000000 in
theorem markInt_in (W : World) (X : Nat → Prop) (A : Option Addr) (n c : Nat) (k : Int) (hV : WInts W X 3 .i64 (.slice A n c) n) (hn : n ≤ 1099511627776) (h0 : 0 ≤ k) (h1 : k ≤ 4611686018427387904) :
 Calls Try.prog 68 #[.slice A n c, .int .i64 k] W (FlatPost W A n (fun j => .int .i64 (k + j)) (k + n)) := by
 have HV := Aside0.mk hV
 clear hV
 go_enter Try.func68, Try.ntmps68
 go_wp2
 go_loopg [1, 5] (n + 1) (fun kq v1 v5 W' => ∃ (i : Nat), v1 = .int .i64 (k + (i : Int)) ∧ v5 = .int .i64 (i : Int) ∧ Aside0 (i ≤ n ∧ n < i + kq) ∧ FlatSt W W' A i (fun j => .int .i64 (k + (j : Int))))
 case atStart => exact ⟨0, by simp, rfl, ⟨by omega, by omega⟩, FlatSt.start _ _ _⟩
 case round =>
  obtain ⟨i, rfl, rfl, HI, hS⟩ := hrel
  obtain ⟨i1, i2⟩ := HI.out
  clear HI
  cases gk with
  | zero => omega
  | succ k1 =>
   by_cases hi : i < n
   ·have d1 : decide ((i : Int) < (n : Int)) = true := decide_eq_true (by omega)
    have d1n : decide (i < n) = true := decide_eq_true hi
    obtain ⟨g, cur, a, rfl, -, hg, hj, hc, hf⟩ := WInts.at (WInts.evo HV.out hS.evo) hi
    have e2 : (0 ≤ (i : Int)) = True := eq_true (by omega)
    have e3 : ((i : Int) < (n : Int)) = True := eq_true (by omega)
    have HG := Aside0.mk hg
    have HJ := Aside0.mk hj
    clear hg hj
    go_wp2
    go_roundg k1
    case measure => omega
    case rel => exact ⟨i + 1, by first | (simp; omega) | (rw [wid (by omega) (by omega)]; simp; omega), by first | rfl | (simp; done) | (rw [wid (by omega) (by omega)]; simp), ⟨by omega, by omega⟩, hS.next HG.out HJ.out (.inr (.inl ⟨_, _, _, rfl, rfl⟩))⟩
   have d1 : decide ((i : Int) < (n : Int)) = false := decide_eq_false (by omega)
   have e : i = n := by omega
   subst e
   go_wp2
   go_ret
   exact ⟨rfl, hS⟩
set_option maxRecDepth 100000 in
set_option maxHeartbeats 4000000 in
theorem markByte_in (W : World) (X : Nat → Prop) (A : Option Addr) (n c : Nat) (k : Int) (hV : WInts W X 5 .u8 (.slice A n c) n) (hn : n ≤ 1099511627776) (h0 : 0 ≤ k) (h1 : k ≤ 4611686018427387904) :
 Calls Try.prog 24 #[.slice A n c, .int .i64 k] W (FlatPost W A n (fun j => .int .u8 ((k + j) % 256)) (k + n)) := by
 have HV := Aside0.mk hV
 clear hV
 go_enter Try.func24, Try.ntmps24
 go_wp2
 go_loopg [1, 5] (n + 1) (fun kq v1 v5 W' => ∃ (i : Nat), v1 = .int .i64 (k + (i : Int)) ∧ v5 = .int .i64 (i : Int) ∧ Aside0 (i ≤ n ∧ n < i + kq) ∧ FlatSt W W' A i (fun j => .int .u8 ((k + (j : Int)) % 256)))
 case atStart => exact ⟨0, by simp, rfl, ⟨by omega, by omega⟩, FlatSt.start _ _ _⟩
 case round =>
  obtain ⟨i, rfl, rfl, HI, hS⟩ := hrel
  obtain ⟨i1, i2⟩ := HI.out
  clear HI
  cases gk with
  | zero => omega
  | succ k1 =>
   by_cases hi : i < n
   ·have d1 : decide ((i : Int) < (n : Int)) = true := decide_eq_true (by omega)
    have d1n : decide (i < n) = true := decide_eq_true hi
    obtain ⟨g, cur, a, rfl, -, hg, hj, hc, hf⟩ := WInts.at (WInts.evo HV.out hS.evo) hi
    have e2 : (0 ≤ (i : Int)) = True := eq_true (by omega)
    have e3 : ((i : Int) < (n : Int)) = True := eq_true (by omega)
    have HG := Aside0.mk hg
    have HJ := Aside0.mk hj
    clear hg hj
    go_wp2
    go_roundg k1
    case measure => omega
    case rel => exact ⟨i + 1, by first | (simp; omega) | (rw [wid (by omega) (by omega)]; simp; omega), by first | rfl | (simp; done) | (rw [wid (by omega) (by omega)]; simp), ⟨by omega, by omega⟩, hS.next HG.out HJ.out (.inr (.inl ⟨_, _, _, rfl, rfl⟩))⟩
   have d1 : decide ((i : Int) < (n : Int)) = false := decide_eq_false (by omega)
   have e : i = n := by omega
   subst e
   go_wp2
   go_ret
   exact ⟨rfl, hS⟩
end Go.Proofs.Ytdiilocgjnlmiaa.Tre
end
