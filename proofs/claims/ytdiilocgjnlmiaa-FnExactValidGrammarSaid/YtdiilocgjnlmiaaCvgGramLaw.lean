import Derived.Test.YtdiilocgjnlmiaaCvgValid
import Derived.Test.YtdiilocgjnlmiaaCvgPAllx1
import Derived.Test.YtdiilocgjnlmiaaCvgPAllx6
import Derived.Test.YtdiilocgjnlmiaaCvgPAllx9
namespace Go.Proofs.Ytdiilocgjnlmiaa.Tre
open Go.RowKit Go.Proofs.YtdiilocgjnlmiaaW.PrintWords Go.Proofs.YtdiilocgjnlmiaaW.PrintLast
open Go.Proofs.Ytdiilocgjnlmiaa.PAll
set_option linter.unusedVariables false
set_option linter.unusedSimpArgs false
abbrev LOp := S234
abbrev LRu := S153
abbrev LLa := S156
def cvO (a : LOp) : Op := ⟨a.f0, a.f1, a.f2⟩
def cvR (a : LRu) : Ru := ⟨a.f0, a.f1.map cvO⟩
def cvL (a : LLa) : La := ⟨a.f0, a.f1, a.f2.map cvO⟩
def smO (a : LOp) : Prop := a.f1.length ≤ 1048576
def smOs (l : List LOp) : Prop := l.length ≤ 1048576 ∧ ∀ a ∈ l, smO a
def smR (a : LRu) : Prop := a.f0.length ≤ 1048576 ∧ smOs a.f1
def smRs (l : List LRu) : Prop := l.length ≤ 1048576 ∧ ∀ a ∈ l, smR a
def smL (a : LLa) : Prop := a.f0.length ≤ 1048576 ∧ smOs a.f2
def smLs (l : List LLa) : Prop := l.length ≤ 1048576 ∧ ∀ a ∈ l, smL a
theorem rd_LOp {l : List LOp} {i : Nat} (hi : i < l.length) : rd_T234 l (i : Int) = l[i] := by simp [rd_T234, List.getD_eq_getElem?_getD, hi]
theorem rd_LRu {l : List LRu} {i : Nat} (hi : i < l.length) : rd_T153 l (i : Int) = l[i] := by simp [rd_T153, List.getD_eq_getElem?_getD, hi]
theorem rd_LLa {l : List LLa} {i : Nat} (hi : i < l.length) : rd_T156 l (i : Int) = l[i] := by simp [rd_T156, List.getD_eq_getElem?_getD, hi]
theorem toByteS_l0 (l : List Int) (hm : l.length ≤ 1048576) : ∀ (k : Nat) (out : List Int) (i : Nat), out.length = l.length → (∀ j, j < i → out[j]? = l[j]?) → i ≤ l.length → l.length - i < k → laws_toByteS.l0 k l out (i : Int) = some l
  | 0, _, _, _, _, _, h => by omega
  | k + 1, out, i, ho, hj, hi, hk => by
    rw [laws_toByteS.l0]
    by_cases c : i < l.length
    · rw [if_pos (by omega), if_pos (by omega), if_pos (by omega), wid (x := (i : Int) + 1) (by omega) (by omega)]
      refine toByteS_l0 l hm k _ (i + 1) (by simp [ho]) ?_ (by omega) (by omega)
      intro j hji
      rw [Int.toNat_natCast, List.getElem?_set]
      by_cases e : j = i
      · subst e
        rw [if_pos rfl, if_pos (by omega)]
        simp [rd, List.getD_eq_getElem?_getD, c]
      · rw [if_neg (fun h => e h.symm), hj j (by omega)]
    · rw [if_neg (by omega)]
      congr 1
      apply List.ext_getElem?
      intro j
      by_cases e : j < i
      · exact hj j e
      · rw [List.getElem?_eq_none (by omega), List.getElem?_eq_none (by omega)]
theorem toByteS_f (l : List Int) (hm : l.length ≤ 1048576) (k : Nat) (hk : 1048576 < k) : laws_toByteS.f k l = some l := by
  rw [laws_toByteS.f, if_pos (by omega), if_pos (by omega)]
  exact toByteS_l0 l hm k _ 0 (by simp) (fun j h => by omega) (by omega) (by omega)
theorem toIntS_l0 (l : List Int) (hm : l.length ≤ 1048576) : ∀ (k : Nat) (out : List Int) (i : Nat), out.length = l.length → (∀ j, j < i → out[j]? = l[j]?) → i ≤ l.length → l.length - i < k → laws_toIntS.l0 k l out (i : Int) = some l
  | 0, _, _, _, _, _, h => by omega
  | k + 1, out, i, ho, hj, hi, hk => by
    rw [laws_toIntS.l0]
    by_cases c : i < l.length
    · rw [if_pos (by omega), if_pos (by omega), if_pos (by omega), wid (x := (i : Int) + 1) (by omega) (by omega)]
      refine toIntS_l0 l hm k _ (i + 1) (by simp [ho]) ?_ (by omega) (by omega)
      intro j hji
      rw [Int.toNat_natCast, List.getElem?_set]
      by_cases e : j = i
      · subst e
        rw [if_pos rfl, if_pos (by omega)]
        simp [rd, List.getD_eq_getElem?_getD, c]
      · rw [if_neg (fun h => e h.symm), hj j (by omega)]
    · rw [if_neg (by omega)]
      congr 1
      apply List.ext_getElem?
      intro j
      by_cases e : j < i
      · exact hj j e
      · rw [List.getElem?_eq_none (by omega), List.getElem?_eq_none (by omega)]
theorem toIntS_f (l : List Int) (hm : l.length ≤ 1048576) (k : Nat) (hk : 1048576 < k) : laws_toIntS.f k l = some l := by
  rw [laws_toIntS.f, if_pos (by omega), if_pos (by omega)]
  exact toIntS_l0 l hm k _ 0 (by simp) (fun j h => by omega) (by omega) (by omega)
theorem toOpS_l0 (l : List LOp) (hm : l.length ≤ 1048576) (hs : ∀ a ∈ l, smO a) : ∀ (k : Nat) (out : List Op) (i : Nat), out.length = l.length → (∀ j, j < i → out[j]? = (l.map cvO)[j]?) → i ≤ l.length → l.length - i + 1048577 < k →
    laws_toOpS.l0 k l out (i : Int) = some (l.map cvO)
  | 0, _, _, _, _, _, h => by omega
  | k + 1, out, i, ho, hj, hi, hk => by
    rw [laws_toOpS.l0]
    by_cases c : i < l.length
    · have hsm := hs _ (List.getElem_mem c)
      rw [if_pos (by omega), if_pos (by omega), rd_LOp c]
      rw [laws_toOp.f, toIntS_f _ hsm k (by omega)]
      simp only [Option.bind_some]
      rw [if_pos (by omega), wid (x := (i : Int) + 1) (by omega) (by omega)]
      refine toOpS_l0 l hm hs k _ (i + 1) (by simp [ho]) ?_ (by omega) (by omega)
      intro j hji
      rw [Int.toNat_natCast, List.getElem?_set]
      by_cases e : j = i
      · subst e
        rw [if_pos rfl, if_pos (by omega)]
        simp [c, cvO]
      · rw [if_neg (fun h => e h.symm), hj j (by omega)]
    · rw [if_neg (by omega)]
      congr 1
      apply List.ext_getElem?
      intro j
      by_cases e : j < i
      · exact hj j e
      · rw [List.getElem?_eq_none (by omega), List.getElem?_eq_none (by simp; omega)]
theorem toOpS_f (l : List LOp) (hm : l.length ≤ 1048576) (hs : ∀ a ∈ l, smO a) (k : Nat) (hk : 1048576 + 1048577 < k) : laws_toOpS.f k l = some (l.map cvO) := by
  rw [laws_toOpS.f, if_pos (by omega), if_pos (by omega)]
  exact toOpS_l0 l hm hs k _ 0 (by simp) (fun j h => by omega) (by omega) (by omega)
theorem toRuleS_l0 (l : List LRu) (hm : l.length ≤ 1048576) (hs : ∀ a ∈ l, smR a) : ∀ (k : Nat) (out : List Ru) (i : Nat), out.length = l.length → (∀ j, j < i → out[j]? = (l.map cvR)[j]?) → i ≤ l.length → l.length - i + 2097160 < k →
    laws_toRuleS.l0 k l out (i : Int) = some (l.map cvR)
  | 0, _, _, _, _, _, h => by omega
  | k + 1, out, i, ho, hj, hi, hk => by
    rw [laws_toRuleS.l0]
    by_cases c : i < l.length
    · have hsm := hs _ (List.getElem_mem c)
      rw [if_pos (by omega), if_pos (by omega), rd_LRu c]
      rw [laws_toRule.f, toByteS_f _ hsm.1 k (by omega)]
      simp only [Option.bind_some]
      rw [toOpS_f _ hsm.2.1 hsm.2.2 k (by omega)]
      simp only [Option.bind_some]
      rw [if_pos (by omega), wid (x := (i : Int) + 1) (by omega) (by omega)]
      refine toRuleS_l0 l hm hs k _ (i + 1) (by simp [ho]) ?_ (by omega) (by omega)
      intro j hji
      rw [Int.toNat_natCast, List.getElem?_set]
      by_cases e : j = i
      · subst e
        rw [if_pos rfl, if_pos (by omega)]
        simp [c, cvR]
      · rw [if_neg (fun h => e h.symm), hj j (by omega)]
    · rw [if_neg (by omega)]
      congr 1
      apply List.ext_getElem?
      intro j
      by_cases e : j < i
      · exact hj j e
      · rw [List.getElem?_eq_none (by omega), List.getElem?_eq_none (by simp; omega)]
theorem toRuleS_f (l : List LRu) (hm : l.length ≤ 1048576) (hs : ∀ a ∈ l, smR a) (k : Nat) (hk : 1048576 + 2097160 < k) : laws_toRuleS.f k l = some (l.map cvR) := by
  rw [laws_toRuleS.f, if_pos (by omega), if_pos (by omega)]
  exact toRuleS_l0 l hm hs k _ 0 (by simp) (fun j h => by omega) (by omega) (by omega)
theorem toLabelS_l0 (l : List LLa) (hm : l.length ≤ 1048576) (hs : ∀ a ∈ l, smL a) : ∀ (k : Nat) (out : List La) (i : Nat), out.length = l.length → (∀ j, j < i → out[j]? = (l.map cvL)[j]?) → i ≤ l.length → l.length - i + 2097160 < k →
    laws_toLabelS.l0 k l out (i : Int) = some (l.map cvL)
  | 0, _, _, _, _, _, h => by omega
  | k + 1, out, i, ho, hj, hi, hk => by
    rw [laws_toLabelS.l0]
    by_cases c : i < l.length
    · have hsm := hs _ (List.getElem_mem c)
      rw [if_pos (by omega), if_pos (by omega), rd_LLa c]
      rw [laws_toLabel.f, toByteS_f _ hsm.1 k (by omega)]
      simp only [Option.bind_some]
      rw [toOpS_f _ hsm.2.1 hsm.2.2 k (by omega)]
      simp only [Option.bind_some]
      rw [if_pos (by omega), wid (x := (i : Int) + 1) (by omega) (by omega)]
      refine toLabelS_l0 l hm hs k _ (i + 1) (by simp [ho]) ?_ (by omega) (by omega)
      intro j hji
      rw [Int.toNat_natCast, List.getElem?_set]
      by_cases e : j = i
      · subst e
        rw [if_pos rfl, if_pos (by omega)]
        simp [c, cvL]
      · rw [if_neg (fun h => e h.symm), hj j (by omega)]
    · rw [if_neg (by omega)]
      congr 1
      apply List.ext_getElem?
      intro j
      by_cases e : j < i
      · exact hj j e
      · rw [List.getElem?_eq_none (by omega), List.getElem?_eq_none (by simp; omega)]
theorem toLabelS_f (l : List LLa) (hm : l.length ≤ 1048576) (hs : ∀ a ∈ l, smL a) (k : Nat) (hk : 1048576 + 2097160 < k) : laws_toLabelS.f k l = some (l.map cvL) := by
  rw [laws_toLabelS.f, if_pos (by omega), if_pos (by omega)]
  exact toLabelS_l0 l hm hs k _ 0 (by simp) (fun j h => by omega) (by omega) (by omega)
theorem toGrammar_f (Rs : List LRu) (Ls : List LLa) (hR : smRs Rs) (hL : smLs Ls) (k : Nat) (hk : 3200000 < k) : laws_toGrammar.f k Rs Ls = some (Rs.map cvR, Ls.map cvL) := by
  rw [laws_toGrammar.f, toRuleS_f Rs hR.1 hR.2 k (by omega)]
  simp only [Option.bind_some]
  rw [toLabelS_f Ls hL.1 hL.2 k (by omega)]
  rfl
def ssO (a : Op) : Prop := a.f1.length ≤ 1048576
def ssOs (l : List Op) : Prop := l.length ≤ 1048576 ∧ ∀ a ∈ l, ssO a
def ssR (a : Ru) : Prop := a.f0.length ≤ 1048576 ∧ ssOs a.f1
def ssRs (l : List Ru) : Prop := l.length ≤ 1048576 ∧ ∀ a ∈ l, ssR a
def ssL (a : La) : Prop := a.f0.length ≤ 1048576 ∧ ssOs a.f2
def ssLs (l : List La) : Prop := l.length ≤ 1048576 ∧ ∀ a ∈ l, ssL a
theorem rd_Op {l : List Op} {i : Nat} (hi : i < l.length) : rd_T79 l (i : Int) = l[i] := by simp [rd_T79, List.getD_eq_getElem?_getD, hi]
theorem rd_Ru {l : List Ru} {i : Nat} (hi : i < l.length) : rd_T68 l (i : Int) = l[i] := by simp [rd_T68, List.getD_eq_getElem?_getD, hi]
theorem rd_La {l : List La} {i : Nat} (hi : i < l.length) : rd_T72 l (i : Int) = l[i] := by simp [rd_T72, List.getD_eq_getElem?_getD, hi]
theorem eqByteS_l0 (l : List Int) (hm : l.length ≤ 1048576) : ∀ (k : Nat) (i : Nat), i ≤ l.length → l.length - i < k → laws_eqByteS.l0 k l l (i : Int) = some true
  | 0, _, _, h => by omega
  | k + 1, i, hi, hk => by
    rw [laws_eqByteS.l0]
    by_cases c : i < l.length
    · rw [if_pos (by omega), if_pos (by omega), if_pos (by omega), if_pos rfl, wid (x := (i : Int) + 1) (by omega) (by omega)]
      exact eqByteS_l0 l hm k (i + 1) (by omega) (by omega)
    · rw [if_neg (by omega)]
theorem eqByteS_f (l : List Int) (hm : l.length ≤ 1048576) (k : Nat) (hk : 1048576 < k) : laws_eqByteS.f k l l = some true := by
  rw [laws_eqByteS.f, if_pos rfl]; exact eqByteS_l0 l hm k 0 (by omega) (by omega)
theorem eqIntS_l0 (l : List Int) (hm : l.length ≤ 1048576) : ∀ (k : Nat) (i : Nat), i ≤ l.length → l.length - i < k → laws_eqIntS.l0 k l l (i : Int) = some true
  | 0, _, _, h => by omega
  | k + 1, i, hi, hk => by
    rw [laws_eqIntS.l0]
    by_cases c : i < l.length
    · rw [if_pos (by omega), if_pos (by omega), if_pos (by omega), if_pos rfl, wid (x := (i : Int) + 1) (by omega) (by omega)]
      exact eqIntS_l0 l hm k (i + 1) (by omega) (by omega)
    · rw [if_neg (by omega)]
theorem eqIntS_f (l : List Int) (hm : l.length ≤ 1048576) (k : Nat) (hk : 1048576 < k) : laws_eqIntS.f k l l = some true := by
  rw [laws_eqIntS.f, if_pos rfl]; exact eqIntS_l0 l hm k 0 (by omega) (by omega)
theorem eqOpS_l0 (l : List Op) (hm : l.length ≤ 1048576) (hs : ∀ a ∈ l, ssO a) : ∀ (k : Nat) (i : Nat), i ≤ l.length → l.length - i + 1048577 < k → laws_eqOpS.l0 k l l (i : Int) = some true
  | 0, _, _, h => by omega
  | k + 1, i, hi, hk => by
    rw [laws_eqOpS.l0]
    by_cases c : i < l.length
    · have hsm := hs _ (List.getElem_mem c)
      rw [if_pos (by omega), if_pos (by omega), if_pos (by omega), rd_Op c]
      rw [laws_eqOp.f, if_pos rfl, eqIntS_f _ hsm k (by omega), Option.bind_some, if_pos rfl, if_pos rfl]
      rw [Option.bind_some, if_pos rfl, wid (x := (i : Int) + 1) (by omega) (by omega)]
      exact eqOpS_l0 l hm hs k (i + 1) (by omega) (by omega)
    · rw [if_neg (by omega)]
theorem eqOpS_f (l : List Op) (hm : l.length ≤ 1048576) (hs : ∀ a ∈ l, ssO a) (k : Nat) (hk : 1048576 + 1048577 < k) : laws_eqOpS.f k l l = some true := by
  rw [laws_eqOpS.f, if_pos rfl]; exact eqOpS_l0 l hm hs k 0 (by omega) (by omega)
theorem eqRuleS_l0 (l : List Ru) (hm : l.length ≤ 1048576) (hs : ∀ a ∈ l, ssR a) : ∀ (k : Nat) (i : Nat), i ≤ l.length → l.length - i + 2097160 < k → laws_eqRuleS.l0 k l l (i : Int) = some true
  | 0, _, _, h => by omega
  | k + 1, i, hi, hk => by
    rw [laws_eqRuleS.l0]
    by_cases c : i < l.length
    · have hsm := hs _ (List.getElem_mem c)
      rw [if_pos (by omega), if_pos (by omega), if_pos (by omega), rd_Ru c]
      rw [laws_eqRule.f, eqByteS_f _ hsm.1 k (by omega), Option.bind_some, if_pos rfl, eqOpS_f _ hsm.2.1 hsm.2.2 k (by omega), Option.bind_some, if_pos rfl]
      rw [Option.bind_some, if_pos rfl, wid (x := (i : Int) + 1) (by omega) (by omega)]
      exact eqRuleS_l0 l hm hs k (i + 1) (by omega) (by omega)
    · rw [if_neg (by omega)]
theorem eqRuleS_f (l : List Ru) (hm : l.length ≤ 1048576) (hs : ∀ a ∈ l, ssR a) (k : Nat) (hk : 1048576 + 2097160 < k) : laws_eqRuleS.f k l l = some true := by
  rw [laws_eqRuleS.f, if_pos rfl]; exact eqRuleS_l0 l hm hs k 0 (by omega) (by omega)
theorem eqLabelS_l0 (l : List La) (hm : l.length ≤ 1048576) (hs : ∀ a ∈ l, ssL a) : ∀ (k : Nat) (i : Nat), i ≤ l.length → l.length - i + 2097160 < k → laws_eqLabelS.l0 k l l (i : Int) = some true
  | 0, _, _, h => by omega
  | k + 1, i, hi, hk => by
    rw [laws_eqLabelS.l0]
    by_cases c : i < l.length
    · have hsm := hs _ (List.getElem_mem c)
      rw [if_pos (by omega), if_pos (by omega), if_pos (by omega), rd_La c]
      rw [laws_eqLabel.f, eqByteS_f _ hsm.1 k (by omega), Option.bind_some, if_pos rfl, if_neg (by simp), eqOpS_f _ hsm.2.1 hsm.2.2 k (by omega), Option.bind_some, if_pos rfl]
      rw [Option.bind_some, if_pos rfl, wid (x := (i : Int) + 1) (by omega) (by omega)]
      exact eqLabelS_l0 l hm hs k (i + 1) (by omega) (by omega)
    · rw [if_neg (by omega)]
theorem eqLabelS_f (l : List La) (hm : l.length ≤ 1048576) (hs : ∀ a ∈ l, ssL a) (k : Nat) (hk : 1048576 + 2097160 < k) : laws_eqLabelS.f k l l = some true := by
  rw [laws_eqLabelS.f, if_pos rfl]; exact eqLabelS_l0 l hm hs k 0 (by omega) (by omega)
theorem eqGrammar_f (Rs : List Ru) (Ls : List La) (hR : ssRs Rs) (hL : ssLs Ls) (k : Nat) (hk : 3200000 < k) : laws_eqGrammar.f k Rs Ls Rs Ls = some true := by
  rw [laws_eqGrammar.f, eqRuleS_f Rs hR.1 hR.2 k (by omega), Option.bind_some, if_pos rfl, eqLabelS_f Ls hL.1 hL.2 k (by omega)]
  rfl
theorem ssOs_of {l : List LOp} (h : smOs l) : ssOs (l.map cvO) := ⟨by rw [List.length_map]; exact h.1, fun a ha => by
  obtain ⟨b, hb, rfl⟩ := List.mem_map.1 ha
  exact h.2 b hb⟩
theorem ssRs_of {l : List LRu} (h : smRs l) : ssRs (l.map cvR) := ⟨by rw [List.length_map]; exact h.1, fun a ha => by
  obtain ⟨b, hb, rfl⟩ := List.mem_map.1 ha
  exact ⟨(h.2 b hb).1, ssOs_of (h.2 b hb).2⟩⟩
theorem ssLs_of {l : List LLa} (h : smLs l) : ssLs (l.map cvL) := ⟨by rw [List.length_map]; exact h.1, fun a ha => by
  obtain ⟨b, hb, rfl⟩ := List.mem_map.1 ha
  exact ⟨(h.2 b hb).1, ssOs_of (h.2 b hb).2⟩⟩
theorem okOps_of {l : List Op} (h : ssOs l) : okOps l = true := by
  unfold okOps
  rw [Bool.and_eq_true, decide_eq_true_eq, List.all_eq_true]
  exact ⟨by have := h.1; omega, fun a ha => decide_eq_true (by have := h.2 a ha; unfold ssO at this; omega)⟩
theorem okG_of {Rs : List Ru} {Ls : List La} (hR : ssRs Rs) (hL : ssLs Ls) : okG Rs Ls = true := by
  unfold okG
  rw [Bool.and_eq_true, Bool.and_eq_true, decide_eq_true_eq, List.all_eq_true, List.all_eq_true]
  refine ⟨⟨⟨by have := hR.1; omega, by have := hL.1; omega⟩, fun a ha => ?_⟩, fun a ha => ?_⟩
  · rw [Bool.and_eq_true, decide_eq_true_eq]
    exact ⟨by have := (hR.2 a ha).1; omega, okOps_of (hR.2 a ha).2⟩
  · rw [Bool.and_eq_true, decide_eq_true_eq]
    exact ⟨by have := (hL.2 a ha).1; omega, okOps_of (hL.2 a ha).2⟩
theorem szNum_f (l : List Int) (m : Int) (h0 : 0 ≤ m) (h1 : m ≤ 1048576) (hl : l.length ≤ 9223372036854775807) : ∃ r, laws_szIntS.f l m = some r ∧ laws_szByteS.f l m = some r ∧ (r = -1 ∨ (0 ≤ r ∧ r ≤ m ∧ l.length ≤ 1048576)) := by
  rw [laws_szIntS.f, laws_szByteS.f, wid (by omega) (by omega)]
  by_cases c : m - (l.length : Int) < 0
  · exact ⟨-1, by rw [if_pos c], by rw [if_pos c], .inl rfl⟩
  · exact ⟨m - l.length, by rw [if_neg c], by rw [if_neg c], .inr ⟨by omega, by omega, by omega⟩⟩
theorem szOp_f (a : LOp) (m : Int) (h0 : 0 ≤ m) (h1 : m ≤ 1048576) (hl : a.f1.length ≤ 9223372036854775807) : ∃ r, laws_szOp.f a.f0 a.f1 a.f2 m = some r ∧ (r = -1 ∨ (0 ≤ r ∧ r ≤ m ∧ smO a)) := by
  obtain ⟨r, hr, _, hr2⟩ := szNum_f a.f1 m h0 h1 hl
  rw [laws_szOp.f, hr, Option.bind_some]
  rcases hr2 with rfl | ⟨q1, q2, q3⟩
  · exact ⟨-1, by rw [if_pos (by decide)], .inl rfl⟩
  · exact ⟨r, by rw [if_neg (by omega)], .inr ⟨q1, q2, q3⟩⟩
theorem szOpS_l0 (l : List LOp) (hm : l.length ≤ 1048576) (hl : ∀ a ∈ l, a.f1.length ≤ 9223372036854775807) : ∀ (d k i : Nat) (m : Int), l.length = i + d → d + 0 < k → 0 ≤ m → m ≤ 1048576 → ∃ r, laws_szOpS.l0 k l m (i : Int) = some r ∧ (r = -1 ∨ (0 ≤ r ∧ r ≤ m ∧ ∀ a ∈ l.drop i, smO a))
  | d, 0, i, m, _, h, _, _ => by omega
  | 0, k + 1, i, m, h1, _, h2, _ => by
    refine ⟨m, by rw [laws_szOpS.l0, if_neg (by omega)], .inr ⟨h2, by omega, fun a ha => ?_⟩⟩
    rw [List.drop_eq_nil_of_le (by omega)] at ha
    cases ha
  | d + 1, k + 1, i, m, h1, hk, h2, h3 => by
    have hi : i < l.length := by omega
    have hln := hl _ (List.getElem_mem hi)
    rw [laws_szOpS.l0, if_pos (by omega), if_pos (by omega), rd_LOp hi]
    obtain ⟨r, hr, hr2⟩ := szOp_f l[i] m h2 h3 hln
    rw [hr, Option.bind_some]
    rcases hr2 with rfl | ⟨q1, q2, q3⟩
    · exact ⟨-1, by rw [if_pos (by decide)], .inl rfl⟩
    · rw [if_neg (by omega), wid (x := (i : Int) + 1) (by omega) (by omega)]
      obtain ⟨r', hr', hr2'⟩ := szOpS_l0 l hm hl d k (i + 1) r (by omega) (by omega) q1 (by omega)
      rw [Int.natCast_succ] at hr'
      refine ⟨r', hr', ?_⟩
      rcases hr2' with h | ⟨p1, p2, p3⟩
      · exact .inl h
      · refine .inr ⟨p1, by omega, fun a ha => ?_⟩
        rw [List.drop_eq_getElem_cons hi] at ha
        rcases List.mem_cons.1 ha with rfl | ha
        · exact q3
        · exact p3 a ha
theorem szOpS_f (l : List LOp) (hl0 : l.length ≤ 9223372036854775807) (hl : ∀ a ∈ l, a.f1.length ≤ 9223372036854775807) (k : Nat) (hk : 1048576 + 0 < k) (m : Int) (h0 : 0 ≤ m) (h1 : m ≤ 1048576) : ∃ r, laws_szOpS.f k l m = some r ∧ (r = -1 ∨ (0 ≤ r ∧ r ≤ m ∧ l.length ≤ 1048576 ∧ ∀ a ∈ l, smO a)) := by
  rw [laws_szOpS.f, wid (by omega) (by omega)]
  by_cases c : m - (l.length : Int) < 0
  · exact ⟨-1, by rw [if_pos c], .inl rfl⟩
  · rw [if_neg c]
    obtain ⟨r, hr, hr2⟩ := szOpS_l0 l (by omega) hl l.length k 0 (m - l.length) (by omega) (by omega) (by omega) (by omega)
    refine ⟨r, hr, ?_⟩
    rcases hr2 with h | ⟨p1, p2, p3⟩
    · exact .inl h
    · exact .inr ⟨p1, by omega, by omega, p3⟩
theorem szRule_f (a : LRu) (k : Nat) (hk : 1048576 < k) (m : Int) (h0 : 0 ≤ m) (h1 : m ≤ 1048576) (hl : a.f0.length ≤ 9223372036854775807 ∧ a.f1.length ≤ 9223372036854775807 ∧ ∀ b ∈ a.f1, b.f1.length ≤ 9223372036854775807) : ∃ r, laws_szRule.f k a.f0 a.f1 m = some r ∧ (r = -1 ∨ (0 ≤ r ∧ r ≤ m ∧ smR a)) := by
  obtain ⟨r, _, hr, hr2⟩ := szNum_f a.f0 m h0 h1 hl.1
  rw [laws_szRule.f, hr, Option.bind_some]
  rcases hr2 with rfl | ⟨q1, q2, q3⟩
  · exact ⟨-1, by rw [if_pos (by decide)], .inl rfl⟩
  · rw [if_neg (by omega)]
    obtain ⟨r', hr', hr2'⟩ := szOpS_f a.f1 hl.2.1 hl.2.2 k (by omega) r q1 (by omega)
    rw [hr', Option.bind_some]
    rcases hr2' with rfl | ⟨p1, p2, p3, p4⟩
    · exact ⟨-1, by rw [if_pos (by decide)], .inl rfl⟩
    · exact ⟨r', by rw [if_neg (by omega)], .inr ⟨p1, by omega, q3, p3, p4⟩⟩
theorem szRuleS_l0 (l : List LRu) (hm : l.length ≤ 1048576) (hl : ∀ a ∈ l, a.f0.length ≤ 9223372036854775807 ∧ a.f1.length ≤ 9223372036854775807 ∧ ∀ b ∈ a.f1, b.f1.length ≤ 9223372036854775807) : ∀ (d k i : Nat) (m : Int), l.length = i + d → d + 1048577 < k → 0 ≤ m → m ≤ 1048576 → ∃ r, laws_szRuleS.l0 k l m (i : Int) = some r ∧ (r = -1 ∨ (0 ≤ r ∧ r ≤ m ∧ ∀ a ∈ l.drop i, smR a))
  | d, 0, i, m, _, h, _, _ => by omega
  | 0, k + 1, i, m, h1, _, h2, _ => by
    refine ⟨m, by rw [laws_szRuleS.l0, if_neg (by omega)], .inr ⟨h2, by omega, fun a ha => ?_⟩⟩
    rw [List.drop_eq_nil_of_le (by omega)] at ha
    cases ha
  | d + 1, k + 1, i, m, h1, hk, h2, h3 => by
    have hi : i < l.length := by omega
    have hln := hl _ (List.getElem_mem hi)
    rw [laws_szRuleS.l0, if_pos (by omega), if_pos (by omega), rd_LRu hi]
    obtain ⟨r, hr, hr2⟩ := szRule_f l[i] k (by omega) m h2 h3 hln
    rw [hr, Option.bind_some]
    rcases hr2 with rfl | ⟨q1, q2, q3⟩
    · exact ⟨-1, by rw [if_pos (by decide)], .inl rfl⟩
    · rw [if_neg (by omega), wid (x := (i : Int) + 1) (by omega) (by omega)]
      obtain ⟨r', hr', hr2'⟩ := szRuleS_l0 l hm hl d k (i + 1) r (by omega) (by omega) q1 (by omega)
      rw [Int.natCast_succ] at hr'
      refine ⟨r', hr', ?_⟩
      rcases hr2' with h | ⟨p1, p2, p3⟩
      · exact .inl h
      · refine .inr ⟨p1, by omega, fun a ha => ?_⟩
        rw [List.drop_eq_getElem_cons hi] at ha
        rcases List.mem_cons.1 ha with rfl | ha
        · exact q3
        · exact p3 a ha
theorem szRuleS_f (l : List LRu) (hl0 : l.length ≤ 9223372036854775807) (hl : ∀ a ∈ l, a.f0.length ≤ 9223372036854775807 ∧ a.f1.length ≤ 9223372036854775807 ∧ ∀ b ∈ a.f1, b.f1.length ≤ 9223372036854775807) (k : Nat) (hk : 1048576 + 1048577 < k) (m : Int) (h0 : 0 ≤ m) (h1 : m ≤ 1048576) : ∃ r, laws_szRuleS.f k l m = some r ∧ (r = -1 ∨ (0 ≤ r ∧ r ≤ m ∧ l.length ≤ 1048576 ∧ ∀ a ∈ l, smR a)) := by
  rw [laws_szRuleS.f, wid (by omega) (by omega)]
  by_cases c : m - (l.length : Int) < 0
  · exact ⟨-1, by rw [if_pos c], .inl rfl⟩
  · rw [if_neg c]
    obtain ⟨r, hr, hr2⟩ := szRuleS_l0 l (by omega) hl l.length k 0 (m - l.length) (by omega) (by omega) (by omega) (by omega)
    refine ⟨r, hr, ?_⟩
    rcases hr2 with h | ⟨p1, p2, p3⟩
    · exact .inl h
    · exact .inr ⟨p1, by omega, by omega, p3⟩
theorem szLabel_f (a : LLa) (k : Nat) (hk : 1048576 < k) (m : Int) (h0 : 0 ≤ m) (h1 : m ≤ 1048576) (hl : a.f0.length ≤ 9223372036854775807 ∧ a.f2.length ≤ 9223372036854775807 ∧ ∀ b ∈ a.f2, b.f1.length ≤ 9223372036854775807) : ∃ r, laws_szLabel.f k a.f0 a.f1 a.f2 m = some r ∧ (r = -1 ∨ (0 ≤ r ∧ r ≤ m ∧ smL a)) := by
  obtain ⟨r, _, hr, hr2⟩ := szNum_f a.f0 m h0 h1 hl.1
  rw [laws_szLabel.f, hr, Option.bind_some]
  rcases hr2 with rfl | ⟨q1, q2, q3⟩
  · exact ⟨-1, by rw [if_pos (by decide)], .inl rfl⟩
  · rw [if_neg (by omega)]
    obtain ⟨r', hr', hr2'⟩ := szOpS_f a.f2 hl.2.1 hl.2.2 k (by omega) r q1 (by omega)
    rw [hr', Option.bind_some]
    rcases hr2' with rfl | ⟨p1, p2, p3, p4⟩
    · exact ⟨-1, by rw [if_pos (by decide)], .inl rfl⟩
    · exact ⟨r', by rw [if_neg (by omega)], .inr ⟨p1, by omega, q3, p3, p4⟩⟩
theorem szLabelS_l0 (l : List LLa) (hm : l.length ≤ 1048576) (hl : ∀ a ∈ l, a.f0.length ≤ 9223372036854775807 ∧ a.f2.length ≤ 9223372036854775807 ∧ ∀ b ∈ a.f2, b.f1.length ≤ 9223372036854775807) : ∀ (d k i : Nat) (m : Int), l.length = i + d → d + 1048577 < k → 0 ≤ m → m ≤ 1048576 → ∃ r, laws_szLabelS.l0 k l m (i : Int) = some r ∧ (r = -1 ∨ (0 ≤ r ∧ r ≤ m ∧ ∀ a ∈ l.drop i, smL a))
  | d, 0, i, m, _, h, _, _ => by omega
  | 0, k + 1, i, m, h1, _, h2, _ => by
    refine ⟨m, by rw [laws_szLabelS.l0, if_neg (by omega)], .inr ⟨h2, by omega, fun a ha => ?_⟩⟩
    rw [List.drop_eq_nil_of_le (by omega)] at ha
    cases ha
  | d + 1, k + 1, i, m, h1, hk, h2, h3 => by
    have hi : i < l.length := by omega
    have hln := hl _ (List.getElem_mem hi)
    rw [laws_szLabelS.l0, if_pos (by omega), if_pos (by omega), rd_LLa hi]
    obtain ⟨r, hr, hr2⟩ := szLabel_f l[i] k (by omega) m h2 h3 hln
    rw [hr, Option.bind_some]
    rcases hr2 with rfl | ⟨q1, q2, q3⟩
    · exact ⟨-1, by rw [if_pos (by decide)], .inl rfl⟩
    · rw [if_neg (by omega), wid (x := (i : Int) + 1) (by omega) (by omega)]
      obtain ⟨r', hr', hr2'⟩ := szLabelS_l0 l hm hl d k (i + 1) r (by omega) (by omega) q1 (by omega)
      rw [Int.natCast_succ] at hr'
      refine ⟨r', hr', ?_⟩
      rcases hr2' with h | ⟨p1, p2, p3⟩
      · exact .inl h
      · refine .inr ⟨p1, by omega, fun a ha => ?_⟩
        rw [List.drop_eq_getElem_cons hi] at ha
        rcases List.mem_cons.1 ha with rfl | ha
        · exact q3
        · exact p3 a ha
theorem szLabelS_f (l : List LLa) (hl0 : l.length ≤ 9223372036854775807) (hl : ∀ a ∈ l, a.f0.length ≤ 9223372036854775807 ∧ a.f2.length ≤ 9223372036854775807 ∧ ∀ b ∈ a.f2, b.f1.length ≤ 9223372036854775807) (k : Nat) (hk : 1048576 + 1048577 < k) (m : Int) (h0 : 0 ≤ m) (h1 : m ≤ 1048576) : ∃ r, laws_szLabelS.f k l m = some r ∧ (r = -1 ∨ (0 ≤ r ∧ r ≤ m ∧ l.length ≤ 1048576 ∧ ∀ a ∈ l, smL a)) := by
  rw [laws_szLabelS.f, wid (by omega) (by omega)]
  by_cases c : m - (l.length : Int) < 0
  · exact ⟨-1, by rw [if_pos c], .inl rfl⟩
  · rw [if_neg c]
    obtain ⟨r, hr, hr2⟩ := szLabelS_l0 l (by omega) hl l.length k 0 (m - l.length) (by omega) (by omega) (by omega) (by omega)
    refine ⟨r, hr, ?_⟩
    rcases hr2 with h | ⟨p1, p2, p3⟩
    · exact .inl h
    · exact .inr ⟨p1, by omega, by omega, p3⟩
def inR (l : List LRu) : Prop := l.length ≤ 9223372036854775807 ∧ ∀ a ∈ l, a.f0.length ≤ 9223372036854775807 ∧ a.f1.length ≤ 9223372036854775807 ∧ ∀ b ∈ a.f1, b.f1.length ≤ 9223372036854775807
def inL (l : List LLa) : Prop := l.length ≤ 9223372036854775807 ∧ ∀ a ∈ l, a.f0.length ≤ 9223372036854775807 ∧ a.f2.length ≤ 9223372036854775807 ∧ ∀ b ∈ a.f2, b.f1.length ≤ 9223372036854775807
theorem szGrammar_f (Rs : List LRu) (Ls : List LLa) (hR : inR Rs) (hL : inL Ls) (k : Nat) (hk : 3200000 < k) : ∃ r, laws_szGrammar.f k Rs Ls 1048576 = some r ∧ (r < 0 ∨ (0 ≤ r ∧ smRs Rs ∧ smLs Ls)) := by
  obtain ⟨r, hr, hr2⟩ := szRuleS_f Rs hR.1 hR.2 k (by omega) 1048576 (by omega) (by omega)
  rw [laws_szGrammar.f, hr, Option.bind_some]
  rcases hr2 with rfl | ⟨q1, q2, q3, q4⟩
  · exact ⟨-1, by rw [if_pos (by decide)], .inl (by decide)⟩
  · rw [if_neg (by omega)]
    obtain ⟨r', hr', hr2'⟩ := szLabelS_f Ls hL.1 hL.2 k (by omega) r q1 (by omega)
    rw [hr', Option.bind_some]
    rcases hr2' with rfl | ⟨p1, p2, p3, p4⟩
    · exact ⟨-1, by rw [if_pos (by decide)], .inl (by decide)⟩
    · exact ⟨r', by rw [if_neg (by omega)], .inr ⟨p1, ⟨q3, q4⟩, ⟨p3, p4⟩⟩⟩
end Go.Proofs.Ytdiilocgjnlmiaa.Tre
