import Derived.Test.YtdiilocgjnlmiaaCvgNameLaw
import Derived.Lib.Bytes
namespace Go.Proofs.Ytdiilocgjnlmiaa.Tre
open Go.RowKit Go.Proofs.YtdiilocgjnlmiaaW.PrintWords Go.Proofs.YtdiilocgjnlmiaaW.PrintLast Go.Proofs.YtdiilocgjnlmiaaW.PrintMore
open Go.Proofs.Ytdiilocgjnlmiaa.PAll
set_option linter.unusedVariables false
set_option linter.unusedSimpArgs false
abbrev Ru := S68
abbrev La := S72
abbrev ru (Rs : List Ru) (i : Nat) : Ru := rd_T68 Rs (i : Int)
abbrev la (Ls : List La) (i : Nat) : La := rd_T72 Ls (i : Int)
def okOps (ops : List Op) : Bool := decide (ops.length ≤ 1099511627776) && ops.all fun o => decide (o.f1.length ≤ 1099511627776)
def okG (Rs : List Ru) (Ls : List La) : Bool := decide (Rs.length ≤ 1099511627776 ∧ Ls.length ≤ 1099511627776) && (Rs.all fun r => decide (r.f0.length ≤ 1099511627776) && okOps r.f1) && (Ls.all fun l => decide (l.f0.length ≤ 1099511627776) && okOps l.f2)
theorem okOps_len {ops : List Op} (h : okOps ops = true) : ops.length ≤ 1099511627776 := by
  unfold okOps at h
  rw [Bool.and_eq_true, decide_eq_true_eq] at h
  exact h.1
theorem okOps_set {ops : List Op} (h : okOps ops = true) : ∀ o ∈ ops, o.f1.length ≤ 1099511627776 := by
  unfold okOps at h
  rw [Bool.and_eq_true, List.all_eq_true] at h
  intro o ho
  exact of_decide_eq_true (h.2 o ho)
theorem ru_mem {Rs : List Ru} {i : Nat} (hi : i < Rs.length) : ru Rs i ∈ Rs := by
  have : ru Rs i = Rs[i] := by simp [ru, rd_T68, List.getD_eq_getElem?_getD, hi]
  rw [this]; exact List.getElem_mem _
theorem la_mem {Ls : List La} {i : Nat} (hi : i < Ls.length) : la Ls i ∈ Ls := by
  have : la Ls i = Ls[i] := by simp [la, rd_T72, List.getD_eq_getElem?_getD, hi]
  rw [this]; exact List.getElem_mem _
theorem take_ru {Rs : List Ru} {i : Nat} (hi : i < Rs.length) : Rs.take (i + 1) = Rs.take i ++ [ru Rs i] := by
  rw [List.take_succ_eq_append_getElem hi]
  congr 2
  simp [ru, rd_T68, List.getD_eq_getElem?_getD, hi]
theorem take_la {Ls : List La} {i : Nat} (hi : i < Ls.length) : Ls.take (i + 1) = Ls.take i ++ [la Ls i] := by
  rw [List.take_succ_eq_append_getElem hi]
  congr 2
  simp [la, rd_T72, List.getD_eq_getElem?_getD, hi]
theorem okG_R {Rs : List Ru} {Ls : List La} (h : okG Rs Ls = true) : Rs.length ≤ 1099511627776 := by
  unfold okG at h; simp only [Bool.and_eq_true, decide_eq_true_eq] at h; exact h.1.1.1
theorem okG_L {Rs : List Ru} {Ls : List La} (h : okG Rs Ls = true) : Ls.length ≤ 1099511627776 := by
  unfold okG at h; simp only [Bool.and_eq_true, decide_eq_true_eq] at h; exact h.1.1.2
theorem okG_ru {Rs : List Ru} {Ls : List La} (h : okG Rs Ls = true) {i : Nat} (hi : i < Rs.length) : (ru Rs i).f0.length ≤ 1099511627776 ∧ okOps (ru Rs i).f1 = true := by
  unfold okG at h
  rw [Bool.and_eq_true, Bool.and_eq_true, List.all_eq_true, List.all_eq_true] at h
  have := h.1.2 _ (ru_mem hi)
  rw [Bool.and_eq_true, decide_eq_true_eq] at this
  exact this
theorem okG_la {Rs : List Ru} {Ls : List La} (h : okG Rs Ls = true) {i : Nat} (hi : i < Ls.length) : (la Ls i).f0.length ≤ 1099511627776 ∧ okOps (la Ls i).f2 = true := by
  unfold okG at h
  rw [Bool.and_eq_true, Bool.and_eq_true, List.all_eq_true, List.all_eq_true] at h
  have := h.2 _ (la_mem hi)
  rw [Bool.and_eq_true, decide_eq_true_eq] at this
  exact this
def bytesL (l : List Int) : List UInt8 := Lib.bytesOf l
def lessB (l m : List Int) : Bool := Op.bytesLess (bytesL l) (bytesL m)
structure RuleOK (Rs : List Ru) (Ls : List La) (i : Nat) : Prop where
  name : nameB (ru Rs i).f0 = true
  body : bodyB (Rs.length : Int) (Ls.length : Int) (ru Rs i).f1 = true
  new : ∀ j, j < i → bytesL (ru Rs j).f0 ≠ bytesL (ru Rs i).f0
structure LabelOK (Rs : List Ru) (Ls : List La) (i : Nat) : Prop where
  name : nameB (la Ls i).f0 = true
  less : 0 < i → lessB (la Ls (i - 1)).f0 (la Ls i).f0 = true
  body : (la Ls i).f1 = true → bodyB (Rs.length : Int) (Ls.length : Int) (la Ls i).f2 = true
  none : (la Ls i).f1 = false → (la Ls i).f2.length = 0
def sumOps (bs : List (List Op)) : Nat := (bs.map List.length).sum
def bodies (Rs : List Ru) (Ls : List La) : List (List Op) := Rs.map (·.f1) ++ Ls.map (·.f2)
structure Valid (Rs : List Ru) (Ls : List La) : Prop where
  r1 : 1 ≤ Rs.length
  r2 : Rs.length ≤ 100
  l2 : Ls.length ≤ 100
  rules : ∀ i, i < Rs.length → RuleOK Rs Ls i
  labels : ∀ i, i < Ls.length → LabelOK Rs Ls i
  thrown : ∀ i, i < Ls.length → (la Ls i).f1 = false → (bodies Rs Ls).any (throwsB · (i : Int)) = true
  ops : sumOps (bodies Rs Ls) ≤ 2000
open Classical in
noncomputable def validB (Rs : List Ru) (Ls : List La) : Bool := decide (Valid Rs Ls)
open Classical in
theorem validB_no {Rs : List Ru} {Ls : List La} (h : ¬ Valid Rs Ls) : validB Rs Ls = false := decide_eq_false h
open Classical in
theorem validB_yes {Rs : List Ru} {Ls : List La} (h : Valid Rs Ls) : validB Rs Ls = true := decide_eq_true h
theorem sumOps_append (a b : List (List Op)) : sumOps (a ++ b) = sumOps a + sumOps b := by simp [sumOps]
theorem sumOps_one (a : List Op) : sumOps [a] = a.length := by simp [sumOps]
theorem sumOps_le (bs : List (List Op)) (h : ∀ b ∈ bs, b.length ≤ 1099511627776) : sumOps bs ≤ bs.length * 1099511627776 := by
  induction bs with
  | nil => simp [sumOps]
  | cons b bs ih =>
    have h1 := h b List.mem_cons_self
    have h2 := ih fun x hx => h x (List.mem_cons_of_mem _ hx)
    have : sumOps (b :: bs) = b.length + sumOps bs := by simp [sumOps]
    rw [this, List.length_cons]
    omega
theorem body_args {R L : Int} {ops : List Op} (h : bodyB R L ops = true) (hR : R ≤ 1099511627776) (hL : L ≤ 1099511627776) : ∀ o ∈ ops, 0 ≤ o.f2 ∧ o.f2 ≤ 1099511627776 := by
  unfold bodyB at h
  rw [Bool.and_eq_true, List.all_eq_true] at h
  intro o ho
  have := h.1 o ho
  unfold opB at this
  rw [Bool.and_eq_true, decide_eq_true_eq] at this
  have h2 := this.2
  unfold mostF at h2
  split at h2
  · omega
  · split at h2 <;> omega
theorem sum_take_R {Rs : List Ru} {Ls : List La} (h : okG Rs Ls = true) (i : Nat) : sumOps ((Rs.map (·.f1)).take i) ≤ Rs.length * 1099511627776 := by
  refine Nat.le_trans (sumOps_le _ fun b hb => ?_) (Nat.mul_le_mul_right _ (by simp; omega))
  obtain ⟨r, hr, rfl⟩ := List.mem_map.1 (List.mem_of_mem_take hb)
  obtain ⟨j, hj, rfl⟩ := List.getElem_of_mem hr
  have := okOps_len (okG_ru h hj).2
  simpa [ru, rd_T68, List.getD_eq_getElem?_getD, hj] using this
theorem sum_take_L {Rs : List Ru} {Ls : List La} (h : okG Rs Ls = true) (i : Nat) : sumOps (Rs.map (·.f1) ++ (Ls.map (·.f2)).take i) ≤ (Rs.length + Ls.length) * 1099511627776 := by
  rw [sumOps_append, Nat.add_mul]
  refine Nat.add_le_add ?_ ?_
  · have := sum_take_R h Rs.length
    rwa [List.take_of_length_le (by simp)] at this
  · refine Nat.le_trans (sumOps_le _ fun b hb => ?_) (Nat.mul_le_mul_right _ (by simp; omega))
    obtain ⟨r, hr, rfl⟩ := List.mem_map.1 (List.mem_of_mem_take hb)
    obtain ⟨j, hj, rfl⟩ := List.getElem_of_mem hr
    have := okOps_len (okG_la h hj).2
    simpa [la, rd_T72, List.getD_eq_getElem?_getD, hj] using this
theorem label_ok {Rs : List Ru} {Ls : List La} {i : Nat} {nm : List Int} {has : Bool} {bd : List Op} (hr : la Ls i = ⟨nm, has, bd⟩) (h1 : nameB nm = true) (h2 : 0 < i → lessB (la Ls (i - 1)).f0 nm = true) (h3 : has = true → bodyB (Rs.length : Int) (Ls.length : Int) bd = true) (h4 : has = false → bd.length = 0) : LabelOK Rs Ls i :=
  ⟨by rw [hr]; exact h1, by rw [hr]; exact h2, by rw [hr]; exact h3, by rw [hr]; exact h4⟩
theorem take_name {Rs : List Ru} {i : Nat} {nm : List Int} {bd : List Op} (h : Rs.take (i + 1) = Rs.take i ++ [ru Rs i]) (hr : ru Rs i = ⟨nm, bd⟩) : (Rs.map (·.f0)).take (i + 1) = (Rs.map (·.f0)).take i ++ [nm] := by
  rw [← List.map_take, h, List.map_append, List.map_take, hr]; rfl
theorem take_body {Rs : List Ru} {i : Nat} {nm : List Int} {bd : List Op} (h : Rs.take (i + 1) = Rs.take i ++ [ru Rs i]) (hr : ru Rs i = ⟨nm, bd⟩) : (Rs.map (·.f1)).take (i + 1) = (Rs.map (·.f1)).take i ++ [bd] := by
  rw [← List.map_take, h, List.map_append, List.map_take, hr]; rfl
end Go.Proofs.Ytdiilocgjnlmiaa.Tre
