import Derived.Test.YtdiilocgjnlmiaaCpgValid
import Derived.Test.YtdiilocgjnlmiaaCpgMarkFlat
import Derived.Deep.QuietTactic
import Derived.Deep.RegionHeld3
import Derived.Deep.DeepMust
import Derived.BigQuiet
import Derived.Outline
namespace Go.Proofs.Ytdiilocgjnlmiaa.Tre
open Go.RowKit Go.Proofs.YtdiilocgjnlmiaaW.PrintWords Go.Proofs.YtdiilocgjnlmiaaW.PrintLast Go.Proofs.YtdiilocgjnlmiaaW.PrintMore
open Go.Proofs.Ytdiilocgjnlmiaa.PAll Go.Maps
set_option linter.unusedVariables false
set_option linter.unusedSimpArgs false
def Four (W0 : World) (a b c d : Addr) (p q r s : Value) (W : World) : Prop := W.cell? a = some p ∧ W.cell? b = some q ∧ W.cell? c = some r ∧ W.cell? d = some s ∧ Aside0 (Below W0.heap.size W0 W)
theorem four_step {W0 W W' : World} {a b c d : Addr} {p q r s : Value} (hb : Below W.heap.size W W') (h : Four W0 a b c d p q r s W) : Four W0 a b c d p q r s W' :=
 ⟨pw_cell_below hb h.1, pw_cell_below hb h.2.1, pw_cell_below hb h.2.2.1, pw_cell_below hb h.2.2.2.1, ⟨below_then h.2.2.2.2.out h.2.2.2.2.out.size hb⟩⟩
def LOK (Rs : List Ru) (Ls : List La) (q : Nat) : Prop := LabelOK Rs Ls q ∧ ((la Ls q).f1 = false → (bodies Rs Ls).any (throwsB · (q : Int)) = true)
theorem lok_next {Rs : List Ru} {Ls : List La} {j : Nat} (h : ∀ q, q < j → LOK Rs Ls q) (hj : LOK Rs Ls j) : ∀ q, q < j + 1 → LOK Rs Ls q := by
 intro q hq
 rcases (by omega : q < j ∨ q = j) with h' | rfl
 ·exact h q h'
 exact hj
theorem take_lbody {Rs : List Ru} {Ls : List La} {i : Nat} {nm : List Int} {has : Bool} {bd : List Op} (ht : Ls.take (i + 1) = Ls.take i ++ [la Ls i]) (hr : la Ls i = ⟨nm, has, bd⟩) : Rs.map (·.f1) ++ (Ls.map (·.f2)).take (i + 1) = (Rs.map (·.f1) ++ (Ls.map (·.f2)).take i) ++ [bd] := by
 rw [List.append_assoc]
 congr 1
 rw [← List.map_take, ht, List.map_append, List.map_take, hr]
 rfl
theorem less_f (a b : List Int) : spec_l2less.f a b = some (lessB a b) := by
 rw [spec_l2less.f, Lib.strOfNums_toList, Lib.strOfNums_toList]
 rfl
theorem str_eq (a b : List Int) : decide (bytesL a = bytesL b) = ((strOfNums a).toList == (strOfNums b).toList) := by
 rw [Lib.strOfNums_toList, Lib.strOfNums_toList, Bool.eq_iff_iff, decide_eq_true_eq, beq_iff_eq]
 rfl
set_option maxRecDepth 100000 in
set_option maxHeartbeats 16000000 in
theorem svalid_in (w : World) (A0 A1 : Option Addr) (c0 c1 : Nat) (Rs : List Ru) (Ls : List La) (hr0 : Kd.C k68 w A0 Rs.length Rs) (hc0 : Rs.length ≤ c0) (hr1 : Kd.C k72 w A1 Ls.length Ls) (hc1 : Ls.length ≤ c1) (hok : okG Rs Ls = true) :
 Calls Try.prog 11 #[.agg #[.slice A0 Rs.length c0, .slice A1 Ls.length c1]] w (BoolPost w (validB Rs Ls)) := by
 have HOK := Aside0.mk hok
 have hRl := okG_R hok
 have hLl := okG_L hok
 clear hok
 by_cases h1 : (Rs.length : Int) < 1
 ·have d1 : decide ((Rs.length : Int) < 1) = true := decide_eq_true h1
  have HN : Aside0 (¬ Valid Rs Ls) := ⟨fun h => by have := h.r1; omega⟩
  clear h1 hr0 hr1
  go_enter Try.func11, Try.ntmps11
  go_wp2
  go_ret
  exact good_no (validB_no HN.out) (below_alloc (Below.refl _ _) _)
 by_cases h2 : (Rs.length : Int) > 100
 ·have d1 : decide ((Rs.length : Int) < 1) = false := decide_eq_false h1
  have d2 : decide ((Rs.length : Int) > 100) = true := decide_eq_true h2
  have HN : Aside0 (¬ Valid Rs Ls) := ⟨fun h => by have := h.r2; omega⟩
  clear h1 h2 hr0 hr1
  go_enter Try.func11, Try.ntmps11
  go_wp2
  go_ret
  exact good_no (validB_no HN.out) (below_alloc (Below.refl _ _) _)
 by_cases h3 : (Ls.length : Int) > 100
 ·have d1 : decide ((Rs.length : Int) < 1) = false := decide_eq_false h1
  have d2 : decide ((Rs.length : Int) > 100) = false := decide_eq_false h2
  have d3 : decide ((Ls.length : Int) > 100) = true := decide_eq_true h3
  have HN : Aside0 (¬ Valid Rs Ls) := ⟨fun h => by have := h.l2; omega⟩
  clear h1 h2 h3 hr0 hr1
  go_enter Try.func11, Try.ntmps11
  go_wp2
  go_ret
  exact good_no (validB_no HN.out) (below_alloc (Below.refl _ _) _)
 have d1 : decide ((Rs.length : Int) < 1) = false := decide_eq_false h1
 have d2 : decide ((Rs.length : Int) > 100) = false := decide_eq_false h2
 have d3 : decide ((Ls.length : Int) > 100) = false := decide_eq_false h3
 obtain ⟨K, hK⟩ : ∃ K : Nat, 109951162777600 < K := ⟨_, Nat.lt_succ_self _⟩
 have HK := Aside0.mk hK
 clear hK
 go_enter Try.func11, Try.ntmps11
 go_wp2
 have hw0 : Below w.heap.size w (w.alloc (Obj.cells #[.slice A0 Rs.length c0, .slice A1 Ls.length c1] 31)) := below_alloc (Below.refl _ _) _
 have g0 : (w.alloc (Obj.cells #[.slice A0 Rs.length c0, .slice A1 Ls.length c1] 31)).cell? ⟨w.heap.size, 0, none⟩ = some (.slice A0 Rs.length c0) := cell_new w _ _ 0 _ rfl
 have g1 : (w.alloc (Obj.cells #[.slice A0 Rs.length c0, .slice A1 Ls.length c1] 31)).cell? ⟨w.heap.size, 1, none⟩ = some (.slice A1 Ls.length c1) := cell_new w _ _ 1 _ rfl
 generalize hww : w.alloc (Obj.cells #[.slice A0 Rs.length c0, .slice A1 Ls.length c1] 31) = w0 at *
 have hR0 := Kd.C_below hr0 hw0
 have hL0 := Kd.C_below hr1 hw0
 have HW0 := Aside0.mk hw0
 clear hww hw0 hr0 hr1
 go_loopg [3, 4] (Rs.length + 1) (fun kq v3 v4 W' => ∃ (i : Nat), v3 = .int .i64 (sumOps ((Rs.map (·.f1)).take i) : Int) ∧ v4 = .int .i64 (i : Int) ∧ Aside0 (i ≤ Rs.length ∧ Rs.length < i + kq ∧ (∀ j, j < i → RuleOK Rs Ls j) ∧ Below w0.heap.size w0 W'))
 case atStart => exact ⟨0, rfl, rfl, ⟨by omega, by omega, fun j hj => absurd hj (Nat.not_lt_zero _), Below.refl _ _⟩⟩
 case round =>
  obtain ⟨i, rfl, rfl, HI⟩ := hrel
  obtain ⟨i1, i2, hRok, hB⟩ := HI.out
  clear HI
  cases gk with
  | zero => omega
  | succ k1 =>
   have HRok := Aside0.mk hRok
   have G0 := pw_cell_below hB g0
   have G1 := pw_cell_below hB g1
   have lb := World.block_lt_of_cell? _ _ g0
   by_cases hi : i < Rs.length
   ·have e1 : decide ((i : Int) < (Rs.length : Int)) = true := decide_eq_true (by omega)
    obtain ⟨ad, AN, cN, AB, cB, rfl, x0, x1, y1, y2, y3, y4⟩ := at_T68 hR0 (i : Int) (by omega) (by omega)
    rw [Int.toNat_natCast] at x0 x1
    have x0w := x0
    replace x0 := pw_cell_below hB x0
    replace x1 := pw_cell_below hB x1
    have e2 : (0 ≤ (i : Int)) = True := eq_true (by omega)
    have e3 : ((i : Int) < (Rs.length : Int)) = True := eq_true (by omega)
    obtain ⟨ok1, ok2⟩ := okG_ru HOK.out hi
    have HS1 := Aside0.mk (take_ru hi)
    have HR := Aside0.mk (fun h : Valid Rs Ls => h.rules i hi)
    change (rd_T68 Rs (i : Int)).f0.length ≤ _ at ok1
    change okOps (rd_T68 Rs (i : Int)).f1 = true at ok2
    generalize hru : rd_T68 Rs (i : Int) = r at *
    obtain ⟨nm, bd⟩ := r
    change ru Rs i = _ at hru
    simp only at x0w x0 x1 y1 y2 y3 y4 ok1 ok2
    have HX0 := Aside0.mk x0w
    clear x0w
    have hRk : ∀ (h : RuleOK Rs Ls i), nameB nm = true ∧ bodyB (Rs.length : Int) (Ls.length : Int) bd = true ∧ ∀ j, j < i → bytesL (ru Rs j).f0 ≠ bytesL nm := fun h => ⟨by have := h.name; rw [hru] at this; exact this, by have := h.body; rw [hru] at this; exact this, fun j hj => by have := h.new j hj; rw [hru] at this; exact this⟩
    have HRK := Aside0.mk hRk
    have HRU := Aside0.mk hru
    clear hRk hru
    have hbl := okOps_len ok2
    have hsum := sum_take_R HOK.out i
    have HY2 := Aside0.mk y2
    have HY4 := Aside0.mk y4
    have hgn := name_f nm K (by have := HK.out; omega)
    have hbo := bodyOK_f bd (Rs.length : Int) (Ls.length : Int) hbl 1099511627776 (okOps_set ok2) (by omega) K (by have := HK.out; omega)
    have HB := Aside0.mk hB
    have HRL := Aside0.mk hR0
    have HLL := Aside0.mk hL0
    have HG0 := Aside0.mk g0
    have HG1 := Aside0.mk g1
    clear ok2 y2 y4 hB hR0 hL0 g0 g1 hRok
    have hsw := wid (x := ((sumOps ((Rs.map (·.f1)).take i) : Nat) : Int) + (bd.length : Int)) (by omega) (by omega)
    generalize hT : sumOps ((Rs.map (·.f1)).take i) = T at *
    have HTT := Aside0.mk hT
    clear hT hsum
    go_wp2
    clear hsw
    cases hnb : nameB nm
    ·rw [hnb] at hgn
     have HNB := Lib.hid hnb
     clear hnb
     go_quiet ((go_at_call 46; go_must (exact Calls.quiet_of ((spec_l2name.calls K _ cN nm _ _ (Kd.C_drewN (Kd.C_below HY2.out HB.out) _) y1 hgn).mono fun _ _ h => ⟨h.1, h.2.out⟩))))
     go_wp2
     go_ret
     refine good_no (validB_no fun hv => ?_) (below_then HW0.out HW0.out.size (pw_below_drewN HB.out _))
     have := (HRK.out (HR.out hv)).1
     rw [HNB.out] at this
     cases this
    rw [hnb] at hgn
    have HNB := Lib.hid hnb
    clear hnb
    cases hbb : bodyB (Rs.length : Int) (Ls.length : Int) bd
    ·rw [hbb] at hbo
     have HBB := Lib.hid hbb
     clear hbb
     go_region_held3 (fun W' => W'.cell? ⟨w.heap.size, 0, none⟩ = some (.slice (some ad) Rs.length c0) ∧ W'.cell? ⟨w.heap.size, 1, none⟩ = some (.slice A1 Ls.length c1) ∧ W'.cell? (ad.add (i * 2)) = some (.slice AN nm.length cN) ∧ W'.cell? ⟨(ad.add (i * 2)).block, (ad.add (i * 2)).off + 1, none⟩ = some (.slice AB bd.length cB) ∧ Aside0 (Below w0.heap.size w0 W'))
      (first | exact ⟨G0, G1, x0, x1, ⟨HB.out⟩⟩ | (go_split_ands; exact four_step (by first | (with_reducible exact pw_below_drewN (Below.refl _ _) _) | (with_reducible exact below_drew1 (Below.refl _ _)) | (with_reducible assumption)) ⟨by assumption, by assumption, by assumption, by assumption, by assumption⟩))
      (first
       | (go_at_call 46; go_split_ands; go_must (refine (spec_l2name.calls K _ cN nm _ _ (Kd.C_below HY2.out (Aside0.out (by assumption))) y1 hgn).mono ?_); rintro e w' ⟨rfl, ⟨nd, rfl⟩⟩)
       | (go_at_call 47; go_split_ands; go_must (refine (spec_l2bodyOK.calls K _ cB bd _ _ _ _ (Kd.C_below HY4.out (Aside0.out (by assumption))) y3 hbo).mono ?_); rintro e w' ⟨rfl, hbw⟩))
     go_wp2
     go_ret
     refine good_no (validB_no fun hv => ?_) (below_then HW0.out HW0.out.size (below_then (pw_below_drewN HB.out _) (pw_below_drewN HB.out _).size hbw))
     have := (HRK.out (HR.out hv)).2.1
     rw [HBB.out] at this
     cases this
    rw [hbb] at hbo
    have HBB := Lib.hid hbb
    clear hbb
    go_region_held3 (fun W' => W'.cell? ⟨w.heap.size, 0, none⟩ = some (.slice (some ad) Rs.length c0) ∧ W'.cell? ⟨w.heap.size, 1, none⟩ = some (.slice A1 Ls.length c1) ∧ W'.cell? (ad.add (i * 2)) = some (.slice AN nm.length cN) ∧ W'.cell? ⟨(ad.add (i * 2)).block, (ad.add (i * 2)).off + 1, none⟩ = some (.slice AB bd.length cB) ∧ Aside0 (Below w0.heap.size w0 W'))
     (first | exact ⟨G0, G1, x0, x1, ⟨HB.out⟩⟩ | (go_split_ands; exact four_step (by first | (with_reducible exact pw_below_drewN (Below.refl _ _) _) | (with_reducible exact below_drew1 (Below.refl _ _)) | (with_reducible assumption)) ⟨by assumption, by assumption, by assumption, by assumption, by assumption⟩))
     (first
      | (go_at_call 46; go_split_ands; go_must (refine (spec_l2name.calls K _ cN nm _ _ (Kd.C_below HY2.out (Aside0.out (by assumption))) y1 hgn).mono ?_); rintro e w' ⟨rfl, ⟨nd, rfl⟩⟩)
      | (go_at_call 47; go_split_ands; go_must (refine (spec_l2bodyOK.calls K _ cB bd _ _ _ _ (Kd.C_below HY4.out (Aside0.out (by assumption))) y3 hbo).mono ?_); rintro e w' ⟨rfl, hbw⟩))
    have hB2 := below_then (pw_below_drewN HB.out (1 + nd)) (pw_below_drewN HB.out (1 + nd)).size hbw
    clear hbw
    go_wp2
    go_loopg [5] (i + 1) (fun kq v5 W' => ∃ (j : Nat), v5 = .int .i64 (j : Int) ∧ Aside0 (j ≤ i ∧ i < j + kq ∧ (∀ q, q < j → bytesL (ru Rs q).f0 ≠ bytesL nm) ∧ Below w0.heap.size w0 W'))
    case atStart => exact ⟨0, rfl, ⟨by omega, by omega, fun j hj => absurd hj (Nat.not_lt_zero _), hB2⟩⟩
    case round =>
     obtain ⟨wo, rfl⟩ : ∃ wo : World, wo = wr := ⟨_, rfl⟩
     obtain ⟨j, rfl, HJ⟩ := hrel
     obtain ⟨j1, j2, hne, hBj⟩ := HJ.out
     clear HJ hB2
     cases gk with
     | zero => omega
     | succ k2 =>
      have HNE := Aside0.mk hne
      clear hne
      have G0 := pw_cell_below hBj HG0.out
      have G1 := pw_cell_below hBj HG1.out
      by_cases hj : j < i
      rotate_left
      ·have f1 : decide ((j : Int) < (i : Int)) = false := decide_eq_false (by omega)
       have f1n : decide (j < i) = false := decide_eq_false hj
       have HBj := Aside0.mk hBj
       clear hBj
       go_wp2
       go_roundg k1
       case measure => omega
       case rel => exact ⟨i + 1, by rw [take_body HS1.out HRU.out, sumOps_append, sumOps_one, HTT.out]; first | rfl | (simp; done), by first | rfl | (simp; done) | (rw [wid (by omega) (by omega)]; simp), ⟨by omega, by omega, fun q hq => by
        rcases (by omega : q < i ∨ q = i) with h | rfl
        ·exact HRok.out q h
        exact ⟨by rw [HRU.out]; exact HNB.out, by rw [HRU.out]; exact HBB.out, fun x hx => by rw [HRU.out]; exact HNE.out x (by omega)⟩, HBj.out⟩⟩
      have f1 : decide ((j : Int) < (i : Int)) = true := decide_eq_true (by omega)
      have f1n : decide (j < i) = true := decide_eq_true hj
      obtain ⟨adj, AJ, cJ, _, _, had, z0, z1, z2, z3, z4, _⟩ := at_T68 HRL.out (j : Int) (by omega) (by omega)
      obtain rfl : ad = adj := Option.some.inj had
      rw [Int.toNat_natCast] at z0
      replace z0 := pw_cell_below hBj z0
      have X0 := pw_cell_below hBj HX0.out
      have f2 : (0 ≤ (j : Int)) = True := eq_true (by omega)
      have f3 : ((j : Int) < (Rs.length : Int)) = True := eq_true (by omega)
      have HNJ := Aside0.mk (show ru Rs j = rd_T68 Rs (j : Int) from rfl)
      generalize rd_T68 Rs (j : Int) = r2 at *
      obtain ⟨nm2, bd2⟩ := r2
      simp only at z0 z2 z3
      have hcv1 := fun n => Kd.C_string (P := Try.prog) (dst := 9) (c := cN) Try.underlying36 Try.underlying5 Try.underlying9 (Kd.C_drewN (Kd.C_below HY2.out hBj) n)
      have hcv2 := fun n => Kd.C_string (P := Try.prog) (dst := 9) (c := cJ) Try.underlying36 Try.underlying5 Try.underlying9 (Kd.C_drewN (Kd.C_below z3 hBj) n)
      have HBj := Aside0.mk hBj
      clear z3 had hBj z1
      have hse := str_eq nm nm2
      cases hq : ((strOfNums nm).toList == (strOfNums nm2).toList)
      ·rw [hq] at hse
       have HSE := Lib.hid hse
       clear hse
       go_wp2
       go_quiet (fail)
       go_wp2
       go_roundg k2
       case measure => omega
       case rel => exact ⟨j + 1, by first | rfl | (simp; done) | (rw [wid (by omega) (by omega)]; simp), ⟨by omega, by omega, fun q hq => by
        rcases (by omega : q < j ∨ q = j) with h | rfl
        ·exact HNE.out q h
        rw [HNJ.out]; exact fun e => of_decide_eq_false HSE.out e.symm, pw_below_drewN HBj.out _⟩⟩
      rw [hq] at hse
      have HSE := Lib.hid hse
      clear hse
      go_wp2
      go_quiet (fail)
      go_wp2
      go_ret
      refine good_no (validB_no fun hv => ?_) (below_then HW0.out HW0.out.size (pw_below_drewN HBj.out _))
      have h := (HRK.out (HR.out hv)).2.2 j hj
      rw [HNJ.out] at h
      exact h (of_decide_eq_true HSE.out).symm
   have e1 : decide ((i : Int) < (Rs.length : Int)) = false := decide_eq_false (by omega)
   have HRA : Aside0 (∀ j, j < Rs.length → RuleOK Rs Ls j) := ⟨fun j hj => HRok.out j (by omega)⟩
   have hsm : sumOps ((Rs.map (·.f1)).take i) = sumOps (Rs.map (·.f1) ++ (Ls.map (·.f2)).take 0) := by
    rw [List.take_of_length_le (l := Rs.map (·.f1)) (by simp; omega), List.take_zero, List.append_nil]
   rw [hsm]
   have HB := Aside0.mk hB
   have HRL := Aside0.mk hR0
   have HLL := Aside0.mk hL0
   have HG0 := Aside0.mk g0
   have HG1 := Aside0.mk g1
   clear hB hR0 hL0 g0 g1 hRok HRok hsm
   go_wp2
   go_loopg [3, 6] (Ls.length + 1) (fun kq v3 v6 W' => ∃ (j : Nat), v3 = .int .i64 (sumOps (Rs.map (·.f1) ++ (Ls.map (·.f2)).take j) : Int) ∧ v6 = .int .i64 (j : Int) ∧ Aside0 (j ≤ Ls.length ∧ Ls.length < j + kq ∧ (∀ q, q < j → LOK Rs Ls q) ∧ Below w0.heap.size w0 W'))
   case atStart => exact ⟨0, by simp, rfl, ⟨by omega, by omega, fun j hj => absurd hj (Nat.not_lt_zero _), HB.out⟩⟩
   case round =>
    clear HB G0 G1 lb e1 i1 i2 hi
    obtain ⟨j, rfl, rfl, HJ⟩ := hrel
    obtain ⟨j1, j2, hLok, hB⟩ := HJ.out
    clear HJ
    cases gk with
    | zero => omega
    | succ k2 =>
     have HLok := Aside0.mk hLok
     clear hLok
     have G0 := pw_cell_below hB HG0.out
     have G1 := pw_cell_below hB HG1.out
     have lb := World.block_lt_of_cell? _ _ G0
     by_cases hj : j < Ls.length
     rotate_left
     ·have e1 : decide ((j : Int) < (Ls.length : Int)) = false := decide_eq_false (by omega)
      have HEND : Aside0 (Valid Rs Ls ↔ sumOps (bodies Rs Ls) ≤ 2000) := ⟨⟨fun h => h.ops, fun h => ⟨by omega, by omega, by omega, HRA.out, fun q hq => (HLok.out q (by omega)).1, fun q hq hh => (HLok.out q (by omega)).2 hh, h⟩⟩⟩
      have hbel := Aside0.mk (below_then HW0.out HW0.out.size hB)
      have hse : sumOps (Rs.map (·.f1) ++ (Ls.map (·.f2)).take j) = sumOps (bodies Rs Ls) := by
       rw [List.take_of_length_le (l := Ls.map (·.f2)) (by simp; omega)]; rfl
      rw [hse]
      clear hse hB
      generalize sumOps (bodies Rs Ls) = T at *
      by_cases hT : T ≤ 2000
      ·have f1 : decide ((T : Int) ≤ 2000) = true := decide_eq_true (by omega)
       have f2 : decide (T ≤ 2000) = true := decide_eq_true hT
       have HT := Lib.hid hT
       clear hT
       go_wp2
       go_ret
       exact good_yes (validB_yes (HEND.out.2 HT.out)) hbel.out
      have f1 : decide ((T : Int) ≤ 2000) = false := decide_eq_false (by omega)
      have f2 : decide (T ≤ 2000) = false := decide_eq_false hT
      have HT := Lib.hid hT
      clear hT
      go_wp2
      go_ret
      exact good_no (validB_no fun h => HT.out (HEND.out.1 h)) hbel.out
     have e1 : decide ((j : Int) < (Ls.length : Int)) = true := decide_eq_true (by omega)
     obtain ⟨ad, AN, cN, AB, cB, rfl, x0, x1, x2, y1, y2, y3, y4⟩ := at_T72 HLL.out (j : Int) (by omega) (by omega)
     rw [Int.toNat_natCast] at x0 x1 x2
     replace x0 := pw_cell_below hB x0
     replace x1 := pw_cell_below hB x1
     replace x2 := pw_cell_below hB x2
     have e2 : (0 ≤ (j : Int)) = True := eq_true (by omega)
     have e3 : ((j : Int) < (Ls.length : Int)) = True := eq_true (by omega)
     obtain ⟨ok1, ok2⟩ := okG_la HOK.out hj
     have HS1 := Aside0.mk (take_la hj)
     have HL := Aside0.mk (fun h : Valid Rs Ls => h.labels j hj)
     have HTV := Aside0.mk (fun h : Valid Rs Ls => h.thrown j hj)
     change (rd_T72 Ls (j : Int)).f0.length ≤ _ at ok1
     change okOps (rd_T72 Ls (j : Int)).f2 = true at ok2
     generalize hla : rd_T72 Ls (j : Int) = r at *
     obtain ⟨nm, has, bd⟩ := r
     change la Ls j = _ at hla
     simp only at x0 x1 x2 y1 y2 y3 y4 ok1 ok2
     have HLA := Aside0.mk hla
     clear hla
     have hbl := okOps_len ok2
     have hsum := sum_take_L HOK.out j
     have HN := Aside0.mk (Kd.C_alloc (Kd.C_below y2 hB) (.cells #[.slice AN nm.length cN, .bool has, .slice AB bd.length cB] 72))
     have HD := Aside0.mk (Kd.C_below y4 hB)
     have hgn := name_f nm K (by have := HK.out; omega)
     have hbo := bodyOK_f bd (Rs.length : Int) (Ls.length : Int) hbl 1099511627776 (okOps_set ok2) (by omega) K (by have := HK.out; omega)
     have HB := Aside0.mk hB
     clear ok2 y2 y4 hB
     generalize hT : sumOps (Rs.map (·.f1) ++ (Ls.map (·.f2)).take j) = T at *
     have HTT := Aside0.mk hT
     clear hT
     cases hnb : nameB nm
     ·rw [hnb] at hgn
      have HNB := Lib.hid hnb
      clear hnb
      go_wp2
      go_quiet (((go_at_call 46; exact Calls.quiet_of ((spec_l2name.calls K _ cN nm _ _ (Kd.C_drewN HN.out _) y1 hgn).mono fun _ _ h => ⟨h.1, h.2.out⟩))))
      go_wp2
      go_ret
      refine good_no (validB_no fun hv => ?_) (below_then HW0.out HW0.out.size (pw_below_drewN (below_alloc HB.out _) nq))
      have h := (HL.out hv).name
      rw [HLA.out] at h
      exact absurd (h.symm.trans HNB.out) (by decide)
     rw [hnb] at hgn
     have HNB := Lib.hid hnb
     clear hnb
     by_cases hj0 : j = 0
     ·have fj : decide ((j : Int) > 0) = false := decide_eq_false (by omega)
      have fj2 : decide (0 < j) = false := decide_eq_false (by omega)
      have HLS : Aside0 (0 < j → lessB (la Ls (j - 1)).f0 nm = true) := ⟨fun h => by omega⟩
      clear hj0
      cases has
      ·go_wp2
       go_quiet (((go_at_call 46; exact Calls.quiet_of ((spec_l2name.calls K _ cN nm _ _ (Kd.C_drewN HN.out _) y1 hgn).mono fun _ _ h => ⟨h.1, h.2.out⟩))))
       go_wp2
       have B1 := Aside0.mk (below_then HB.out HB.out.size (pw_below_drewN (below_alloc (Below.refl _ _) _) nq) : Below w0.heap.size w0 ((wr.alloc (.cells #[.slice AN nm.length cN, .bool false, .slice AB bd.length cB] 72)).drewN nq))
       have C2 : ((wr.alloc (.cells #[.slice AN nm.length cN, .bool false, .slice AB bd.length cB] 72)).drewN nq).cell? ⟨wr.heap.size, 2, none⟩ = some (.slice AB bd.length cB) := cell_new _ _ _ 2 _ rfl
       have hsz : wr.heap.size < ((wr.alloc (.cells #[.slice AN nm.length cN, .bool false, .slice AB bd.length cB] 72)).drewN nq).heap.size := by simp
       generalize hW1 : (wr.alloc (.cells #[.slice AN nm.length cN, .bool false, .slice AB bd.length cB] 72)).drewN nq = W1 at *
       generalize wr.heap.size = LB at *
       clear hW1 x0 x1 x2
       have G0w := pw_cell_below B1.out HG0.out
       have G1w := pw_cell_below B1.out HG1.out
       have lbw := World.block_lt_of_cell? _ _ G0w
       clear HB HN HD G0 G1 lb
       go_loopg [8, 9] (Rs.length + 1) (fun kq v8 v9 W' => ∃ (q n : Nat) (b : Bool), v8 = .bool b ∧ v9 = .int .i64 (q : Int) ∧ Aside0 (q ≤ Rs.length ∧ Rs.length < q + kq ∧ b = ((Rs.map (·.f1)).take q).any (throwsB · (j : Int))) ∧ W' = W1.drewN n)
       case atStart => exact ⟨0, 0, false, rfl, rfl, ⟨by omega, by omega, rfl⟩, rfl⟩
       case round =>
        obtain ⟨q, n, b, rfl, rfl, HQ, rfl⟩ := hrel
        obtain ⟨q1, q2, q3⟩ := HQ.out
        clear HQ
        have Q3 := Lib.hid q3
        clear q3
        cases gk with
        | zero => omega
        | succ k3 =>
         by_cases hq : q < Rs.length
         ·have f1 : decide ((q : Int) < (Rs.length : Int)) = true := decide_eq_true (by omega)
          have f2 : (0 ≤ (q : Int)) = True := eq_true (by omega)
          have f3 : ((q : Int) < (Rs.length : Int)) = True := eq_true (by omega)
          obtain ⟨okq, okq2⟩ := okG_ru HOK.out hq
          have htk := take_body (take_ru hq) (show ru Rs q = ⟨(ru Rs q).f0, (ru Rs q).f1⟩ from rfl)
          have HTK := Aside0.mk htk
          clear htk okq
          cases b
          ·obtain ⟨adq, _, _, AQ, cQ, rfl, _, zq, _, _, yq, wq⟩ := at_T68 HRL.out (q : Int) (by omega) (by omega)
           rw [Int.toNat_natCast] at zq
           replace zq := pw_cell_below B1.out zq
           change okOps (rd_T68 Rs (q : Int)).f1 = true at okq2
           have htf := throws_f (rd_T68 Rs (q : Int)).f1 (j : Int) (okOps_len okq2) K (by have := HK.out; have := okOps_len okq2; omega)
           have HTV2 : Aside0 (((Rs.map (·.f1)).take (q + 1)).any (throwsB · (j : Int)) = throwsB (rd_T68 Rs (q : Int)).f1 (j : Int)) := ⟨by rw [HTK.out, List.any_append, ← Q3.out]; simp⟩
           generalize throwsB (rd_T68 Rs (q : Int)).f1 (j : Int) = tb at *
           generalize (rd_T68 Rs (q : Int)).f1 = bq at *
           have WQ := Aside0.mk (Kd.C_below wq B1.out)
           clear wq okq2
           go_wp2_with (first
            | (go_at_call 49; go_must (refine (spec_l2throws.calls K AQ cQ bq _ _ _ (Kd.C_drewN WQ.out _) yq htf).mono ?_); rintro e w' ⟨rfl, ⟨nd, rfl⟩⟩))
           go_roundg k3
           case measure => omega
           case rel => exact ⟨q + 1, _, tb, rfl, by first | rfl | (simp; done) | (rw [wid (by omega) (by omega)]; simp), ⟨by omega, by omega, HTV2.out.symm⟩, rfl⟩
          go_wp2
          go_roundg k3
          case measure => omega
          case rel => exact ⟨q + 1, n, true, rfl, by first | rfl | (simp; done) | (rw [wid (by omega) (by omega)]; simp), ⟨by omega, by omega, by rw [HTK.out, List.any_append, ← Q3.out]; rfl⟩, rfl⟩
         have f1 : decide ((q : Int) < (Rs.length : Int)) = false := decide_eq_false (by omega)
         have Q4 : Hid (b = (Rs.map (·.f1) ++ (Ls.map (·.f2)).take 0).any (throwsB · (j : Int))) := by
          have h := Q3.out
          rw [List.take_of_length_le (l := Rs.map (·.f1)) (by simp; omega)] at h
          rw [List.take_zero, List.append_nil]
          exact h
         clear Q3
         go_wp2
         go_loopg [8, 10] (Ls.length + 1) (fun kq v8 v10 W' => ∃ (q n : Nat) (b : Bool), v8 = .bool b ∧ v10 = .int .i64 (q : Int) ∧ Aside0 (q ≤ Ls.length ∧ Ls.length < q + kq ∧ b = (Rs.map (·.f1) ++ (Ls.map (·.f2)).take q).any (throwsB · (j : Int))) ∧ W' = W1.drewN n)
         case atStart => exact ⟨0, _, b, rfl, rfl, ⟨by omega, by omega, Q4.out⟩, rfl⟩
         case round =>
          clear Q4 f1
          obtain ⟨q, n, b, rfl, rfl, HQ, rfl⟩ := hrel
          obtain ⟨q1, q2, q3⟩ := HQ.out
          clear HQ
          have Q3 := Lib.hid q3
          clear q3
          cases gk with
          | zero => omega
          | succ k4 =>
           by_cases hq : q < Ls.length
           ·have f1 : decide ((q : Int) < (Ls.length : Int)) = true := decide_eq_true (by omega)
            have f2 : (0 ≤ (q : Int)) = True := eq_true (by omega)
            have f3 : ((q : Int) < (Ls.length : Int)) = True := eq_true (by omega)
            obtain ⟨okq, okq2⟩ := okG_la HOK.out hq
            have htk := take_lbody (Rs := Rs) (take_la hq) (show la Ls q = ⟨(la Ls q).f0, (la Ls q).f1, (la Ls q).f2⟩ from rfl)
            have HTK := Aside0.mk htk
            clear htk okq
            cases b
            ·obtain ⟨adq, _, _, AQ, cQ, hadq, _, _, zq, _, _, yq, wq⟩ := at_T72 HLL.out (q : Int) (by omega) (by omega)
             obtain rfl : ad = adq := Option.some.inj hadq
             clear hadq
             rw [Int.toNat_natCast] at zq
             replace zq := pw_cell_below B1.out zq
             change okOps (rd_T72 Ls (q : Int)).f2 = true at okq2
             have htf := throws_f (rd_T72 Ls (q : Int)).f2 (j : Int) (okOps_len okq2) K (by have := HK.out; have := okOps_len okq2; omega)
             have HTV2 : Aside0 ((Rs.map (·.f1) ++ (Ls.map (·.f2)).take (q + 1)).any (throwsB · (j : Int)) = throwsB (rd_T72 Ls (q : Int)).f2 (j : Int)) := ⟨by rw [HTK.out, List.any_append, ← Q3.out]; simp⟩
             generalize throwsB (rd_T72 Ls (q : Int)).f2 (j : Int) = tb at *
             generalize (rd_T72 Ls (q : Int)).f2 = bq at *
             have WQ := Aside0.mk (Kd.C_below wq B1.out)
             clear wq okq2
             go_wp2_with (first
              | (go_at_call 49; go_must (refine (spec_l2throws.calls K AQ cQ bq _ _ _ (Kd.C_drewN WQ.out _) yq htf).mono ?_); rintro e w' ⟨rfl, ⟨nd, rfl⟩⟩))
             go_roundg k4
             case measure => omega
             case rel => exact ⟨q + 1, _, tb, rfl, by first | rfl | (simp; done) | (rw [wid (by omega) (by omega)]; simp), ⟨by omega, by omega, HTV2.out.symm⟩, rfl⟩
            go_wp2
            go_roundg k4
            case measure => omega
            case rel => exact ⟨q + 1, n, true, rfl, by first | rfl | (simp; done) | (rw [wid (by omega) (by omega)]; simp), ⟨by omega, by omega, by rw [HTK.out, List.any_append, ← Q3.out]; rfl⟩, rfl⟩
           have f1 : decide ((q : Int) < (Ls.length : Int)) = false := decide_eq_false (by omega)
           have Q5 : Hid (b = (bodies Rs Ls).any (throwsB · (j : Int))) := by
            have h := Q3.out
            rw [List.take_of_length_le (l := Ls.map (·.f2)) (by simp; omega)] at h
            exact h
           clear Q3
           cases b
           ·go_wp2
            go_ret
            refine good_no (validB_no fun hv => ?_) (below_then HW0.out HW0.out.size (pw_below_drewN B1.out _))
            have h := HTV.out hv
            rw [HLA.out] at h
            exact absurd ((h rfl).symm.trans Q5.out.symm) (by decide)
           by_cases hb0 : bd.length = 0
           ·have fb : ((bd.length : Int) != 0) = false := by rw [bne_eq_false_iff_eq]; omega
            have HB0 := Lib.hid hb0
            clear hb0
            go_wp2
            go_roundg k2
            case measure => omega
            case rel => exact ⟨j + 1, by rw [take_lbody HS1.out HLA.out, sumOps_append, sumOps_one, HTT.out]; first | rfl | (simp; done), by first | rfl | (simp; done) | (rw [wid (by omega) (by omega)]; simp), ⟨by omega, by omega, lok_next HLok.out ⟨label_ok HLA.out HNB.out HLS.out (fun h => by cases h) (fun _ => HB0.out), fun _ => Q5.out.symm⟩, pw_below_drewN B1.out _⟩⟩
           have fb : ((bd.length : Int) != 0) = true := by rw [bne_iff_ne]; omega
           have HB0 := Lib.hid hb0
           clear hb0
           go_wp2
           go_ret
           refine good_no (validB_no fun hv => ?_) (below_then HW0.out HW0.out.size (pw_below_drewN B1.out _))
           have h := (HL.out hv).none
           rw [HLA.out] at h
           exact HB0.out (h rfl)
      cases hbb : bodyB (Rs.length : Int) (Ls.length : Int) bd
      ·rw [hbb] at hbo
       have HBB := Lib.hid hbb
       clear hbb
       go_wp2
       go_quiet (((go_at_call 46; exact Calls.quiet_of ((spec_l2name.calls K _ cN nm _ _ (Kd.C_drewN HN.out _) y1 hgn).mono fun _ _ h => ⟨h.1, h.2.out⟩))))
       go_wp2_with (first
        | ((with_reducible refine gate_dst (N := 135) rfl ?_); go_must (refine goesL_ (some 135) rfl rfl Try.func47 (by kernel_rfl) rfl #[.slice AB bd.length cB, .int .i64 (Rs.length : Int), .int .i64 (Ls.length : Int)] rfl (by (try simp only [List.map_toArray, List.map_cons, List.map_nil]); first | done | rfl) ?_; refine (spec_l2bodyOK.calls K _ cB bd _ _ _ _ (Kd.C_drewN (Kd.C_alloc HD.out _) _) y3 hbo).mono ?_); rintro e w' ⟨rfl, hbw⟩; have HBW := Aside0.mk hbw; clear hbw; refine ⟨_, rfl, ?_⟩))
       go_ret
       refine good_no (validB_no fun hv => ?_) (below_then HW0.out HW0.out.size (below_then (pw_below_drewN (below_alloc HB.out _) nq) (pw_below_drewN (below_alloc HB.out _) nq).size HBW.out))
       have h := (HL.out hv).body
       rw [HLA.out] at h
       have h := h rfl
       simp only at h
       rw [HBB.out] at h
       cases h
      rw [hbb] at hbo
      have HBB := Lib.hid hbb
      clear hbb
      go_wp2
      go_quiet (((go_at_call 46; exact Calls.quiet_of ((spec_l2name.calls K _ cN nm _ _ (Kd.C_drewN HN.out _) y1 hgn).mono fun _ _ h => ⟨h.1, h.2.out⟩))))
      go_wp2_with (first
       | ((with_reducible refine gate_dst (N := 135) rfl ?_); go_must (refine goesL_ (some 135) rfl rfl Try.func47 (by kernel_rfl) rfl #[.slice AB bd.length cB, .int .i64 (Rs.length : Int), .int .i64 (Ls.length : Int)] rfl (by (try simp only [List.map_toArray, List.map_cons, List.map_nil]); first | done | rfl) ?_; refine (spec_l2bodyOK.calls K _ cB bd _ _ _ _ (Kd.C_drewN (Kd.C_alloc HD.out _) _) y3 hbo).mono ?_); rintro e w' ⟨rfl, hbw⟩; have HBW := Aside0.mk hbw; clear hbw; refine ⟨_, rfl, ?_⟩))
      go_roundg k2
      case measure => omega
      case rel => exact ⟨j + 1, by rw [take_lbody HS1.out HLA.out, sumOps_append, sumOps_one, HTT.out]; first | rfl | (simp; done), by first | rfl | (simp; done) | (rw [wid (by omega) (by omega)]; simp), ⟨by omega, by omega, lok_next HLok.out ⟨label_ok HLA.out HNB.out HLS.out (fun _ => HBB.out) (fun h => by cases h), fun h => by rw [HLA.out] at h; cases h⟩, (below_then (pw_below_drewN (below_alloc HB.out _) nq) (pw_below_drewN (below_alloc HB.out _) nq).size HBW.out)⟩⟩
     have fj : decide ((j : Int) > 0) = true := decide_eq_true (by omega)
     have fj2 : decide (0 < j) = true := decide_eq_true (by omega)
     obtain ⟨q, hq⟩ : ∃ q, j = q + 1 := ⟨j - 1, by omega⟩
     obtain ⟨ad2, AN2, cN2, _, _, had, z0, _, _, z3, z4, _, _⟩ := at_T72 HLL.out (q : Int) (by omega) (by omega)
     obtain rfl : ad = ad2 := Option.some.inj had
     rw [Int.toNat_natCast] at z0
     replace z0 := pw_cell_below HB.out z0
     have lad := World.block_lt_of_cell? _ _ z0
     have fs : IntKind.i64.wrap ((j : Int) - 1) = (q : Int) := by rw [Go.Proofs.YtdiilocgjnlmiaaW.PrintLast.i64_w ((j : Int) - 1), wid (by omega) (by omega)]; omega
     have fq : (0 ≤ (q : Int)) = True := eq_true (by omega)
     have fq2 : ((q : Int) < (Ls.length : Int)) = True := eq_true (by omega)
     have hla2 : la Ls (j - 1) = rd_T72 Ls (q : Int) := by rw [hq]; rfl
     generalize rd_T72 Ls (q : Int) = r2 at *
     obtain ⟨nm2, has2, bd2⟩ := r2
     simp only at z0 z3 z4
     have HN2 := Aside0.mk (Kd.C_alloc (Kd.C_below z4 HB.out) (.cells #[.slice AN nm.length cN, .bool has, .slice AB bd.length cB] 72))
     have hls := less_f nm2 nm
     have HLA2 := Aside0.mk hla2
     clear z4 hla2 had
     cases hlb : lessB nm2 nm
     ·rw [hlb] at hls
      have HLS := Lib.hid hlb
      have HJ0 := Lib.hid hj0
      clear hlb hq hj0
      go_wp2
      go_quiet ((first | (go_at_call 46; exact Calls.quiet_of ((spec_l2name.calls K _ cN nm _ _ (Kd.C_drewN HN.out _) y1 hgn).mono fun _ _ h => ⟨h.1, h.2.out⟩)) | (go_at_call 48; exact Calls.quiet_of ((spec_l2less.calls AN2 cN2 nm2 AN cN nm _ _ (Kd.C_drewN HN2.out _) z3 (Kd.C_drewN HN.out _) y1 hls).mono fun _ _ h => ⟨h.1, h.2.out⟩))))
      go_wp2
      go_ret
      refine good_no (validB_no fun hv => ?_) (below_then HW0.out HW0.out.size (pw_below_drewN (below_alloc HB.out _) nq))
      have h := (HL.out hv).less (by have := HJ0.out; omega)
      rw [HLA2.out, HLA.out] at h
      exact absurd (h.symm.trans HLS.out) (by decide)
     rw [hlb] at hls
     have HLS : Aside0 (0 < j → lessB (la Ls (j - 1)).f0 nm = true) := ⟨fun _ => by rw [HLA2.out]; exact hlb⟩
     clear hlb hq hj0
     cases has
     ·go_wp2
      go_quiet ((first | (go_at_call 46; exact Calls.quiet_of ((spec_l2name.calls K _ cN nm _ _ (Kd.C_drewN HN.out _) y1 hgn).mono fun _ _ h => ⟨h.1, h.2.out⟩)) | (go_at_call 48; exact Calls.quiet_of ((spec_l2less.calls AN2 cN2 nm2 AN cN nm _ _ (Kd.C_drewN HN2.out _) z3 (Kd.C_drewN HN.out _) y1 hls).mono fun _ _ h => ⟨h.1, h.2.out⟩))))
      go_wp2
      have B1 := Aside0.mk (below_then HB.out HB.out.size (pw_below_drewN (below_alloc (Below.refl _ _) _) nq) : Below w0.heap.size w0 ((wr.alloc (.cells #[.slice AN nm.length cN, .bool false, .slice AB bd.length cB] 72)).drewN nq))
      have C2 : ((wr.alloc (.cells #[.slice AN nm.length cN, .bool false, .slice AB bd.length cB] 72)).drewN nq).cell? ⟨wr.heap.size, 2, none⟩ = some (.slice AB bd.length cB) := cell_new _ _ _ 2 _ rfl
      have hsz : wr.heap.size < ((wr.alloc (.cells #[.slice AN nm.length cN, .bool false, .slice AB bd.length cB] 72)).drewN nq).heap.size := by simp
      generalize hW1 : (wr.alloc (.cells #[.slice AN nm.length cN, .bool false, .slice AB bd.length cB] 72)).drewN nq = W1 at *
      generalize wr.heap.size = LB at *
      clear hW1 x0 x1 x2
      have G0w := pw_cell_below B1.out HG0.out
      have G1w := pw_cell_below B1.out HG1.out
      have lbw := World.block_lt_of_cell? _ _ G0w
      clear HB HN HD G0 G1 lb
      go_loopg [8, 9] (Rs.length + 1) (fun kq v8 v9 W' => ∃ (q n : Nat) (b : Bool), v8 = .bool b ∧ v9 = .int .i64 (q : Int) ∧ Aside0 (q ≤ Rs.length ∧ Rs.length < q + kq ∧ b = ((Rs.map (·.f1)).take q).any (throwsB · (j : Int))) ∧ W' = W1.drewN n)
      case atStart => exact ⟨0, 0, false, rfl, rfl, ⟨by omega, by omega, rfl⟩, rfl⟩
      case round =>
       obtain ⟨q, n, b, rfl, rfl, HQ, rfl⟩ := hrel
       obtain ⟨q1, q2, q3⟩ := HQ.out
       clear HQ
       have Q3 := Lib.hid q3
       clear q3
       cases gk with
       | zero => omega
       | succ k3 =>
        by_cases hq : q < Rs.length
        ·have f1 : decide ((q : Int) < (Rs.length : Int)) = true := decide_eq_true (by omega)
         have f2 : (0 ≤ (q : Int)) = True := eq_true (by omega)
         have f3 : ((q : Int) < (Rs.length : Int)) = True := eq_true (by omega)
         obtain ⟨okq, okq2⟩ := okG_ru HOK.out hq
         have htk := take_body (take_ru hq) (show ru Rs q = ⟨(ru Rs q).f0, (ru Rs q).f1⟩ from rfl)
         have HTK := Aside0.mk htk
         clear htk okq
         cases b
         ·obtain ⟨adq, _, _, AQ, cQ, rfl, _, zq, _, _, yq, wq⟩ := at_T68 HRL.out (q : Int) (by omega) (by omega)
          rw [Int.toNat_natCast] at zq
          replace zq := pw_cell_below B1.out zq
          change okOps (rd_T68 Rs (q : Int)).f1 = true at okq2
          have htf := throws_f (rd_T68 Rs (q : Int)).f1 (j : Int) (okOps_len okq2) K (by have := HK.out; have := okOps_len okq2; omega)
          have HTV2 : Aside0 (((Rs.map (·.f1)).take (q + 1)).any (throwsB · (j : Int)) = throwsB (rd_T68 Rs (q : Int)).f1 (j : Int)) := ⟨by rw [HTK.out, List.any_append, ← Q3.out]; simp⟩
          generalize throwsB (rd_T68 Rs (q : Int)).f1 (j : Int) = tb at *
          generalize (rd_T68 Rs (q : Int)).f1 = bq at *
          have WQ := Aside0.mk (Kd.C_below wq B1.out)
          clear wq okq2
          go_wp2_with (first
           | (go_at_call 49; go_must (refine (spec_l2throws.calls K AQ cQ bq _ _ _ (Kd.C_drewN WQ.out _) yq htf).mono ?_); rintro e w' ⟨rfl, ⟨nd, rfl⟩⟩))
          go_roundg k3
          case measure => omega
          case rel => exact ⟨q + 1, _, tb, rfl, by first | rfl | (simp; done) | (rw [wid (by omega) (by omega)]; simp), ⟨by omega, by omega, HTV2.out.symm⟩, rfl⟩
         go_wp2
         go_roundg k3
         case measure => omega
         case rel => exact ⟨q + 1, n, true, rfl, by first | rfl | (simp; done) | (rw [wid (by omega) (by omega)]; simp), ⟨by omega, by omega, by rw [HTK.out, List.any_append, ← Q3.out]; rfl⟩, rfl⟩
        have f1 : decide ((q : Int) < (Rs.length : Int)) = false := decide_eq_false (by omega)
        have Q4 : Hid (b = (Rs.map (·.f1) ++ (Ls.map (·.f2)).take 0).any (throwsB · (j : Int))) := by
         have h := Q3.out
         rw [List.take_of_length_le (l := Rs.map (·.f1)) (by simp; omega)] at h
         rw [List.take_zero, List.append_nil]
         exact h
        clear Q3
        go_wp2
        go_loopg [8, 10] (Ls.length + 1) (fun kq v8 v10 W' => ∃ (q n : Nat) (b : Bool), v8 = .bool b ∧ v10 = .int .i64 (q : Int) ∧ Aside0 (q ≤ Ls.length ∧ Ls.length < q + kq ∧ b = (Rs.map (·.f1) ++ (Ls.map (·.f2)).take q).any (throwsB · (j : Int))) ∧ W' = W1.drewN n)
        case atStart => exact ⟨0, _, b, rfl, rfl, ⟨by omega, by omega, Q4.out⟩, rfl⟩
        case round =>
         clear Q4 f1
         obtain ⟨q, n, b, rfl, rfl, HQ, rfl⟩ := hrel
         obtain ⟨q1, q2, q3⟩ := HQ.out
         clear HQ
         have Q3 := Lib.hid q3
         clear q3
         cases gk with
         | zero => omega
         | succ k4 =>
          by_cases hq : q < Ls.length
          ·have f1 : decide ((q : Int) < (Ls.length : Int)) = true := decide_eq_true (by omega)
           have f2 : (0 ≤ (q : Int)) = True := eq_true (by omega)
           have f3 : ((q : Int) < (Ls.length : Int)) = True := eq_true (by omega)
           obtain ⟨okq, okq2⟩ := okG_la HOK.out hq
           have htk := take_lbody (Rs := Rs) (take_la hq) (show la Ls q = ⟨(la Ls q).f0, (la Ls q).f1, (la Ls q).f2⟩ from rfl)
           have HTK := Aside0.mk htk
           clear htk okq
           cases b
           ·obtain ⟨adq, _, _, AQ, cQ, hadq, _, _, zq, _, _, yq, wq⟩ := at_T72 HLL.out (q : Int) (by omega) (by omega)
            obtain rfl : ad = adq := Option.some.inj hadq
            clear hadq
            rw [Int.toNat_natCast] at zq
            replace zq := pw_cell_below B1.out zq
            change okOps (rd_T72 Ls (q : Int)).f2 = true at okq2
            have htf := throws_f (rd_T72 Ls (q : Int)).f2 (j : Int) (okOps_len okq2) K (by have := HK.out; have := okOps_len okq2; omega)
            have HTV2 : Aside0 ((Rs.map (·.f1) ++ (Ls.map (·.f2)).take (q + 1)).any (throwsB · (j : Int)) = throwsB (rd_T72 Ls (q : Int)).f2 (j : Int)) := ⟨by rw [HTK.out, List.any_append, ← Q3.out]; simp⟩
            generalize throwsB (rd_T72 Ls (q : Int)).f2 (j : Int) = tb at *
            generalize (rd_T72 Ls (q : Int)).f2 = bq at *
            have WQ := Aside0.mk (Kd.C_below wq B1.out)
            clear wq okq2
            go_wp2_with (first
             | (go_at_call 49; go_must (refine (spec_l2throws.calls K AQ cQ bq _ _ _ (Kd.C_drewN WQ.out _) yq htf).mono ?_); rintro e w' ⟨rfl, ⟨nd, rfl⟩⟩))
            go_roundg k4
            case measure => omega
            case rel => exact ⟨q + 1, _, tb, rfl, by first | rfl | (simp; done) | (rw [wid (by omega) (by omega)]; simp), ⟨by omega, by omega, HTV2.out.symm⟩, rfl⟩
           go_wp2
           go_roundg k4
           case measure => omega
           case rel => exact ⟨q + 1, n, true, rfl, by first | rfl | (simp; done) | (rw [wid (by omega) (by omega)]; simp), ⟨by omega, by omega, by rw [HTK.out, List.any_append, ← Q3.out]; rfl⟩, rfl⟩
          have f1 : decide ((q : Int) < (Ls.length : Int)) = false := decide_eq_false (by omega)
          have Q5 : Hid (b = (bodies Rs Ls).any (throwsB · (j : Int))) := by
           have h := Q3.out
           rw [List.take_of_length_le (l := Ls.map (·.f2)) (by simp; omega)] at h
           exact h
          clear Q3
          cases b
          ·go_wp2
           go_ret
           refine good_no (validB_no fun hv => ?_) (below_then HW0.out HW0.out.size (pw_below_drewN B1.out _))
           have h := HTV.out hv
           rw [HLA.out] at h
           exact absurd ((h rfl).symm.trans Q5.out.symm) (by decide)
          by_cases hb0 : bd.length = 0
          ·have fb : ((bd.length : Int) != 0) = false := by rw [bne_eq_false_iff_eq]; omega
           have HB0 := Lib.hid hb0
           clear hb0
           go_wp2
           go_roundg k2
           case measure => omega
           case rel => exact ⟨j + 1, by rw [take_lbody HS1.out HLA.out, sumOps_append, sumOps_one, HTT.out]; first | rfl | (simp; done), by first | rfl | (simp; done) | (rw [wid (by omega) (by omega)]; simp), ⟨by omega, by omega, lok_next HLok.out ⟨label_ok HLA.out HNB.out HLS.out (fun h => by cases h) (fun _ => HB0.out), fun _ => Q5.out.symm⟩, pw_below_drewN B1.out _⟩⟩
          have fb : ((bd.length : Int) != 0) = true := by rw [bne_iff_ne]; omega
          have HB0 := Lib.hid hb0
          clear hb0
          go_wp2
          go_ret
          refine good_no (validB_no fun hv => ?_) (below_then HW0.out HW0.out.size (pw_below_drewN B1.out _))
          have h := (HL.out hv).none
          rw [HLA.out] at h
          exact HB0.out (h rfl)
     cases hbb : bodyB (Rs.length : Int) (Ls.length : Int) bd
     ·rw [hbb] at hbo
      have HBB := Lib.hid hbb
      clear hbb
      go_wp2
      go_quiet ((first | (go_at_call 46; exact Calls.quiet_of ((spec_l2name.calls K _ cN nm _ _ (Kd.C_drewN HN.out _) y1 hgn).mono fun _ _ h => ⟨h.1, h.2.out⟩)) | (go_at_call 48; exact Calls.quiet_of ((spec_l2less.calls AN2 cN2 nm2 AN cN nm _ _ (Kd.C_drewN HN2.out _) z3 (Kd.C_drewN HN.out _) y1 hls).mono fun _ _ h => ⟨h.1, h.2.out⟩))))
      go_wp2_with (first
       | ((with_reducible refine gate_dst (N := 135) rfl ?_); go_must (refine goesL_ (some 135) rfl rfl Try.func47 (by kernel_rfl) rfl #[.slice AB bd.length cB, .int .i64 (Rs.length : Int), .int .i64 (Ls.length : Int)] rfl (by (try simp only [List.map_toArray, List.map_cons, List.map_nil]); first | done | rfl) ?_; refine (spec_l2bodyOK.calls K _ cB bd _ _ _ _ (Kd.C_drewN (Kd.C_alloc HD.out _) _) y3 hbo).mono ?_); rintro e w' ⟨rfl, hbw⟩; have HBW := Aside0.mk hbw; clear hbw; refine ⟨_, rfl, ?_⟩))
      go_ret
      refine good_no (validB_no fun hv => ?_) (below_then HW0.out HW0.out.size (below_then (pw_below_drewN (below_alloc HB.out _) nq) (pw_below_drewN (below_alloc HB.out _) nq).size HBW.out))
      have h := (HL.out hv).body
      rw [HLA.out] at h
      have h := h rfl
      simp only at h
      rw [HBB.out] at h
      cases h
     rw [hbb] at hbo
     have HBB := Lib.hid hbb
     clear hbb
     go_wp2
     go_quiet ((first | (go_at_call 46; exact Calls.quiet_of ((spec_l2name.calls K _ cN nm _ _ (Kd.C_drewN HN.out _) y1 hgn).mono fun _ _ h => ⟨h.1, h.2.out⟩)) | (go_at_call 48; exact Calls.quiet_of ((spec_l2less.calls AN2 cN2 nm2 AN cN nm _ _ (Kd.C_drewN HN2.out _) z3 (Kd.C_drewN HN.out _) y1 hls).mono fun _ _ h => ⟨h.1, h.2.out⟩))))
     go_wp2_with (first
      | ((with_reducible refine gate_dst (N := 135) rfl ?_); go_must (refine goesL_ (some 135) rfl rfl Try.func47 (by kernel_rfl) rfl #[.slice AB bd.length cB, .int .i64 (Rs.length : Int), .int .i64 (Ls.length : Int)] rfl (by (try simp only [List.map_toArray, List.map_cons, List.map_nil]); first | done | rfl) ?_; refine (spec_l2bodyOK.calls K _ cB bd _ _ _ _ (Kd.C_drewN (Kd.C_alloc HD.out _) _) y3 hbo).mono ?_); rintro e w' ⟨rfl, hbw⟩; have HBW := Aside0.mk hbw; clear hbw; refine ⟨_, rfl, ?_⟩))
     go_roundg k2
     case measure => omega
     case rel => exact ⟨j + 1, by rw [take_lbody HS1.out HLA.out, sumOps_append, sumOps_one, HTT.out]; first | rfl | (simp; done), by first | rfl | (simp; done) | (rw [wid (by omega) (by omega)]; simp), ⟨by omega, by omega, lok_next HLok.out ⟨label_ok HLA.out HNB.out HLS.out (fun _ => HBB.out) (fun h => by cases h), fun h => by rw [HLA.out] at h; cases h⟩, (below_then (pw_below_drewN (below_alloc HB.out _) nq) (pw_below_drewN (below_alloc HB.out _) nq).size HBW.out)⟩⟩
end Go.Proofs.Ytdiilocgjnlmiaa.Tre
namespace Go.Proofs.Ytdiilocgjnlmiaa.PAll
open Go.RowKit Go.Proofs.YtdiilocgjnlmiaaW.PrintWords Go.Proofs.YtdiilocgjnlmiaaW.PrintLast Go.Proofs.Ytdiilocgjnlmiaa.Tre
noncomputable def spec_ValidGrammar.f (l0_0 : List S68) (l0_1 : List S72) : Option Bool := if okG l0_0 l0_1 = true then some (validB l0_0 l0_1) else none
theorem spec_ValidGrammar.calls (A0_0 : Option Addr) (c0_0 : Nat) (l0_0 : List (S68)) (A0_1 : Option Addr) (c0_1 : Nat) (l0_1 : List (S72)) (r : Bool) (w : World) (hr0_0 : Kd.C k68 w A0_0 l0_0.length l0_0) (hc0_0 : l0_0.length ≤ c0_0) (hr0_1 : Kd.C k72 w A0_1 l0_1.length l0_1) (hc0_1 : l0_1.length ≤ c0_1) (h : spec_ValidGrammar.f l0_0 l0_1 = some r) :
 Calls Try.prog 11 #[.agg #[.slice A0_0 l0_0.length c0_0, .slice A0_1 l0_1.length c0_1]] w fun e w' => e = .returned (.bool r) ∧ Below w.heap.size w w' := by
 unfold spec_ValidGrammar.f at h
 by_cases hok : okG l0_0 l0_1 = true
 ·rw [if_pos hok] at h
  obtain rfl := Option.some.inj h
  exact (svalid_in w A0_0 A0_1 c0_0 c0_1 l0_0 l0_1 hr0_0 hc0_0 hr0_1 hc0_1 hok).mono fun _ _ h => h
 rw [if_neg hok] at h
 cases h
end Go.Proofs.Ytdiilocgjnlmiaa.PAll
