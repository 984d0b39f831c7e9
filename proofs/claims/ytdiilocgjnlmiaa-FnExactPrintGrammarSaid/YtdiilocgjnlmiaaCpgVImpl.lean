import Derived.Test.YtdiilocgjnlmiaaCpgCompare
import Derived.Test.YtdiilocgjnlmiaaCpgValid
import Derived.Deep.QuietTactic
import Derived.BigQuiet
import Derived.Outline
namespace Go.Proofs.Ytdiilocgjnlmiaa.Tre
open Go.RowKit Go.Proofs.YtdiilocgjnlmiaaW.PrintWords Go.Proofs.YtdiilocgjnlmiaaW.PrintLast Go.Proofs.YtdiilocgjnlmiaaW.PrintMore
open Go.Proofs.Ytdiilocgjnlmiaa.PAll Go.Maps
set_option linter.unusedVariables false
set_option linter.unusedSimpArgs false
def seenF (ns : List (List Int)) : Lit → Bool
 | .string l => ns.any fun n => decide (bytesL n = l)
 | _ => false
theorem seenF_nil : seenF [] = fun _ => false := by
 funext k
 unfold seenF
 split <;> rfl
theorem seenF_put (ns : List (List Int)) (n : List Int) (k : Lit) : seenF (ns ++ [n]) k = true ↔ k = .string (bytesL n) ∨ seenF ns k = true := by
 unfold seenF
 split
 ·rename_i a
  simp only [List.any_append, List.any_cons, List.any_nil, Bool.or_eq_true, Bool.or_false, decide_eq_true_eq, Lit.string.injEq]
  constructor
  ·rintro (h | h)
   ·exact .inr h
   exact .inl h.symm
  rintro (h | h)
  ·exact .inr h.symm
  exact .inl h
 rename_i hk
 constructor
 ·exact .inr
 rintro (h | h)
 ·exact absurd h (hk _)
 exact h
theorem keyS_nums (nm : List Int) (h : nm.length ≤ 1099511627776) : keyOf Try.prog 9 (.string (strOfNums nm)) = some (.string (bytesL nm)) := by
 have hs : (strOfNums nm).size = nm.length := by simp [strOfNums, ByteArray.size]
 exact Go.WideMaps.keyOf_string_mk Try.underlying9 (by rw [hs]; unfold maxLen; omega)
theorem mem_take_name {Rs : List Ru} {i : Nat} {x : List Int} (hx : x ∈ (Rs.map (·.f0)).take i) : ∃ j, j < i ∧ x = (ru Rs j).f0 := by
 obtain ⟨j, hj, rfl⟩ := List.getElem_of_mem hx
 have h1 : j < i := by simp at hj; omega
 have h2 : j < Rs.length := by simp at hj; omega
 exact ⟨j, h1, by simp [ru, rd_T68, List.getD_eq_getElem?_getD, h2]⟩
theorem rule_ok {Rs : List Ru} {Ls : List La} {i : Nat} {nm : List Int} {bd : List Op} (hr : ru Rs i = ⟨nm, bd⟩) (h1 : nameB nm = true) (h2 : bodyB (Rs.length : Int) (Ls.length : Int) bd = true) (h3 : seenF ((Rs.map (·.f0)).take i) (.string (bytesL nm)) = false) : RuleOK Rs Ls i := by
 refine ⟨by rw [hr]; exact h1, by rw [hr]; exact h2, fun j hj => ?_⟩
 rw [hr]
 intro e
 rw [seenF, List.any_eq_false] at h3
 by_cases hl : j < Rs.length
 ·refine h3 (ru Rs j).f0 ?_ (decide_eq_true e)
  rw [List.mem_take_iff_getElem]
  refine ⟨j, by simp; omega, ?_⟩
  simp [ru, rd_T68, List.getD_eq_getElem?_getD, hl]
 have : ru Rs i = ru Rs j := by
  have a1 : ru Rs j = z68 := by simp [ru, rd_T68, List.getD_eq_getElem?_getD, List.getElem?_eq_none (Nat.le_of_not_lt hl)]
  have a2 : ru Rs i = z68 := by simp [ru, rd_T68, List.getD_eq_getElem?_getD, List.getElem?_eq_none (show Rs.length ≤ i by omega)]
  rw [a1, a2]
 have hn : nm = [] := by
  have a2 : ru Rs i = z68 := by simp [ru, rd_T68, List.getD_eq_getElem?_getD, List.getElem?_eq_none (show Rs.length ≤ i by omega)]
  rw [a2] at hr
  have := congrArg S68.f0 hr
  exact this.symm
 subst hn
 cases h1
def thA (bs : List (List Op)) : Lit → Bool
 | .int .i64 a => bs.any (throwsB · a)
 | _ => false
theorem thA_nil : thA [] = fun _ => false := by
 funext k
 unfold thA
 split <;> rfl
theorem thA_snoc (bs : List (List Op)) (b : List Op) : thF (thA bs) b = thA (bs ++ [b]) := by
 funext k
 unfold thF
 split
 ·simp [thA, List.any_append]
 rename_i k hk
 unfold thA
 split
 ·rename_i a
  exact absurd rfl (hk a)
 rfl
structure RS (w W : World) (Rs : List Ru) (Ls : List La) (gA gB : Value) (i : Nat) : Prop where
 vs : ∃ m, m ≤ sumOps ((Rs.map (·.f1)).take i) ∧ VS w W gA gB (sumOps ((Rs.map (·.f1)).take i)) i m (seenF ((Rs.map (·.f0)).take i)) (thA ((Rs.map (·.f1)).take i))
 ok : ∀ j, j < i → RuleOK Rs Ls j
structure LS (w W : World) (Rs : List Ru) (Ls : List La) (gA gB : Value) (i : Nat) : Prop where
 vs : ∃ n m sn, m ≤ sumOps (Rs.map (·.f1) ++ (Ls.map (·.f2)).take i) ∧ VS w W gA gB (sumOps (Rs.map (·.f1) ++ (Ls.map (·.f2)).take i)) n m sn (thA (Rs.map (·.f1) ++ (Ls.map (·.f2)).take i))
 ok : ∀ j, j < i → LabelOK Rs Ls j
theorem labels_start {w W : World} {Rs : List Ru} {Ls : List La} {gA gB : Value} {i m : Nat} {sn : Lit → Bool} {n : Nat} (hi : Rs.length ≤ i) (hm : m ≤ sumOps ((Rs.map (·.f1)).take i)) (hV : VS w W gA gB (sumOps ((Rs.map (·.f1)).take i)) n m sn (thA ((Rs.map (·.f1)).take i))) : LS w W Rs Ls gA gB 0 := by
 rw [List.take_of_length_le (l := Rs.map (·.f1)) (by simpa using hi)] at hm hV
 refine ⟨⟨n, m, sn, ?_, ?_⟩, fun j hj => absurd hj (Nat.not_lt_zero _)⟩
 ·rw [List.take_zero, List.append_nil]; exact hm
 rw [List.take_zero, List.append_nil]; exact hV
theorem labels_next {w W : World} {Rs : List Ru} {Ls : List La} {gA gB : Value} {i m m' n : Nat} {sn : Lit → Bool} {nm : List Int} {has : Bool} {bd : List Op} (ht : Ls.take (i + 1) = Ls.take i ++ [la Ls i]) (hr : la Ls i = ⟨nm, has, bd⟩) (hok : ∀ j, j < i → LabelOK Rs Ls j) (hi : LabelOK Rs Ls i)
 (hm : m ≤ sumOps (Rs.map (·.f1) ++ (Ls.map (·.f2)).take i)) (hm' : m' ≤ m + bd.length) (hV : VS w W gA gB (sumOps (Rs.map (·.f1) ++ (Ls.map (·.f2)).take i) + bd.length) n m' sn (thF (thA (Rs.map (·.f1) ++ (Ls.map (·.f2)).take i)) bd)) : LS w W Rs Ls gA gB (i + 1) := by
 have e : Rs.map (·.f1) ++ (Ls.map (·.f2)).take (i + 1) = (Rs.map (·.f1) ++ (Ls.map (·.f2)).take i) ++ [bd] := by
  rw [List.append_assoc]
  congr 1
  rw [← List.map_take, ht, List.map_append, List.map_take, hr]
  rfl
 refine ⟨⟨n, m', sn, ?_, ?_⟩, fun j hj => ?_⟩
 ·rw [e, sumOps_append, sumOps_one]; omega
 ·rw [e, sumOps_append, sumOps_one, ← thA_snoc]; exact hV
 rcases (by omega : j < i ∨ j = i) with h | rfl
 ·exact hok j h
 exact hi
structure TS (w W : World) (Rs : List Ru) (Ls : List La) (gA gB : Value) (i : Nat) : Prop where
 vs : ∃ n m sn, VS w W gA gB (sumOps (bodies Rs Ls)) n m sn (thA (bodies Rs Ls))
 ok : ∀ j, j < i → (la Ls j).f1 = false → (bodies Rs Ls).any (throwsB · (j : Int)) = true
theorem thrown_start {w W : World} {Rs : List Ru} {Ls : List La} {gA gB : Value} {i m : Nat} {sn : Lit → Bool} {n : Nat} (hi : Ls.length ≤ i) (hm : m ≤ sumOps (Rs.map (·.f1) ++ (Ls.map (·.f2)).take i)) (hV : VS w W gA gB (sumOps (Rs.map (·.f1) ++ (Ls.map (·.f2)).take i)) n m sn (thA (Rs.map (·.f1) ++ (Ls.map (·.f2)).take i))) : TS w W Rs Ls gA gB 0 := by
 rw [List.take_of_length_le (l := Ls.map (·.f2)) (by simpa using hi)] at hm hV
 exact ⟨⟨n, m, sn, hV⟩, fun j hj => absurd hj (Nat.not_lt_zero _)⟩
theorem VS.start (w : World) (gA gB : Value) : VS w (((((w.alloc (Obj.cells #[gA, gB] 31)).alloc (Obj.cells #[Value.int IntKind.i64 0] 3)).alloc (Obj.map #[] 0)).alloc (Obj.map #[] 0)).alloc (Obj.cells #[Value.map (some (w.heap.size + 1 + 1 + 1))] 77)) gA gB (sumOps []) 0 0 (fun _ => false) (fun _ => false) := by
 have b1 := below_alloc (Below.refl _ w) (Obj.cells #[gA, gB] 31)
 refine ⟨?_, ?_, ?_, ?_, ?_, ?_, ?_⟩
 ·exact pw_cell_below (below_alloc (below_alloc (below_alloc (below_alloc (Below.refl _ _) _) _) _) _) (cell_new w _ _ 0 _ rfl)
 ·exact pw_cell_below (below_alloc (below_alloc (below_alloc (below_alloc (Below.refl _ _) _) _) _) _) (cell_new w _ _ 1 _ rfl)
 ·have h := Boxed.new (w.alloc (Obj.cells #[gA, gB] 31)) 3 (.int .i64 0)
  simp only [World.size_alloc] at h
  exact ((h.alloc _).alloc _).alloc _
 ·have h := MapB.made Try.prog ((w.alloc (Obj.cells #[gA, gB] 31)).alloc (Obj.cells #[Value.int IntKind.i64 0] 3)) 9 4
  simp only [World.size_alloc] at h
  exact (h.alloc _).alloc _
 ·have h := MapB.made Try.prog (((w.alloc (Obj.cells #[gA, gB] 31)).alloc (Obj.cells #[Value.int IntKind.i64 0] 3)).alloc (Obj.map #[] 0)) 3 4
  simp only [World.size_alloc] at h
  exact h.alloc _
 ·have h := Boxed.new ((((w.alloc (Obj.cells #[gA, gB] 31)).alloc (Obj.cells #[Value.int IntKind.i64 0] 3)).alloc (Obj.map #[] 0)).alloc (Obj.map #[] 0)) 77 (.map (some (w.heap.size + 1 + 1 + 1)))
  simp only [World.size_alloc] at h
  exact h
 exact below_alloc (below_alloc (below_alloc (below_alloc b1 _) _) _) _
set_option maxRecDepth 100000 in
set_option maxHeartbeats 16000000 in
theorem valid_in (w : World) (A0 A1 : Option Addr) (c0 c1 : Nat) (Rs : List Ru) (Ls : List La) (hr0 : Kd.C k68 w A0 Rs.length Rs) (hc0 : Rs.length ≤ c0) (hr1 : Kd.C k72 w A1 Ls.length Ls) (hc1 : Ls.length ≤ c1) (hok : okG Rs Ls = true) :
 Calls Try.prog 13 #[.agg #[.slice A0 Rs.length c0, .slice A1 Ls.length c1]] w (BoolPost w (validB Rs Ls)) := by
 have hmm := @run_makeMap Try.prog
 have HOK := Aside0.mk hok
 have hRl := okG_R hok
 have hLl := okG_L hok
 clear hok
 by_cases h1 : (Rs.length : Int) < 1
 ·have d1 : decide ((Rs.length : Int) < 1) = true := decide_eq_true h1
  have HN : Aside0 (¬ Valid Rs Ls) := ⟨fun h => by have := h.r1; omega⟩
  clear h1 hr0 hr1
  go_enter Try.func13, Try.ntmps13
  go_wp2
  go_ret
  exact good_no (validB_no HN.out) (below_alloc (Below.refl _ _) _)
 by_cases h2 : (Rs.length : Int) > 100
 ·have d1 : decide ((Rs.length : Int) < 1) = false := decide_eq_false h1
  have d2 : decide ((Rs.length : Int) > 100) = true := decide_eq_true h2
  have HN : Aside0 (¬ Valid Rs Ls) := ⟨fun h => by have := h.r2; omega⟩
  clear h1 h2 hr0 hr1
  go_enter Try.func13, Try.ntmps13
  go_wp2
  go_ret
  exact good_no (validB_no HN.out) (below_alloc (Below.refl _ _) _)
 by_cases h3 : (Ls.length : Int) > 100
 ·have d1 : decide ((Rs.length : Int) < 1) = false := decide_eq_false h1
  have d2 : decide ((Rs.length : Int) > 100) = false := decide_eq_false h2
  have d3 : decide ((Ls.length : Int) > 100) = true := decide_eq_true h3
  have HN : Aside0 (¬ Valid Rs Ls) := ⟨fun h => by have := h.l2; omega⟩
  clear h1 h2 h3 hr0 hr1
  go_enter Try.func13, Try.ntmps13
  go_wp2
  go_ret
  exact good_no (validB_no HN.out) (below_alloc (Below.refl _ _) _)
 have d1 : decide ((Rs.length : Int) < 1) = false := decide_eq_false h1
 have d2 : decide ((Rs.length : Int) > 100) = false := decide_eq_false h2
 have d3 : decide ((Ls.length : Int) > 100) = false := decide_eq_false h3
 obtain ⟨K, hK⟩ : ∃ K : Nat, 1099511627776 < K := ⟨_, Nat.lt_succ_self _⟩
 have HK := Aside0.mk hK
 clear hK
 go_enter Try.func13, Try.ntmps13
 go_wp2
 have hS0 : RS w _ Rs Ls (.slice A0 Rs.length c0) (.slice A1 Ls.length c1) 0 :=
  ⟨⟨0, Nat.zero_le _, by
    simp only [List.take_zero, seenF_nil, thA_nil]
    exact VS.start w _ _⟩, fun j hj => absurd hj (Nat.not_lt_zero _)⟩
 go_loopg [35] (Rs.length + 1) (fun kq v35 W' => ∃ (i : Nat), v35 = .int .i64 (i : Int) ∧ Aside0 (i ≤ Rs.length ∧ Rs.length < i + kq) ∧ RS w W' Rs Ls (.slice A0 Rs.length c0) (.slice A1 Ls.length c1) i)
 case atStart => exact ⟨0, rfl, ⟨by omega, by omega⟩, hS0⟩
 case round =>
  obtain ⟨i, rfl, HI, hS⟩ := hrel
  obtain ⟨i1, i2⟩ := HI.out
  clear HI hS0
  cases gk with
  | zero => omega
  | succ k1 =>
   obtain ⟨m, hm1, hV⟩ := hS.vs
   have hRok := Aside0.mk hS.ok
   clear hS
   by_cases hi : i < Rs.length
   ·have e1 : decide ((i : Int) < (Rs.length : Int)) = true := decide_eq_true (by omega)
    obtain ⟨ad, AN, cN, AB, cB, rfl, x0, x1, y1, y2, y3, y4⟩ := at_T68 hr0 (i : Int) (by omega) (by omega)
    rw [Int.toNat_natCast] at x0 x1
    replace x0 := pw_cell_below hV.bel x0
    replace x1 := pw_cell_below hV.bel x1
    have e2 : (0 ≤ (i : Int)) = True := eq_true (by omega)
    have e3 : ((i : Int) < (Rs.length : Int)) = True := eq_true (by omega)
    obtain ⟨ok1, ok2⟩ := okG_ru HOK.out hi
    have HS1 := Aside0.mk (take_ru hi)
    have HR := Aside0.mk (fun h : Valid Rs Ls => h.rules i hi)
    have lg := hV.tbox.lt
    have lb : w.heap.size < wr.heap.size := by omega
    have cg0 := hV.g0
    have cg1 := hV.g1
    change (rd_T68 Rs (i : Int)).f0.length ≤ _ at ok1
    change okOps (rd_T68 Rs (i : Int)).f1 = true at ok2
    generalize hru : rd_T68 Rs (i : Int) = r at *
    obtain ⟨nm, bd⟩ := r
    change ru Rs i = _ at hru
    simp only at x0 x1 y1 y2 y3 y4 ok1 ok2
    have hRk : ∀ (h : RuleOK Rs Ls i), nameB nm = true ∧ bodyB (Rs.length : Int) (Ls.length : Int) bd = true ∧ ∀ j, j < i → bytesL (ru Rs j).f0 ≠ bytesL nm := fun h => ⟨by have := h.name; rw [hru] at this; exact this, by have := h.body; rw [hru] at this; exact this, fun j hj => by have := h.new j hj; rw [hru] at this; exact this⟩
    have HRK := Aside0.mk hRk
    have HRU := Aside0.mk hru
    clear hRk hru
    have hVa := hV.alloc (.cells #[.slice AN nm.length cN, .slice AB bd.length cB] 68)
    have hcv := Kd.C_string (P := Try.prog) (dst := 9) (c := cN) Try.underlying36 Try.underlying5 Try.underlying9 (Kd.C_alloc (Kd.C_below y2 hV.bel) (.cells #[.slice AN nm.length cN, .slice AB bd.length cB] 68))
    have hkey : keyOf Try.prog 9 (.string (strOfNums nm)) = some (.string (bytesL nm)) := keyS_nums nm ok1
    have HKEY := Aside0.mk hkey
    have HB := Aside0.mk (Kd.C_below y2 hVa.bel)
    have HD := Aside0.mk (Kd.C_below y4 hVa.bel)
    have HY2 := Aside0.mk y2
    have HY4 := Aside0.mk y4
    have hgn := goodName_f nm K (by have := HK.out; omega)
    clear hkey y2 y4 hr0 hr1
    have OK2 := Aside0.mk ok2
    clear ok2
    cases hsn : seenF ((Rs.map (·.f0)).take i) (.string (bytesL nm))
    ·have HSN := Lib.hid hsn
     clear hsn
     cases hnb : nameB nm
     ·rw [hnb] at hgn
      have HNB := Lib.hid hnb
      clear hnb
      go_wp2_with (first
       | ((with_reducible refine gate_dst (N := 43) rfl ?_); go_must (refine mapB_look hVa.seen keyS rfl _ _ _ rfl Try.underlying76 Try.underlying4 rfl rfl _ rfl _ HKEY.out _ HSN.out ?_))
       | (go_at_call 53; go_must (refine (impl_goodName.calls K _ cN nm _ _ HB.out y1 hgn).mono ?_); rintro e w' ⟨rfl, ⟨nd, rfl⟩⟩))
      go_ret
      refine good_no (validB_no fun hv => ?_) (hVa.drewN nd).bel
      have := (HRK.out (HR.out hv)).1
      rw [HNB.out] at this
      cases this
     rw [hnb] at hgn
     have HNB := Lib.hid hnb
     clear hnb
     cases hbb : bodyB (Rs.length : Int) (Ls.length : Int) bd
     ·have HBB := Lib.hid hbb
      clear hbb
      go_wp2_with (first
       | ((with_reducible refine gate_dst (N := 43) rfl ?_); go_must (refine mapB_look hVa.seen keyS rfl _ _ _ rfl Try.underlying76 Try.underlying4 rfl rfl _ rfl _ HKEY.out _ HSN.out ?_))
       | (go_at_call 53; go_must (refine (impl_goodName.calls K _ cN nm _ _ HB.out y1 hgn).mono ?_); rintro e w' ⟨rfl, ⟨nd, rfl⟩⟩)
       | (go_at_call 54; go_must (refine (goodBody_in _ AB (some ad) A1 cB Rs.length Ls.length c0 c1 bd (Kd.C_drewN HD.out _) y3 (okOps_len OK2.out) (okOps_set OK2.out) hRl hLl).mono ?_); rintro e W2 ⟨rfl, hb2⟩; rw [HBB.out]; have hV2 := (hVa.drewN nd).step hb2; have B2 := Aside0.mk hb2; clear hb2))
      go_ret
      refine good_no (validB_no fun hv => ?_) hV2.bel
      have := (HRK.out (HR.out hv)).2.1
      rw [HBB.out] at this
      cases this
     have HBB := Lib.hid hbb
     clear hbb
     have hsum := sum_take_R HOK.out i
     have HSUM : Aside0 (sumOps ((Rs.map (·.f1)).take i) ≤ 109951162777600) := ⟨by omega⟩
     clear hsum
     go_wp2_with (first
      | ((with_reducible refine gate_dst (N := 43) rfl ?_); go_must (refine mapB_look hVa.seen keyS rfl _ _ _ rfl Try.underlying76 Try.underlying4 rfl rfl _ rfl _ HKEY.out _ HSN.out ?_))
      | (go_at_call 53; go_must (refine (impl_goodName.calls K _ cN nm _ _ HB.out y1 hgn).mono ?_); rintro e w' ⟨rfl, ⟨nd, rfl⟩⟩)
      | (go_at_call 54; go_must (refine (goodBody_in _ AB (some ad) A1 cB Rs.length Ls.length c0 c1 bd (Kd.C_drewN HD.out _) y3 (okOps_len OK2.out) (okOps_set OK2.out) hRl hLl).mono ?_); rintro e W2 ⟨rfl, hb2⟩; rw [HBB.out]; have hV2 := (hVa.drewN nd).step hb2; have B2 := Aside0.mk hb2; clear hb2 ; have q0 : W2.cell? ⟨wr.heap.size, 0, none⟩ = some (.slice AN nm.length cN) := pw_cell_below B2.out (cell_new _ _ _ 0 _ rfl); have q1 : W2.cell? ⟨wr.heap.size, 1, none⟩ = some (.slice AB bd.length cB) := pw_cell_below B2.out (cell_new _ _ _ 1 _ rfl); have hcv2 := Kd.C_string (P := Try.prog) (dst := 9) (c := cN) Try.underlying36 Try.underlying5 Try.underlying9 (Kd.C_below HY2.out hV2.bel))
      | (at_mapUpdate; go_must (refine mapB_put hV2.seen keyS rfl _ _ _ _ rfl Try.underlying76 Try.underlying4 rfl (by unfold maxLen; omega) _ rfl rfl _ HKEY.out (seenF ((Rs.map (·.f0)).take i ++ [nm])) (seenF_put _ nm) ?_); intro W3 hM3 hG3; have hV3 := hV2.see hM3 hG3; have l2 := hV2.seen.lt; have q3 : W3.cell? ⟨wr.heap.size, 1, none⟩ = some (.slice AB bd.length cB) := hG3.cell q1 (by simp; omega))
      | (go_at_call 52; go_must (refine (mark_in w _ _ _ _ _ _ _ _ AB cB bd hV3 HY4.out y3 (okOps_len OK2.out) (by have := HSUM.out; omega) (by have := HSUM.out; omega) (body_args HBB.out (by omega) (by omega))).mono ?_); rintro e W4 ⟨v4, m4, rfl, hm4, hV4⟩))
     go_roundg k1
     case measure => omega
     case rel =>
      refine ⟨i + 1, by first | rfl | (simp; done) | (rw [wid (by omega) (by omega)]; simp), ⟨by omega, by omega⟩, ⟨⟨m4, ?_, ?_⟩, ?_⟩⟩
      ·rw [take_body HS1.out HRU.out, sumOps_append, sumOps_one]
       omega
      ·rw [take_body HS1.out HRU.out, take_name HS1.out HRU.out, sumOps_append, sumOps_one, ← thA_snoc]
       exact hV4
      intro j hj
      rcases (by omega : j < i ∨ j = i) with h | rfl
      ·exact hRok.out j h
      exact rule_ok HRU.out HNB.out HBB.out HSN.out
    have HSN := Lib.hid hsn
    clear hsn
    go_wp2_with (first
     | ((with_reducible refine gate_dst (N := 43) rfl ?_); go_must (refine mapB_look hVa.seen keyS rfl _ _ _ rfl Try.underlying76 Try.underlying4 rfl rfl _ rfl _ HKEY.out _ HSN.out ?_)))
    go_ret
    refine good_no (validB_no fun hv => ?_) hVa.bel
    have h := HSN.out
    simp only [seenF, List.any_eq_true, decide_eq_true_eq] at h
    obtain ⟨x, hx, hx2⟩ := h
    obtain ⟨j, hj, rfl⟩ := mem_take_name hx
    exact (HRK.out (HR.out hv)).2.2 j hj hx2
   have e1 : decide ((i : Int) < (Rs.length : Int)) = false := decide_eq_false (by omega)
   have hLS : LS w wr Rs Ls (.slice A0 Rs.length c0) (.slice A1 Ls.length c1) 0 := by
    exact labels_start (by omega) hm1 hV
   have HRA : Aside0 (∀ j, j < Rs.length → RuleOK Rs Ls j) := ⟨fun j hj => hRok.out j (by omega)⟩
   have cg1 := hV.g1
   have lg := hV.tbox.lt
   have lb : w.heap.size < wr.heap.size := by omega
   clear hr0 hV hRok
   go_wp2
   go_loopg [69] (Ls.length + 1) (fun kq v69 W' => ∃ (j : Nat), v69 = .int .i64 (j : Int) ∧ Aside0 (j ≤ Ls.length ∧ Ls.length < j + kq) ∧ LS w W' Rs Ls (.slice A0 Rs.length c0) (.slice A1 Ls.length c1) j)
   case atStart => exact ⟨0, rfl, ⟨by omega, by omega⟩, hLS⟩
   case round =>
    clear hLS cg1 lg lb e1 hm1 i1 i2 hi
    obtain ⟨j, rfl, HJ, hS⟩ := hrel
    obtain ⟨j1, j2⟩ := HJ.out
    clear HJ
    cases gk with
    | zero => omega
    | succ k2 =>
     obtain ⟨n2, m2, sn2, hm2, hV⟩ := hS.vs
     have hLok := Aside0.mk hS.ok
     clear hS
     have lg := hV.tbox.lt
     have lb : w.heap.size < wr.heap.size := by omega
     have cg0 := hV.g0
     have cg1 := hV.g1
     by_cases hj : j < Ls.length
     rotate_left
     ·have e1 : decide ((j : Int) < (Ls.length : Int)) = false := decide_eq_false (by omega)
      have hTS := thrown_start (Ls := Ls) (i := j) (by omega) hm2 hV
      have HLA : Aside0 (∀ q, q < Ls.length → LabelOK Rs Ls q) := ⟨fun q hq => hLok.out q (by omega)⟩
      clear hV hLok
      go_wp2
      go_loopg [123] (Ls.length + 1) (fun kq v123 W' => ∃ (q : Nat), v123 = .int .i64 (q : Int) ∧ Aside0 (q ≤ Ls.length ∧ Ls.length < q + kq) ∧ TS w W' Rs Ls (.slice A0 Rs.length c0) (.slice A1 Ls.length c1) q)
      case atStart => exact ⟨0, rfl, ⟨by omega, by omega⟩, hTS⟩
      case round =>
       clear hTS cg1 cg0 lg lb e1 hm2 j1 j2 hj
       obtain ⟨q, rfl, HQ, hS⟩ := hrel
       obtain ⟨q1, q2⟩ := HQ.out
       clear HQ
       cases gk with
       | zero => omega
       | succ k3 =>
        obtain ⟨n3, m3, sn3, hV⟩ := hS.vs
        have hTok := Aside0.mk hS.ok
        clear hS
        have lg := hV.tbox.lt
        have lb : w.heap.size < wr.heap.size := by omega
        have lb3 : w.heap.size + 1 < wr.heap.size := by omega
        have ct := hV.tbox.cell
        have co := hV.ops.cell
        by_cases hq : q < Ls.length
        rotate_left
        ·have e1 : decide ((q : Int) < (Ls.length : Int)) = false := decide_eq_false (by omega)
         have HEND : Aside0 (Valid Rs Ls ↔ sumOps (bodies Rs Ls) ≤ 2000) := ⟨⟨fun h => h.ops, fun h => ⟨by omega, by omega, by omega, HRA.out, HLA.out, fun x hx hh => hTok.out x (by omega) hh, h⟩⟩⟩
         have hbel := Aside0.mk hV.bel
         generalize sumOps (bodies Rs Ls) = T at *
         clear hV
         by_cases hT : T ≤ 2000
         ·have f1 : decide ((T : Int) ≤ 2000) = true := decide_eq_true (by omega)
          have f2 : decide (T ≤ 2000) = true := decide_eq_true hT
          have HT := Lib.hid hT
          clear hT
          go_wp2
          go_ret
          exact good_yes (validB_yes (HEND.out.2 HT.out)) hbel.out
         have f1 : decide ((T : Int) ≤ 2000) = false := decide_eq_false (by omega)
         have f2 : decide (T ≤ 2000) = false := decide_eq_false hT
         have HT := Lib.hid hT
         clear hT
         go_wp2
         go_ret
         exact good_no (validB_no fun h => HT.out (HEND.out.1 h)) hbel.out
        have e1 : decide ((q : Int) < (Ls.length : Int)) = true := decide_eq_true (by omega)
        obtain ⟨ad, AN, cN, AB, cB, rfl, x0, x1, x2, y1, y2, y3, y4⟩ := at_T72 hr1 (q : Int) (by omega) (by omega)
        rw [Int.toNat_natCast] at x0 x1 x2
        replace x0 := pw_cell_below hV.bel x0
        replace x1 := pw_cell_below hV.bel x1
        replace x2 := pw_cell_below hV.bel x2
        have e2 : (0 ≤ (q : Int)) = True := eq_true (by omega)
        have e3 : ((q : Int) < (Ls.length : Int)) = True := eq_true (by omega)
        have HV := Aside0.mk (fun h : Valid Rs Ls => h.thrown q hq)
        generalize hla : rd_T72 Ls (q : Int) = r at *
        obtain ⟨nm, has, bd⟩ := r
        change la Ls q = _ at hla
        simp only at x0 x1 x2 y1 y2 y3 y4
        have HLQ := Aside0.mk hla
        clear hla y2 y4 hr1
        have hVa := hV.alloc (.cells #[.slice AN nm.length cN, .bool has, .slice AB bd.length cB] 72)
        have hlk := hVa.thr.look keyI Try.underlying77 Try.underlying4 rfl (keyOf_int_mk Try.underlying3 (wf64 (q := (q : Int)) (by omega) (by omega)))
        cases has
        ·cases hth : thA (bodies Rs Ls) (.int .i64 (q : Int))
         ·rw [hth] at hlk
          have HTH := Lib.hid hth
          clear hth
          go_wp2
          go_ret
          refine good_no (validB_no fun hv => ?_) hVa.bel
          have h := HV.out hv
          rw [HLQ.out] at h
          exact absurd ((h rfl).symm.trans HTH.out) (by decide)
         rw [hth] at hlk
         have HTH := Lib.hid hth
         clear hth
         go_wp2
         go_roundg k3
         case measure => omega
         case rel => exact ⟨q + 1, by first | rfl | (simp; done) | (rw [wid (by omega) (by omega)]; simp), ⟨by omega, by omega⟩, ⟨n3, m3, sn3, hVa⟩, fun x hx hh => by
          rcases (by omega : x < q ∨ x = q) with h | rfl
          ·exact hTok.out x h hh
          exact HTH.out⟩
        clear hlk
        go_wp2
        go_roundg k3
        case measure => omega
        case rel => exact ⟨q + 1, by first | rfl | (simp; done) | (rw [wid (by omega) (by omega)]; simp), ⟨by omega, by omega⟩, ⟨n3, m3, sn3, hVa⟩, fun x hx hh => by
         rcases (by omega : x < q ∨ x = q) with h | rfl
         ·exact hTok.out x h hh
         rw [HLQ.out] at hh; cases hh⟩
     have e1 : decide ((j : Int) < (Ls.length : Int)) = true := decide_eq_true (by omega)
     obtain ⟨ad, AN, cN, AB, cB, rfl, x0, x1, x2, y1, y2, y3, y4⟩ := at_T72 hr1 (j : Int) (by omega) (by omega)
     rw [Int.toNat_natCast] at x0 x1 x2
     replace x0 := pw_cell_below hV.bel x0
     replace x1 := pw_cell_below hV.bel x1
     replace x2 := pw_cell_below hV.bel x2
     have e2 : (0 ≤ (j : Int)) = True := eq_true (by omega)
     have e3 : ((j : Int) < (Ls.length : Int)) = True := eq_true (by omega)
     obtain ⟨ok1, ok2⟩ := okG_la HOK.out hj
     have HS1 := Aside0.mk (take_la hj)
     have HL := Aside0.mk (fun h : Valid Rs Ls => h.labels j hj)
     change (rd_T72 Ls (j : Int)).f0.length ≤ _ at ok1
     change okOps (rd_T72 Ls (j : Int)).f2 = true at ok2
     generalize hla : rd_T72 Ls (j : Int) = r at *
     obtain ⟨nm, has, bd⟩ := r
     change la Ls j = _ at hla
     simp only at x0 x1 x2 y1 y2 y3 y4 ok1 ok2
     have HLA := Aside0.mk hla
     clear hla
     have hVa := hV.alloc (.cells #[.slice AN nm.length cN, .bool has, .slice AB bd.length cB] 72)
     have HB := Aside0.mk (Kd.C_below y2 hVa.bel)
     have HD := Aside0.mk (Kd.C_below y4 hVa.bel)
     have HY4 := Aside0.mk y4
     have hgn := goodName_f nm K (by have := HK.out; omega)
     have OK2 := Aside0.mk ok2
     clear ok2 y2 y4
     cases hnb : nameB nm
     ·rw [hnb] at hgn
      have HNB := Lib.hid hnb
      clear hnb hr1
      go_wp2
      go_quiet ((go_at_call 53; exact Calls.quiet_of ((impl_goodName.calls K _ cN nm _ _ (Kd.C_drewN HB.out _) y1 hgn).mono fun _ _ h => ⟨h.1, h.2.out⟩)))
      go_wp2
      go_ret
      refine good_no (validB_no fun hv => ?_) (hVa.drewN nq).bel
      have h := (HL.out hv).name
      rw [HLA.out] at h
      exact absurd (h.symm.trans HNB.out) (by decide)
     rw [hnb] at hgn
     have HNB := Lib.hid hnb
     clear hnb
     have hsum := sum_take_L HOK.out j
     have HSUM : Aside0 (sumOps (Rs.map (·.f1) ++ (Ls.map (·.f2)).take j) ≤ 219902325555200) := ⟨by omega⟩
     clear hsum
     by_cases hj0 : j = 0
     ·have fj : decide ((j : Int) > 0) = false := decide_eq_false (by omega)
      have fj2 : decide (0 < j) = false := decide_eq_false (by omega)
      have HLS : Aside0 (0 < j → lessB (la Ls (j - 1)).f0 nm = true) := ⟨fun h => by omega⟩
      clear hr1 hj0
      cases has
      ·by_cases hbl : bd.length = 0
       ·obtain rfl : bd = [] := List.eq_nil_of_length_eq_zero hbl
        go_wp2
        go_quiet (((go_at_call 53; exact Calls.quiet_of ((impl_goodName.calls K _ cN nm _ _ (Kd.C_drewN HB.out _) y1 hgn).mono fun _ _ h => ⟨h.1, h.2.out⟩))))
        go_wp2_with (first
         | (go_at_call 52; go_must (refine (mark_in w _ _ _ _ _ _ _ _ AB cB [] (hVa.drewN nq) HY4.out y3 (by simp) (by have := HSUM.out; omega) (by have := HSUM.out; omega) (by intro o ho; cases ho)).mono ?_); rintro e W4 ⟨v4, m4, rfl, hm4, hV4⟩))
        go_roundg k2
        case measure => omega
        case rel => exact ⟨j + 1, by first | rfl | (simp; done) | (rw [wid (by omega) (by omega)]; simp), ⟨by omega, by omega⟩, labels_next HS1.out HLA.out hLok.out (label_ok HLA.out HNB.out HLS.out (fun h => by cases h) (fun _ => rfl)) hm2 hm4 hV4⟩
       have fl : decide ((bd.length : Int) > 0) = true := decide_eq_true (by omega)
       have fl2 : decide (0 < bd.length) = true := decide_eq_true (by omega)
       have HBL := Lib.hid hbl
       clear hbl
       go_wp2
       go_quiet (((go_at_call 53; exact Calls.quiet_of ((impl_goodName.calls K _ cN nm _ _ (Kd.C_drewN HB.out _) y1 hgn).mono fun _ _ h => ⟨h.1, h.2.out⟩))))
       go_wp2
       go_ret
       refine good_no (validB_no fun hv => ?_) (hVa.drewN nq).bel
       have h := HL.out hv
       exact HBL.out (by have := h.none; rw [HLA.out] at this; exact this rfl)
      cases hbb : bodyB (Rs.length : Int) (Ls.length : Int) bd
      ·have HBB := Lib.hid hbb
       clear hbb
       go_wp2
       go_quiet (((go_at_call 53; exact Calls.quiet_of ((impl_goodName.calls K _ cN nm _ _ (Kd.C_drewN HB.out _) y1 hgn).mono fun _ _ h => ⟨h.1, h.2.out⟩))))
       go_wp2_with (first
        | (go_at_call 54; go_must (refine (goodBody_in _ AB A0 (some ad) cB Rs.length Ls.length c0 c1 bd (Kd.C_drewN HD.out _) y3 (okOps_len OK2.out) (okOps_set OK2.out) hRl hLl).mono ?_); rintro e W2 ⟨rfl, hb2⟩; rw [HBB.out]; have hV2 := (hVa.drewN nq).step hb2; have B2 := Aside0.mk hb2; clear hb2 ))
       go_ret
       refine good_no (validB_no fun hv => ?_) hV2.bel
       have h := (HL.out hv).body
       rw [HLA.out] at h
       have h := h rfl
       simp only at h
       rw [HBB.out] at h
       cases h
      have HBB := Lib.hid hbb
      clear hbb
      go_wp2
      go_quiet (((go_at_call 53; exact Calls.quiet_of ((impl_goodName.calls K _ cN nm _ _ (Kd.C_drewN HB.out _) y1 hgn).mono fun _ _ h => ⟨h.1, h.2.out⟩))))
      go_wp2_with (first
       | (go_at_call 54; go_must (refine (goodBody_in _ AB A0 (some ad) cB Rs.length Ls.length c0 c1 bd (Kd.C_drewN HD.out _) y3 (okOps_len OK2.out) (okOps_set OK2.out) hRl hLl).mono ?_); rintro e W2 ⟨rfl, hb2⟩; rw [HBB.out]; have hV2 := (hVa.drewN nq).step hb2; have B2 := Aside0.mk hb2; clear hb2 ; have q2 : W2.cell? ⟨wr.heap.size, 2, none⟩ = some (.slice AB bd.length cB) := pw_cell_below B2.out (cell_new _ _ _ 2 _ rfl); have q1 : W2.cell? ⟨wr.heap.size, 1, none⟩ = some (.bool true) := pw_cell_below B2.out (cell_new _ _ _ 1 _ rfl))
       | (go_at_call 52; go_must (refine (mark_in w _ _ _ _ _ _ _ _ AB cB bd hV2 HY4.out y3 (okOps_len OK2.out) (by have := HSUM.out; omega) (by have := HSUM.out; omega) (body_args HBB.out (by omega) (by omega))).mono ?_); rintro e W4 ⟨v4, m4, rfl, hm4, hV4⟩))
      go_roundg k2
      case measure => omega
      case rel => exact ⟨j + 1, by first | rfl | (simp; done) | (rw [wid (by omega) (by omega)]; simp), ⟨by omega, by omega⟩, labels_next HS1.out HLA.out hLok.out (label_ok HLA.out HNB.out HLS.out (fun _ => HBB.out) (fun h => by cases h)) hm2 hm4 hV4⟩
     have fj : decide ((j : Int) > 0) = true := decide_eq_true (by omega)
     have fj2 : decide (0 < j) = true := decide_eq_true (by omega)
     obtain ⟨q, hq⟩ : ∃ q, j = q + 1 := ⟨j - 1, by omega⟩
     obtain ⟨ad2, AN2, cN2, _, _, had, z0, _, _, z3, z4, _, _⟩ := at_T72 hr1 (q : Int) (by omega) (by omega)
     obtain rfl : ad = ad2 := Option.some.inj had
     rw [Int.toNat_natCast] at z0
     replace z0 := pw_cell_below hV.bel z0
     have lad := World.block_lt_of_cell? _ _ z0
     have fs : IntKind.i64.wrap ((j : Int) - 1) = (q : Int) := by rw [Go.Proofs.YtdiilocgjnlmiaaW.PrintLast.i64_w ((j : Int) - 1), wid (by omega) (by omega)]; omega
     have fq : (0 ≤ (q : Int)) = True := eq_true (by omega)
     have fq2 : ((q : Int) < (Ls.length : Int)) = True := eq_true (by omega)
     have hla2 : la Ls (j - 1) = rd_T72 Ls (q : Int) := by rw [hq]; rfl
     generalize rd_T72 Ls (q : Int) = r2 at *
     obtain ⟨nm2, has2, bd2⟩ := r2
     simp only at z0 z3 z4
     have HN2 := Aside0.mk (Kd.C_below z4 hVa.bel)
     have hcmp := fun W h1 h2 => compare_calls W AN2 AN nm2 nm cN2 cN h1 h2
     have hcn := compare_neg (Lib.bytesOf nm2) (Lib.bytesOf nm)
     generalize Lib.compareBytes (Lib.bytesOf nm2) (Lib.bytesOf nm) = cv at hcmp hcn
     have HCM := Aside0.mk hcmp
     have HLA2 := Aside0.mk hla2
     clear hr1 hcmp z4 hla2 had
     cases hls : Op.bytesLess (Lib.bytesOf nm2) (Lib.bytesOf nm)
     ·rw [hls] at hcn
      have fcv : decide (cv ≥ 0) = true := hcn
      have HLS := Lib.hid hls
      have HJ0 := Lib.hid hj0
      clear hls hcn hq hj0
      go_wp2
      go_quiet ((first | (go_at_call 53; exact Calls.quiet_of ((impl_goodName.calls K _ cN nm _ _ (Kd.C_drewN HB.out _) y1 hgn).mono fun _ _ h => ⟨h.1, h.2.out⟩)) | (go_at_call 55; exact Calls.quiet_of_same (HCM.out _ (Kd.C_drewN HN2.out _) (Kd.C_drewN HB.out _)))))
      go_wp2
      go_ret
      refine good_no (validB_no fun hv => ?_) (hVa.drewN nq).bel
      have h := (HL.out hv).less (by have := HJ0.out; omega)
      rw [HLA2.out, HLA.out] at h
      exact absurd (h.symm.trans HLS.out) (by decide)
     rw [hls] at hcn
     have fcv : decide (cv ≥ 0) = false := hcn
     have HLS : Aside0 (0 < j → lessB (la Ls (j - 1)).f0 nm = true) := ⟨fun _ => by rw [HLA2.out]; exact hls⟩
     clear hls hcn hq hj0
     cases has
     ·by_cases hbl : bd.length = 0
      ·obtain rfl : bd = [] := List.eq_nil_of_length_eq_zero hbl
       go_wp2
       go_quiet ((first | (go_at_call 53; exact Calls.quiet_of ((impl_goodName.calls K _ cN nm _ _ (Kd.C_drewN HB.out _) y1 hgn).mono fun _ _ h => ⟨h.1, h.2.out⟩)) | (go_at_call 55; exact Calls.quiet_of_same (HCM.out _ (Kd.C_drewN HN2.out _) (Kd.C_drewN HB.out _)))))
       go_wp2_with (first
        | (go_at_call 52; go_must (refine (mark_in w _ _ _ _ _ _ _ _ AB cB [] (hVa.drewN nq) HY4.out y3 (by simp) (by have := HSUM.out; omega) (by have := HSUM.out; omega) (by intro o ho; cases ho)).mono ?_); rintro e W4 ⟨v4, m4, rfl, hm4, hV4⟩))
       go_roundg k2
       case measure => omega
       case rel => exact ⟨j + 1, by first | rfl | (simp; done) | (rw [wid (by omega) (by omega)]; simp), ⟨by omega, by omega⟩, labels_next HS1.out HLA.out hLok.out (label_ok HLA.out HNB.out HLS.out (fun h => by cases h) (fun _ => rfl)) hm2 hm4 hV4⟩
      have fl : decide ((bd.length : Int) > 0) = true := decide_eq_true (by omega)
      have fl2 : decide (0 < bd.length) = true := decide_eq_true (by omega)
      have HBL := Lib.hid hbl
      clear hbl
      go_wp2
      go_quiet ((first | (go_at_call 53; exact Calls.quiet_of ((impl_goodName.calls K _ cN nm _ _ (Kd.C_drewN HB.out _) y1 hgn).mono fun _ _ h => ⟨h.1, h.2.out⟩)) | (go_at_call 55; exact Calls.quiet_of_same (HCM.out _ (Kd.C_drewN HN2.out _) (Kd.C_drewN HB.out _)))))
      go_wp2
      go_ret
      refine good_no (validB_no fun hv => ?_) (hVa.drewN nq).bel
      have h := HL.out hv
      exact HBL.out (by have := h.none; rw [HLA.out] at this; exact this rfl)
     cases hbb : bodyB (Rs.length : Int) (Ls.length : Int) bd
     ·have HBB := Lib.hid hbb
      clear hbb
      go_wp2
      go_quiet ((first | (go_at_call 53; exact Calls.quiet_of ((impl_goodName.calls K _ cN nm _ _ (Kd.C_drewN HB.out _) y1 hgn).mono fun _ _ h => ⟨h.1, h.2.out⟩)) | (go_at_call 55; exact Calls.quiet_of_same (HCM.out _ (Kd.C_drewN HN2.out _) (Kd.C_drewN HB.out _)))))
      go_wp2_with (first
       | (go_at_call 54; go_must (refine (goodBody_in _ AB A0 (some ad) cB Rs.length Ls.length c0 c1 bd (Kd.C_drewN HD.out _) y3 (okOps_len OK2.out) (okOps_set OK2.out) hRl hLl).mono ?_); rintro e W2 ⟨rfl, hb2⟩; rw [HBB.out]; have hV2 := (hVa.drewN nq).step hb2; have B2 := Aside0.mk hb2; clear hb2 ))
      go_ret
      refine good_no (validB_no fun hv => ?_) hV2.bel
      have h := (HL.out hv).body
      rw [HLA.out] at h
      have h := h rfl
      simp only at h
      rw [HBB.out] at h
      cases h
     have HBB := Lib.hid hbb
     clear hbb
     go_wp2
     go_quiet ((first | (go_at_call 53; exact Calls.quiet_of ((impl_goodName.calls K _ cN nm _ _ (Kd.C_drewN HB.out _) y1 hgn).mono fun _ _ h => ⟨h.1, h.2.out⟩)) | (go_at_call 55; exact Calls.quiet_of_same (HCM.out _ (Kd.C_drewN HN2.out _) (Kd.C_drewN HB.out _)))))
     go_wp2_with (first
      | (go_at_call 54; go_must (refine (goodBody_in _ AB A0 (some ad) cB Rs.length Ls.length c0 c1 bd (Kd.C_drewN HD.out _) y3 (okOps_len OK2.out) (okOps_set OK2.out) hRl hLl).mono ?_); rintro e W2 ⟨rfl, hb2⟩; rw [HBB.out]; have hV2 := (hVa.drewN nq).step hb2; have B2 := Aside0.mk hb2; clear hb2 ; have q2 : W2.cell? ⟨wr.heap.size, 2, none⟩ = some (.slice AB bd.length cB) := pw_cell_below B2.out (cell_new _ _ _ 2 _ rfl); have q1 : W2.cell? ⟨wr.heap.size, 1, none⟩ = some (.bool true) := pw_cell_below B2.out (cell_new _ _ _ 1 _ rfl))
      | (go_at_call 52; go_must (refine (mark_in w _ _ _ _ _ _ _ _ AB cB bd hV2 HY4.out y3 (okOps_len OK2.out) (by have := HSUM.out; omega) (by have := HSUM.out; omega) (body_args HBB.out (by omega) (by omega))).mono ?_); rintro e W4 ⟨v4, m4, rfl, hm4, hV4⟩))
     go_roundg k2
     case measure => omega
     case rel => exact ⟨j + 1, by first | rfl | (simp; done) | (rw [wid (by omega) (by omega)]; simp), ⟨by omega, by omega⟩, labels_next HS1.out HLA.out hLok.out (label_ok HLA.out HNB.out HLS.out (fun _ => HBB.out) (fun h => by cases h)) hm2 hm4 hV4⟩
end Go.Proofs.Ytdiilocgjnlmiaa.Tre
namespace Go.Proofs.Ytdiilocgjnlmiaa.PAll
open Go.RowKit Go.Proofs.YtdiilocgjnlmiaaW.PrintWords Go.Proofs.YtdiilocgjnlmiaaW.PrintLast Go.Proofs.Ytdiilocgjnlmiaa.Tre
noncomputable def impl_ValidGrammar.f (l0_0 : List S68) (l0_1 : List S72) : Option Bool := if okG l0_0 l0_1 = true then some (validB l0_0 l0_1) else none
end Go.Proofs.Ytdiilocgjnlmiaa.PAll
