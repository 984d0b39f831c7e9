import Derived.Test.YtdiilocgjnlmiaaCcoCompare
import Derived.Test.YtdiilocgjnlmiaaCcoVImpl
namespace Go.Proofs.Ytdiilocgjnlmiaa.Tre
open Go.RowKit Go.Proofs.YtdiilocgjnlmiaaW.PrintWords Go.Proofs.YtdiilocgjnlmiaaW.PrintLast Go.Proofs.YtdiilocgjnlmiaaW.PrintMore
open Go.Proofs.Ytdiilocgjnlmiaa.PAll
set_option linter.unusedVariables false
set_option linter.unusedSimpArgs false
theorem smT_flat : ∀ (t : Tr), (∀ o ∈ flat t, o.f1.length ≤ 1048576) → smT t
 | .emp, _ => trivial
 | .set s, h => h ⟨1, s, 0⟩ (by simp [flat])
 | .ref _, _ => trivial
 | .thr _, _ => trivial
 | .seq l r, h => ⟨smT_flat l fun o ho => h o (by simp [flat, ho]), smT_flat r fun o ho => h o (by simp [flat, ho])⟩
 | .alt l r, h => ⟨smT_flat l fun o ho => h o (by simp [flat, ho]), smT_flat r fun o ho => h o (by simp [flat, ho])⟩
 | .star x, h => smT_flat x fun o ho => h o (by simp [flat, ho])
 | .neg x, h => smT_flat x fun o ho => h o (by simp [flat, ho])
theorem InSt.keptMap {W W' : World} {B m : Nat} {v : Value} {sv : Nat → Value} {l : List In} (h : InSt W B v sv l) (hg : W.grownBy W' (some m)) (hm : ∃ o, W.heap[m]? = some o ∧ ∀ cs t fz, o ≠ .cells cs t fz) : InSt W' B v sv l := by
 obtain ⟨o, ho, hn⟩ := hm
 have key : ∀ {t : TypeId} {sz : Nat} {u : Value} {n : Nat} {xs : List Value}, W.ownsRow B t sz u n xs → W'.ownsRow B t sz u n xs := fun hr => own_move hr fun k hk => hg.block k (hr.lt k hk).2 fun e => by
  injection e with e
  subst e
  obtain ⟨c, hc⟩ := own_typed hr k hk
  rw [ho] at hc
  injection hc with hc
  exact hn _ _ _ hc
 exact ⟨key h.row, fun q hq => key (h.sets q hq), h.apart⟩
structure CSt (w W : World) (b : Nat) (G : Array Value) (code : List In) (m1 m2 n1 n2 : Nat) (f1 f2 : Nat → Int) : Prop where
 asm : Asm W w.heap.size b code (.map (some m1)) (.map (some m2))
 gbx : W.heap[w.heap.size]? = some (.cells G 31 (0, 0))
 r : MapI W m1 n1 f1
 l : MapI W m2 n2 f2
 ne : m1 ≠ m2
 lo1 : w.heap.size ≤ m1
 lo2 : w.heap.size ≤ m2
 bel : Below w.heap.size w W
section
variable {w W W' : World} {b m1 m2 n1 n2 : Nat} {G : Array Value} {code code' : List In} {f1 f2 : Nat → Int}
theorem CSt.box (h : CSt w W b G code m1 m2 n1 n2 f1 f2) : W.cell? ⟨b, 1, none⟩ = some (.map (some m1)) ∧ W.cell? ⟨b, 2, none⟩ = some (.map (some m2)) := by
 obtain ⟨v, sv, h1, _⟩ := h.asm.ex
 exact ⟨(blk_cell h1 1).trans rfl, (blk_cell h1 2).trans rfl⟩
theorem CSt.below (h : CSt w W b G code m1 m2 n1 n2 f1 f2) (hb : Below W.heap.size W W') : CSt w W' b G code m1 m2 n1 n2 f1 f2 :=
 ⟨h.asm.below hb, blk_below h.gbx hb, h.r.below hb, h.l.below hb, h.ne, h.lo1, h.lo2, below_then h.bel h.bel.size hb⟩
theorem CSt.nb (h : CSt w W b G code m1 m2 n1 n2 f1 f2) : m1 ≠ b ∧ m2 ≠ b ∧ w.heap.size ≠ b := by
 obtain ⟨v, sv, h1, _⟩ := h.asm.ex
 obtain ⟨o1, p1, q1⟩ := h.r.obj
 obtain ⟨o2, p2, q2⟩ := h.l.obj
 refine ⟨fun e => ?_, fun e => ?_, blk_ne h.gbx h1 (by decide)⟩
 ·rw [e, h1] at p1
  injection p1 with p1
  exact q1 _ _ _ p1.symm
 rw [e, h1] at p2
 injection p2 with p2
 exact q2 _ _ _ p2.symm
theorem CSt.fr (h : CSt w W b G code m1 m2 n1 n2 f1 f2) (hA : Asm W' w.heap.size b code' (.map (some m1)) (.map (some m2))) (hF : AFr b w.heap.size W W') : CSt w W' b G code' m1 m2 n1 n2 f1 f2 := by
 obtain ⟨e1, e2, e3⟩ := h.nb
 obtain ⟨o1, p1, q1⟩ := h.r.obj
 obtain ⟨o2, p2, q2⟩ := h.l.obj
 exact ⟨hA, hF.blk h.gbx e3 (by decide), h.r.step ((hF.kept _ _ p1 e1 fun c z => q1 c _ z).trans p1.symm), h.l.step ((hF.kept _ _ p2 e2 fun c z => q2 c _ z).trans p2.symm), h.ne, h.lo1, h.lo2, h.bel.trans hF.bel⟩
theorem Asm.keptMap {B m : Nat} {mr ml : Value} (h : Asm W B b code mr ml) (hg : W.grownBy W' (some m)) (hm : ∃ o, W.heap[m]? = some o ∧ ∀ cs t fz, o ≠ .cells cs t fz) : Asm W' B b code mr ml := by
 obtain ⟨v, sv, h1, h2⟩ := h.ex
 refine ⟨⟨v, sv, blk_grown h1 hg fun e => ?_, h2.keptMap hg hm⟩, h.lo⟩
 injection e with e
 obtain ⟨o, ho, hn⟩ := hm
 rw [← e, h1] at ho
 injection ho with ho
 exact hn _ _ _ ho.symm
theorem CSt.put1 (h : CSt w W b G code m1 m2 n1 n2 f1 f2) {n : Nat} {f : Nat → Int} (hm : MapI W' m1 n f) (hg : W.grownBy W' (some m1)) : CSt w W' b G code m1 m2 n n2 f f2 := by
 obtain ⟨o1, p1, q1⟩ := h.r.obj
 refine ⟨h.asm.keptMap hg h.r.obj, blk_grown h.gbx hg fun e => ?_, hm, h.l.grown hg fun e => ?_, h.ne, h.lo1, h.lo2, h.bel.grown hg h.bel.size fun k hk => ?_⟩
 ·injection e with e
  rw [← e, h.gbx] at p1
  injection p1 with p1
  exact q1 _ _ _ p1.symm
 ·injection e with e
  exact h.ne e.symm
 injection hk with hk
 rw [← hk]; exact h.lo1
theorem CSt.put2 (h : CSt w W b G code m1 m2 n1 n2 f1 f2) {n : Nat} {f : Nat → Int} (hm : MapI W' m2 n f) (hg : W.grownBy W' (some m2)) : CSt w W' b G code m1 m2 n1 n f1 f := by
 obtain ⟨o1, p1, q1⟩ := h.l.obj
 refine ⟨h.asm.keptMap hg h.l.obj, blk_grown h.gbx hg fun e => ?_, h.r.grown hg fun e => ?_, hm, h.ne, h.lo1, h.lo2, h.bel.grown hg h.bel.size fun k hk => ?_⟩
 ·injection e with e
  rw [← e, h.gbx] at p1
  injection p1 with p1
  exact q1 _ _ _ p1.symm
 ·injection e with e
  exact h.ne e
 injection hk with hk
 rw [← hk]; exact h.lo2
end
theorem CSt.start {w W1 : World} {G : Array Value} (hB : Below w.heap.size w W1) (hG : W1.heap[w.heap.size]? = some (.cells G 31 (0, 0))) : CSt w (((W1.alloc (Obj.map #[] 0)).alloc (Obj.map #[] 0)).alloc (Obj.cells #[.slice none 0 0, .map (some W1.heap.size), .map (some (W1.heap.size + 1))] 146)) (W1.heap.size + 1 + 1) G [] W1.heap.size (W1.heap.size + 1) 0 0 (fun _ => 0) (fun _ => 0) := by
 have e1 : (W1.alloc (Obj.map #[] 0)).heap.size = W1.heap.size + 1 := by simp
 have e2 : ((W1.alloc (Obj.map #[] 0)).alloc (Obj.map #[] 0)).heap.size = W1.heap.size + 1 + 1 := by simp
 have hn := blk_new ((W1.alloc (Obj.map #[] 0)).alloc (Obj.map #[] 0)) (Obj.cells #[.slice none 0 0, .map (some W1.heap.size), .map (some (W1.heap.size + 1))] 146)
 rw [e2] at hn
 have hz := hB.size
 have m1 := MapI.made W1
 have m2 := MapI.made (W1.alloc (Obj.map #[] 0))
 rw [e1] at m2
 exact ⟨⟨⟨_, fun _ => undef, hn, InSt.nil _ _ _⟩, by omega⟩, blk_alloc (blk_alloc (blk_alloc hG _) _) _, (m1.below (below_alloc (Below.refl _ _) _)).below (below_alloc (Below.refl _ _) _), m2.below (below_alloc (Below.refl _ _) _), by omega, hz, by omega, below_alloc (below_alloc (below_alloc hB _) _) _⟩
def CompPost (w : World) (l : List In) (c : Int) (e : Ending) (w' : World) : Prop := ∃ v sv, e = .returned (.tuple #[v, .int .i64 c]) ∧ InSt w' w.heap.size v sv l ∧ Below w.heap.size w w'
def compI (Rs : List Ru) (Ls : List La) : List In := progN (fun n => plc (trees Rs Ls) n.toNat) (fun n => plc (trees Rs Ls) (Rs.length + n.toNat)) Rs.length (trees Rs Ls) (Rs.length + Ls.length)
noncomputable def compF (Rs : List Ru) (Ls : List La) : List In × Int := if validB Rs Ls = true then (compI Rs Ls, 0) else ([], 4)
def cpR.T : Bool × List (List Nat × List Nat) := (true, [([], []), ([0], [0]), ([1], [1]), ([2], [2]), ([], []), ([], []), ([], []), ([6], [6]), ([], []), ([8], [8]), ([5, 7, 9], [5, 7, 9]), ([3, 4, 10, 10, 0, 1, 2, 3, 4, 5, 6, 7, 8, 9, 10], [3, 4, 10])])
def cpR.B : List Nat := [0, 1, 3, 7, 0, 0, 0, 64, 0, 256, 992, 2047]
theorem cpR.tab : rtab .any (opsOf Try.f42 9) = cpR.T := by kernel_rfl
theorem cpR.bits : waitsOk cpR.T.2 cpR.B = true := by kernel_rfl
def cpL.T : Bool × List (List Nat × List Nat) := (true, [([], []), ([0], [0]), ([1], [1]), ([2], [2]), ([], []), ([], []), ([], []), ([6], [6]), ([], []), ([8], [8]), ([5, 7, 9], [5, 7, 9]), ([3, 4, 10, 10, 0, 1, 2, 3, 4, 5, 6, 7, 8, 9, 10], [3, 4, 10])])
def cpL.B : List Nat := [0, 1, 3, 7, 0, 0, 0, 64, 0, 256, 992, 2047]
theorem cpL.tab : rtab .any (opsOf Try.f42 16) = cpL.T := by kernel_rfl
theorem cpL.bits : waitsOk cpL.T.2 cpL.B = true := by kernel_rfl
def cpC.T : Bool × List (List Nat × List Nat) := (true, [([], []), ([], []), ([1], [1]), ([2], [2]), ([3], [3]), ([], []), ([5], [5]), ([6], [6]), ([7], [7]), ([4, 8], [4, 8]), ([0, 0, 1, 2, 3, 4, 5, 6, 7, 8, 9], [0]), ([10, 0, 1, 2, 3, 4, 5, 6, 7, 8, 9], [10]), ([11, 9, 0, 1, 2, 3, 4, 5, 6, 7, 8, 9], [9, 11])])
def cpC.B : List Nat := [0, 0, 2, 6, 14, 0, 32, 96, 224, 510, 1023, 2047, 4095]
theorem cpC.tab : rtab .any (opsOf Try.f42 24) = cpC.T := by kernel_rfl
theorem cpC.bits : waitsOk cpC.T.2 cpC.B = true := by kernel_rfl
def cpT.T : Bool × List (List Nat × List Nat) := (true, [([], []), ([], []), ([1], [1]), ([2], [2]), ([3], [3]), ([], []), ([5], [5]), ([6], [6]), ([7], [7]), ([4, 8], [4, 8]), ([0, 0, 1, 2, 3, 4, 5, 6, 7, 8, 9], [0]), ([10, 0, 1, 2, 3, 4, 5, 6, 7, 8, 9], [10]), ([11, 9, 0, 1, 2, 3, 4, 5, 6, 7, 8, 9], [9, 11])])
def cpT.B : List Nat := [0, 0, 2, 6, 14, 0, 32, 96, 224, 510, 1023, 2047, 4095]
theorem cpT.tab : rtab .any (opsOf Try.f42 26) = cpT.T := by kernel_rfl
theorem cpT.bits : waitsOk cpT.T.2 cpT.B = true := by kernel_rfl
set_option maxRecDepth 100000 in
set_option maxHeartbeats 16000000 in
theorem compile_in (w : World) (A0 A1 : Option Addr) (c0 c1 : Nat) (Rs : List Ru) (Ls : List La) (hr0 : Kd.C k68 w A0 Rs.length Rs) (hc0 : Rs.length ≤ c0) (hr1 : Kd.C k72 w A1 Ls.length Ls) (hc1 : Ls.length ≤ c1) (hok : okG Rs Ls = true) (hsR : ssRs Rs) (hsL : ssLs Ls) :
 Calls Try.prog 42 #[.agg #[.slice A0 Rs.length c0, .slice A1 Ls.length c1]] w (CompPost w (compF Rs Ls).1 (compF Rs Ls).2) := by
 have hb1 : Below w.heap.size w (w.alloc (Obj.cells #[.slice A0 Rs.length c0, .slice A1 Ls.length c1] 31)) := below_alloc (Below.refl _ _) _
 have HR0 := Aside0.mk (Kd.C_below hr0 hb1)
 have HL0 := Aside0.mk (Kd.C_below hr1 hb1)
 have HR := Aside0.mk hr0
 have HL := Aside0.mk hr1
 have HB1 := Aside0.mk hb1
 have HBG := Aside0.mk (blk_new w (Obj.cells #[.slice A0 Rs.length c0, .slice A1 Ls.length c1] 31))
 have HOK := Aside0.mk hok
 have HSR := Aside0.mk hsR
 have HSL := Aside0.mk hsL
 clear hr0 hr1 hb1 hok hsR hsL
 cases hvb : validB Rs Ls with
 | false =>
  have HVB := Lib.hid hvb
  have HG : Aside0 (compF Rs Ls = ([], 4)) := ⟨by unfold compF; rw [hvb]; rfl⟩
  clear hvb
  go_enter Try.func42, Try.ntmps42
  go_wp2_with (go_at_call 13; refine (valid_in _ A0 A1 c0 c1 Rs Ls HR0.out hc0 HL0.out hc1 HOK.out).mono ?_; go_must (rintro e W1 ⟨rfl, hb⟩; rw [HVB.out]; have HB := Aside0.mk hb; clear hb))
  go_ret2
  rw [HG.out]
  exact ⟨_, fun _ => undef, rfl, InSt.nil _ _ _, below_then HB1.out HB1.out.size HB.out⟩
 | true =>
  have hv := validB_iff.1 hvb
  have HN := Aside0.mk hv.nice
  have HGO := Aside0.mk hv.gok
  have HVB := Lib.hid hvb
  have hr1 := hv.r1
  have hr2 := hv.r2
  have hl2 := hv.l2
  have HG : Aside0 (compF Rs Ls = (compI Rs Ls, 0)) := ⟨by unfold compF; rw [hvb]; rfl⟩
  have HSM : Aside0 (∀ i x, i < Rs.length + Ls.length → tr (trees Rs Ls) i = some x → smT x) := ⟨fun i x hi hx => by
   rcases hv.nice.body i hi with ⟨_, e2⟩ | ⟨y, e1, e2, _, _⟩
   ·rw [e2] at hx; cases hx
   rw [e1] at hx
   injection hx with hx
   subst hx
   refine smT_flat _ ?_
   rw [← e2]
   by_cases hlt : i < Rs.length
   ·rw [bodyN_ru hlt]
    exact (HSR.out.2 _ (ru_mem hlt)).2.2
   obtain ⟨j, rfl⟩ : ∃ j, i = Rs.length + j := ⟨i - Rs.length, by omega⟩
   rw [bodyN_la (by omega)]
   exact (HSL.out.2 _ (la_mem (by omega))).2.2⟩
  clear hvb hv
  have hmm := @run_makeMap Try.prog
  go_enter Try.func42, Try.ntmps42
  go_upto_region 4 with (go_at_call 13; refine (valid_in _ A0 A1 c0 c1 Rs Ls HR0.out hc0 HL0.out hc1 HOK.out).mono ?_; go_must (rintro e W1 ⟨rfl, hb⟩; rw [HVB.out]; have HB := Aside0.mk (below_then HB1.out HB1.out.size hb); have HG1 := Aside0.mk (blk_below HBG.out hb); clear hb))
  have HS0 := Aside0.mk (CSt.start HB.out HG1.out)
  clear hmm
  generalize ((W1.alloc (Obj.map #[] 0)).alloc (Obj.map #[] 0)).alloc (Obj.cells #[.slice none 0 0, .map (some W1.heap.size), .map (some (W1.heap.size + 1))] 146) = W2 at *
  clear HB HG1
  generalize W1.heap.size + 1 + 1 = b at *
  generalize W1.heap.size + 1 = m2 at *
  generalize W1.heap.size = m1 at *
  clear W1 HR0 HL0 HB1 HBG
  obtain ⟨Ts, hTs⟩ : ∃ Ts, Ts = trees Rs Ls := ⟨_, rfl⟩
  have HTS := Aside0.mk hTs
  have HBL : Aside0 (∀ i, i ≤ Rs.length + Ls.length → begN Ts i ≤ 2 + 4003 * i) := ⟨by rw [hTs]; exact begN_le HN.out⟩
  have HGE : Aside0 (progN id id Rs.length Ts 0 = [⟨6, 0, 0, []⟩, ⟨12, 0, 0, []⟩]) := ⟨rfl⟩
  clear hTs
  go_wp2_with (first
   | (go_at_call 95; refine (emitK_in 12 0 0 (n := 1) rfl HS3.out.asm (by simp)).mono ?_; go_must (rintro e W4 ⟨rfl, hA, hF⟩; have HS4 := Aside0.mk (HS3.out.fr hA hF); have z0 := blk_cell HS4.out.gbx 0; clear hA hF))
   | (go_at_call 95; refine (emitK_in 6 0 0 (n := 0) rfl HS0.out.asm (by simp)).mono ?_; go_must (rintro e W3 ⟨rfl, hA, hF⟩; have HS3 := Aside0.mk (HS0.out.fr hA hF); clear hA hF)))
  go_loopg [27] (Rs.length + 1) (fun kq v27 W' => ∃ (i : Nat) (f1 : Nat → Int), v27 = .int .i64 (i : Int) ∧ Aside0 (i ≤ Rs.length ∧ Rs.length < i + kq) ∧ Aside0 (CSt w W' b #[.slice A0 Rs.length c0, .slice A1 Ls.length c1] (progN id id Rs.length Ts i) m1 m2 i 0 f1 (fun _ => 0)) ∧ Aside0 (∀ j, j < i → f1 j = (begN Ts j : Int)))
  case atStart => exact ⟨0, _, rfl, ⟨by omega, by omega⟩, HS4, ⟨fun j hj => absurd hj (Nat.not_lt_zero _)⟩⟩
  case round =>
   clear HS0 HS3 HS4 z0
   obtain ⟨i, f1, rfl, HI, HS, HF⟩ := hrel
   obtain ⟨i1, i2⟩ := HI.out
   clear HI
   cases gk with
   | zero => omega
   | succ k1 =>
    by_cases hi : i < Rs.length
    ·have d1 : decide ((i : Int) < (Rs.length : Int)) = true := decide_eq_true (by omega)
     obtain ⟨x, ht⟩ := HGO.out.rt i hi
     have hT := tr_ru (Ls := Ls) hi ht
     rw [← HTS.out] at hT
     have hsm : smT x := HSM.out i x (by omega) (by rw [← HTS.out]; exact hT)
     have hb9 : (bodyN Rs Ls i).length ≤ 2000 := body_le HN.out (by omega)
     rw [bodyN_ru hi] at hb9
     have hbg := HBL.out (i + 1) (by omega)
     obtain ⟨ad, AN, cN, AB, cB, rfl, x0, x1, y1, y2, y3, y4⟩ := at_T68 HR.out (i : Int) (by omega) (by omega)
     rw [Int.toNat_natCast] at x0 x1
     replace x0 := pw_cell_below HS.out.bel x0
     replace x1 := pw_cell_below HS.out.bel x1
     have lx := World.block_lt_of_cell? _ _ x0
     have e2 : (0 ≤ (i : Int)) = True := eq_true (by omega)
     have e3 : ((i : Int) < (Rs.length : Int)) = True := eq_true (by omega)
     change treeF (rd_T68 Rs (i : Int)).f1 = some x at ht
     change (rd_T68 Rs (i : Int)).f1.length ≤ 2000 at hb9
     generalize rd_T68 Rs (i : Int) = r at *
     obtain ⟨nm, bd⟩ := r
     simp only at x0 x1 y1 y2 y3 y4 ht hb9
     clear y2
     obtain ⟨nn, hnn⟩ : ∃ nn : Nat, nn = begN Ts i := ⟨_, rfl⟩
     have hnl : nn + szT x + 3 ≤ 900000 := by
      rw [begN, hT, ← hnn] at hbg
      simp only [szO] at hbg
      omega
     have hbx : Below wr.heap.size wr (wr.alloc (Obj.cells #[.slice AN nm.length cN, .slice AB bd.length cB] 68)) := below_alloc (Below.refl _ _) _
     have hS4 := HS.out.below hbx
     have hx4 := blk_new wr (Obj.cells #[.slice AN nm.length cN, .slice AB bd.length cB] 68)
     have hne : wr.heap.size ≠ b := by
      obtain ⟨_, _, hbb, _⟩ := HS.out.asm.ex
      have := blk_lt hbb
      omega
     have q0 := hS4.box.1
     have q1 := blk_cell hx4 1
     have HX4 := Aside0.mk hx4
     have HS4 := Aside0.mk hS4
     have HC := Aside0.mk y4
     have HT := Aside0.mk hT
     have HTF := Aside0.mk ht
     have HNN := Aside0.mk hnn
     have HSMX := Aside0.mk hsm
     clear hS4 hx4 y4 hT ht hnn hsm hbg hbx
     go_upto_region 9 with fail
     generalize wr.alloc (Obj.cells #[.slice AN nm.length cN, .slice AB bd.length cB] 68) = W4 at *
     refine start_ (n := 12) (S := fun W' => W'.cell? ⟨b, 1, none⟩ = some (.map (some m1)) ∧ W'.cell? ⟨wr.heap.size, 1, none⟩ = some (.slice AB bd.length cB)) (ds := [11]) #[false, false, false, false, false, false, false, false, false, false, false, false] (by kernel_rfl) rfl rfl (⟨q0, q1⟩) (fun hHeld => ?_); refine with_tabW cpR.tab cpR.bits (fun HT_ HW_ => ?_)
     refine pu_ 0 32 HT_ ?_
     refine pu_ 1 33 HT_ ?_
     refine pu_ 2 34 HT_ ?_
     refine ta_ 3 35 HT_ HW_ hHeld ?_
     refine pu_ 4 36 HT_ ?_
     refine pu_ 5 37 HT_ ?_
     refine pu_ 6 38 HT_ ?_
     refine pu_ 7 39 HT_ ?_
     refine pu_ 8 40 HT_ ?_
     refine ta_ 9 41 HT_ HW_ hHeld ?_
     refine on_ 10 (some 42) HT_ (fun K hK => ?_)
     refine ge_ Try.func96 #[.pointer (some ⟨b, 0, none⟩), .agg #[.int .i64 9, .int .i64 (i : Int), .int .i64 0, .slice none 0 0], .slice AB bd.length cB] ?_
     refine (routine_in w _ w.heap.size b _ _ _ 9 (i : Int) AB cB bd x (Nat.le_refl _) (below_then HS4.out.bel HS4.out.bel.size (by repeat (first | exact Below.refl _ _ | apply Below.drew))) (HS4.out.asm.below (by repeat (first | exact Below.refl _ _ | apply Below.drew))) HC.out y3 hb9 HTF.out HSMX.out nn (by rw [progN_len]; exact HNN.out) hnl).mono ?_
     rintro e W5 ⟨rfl, hA, hF⟩
     refine ⟨_, rfl, ?_⟩
     have hF := (AFr.of_below (b := b) HS4.out.asm.size (by repeat (first | exact Below.refl _ _ | apply Below.drew))).trans hF
     have hS5 := HS4.out.fr hA hF
     have e5 : progN id id Rs.length Ts i ++ rtI id id 9 (i : Int) x nn = progN id id Rs.length Ts (i + 1) := by
      rw [progN, ndI, HT.out, ndK, ndA, if_pos hi, if_pos hi, HNN.out]
     rw [e5] at hS5
     have hx5 := hF.blk HX4.out hne (by decide)
     have p0 := hS5.box.1
     have p1 := blk_cell hx5 1
     have HS5 := Aside0.mk hS5
     clear hA hF hS5 hx5 e5
     refine hK.out _ _ (⟨p0, p1⟩) (fun hHeld => ?_)
     clear hK K
     refine no_ (some 42) ?_
     refine la_ 11 none HT_ (fun K hK => ?_)
     refine step_mapPut rfl (.tmp 35) (.tmp 36) (.tmp 42) rfl HS5.out.r rfl i rfl (nn : Int) rfl (by omega) (by omega) (by omega) (by omega) ?_
     intro W6 hm hg
     have HS6 := Aside0.mk (HS5.out.put1 hm hg)
     clear hm hg
     refine hK.out _ _ ?_
     clear hK K
     refine done_ (done_of HT_.out (by kernel_rfl)) ?_
     go_wp2_with fail
     go_roundg k1
     case measure => omega
     case rel => exact ⟨i + 1, _, by first | rfl | (rw [wid (by omega) (by omega)]; simp), ⟨by omega, by omega⟩, HS6, ⟨fun j hj => by
      by_cases e : j = i
      ·subst e; rw [if_pos rfl, HNN.out]
      rw [if_neg e]; exact HF.out j (by omega)⟩⟩
    have d1 : decide ((i : Int) < (Rs.length : Int)) = false := decide_eq_false (by omega)
    obtain rfl : i = Rs.length := by omega
    have z0 := blk_cell HS.out.gbx 1
    go_wp2_with fail
    go_loopg [47] (Ls.length + 1) (fun kq v47 W' => ∃ (j : Nat) (f2 : Nat → Int), v47 = .int .i64 (j : Int) ∧ Aside0 (j ≤ Ls.length ∧ Ls.length < j + kq) ∧ Aside0 (CSt w W' b #[.slice A0 Rs.length c0, .slice A1 Ls.length c1] (progN id id Rs.length Ts (Rs.length + j)) m1 m2 Rs.length (2 * j) f1 f2) ∧ Aside0 (∀ q, q < j → f2 q = plc Ts (Rs.length + q)))
    case atStart => exact ⟨0, _, rfl, ⟨by omega, by omega⟩, HS, ⟨fun j hj => absurd hj (Nat.not_lt_zero _)⟩⟩
    case round =>
     clear HS z0 d1
     obtain ⟨j, f2, rfl, HI, HS, HF2⟩ := hrel
     obtain ⟨j1, j2⟩ := HI.out
     clear HI
     cases gk with
     | zero => omega
     | succ k2 =>
      by_cases hj : j < Ls.length
      ·have d1 : decide ((j : Int) < (Ls.length : Int)) = true := decide_eq_true (by omega)
       have hT := tr_la (Rs := Rs) (Ls := Ls) hj
       rw [← HTS.out] at hT
       have ht1 := HGO.out.lt j hj
       have ht2 := HGO.out.ln j hj
       have hb9 : (bodyN Rs Ls (Rs.length + j)).length ≤ 2000 := body_le HN.out (by omega)
       rw [bodyN_la hj] at hb9
       have hbg := HBL.out (Rs.length + j + 1) (by omega)
       obtain ⟨ad, AN, cN, AB, cB, rfl, x0, x1, x2, y1, y2, y3, y4⟩ := at_T72 HL.out (j : Int) (by omega) (by omega)
       rw [Int.toNat_natCast] at x0 x1 x2
       replace x0 := pw_cell_below HS.out.bel x0
       replace x1 := pw_cell_below HS.out.bel x1
       replace x2 := pw_cell_below HS.out.bel x2
       have lx := World.block_lt_of_cell? _ _ x0
       have e2 : (0 ≤ (j : Int)) = True := eq_true (by omega)
       have e3 : ((j : Int) < (Ls.length : Int)) = True := eq_true (by omega)
       change tr Ts (Rs.length + j) = treeF (rd_T72 Ls (j : Int)).f2 at hT
       change (rd_T72 Ls (j : Int)).f1 = true → ∃ t, treeF (rd_T72 Ls (j : Int)).f2 = some t at ht1
       change (rd_T72 Ls (j : Int)).f1 = false → (rd_T72 Ls (j : Int)).f2 = [] at ht2
       change (rd_T72 Ls (j : Int)).f2.length ≤ 2000 at hb9
       generalize rd_T72 Ls (j : Int) = r at *
       obtain ⟨nm, hh, bd⟩ := r
       simp only at x0 x1 x2 y1 y2 y3 y4 ht1 ht2 hT hb9
       clear y2
       have hne : wr.heap.size ≠ b := by
        obtain ⟨_, _, hbb, _⟩ := HS.out.asm.ex
        have := blk_lt hbb
        omega
       have hnm : wr.heap.size ≠ m2 := by have := HS.out.l.lt; omega
       have HC := Aside0.mk y4
       clear y4
       cases hh with
       | false =>
        have hbx : Below wr.heap.size wr (wr.alloc (Obj.cells #[.slice AN nm.length cN, .bool false, .slice AB bd.length cB] 72)) := below_alloc (Below.refl _ _) _
        have hS4 := HS.out.below hbx
        have hx4 := blk_new wr (Obj.cells #[.slice AN nm.length cN, .bool false, .slice AB bd.length cB] 72)
        have q0 := hS4.box.2
        have HX4 := Aside0.mk hx4
        have HS4 := Aside0.mk hS4
        have hbd := ht2 rfl
        have HTN : Aside0 (tr Ts (Rs.length + j) = none) := ⟨by rw [hT, hbd]; rfl⟩
        clear hS4 hx4 hbx ht1 ht2 hT hbd hbg
        go_wp2_with (at_mapUpdate; go_must (refine list_mapPut rfl _ _ _ rfl HS4.out.l rfl j rfl (-1) rfl (by omega) (by omega) (by omega) (by omega) ?_; intro W5 hm hg; have hx5 := blk_grown HX4.out hg (by intro e; injection e with e; exact hnm e); have p1 := blk_cell hx5 1; have HS5 := Aside0.mk (HS4.out.put2 hm hg); clear hm hg hx5))
        go_roundg k2
        case measure => omega
        case rel => exact ⟨j + 1, _, by first | rfl | (rw [wid (by omega) (by omega)]; simp), ⟨by omega, by omega⟩, ⟨by
         have h := HS5.out
         have e : progN id id Rs.length Ts (Rs.length + (j + 1)) = progN id id Rs.length Ts (Rs.length + j) := by
          rw [← Nat.add_assoc, progN, ndI, HTN.out, List.append_nil]
         rw [e]
         exact ⟨h.asm, h.gbx, h.r, h.l.mono (by omega), h.ne, h.lo1, h.lo2, h.bel⟩⟩, ⟨fun q hq => by
         by_cases e : q = j
         ·subst e; rw [if_pos rfl, plc, HTN.out]; rfl
         rw [if_neg e]; exact HF2.out q (by omega)⟩⟩
       | true =>
        obtain ⟨x, ht⟩ := ht1 rfl
        rw [ht] at hT
        have hsm : smT x := HSM.out (Rs.length + j) x (by omega) (by rw [← HTS.out]; exact hT)
        obtain ⟨nn, hnn⟩ : ∃ nn : Nat, nn = begN Ts (Rs.length + j) := ⟨_, rfl⟩
        have hnl : nn + szT x + 3 ≤ 900000 := by
         rw [begN, hT, ← hnn] at hbg
         simp only [szO] at hbg
         omega
        have hbx : Below wr.heap.size wr (wr.alloc (Obj.cells #[.slice AN nm.length cN, .bool true, .slice AB bd.length cB] 72)) := below_alloc (Below.refl _ _) _
        have hS4 := HS.out.below hbx
        have hx4 := blk_new wr (Obj.cells #[.slice AN nm.length cN, .bool true, .slice AB bd.length cB] 72)
        have q0 := hS4.box.2
        have HX4 := Aside0.mk hx4
        have HS4 := Aside0.mk hS4
        have HT := Aside0.mk hT
        have HTF := Aside0.mk ht
        have HNN := Aside0.mk hnn
        have HSMX := Aside0.mk hsm
        have hnR : ¬ Rs.length + j < Rs.length := by omega
        clear hS4 hx4 hbx ht1 ht2 hT ht hnn hsm hbg
        go_upto_region 16 with (at_mapUpdate; go_must (refine list_mapPut rfl _ _ _ rfl HS4.out.l rfl j rfl (-1) rfl (by omega) (by omega) (by omega) (by omega) ?_; intro W5 hm hg; have hx5 := blk_grown HX4.out hg (by intro e; injection e with e; exact hnm e); have p1 := blk_cell hx5 1; have p2 := blk_cell hx5 2; have HX5 := Aside0.mk hx5; have HS5 := Aside0.mk (HS4.out.put2 hm hg); have p0 := HS5.out.box.2; clear hm hg hx5))
        refine start_ (n := 12) (S := fun W' => W'.cell? ⟨b, 2, none⟩ = some (.map (some m2)) ∧ W'.cell? ⟨wr.heap.size, 2, none⟩ = some (.slice AB bd.length cB)) (ds := [11]) #[false, false, false, false, false, false, false, false, false, false, false, false] (by kernel_rfl) rfl rfl (⟨p0, p2⟩) (fun hHeld => ?_); refine with_tabW cpL.tab cpL.bits (fun HT_ HW_ => ?_)
        refine pu_ 0 59 HT_ ?_
        refine pu_ 1 60 HT_ ?_
        refine pu_ 2 61 HT_ ?_
        refine ta_ 3 62 HT_ HW_ hHeld ?_
        refine pu_ 4 63 HT_ ?_
        refine pu_ 5 64 HT_ ?_
        refine pu_ 6 65 HT_ ?_
        refine pu_ 7 66 HT_ ?_
        refine pu_ 8 67 HT_ ?_
        refine ta_ 9 68 HT_ HW_ hHeld ?_
        refine on_ 10 (some 69) HT_ (fun K hK => ?_)
        refine ge_ Try.func96 #[.pointer (some ⟨b, 0, none⟩), .agg #[.int .i64 10, .int .i64 (j : Int), .int .i64 0, .slice none 0 0], .slice AB bd.length cB] ?_
        refine (routine_in w _ w.heap.size b _ _ _ 10 (j : Int) AB cB bd x (Nat.le_refl _) (below_then HS5.out.bel HS5.out.bel.size (by repeat (first | exact Below.refl _ _ | apply Below.drew))) (HS5.out.asm.below (by repeat (first | exact Below.refl _ _ | apply Below.drew))) HC.out y3 hb9 HTF.out HSMX.out nn (by rw [progN_len]; exact HNN.out) hnl).mono ?_
        rintro e W6 ⟨rfl, hA, hF⟩
        refine ⟨_, rfl, ?_⟩
        have hF := (AFr.of_below (b := b) HS5.out.asm.size (by repeat (first | exact Below.refl _ _ | apply Below.drew))).trans hF
        have hS6 := HS5.out.fr hA hF
        have e5 : progN id id Rs.length Ts (Rs.length + j) ++ rtI id id 10 (j : Int) x nn = progN id id Rs.length Ts (Rs.length + j + 1) := by
         rw [progN, ndI, HT.out, ndK, ndA, if_neg hnR, if_neg hnR, HNN.out, Nat.add_sub_cancel_left]
        rw [e5] at hS6
        have hx6 := hF.blk HX5.out hne (by decide)
        have u0 := hS6.box.2
        have u2 := blk_cell hx6 2
        have HS6 := Aside0.mk hS6
        clear hA hF hS6 hx6 e5
        refine hK.out _ _ (⟨u0, u2⟩) (fun hHeld => ?_)
        clear hK K
        refine no_ (some 69) ?_
        refine la_ 11 none HT_ (fun K hK => ?_)
        refine step_mapPut rfl (.tmp 62) (.tmp 63) (.tmp 69) rfl HS6.out.l rfl j rfl (nn : Int) rfl (by omega) (by omega) (by omega) (by omega) ?_
        intro W7 hm hg
        have HS7 := Aside0.mk (HS6.out.put2 hm hg)
        clear hm hg
        refine hK.out _ _ ?_
        clear hK K
        refine done_ (done_of HT_.out (by kernel_rfl)) ?_
        go_wp2_with fail
        go_roundg k2
        case measure => omega
        case rel => exact ⟨j + 1, _, by first | rfl | (rw [wid (by omega) (by omega)]; simp), ⟨by omega, by omega⟩, ⟨by
         have h := HS7.out
         rw [← Nat.add_assoc]
         exact ⟨h.asm, h.gbx, h.r, h.l.mono (by omega), h.ne, h.lo1, h.lo2, h.bel⟩⟩, ⟨fun q hq => by
         by_cases e : q = j
         ·subst e; rw [if_pos rfl, plc, HT.out, HNN.out]; rfl
         rw [if_neg e, if_neg e]; exact HF2.out q (by omega)⟩⟩
      have d1 : decide ((j : Int) < (Ls.length : Int)) = false := decide_eq_false (by omega)
      obtain rfl : j = Ls.length := by omega
      obtain ⟨C, hC⟩ : ∃ C, C = progN id id Rs.length Ts (Rs.length + Ls.length) := ⟨_, rfl⟩
      have HSC : Aside0 (CSt w wr b #[.slice A0 Rs.length c0, .slice A1 Ls.length c1] C m1 m2 Rs.length (2 * Ls.length) f1 f2) := ⟨by rw [hC]; exact HS.out⟩
      have HCE := Aside0.mk hC
      have HCL : Aside0 (C.length ≤ 900000) := ⟨by rw [hC, progN_len]; have := HBL.out (Rs.length + Ls.length) (Nat.le_refl _); omega⟩
      have HOKI : Aside0 (∀ x ∈ C, okI Rs.length Ls.length x) := ⟨by
       rw [hC, HTS.out]
       refine okI_progN (by omega) (fun i => ?_) (fun i x hx => ?_) _
       ·by_cases hi : i < Rs.length + Ls.length
        ·rcases HN.out.body i hi with ⟨_, e2⟩ | ⟨y, e1, _, e3, _⟩
         ·rw [e2]; intro t ht; cases ht
         rw [e1]; intro t ht; injection ht with ht; rw [← ht]; exact e3
        intro t ht
        rw [tr, List.getD_eq_getElem?_getD, List.getElem?_eq_none (by rw [len_trees]; omega)] at ht
        cases ht
       by_cases hi : i < Rs.length + Ls.length
       ·exact HSM.out i x hi hx
       rw [tr, List.getD_eq_getElem?_getD, List.getElem?_eq_none (by rw [len_trees]; omega)] at hx
       cases hx⟩
      have HP1 : Aside0 (∀ q, q < Rs.length → f1 q = plc Ts q) := ⟨fun q hq => by
       rw [HF.out q hq, plc]
       obtain ⟨x, hx⟩ := HGO.out.rt q hq
       have := tr_ru (Ls := Ls) hq hx
       rw [← HTS.out] at this
       rw [this]
       rfl⟩
      obtain ⟨gf, hgf⟩ : ∃ gf, gf = aim (fun n => plc Ts n.toNat) (fun n => plc Ts (Rs.length + n.toNat)) := ⟨_, rfl⟩
      have HGF := Aside0.mk hgf
      obtain ⟨nC, hnC⟩ : ∃ nC : Nat, nC = C.length := ⟨_, rfl⟩
      have HNC := Aside0.mk hnC
      have hnb : nC ≤ 900000 := by have := HCL.out; omega
      have hS0 : CSt w wr b #[.slice A0 Rs.length c0, .slice A1 Ls.length c1] (ai gf C 0) m1 m2 Rs.length (2 * Ls.length) f1 f2 := by rw [ai_zero]; exact HSC.out
      obtain ⟨v9, sv9, p1, p2⟩ := HSC.out.asm.ex
      obtain ⟨Av, cv, rfl⟩ := p2.form
      have z0 := blk_cell p1 0
      rw [← hnC] at z0
      clear HS HSC HF hC hgf hnC p1 p2 i1 i2 hi j1 j2 hj
      go_wp2_with fail
      go_loopg [76] (nC + 1) (fun kq v76 W' => ∃ (q : Nat), v76 = .int .i64 (q : Int) ∧ Aside0 (q ≤ nC ∧ nC < q + kq) ∧ Aside0 (CSt w W' b #[.slice A0 Rs.length c0, .slice A1 Ls.length c1] (ai gf C q) m1 m2 Rs.length (2 * Ls.length) f1 f2))
      case atStart => exact ⟨0, rfl, ⟨by omega, by omega⟩, ⟨hS0⟩⟩
      case round =>
       clear hS0 z0 d1
       obtain ⟨q, rfl, HI, HS⟩ := hrel
       obtain ⟨q1, q2⟩ := HI.out
       clear HI
       cases gk with
       | zero => omega
       | succ k3 =>
        have hal : (ai gf C q).length = nC := by rw [ai_len, HNC.out]
        obtain ⟨v9, sv9, p1, p2⟩ := HS.out.asm.ex
        obtain ⟨Av, cv, rfl⟩ := p2.form
        rw [hal] at p1 p2
        have HAL := Aside0.mk hal
        clear hal
        have z0 := blk_cell p1 0
        have z1 := HS.out.box.1
        have z2 := HS.out.box.2
        by_cases hq : q < nC
        rotate_left
        ·have d1 : decide ((q : Int) < (nC : Int)) = false := decide_eq_false (by omega)
         obtain rfl : nC = q := by omega
         have HIS := Aside0.mk p2
         have HCI : Aside0 (ai gf C nC = compI Rs Ls) := ⟨by
          rw [ai_end gf HNC.out.symm, HCE.out, HGF.out, aim_progN, compI, ← HTS.out]⟩
         clear p1 p2
         go_wp2_with fail
         go_ret2
         rw [HG.out]
         exact ⟨_, sv9, rfl, by have h := HIS.out; rw [HCI.out] at h; exact h, HS.out.bel⟩
        have d1 : decide ((q : Int) < (nC : Int)) = true := decide_eq_true (by omega)
        have hqC : q < C.length := by have := HNC.out; omega
        obtain ⟨_, g, cur, rfl, _, hcap, hgc, y4, y0, y1⟩ := p2.aimAt (q := q) (by rw [HAL.out]; exact hq)
        rw [ai_inn hqC] at y4 y0
        have hlo := HOKI.out (inn C q) (by rw [inn_get hqC]; exact List.getElem_mem hqC)
        have l1 := blk_lt hgc
        have l0 := blk_lt p1
        have e2 : (0 ≤ (q : Int)) = True := eq_true (by omega)
        have e3 : ((q : Int) < (nC : Int)) = True := eq_true (by omega)
        have HPT : Aside0 (∀ y : Int, (⟨(inn C q).f0, (inn C q).f1, y, (inn C q).f3⟩ : In) = gf (inn C q) → CSt w (wr.setCell ⟨g, q * 4 + 2, none⟩ (.int .i64 y)).drew b #[.slice A0 Rs.length c0, .slice A1 Ls.length c1] (ai gf C (q + 1)) m1 m2 Rs.length (2 * Ls.length) f1 f2) := ⟨fun y hy => by
         have hp := Asm.patch HS.out.asm.lo p1 p2 (q := q) (by rw [HAL.out]; exact hq) y
         rw [ai_inn hqC, ai_put hqC hy] at hp
         exact HS.out.fr (hp.1.below (Below.refl _ _).drew) (hp.2.trans (AFr.of_below hp.1.size (Below.refl _ _).drew))⟩
        have HMR := Aside0.mk HS.out.r
        have HML := Aside0.mk HS.out.l
        clear p1 p2 hgc hcap
        by_cases c6 : (inn C q).f0 = 6
        ·obtain ⟨K, hK⟩ : ∃ K : Nat, (inn C q).f2 = (K : Int) := ⟨(inn C q).f2.toNat, (Int.toNat_of_nonneg (hlo.1 c6).1).symm⟩
         have hKR : K < Rs.length := by have := (hlo.1 c6).2; omega
         rw [c6] at y4
         rw [hK] at y0
         have HN1 : Aside0 (CSt w (wr.setCell ⟨g, q * 4 + 2, none⟩ (.int .i64 (f1 K))).drew b #[.slice A0 Rs.length c0, .slice A1 Ls.length c1] (ai gf C (q + 1)) m1 m2 Rs.length (2 * Ls.length) f1 f2) := ⟨HPT.out _ (by
          rw [HGF.out, aim, if_pos c6, HP1.out K hKR, hK, c6]
          rfl)⟩
         clear hlo c6 hK HPT
         go_upto_region 24 with fail
         refine start_ (n := 13) (S := fun W' => W'.cell? ⟨b, 1, none⟩ = some (.map (some m1)) ∧ W'.cell? ⟨g, q * 4 + 2, none⟩ = some (.int .i64 (K : Int)) ∧ Aside0 (MapI W' m1 Rs.length f1)) (ds := [12]) #[false, false, false, false, false, false, false, false, false, false, false, false, false] (by kernel_rfl) rfl rfl (⟨z1, y0, ⟨HMR.out.below (Below.refl _ _).drew⟩⟩) (fun hHeld => ?_); refine with_tabW cpC.tab cpC.bits (fun HT_ HW_ => ?_)
         refine pu_ 0 91 HT_ ?_
         refine pu_ 1 92 HT_ ?_
         refine pu_ 2 93 HT_ ?_
         refine pu_ 3 94 HT_ ?_
         refine ta_ 4 95 HT_ HW_ hHeld ?_
         refine pu_ 5 96 HT_ ?_
         refine pu_ 6 97 HT_ ?_
         refine pu_ 7 98 HT_ ?_
         refine ta_ 8 99 HT_ HW_ hHeld ?_
         refine ta_ 9 100 HT_ HW_ hHeld ?_ (hy := by intro w' hs; obtain ⟨s0, s1, s2⟩ := hs; have hlk := MapI.look s2.out K (by omega); go_simp; with_reducible rfl)
         refine pu_ 10 101 HT_ ?_
         refine pu_ 11 102 HT_ ?_
         refine la_ 12 none HT_ (fun K hK => ?_)
         refine skip_ (w1 := ?_) (by rfl) rfl ?_ ?_
         rotate_left
         ·go_simp; rfl
         refine hK.out _ _ ?_
         clear hK K
         refine done_ (done_of HT_.out (by kernel_rfl)) ?_
         go_wp2_with fail
         go_roundg k3
         case measure => omega
         case rel => exact ⟨q + 1, by first | rfl | (rw [wid (by omega) (by omega)]; simp), ⟨by omega, by omega⟩, HN1⟩
        by_cases c8 : (inn C q).f0 = 8
        rotate_left
        ·have HN1 : Aside0 (CSt w wr b #[.slice A0 Rs.length c0, .slice A1 Ls.length c1] (ai gf C (q + 1)) m1 m2 Rs.length (2 * Ls.length) f1 f2) := ⟨by
          rw [ai_same hqC (by rw [HGF.out, aim, if_neg c6, if_neg c8])]
          exact HS.out⟩
         have b6 : ((inn C q).f0 == 6) = false := beq_eq_false_iff_ne.mpr c6
         have b8 : ((inn C q).f0 == 8) = false := beq_eq_false_iff_ne.mpr c8
         generalize (inn C q).f0 = kd at *
         clear hlo c6 c8 HPT
         go_wp2_with fail
         go_roundg k3
         case measure => omega
         case rel => exact ⟨q + 1, by first | rfl | (rw [wid (by omega) (by omega)]; simp), ⟨by omega, by omega⟩, HN1⟩
        obtain ⟨K, hK⟩ : ∃ K : Nat, (inn C q).f2 = (K : Int) := ⟨(inn C q).f2.toNat, (Int.toNat_of_nonneg (hlo.2.1 c8).1).symm⟩
        have hKL : K < Ls.length := by have := (hlo.2.1 c8).2; omega
        rw [c8] at y4
        rw [hK] at y0
        have HN1 : Aside0 (CSt w (wr.setCell ⟨g, q * 4 + 2, none⟩ (.int .i64 (f2 K))).drew b #[.slice A0 Rs.length c0, .slice A1 Ls.length c1] (ai gf C (q + 1)) m1 m2 Rs.length (2 * Ls.length) f1 f2) := ⟨HPT.out _ (by
         rw [HGF.out, aim, if_neg c6, if_pos c8, HF2.out K hKL, hK, c8]
         rfl)⟩
        clear hlo c6 c8 hK HPT
        go_upto_region 26 with fail
        refine start_ (n := 13) (S := fun W' => W'.cell? ⟨b, 2, none⟩ = some (.map (some m2)) ∧ W'.cell? ⟨g, q * 4 + 2, none⟩ = some (.int .i64 (K : Int)) ∧ Aside0 (MapI W' m2 (2 * Ls.length) f2)) (ds := [12]) #[false, false, false, false, false, false, false, false, false, false, false, false, false] (by kernel_rfl) rfl rfl (⟨z2, y0, ⟨HML.out.below (Below.refl _ _).drew⟩⟩) (fun hHeld => ?_); refine with_tabW cpT.tab cpT.bits (fun HT_ HW_ => ?_)
        refine pu_ 0 105 HT_ ?_
        refine pu_ 1 106 HT_ ?_
        refine pu_ 2 107 HT_ ?_
        refine pu_ 3 108 HT_ ?_
        refine ta_ 4 109 HT_ HW_ hHeld ?_
        refine pu_ 5 110 HT_ ?_
        refine pu_ 6 111 HT_ ?_
        refine pu_ 7 112 HT_ ?_
        refine ta_ 8 113 HT_ HW_ hHeld ?_
        refine ta_ 9 114 HT_ HW_ hHeld ?_ (hy := by intro w' hs; obtain ⟨s0, s1, s2⟩ := hs; have hlk := MapI.look s2.out K (by omega); go_simp; with_reducible rfl)
        refine pu_ 10 115 HT_ ?_
        refine pu_ 11 116 HT_ ?_
        refine la_ 12 none HT_ (fun K hK => ?_)
        refine skip_ (w1 := ?_) (by rfl) rfl ?_ ?_
        rotate_left
        ·go_simp; rfl
        refine hK.out _ _ ?_
        clear hK K
        refine done_ (done_of HT_.out (by kernel_rfl)) ?_
        go_wp2_with fail
        go_roundg k3
        case measure => omega
        case rel => exact ⟨q + 1, by first | rfl | (rw [wid (by omega) (by omega)]; simp), ⟨by omega, by omega⟩, HN1⟩
end Go.Proofs.Ytdiilocgjnlmiaa.Tre
