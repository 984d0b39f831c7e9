/- Lemmas of the proof, and the walks of functions that it stands on. -/
import Derived.Test.YtdiilocgjnlmiaaCcoMarkRules
import Derived.Test.YtdiilocgjnlmiaaCcoPAllx15
import Derived.Test.YtdiilocgjnlmiaaCcoPAllx16
import Derived.Lib.LazyBuf
import Derived.Laws.AppendOwn
import Derived.Deep.DeepMust
import Derived.Test.YtdiilocgjnlmiaaCcoFlat
section
namespace Go.Proofs.Ytdiilocgjnlmiaa.Tre
open Go.RowKit Go.Proofs.YtdiilocgjnlmiaaW.PrintWords Go.Proofs.YtdiilocgjnlmiaaW.PrintLast Go.Proofs.YtdiilocgjnlmiaaW.PrintMore
open Go.Proofs.Ytdiilocgjnlmiaa.PAll
set_option linter.unusedVariables false
set_option linter.unusedSimpArgs false
def labX (A : Option Addr) (n : Nat) (its : Nat → It) (b : Nat) : Prop := ownX A b ∨ itsX n its b
structure LabelsSt (W W' : World) (A : Option Addr) (n : Nat) (its : Nat → It) (k : Int) (i : Nat) : Prop where
 evo : Evo (labX A n its) W W'
 cont : ApartI n its → ∀ g, A = some ⟨g, 0, none⟩ → ∀ j, j < i → ItMarked W' (its j) (k + cntL its j) (k + cntL its j + (its j).ln + 1) ∧ W'.cell? ⟨g, j * 3 + 1, none⟩ = some (.bool ((k + cntL its j + (its j).ln) % 3 == 0))
theorem LabelsSt.start (W : World) (A : Option Addr) (n : Nat) (its : Nat → It) (k : Int) : LabelsSt W W A n its k 0 := ⟨Evo.refl _ _, fun _ g _ j hj => absurd hj (Nat.not_lt_zero _)⟩
theorem row_not_it {W : World} {X : Nat → Prop} {g : Nat} {cur : Array Value} {u : It} (hg : W.heap[g]? = some (Obj.cells cur 72 (0, 0))) (hu : WIt W X u) : ¬ itX u g := fun hx => by
 obtain ⟨_, _, cur2, ty, hc, hty⟩ := WIt.types hu hx
 rw [hg] at hc
 simp only [Option.some.injEq, Obj.cells.injEq] at hc
 rcases hty with e | e | e <;> (rw [e] at hc; exact absurd hc.2.1 (by decide))
theorem LabelsSt.next {W W' W1 W2 : World} {X : Nat → Prop} {g n c i : Nat} {its : Nat → It} {k : Int} {An Ab : Option Addr} {cn cb : Nat} (hV : WLabels W X (.slice (some ⟨g, 0, none⟩) n c) n its) (h : LabelsSt W W' (some ⟨g, 0, none⟩) n its k i) (hi : i < n) (en : (its i).nm = .slice An (its i).ln cn) (eb : (its i).bv = .slice Ab (its i).bn cb)
 (h1 : FlatSt W' W1 An (its i).ln (fun j => .int .u8 ((k + cntL its i + (j : Int)) % 256)))
 (h2 : OpsSt (W1.setCell ⟨g, i * 3 + 1, none⟩ (.bool ((k + cntL its i + (its i).ln) % 3 == 0))) W2 Ab (its i).bn (its i).sv (its i).m (k + cntL its i + (its i).ln + 1) (its i).bn) : LabelsSt W W2 (some ⟨g, 0, none⟩) n its k (i + 1) := by
 have hall : ∀ j, j < n → WIt W' X (its j) := fun j hj => by
  obtain ⟨_, _, _, _, _, _, _, _, _, h⟩ := WLabels.at (WLabels.evo hV h.evo) hj
  exact h
 obtain ⟨g', cur, b, e, hX, hg, c0, c1, c2, hw⟩ := WLabels.at (WLabels.evo hV h.evo) hi
 cases e
 have hlt : g < W'.heap.size := (Array.getElem?_eq_some_iff.1 hg).1
 have hgi : ∀ j, j < n → ¬ itX (its j) g := fun j hj => row_not_it hg (hall j hj)
 have hn1 : ∀ q, ownX An q → itX (its i) q := fun q hq => .inl (by rw [en]; exact ownV_slice.2 hq)
 have hn2 : ∀ q, opsX Ab (its i).bn (its i).sv q → itX (its i) q := fun q hq => by rcases opsX_it eb hq with h | h; exact .inr (.inl h); exact .inr (.inr h)
 have hg1 : W1.heap[g]? = some (Obj.cells cur 72 (0, 0)) := (h1.evo.same g hlt fun hx => hgi i hi (hn1 g hx)).trans hg
 have hset : ∀ Y : Nat → Prop, Y g → Evo Y W1 (W1.setCell ⟨g, i * 3 + 1, none⟩ (.bool ((k + cntL its i + (its i).ln) % 3 == 0))) := fun Y hY => Evo.set hg1 c1 hY (.inr (.inr ⟨_, _, rfl, rfl⟩))
 have r2 : ∀ o, W2.cell? ⟨g, o, none⟩ = (W1.setCell ⟨g, i * 3 + 1, none⟩ (.bool ((k + cntL its i + (its i).ln) % 3 == 0))).cell? ⟨g, o, none⟩ := fun o =>
  World.cell?_of_block (h2.evo.same g (by simpa using Nat.lt_of_lt_of_le hlt h1.evo.size) fun hx => hgi i hi (hn2 g hx))
 refine ⟨((h.evo.trans (h1.evo.mono fun q hq => .inr ⟨i, hi, hn1 q hq⟩)).trans (hset _ (.inl ⟨_, rfl, rfl⟩))).trans (h2.evo.mono fun q hq => .inr ⟨i, hi, hn2 q hq⟩), fun hA g' e j hj => ?_⟩
 cases e
 rcases (by omega : j < i ∨ j = i) with hji | rfl
 ·obtain ⟨o1, o2⟩ := h.cont hA g rfl j hji
  refine ⟨it_keep (hall j (by omega)) en eb h1 (hset _ (hgi j (by omega))) h2 (hA.1 i j hi (by omega) (by omega)) o1, ?_⟩
  rw [r2, cell_other _ _ _ _ _ (by omega), World.cell?_of_block (h1.evo.same g hlt fun hx => hgi i hi (hn1 g hx))]
  exact o2
 refine ⟨it_marked (hall j hi) en eb h1 (hset _ (hgi j hi)) h2 (hA.2 j hi), ?_⟩
 rw [r2]
 exact cell_same _ _ _ _ (.bool b) (by rw [cell_of_row _ _ _ _ _ _ hg1]; exact c1)
def LabelsPost (W : World) (A : Option Addr) (n : Nat) (its : Nat → It) (k : Int) (e : Ending) (W' : World) : Prop := e = .returned (.int .i64 (k + cntL its n)) ∧ LabelsSt W W' A n its k n
set_option maxRecDepth 100000 in
set_option maxHeartbeats 4000000 in
theorem markLabels_in (W : World) (X : Nat → Prop) (A : Option Addr) (n c : Nat) (its : Nat → It) (k : Int) (hV : WLabels W X (.slice A n c) n its) (hn : n ≤ 1099511627776) (h0 : 0 ≤ k) (h1 : k + cntL its n ≤ 4611686018427387904) :
 Calls Try.prog 76 #[.slice A n c, .int .i64 k] W (LabelsPost W A n its k) := by
 have HV := Aside0.mk hV
 clear hV
 go_enter Try.func76, Try.ntmps76
 go_wp2
 go_loopg [1, 5] (n + 1) (fun kq v1 v5 W' => ∃ (i : Nat), v1 = .int .i64 (k + (cntL its i : Int)) ∧ v5 = .int .i64 (i : Int) ∧ Aside0 (i ≤ n ∧ n < i + kq) ∧ LabelsSt W W' A n its k i)
 case atStart => exact ⟨0, by simp [cntL], rfl, ⟨by omega, by omega⟩, LabelsSt.start _ _ _ _ _⟩
 case round =>
  obtain ⟨i, rfl, rfl, HI, hS⟩ := hrel
  obtain ⟨i1, i2⟩ := HI.out
  clear HI
  cases gk with
  | zero => omega
  | succ k1 =>
   by_cases hi : i < n
   rotate_left
   ·have d1 : decide ((i : Int) < (n : Int)) = false := decide_eq_false (by omega)
    have e : i = n := by omega
    subst e
    go_wp2
    go_ret
    exact ⟨rfl, hS⟩
   have d1 : decide ((i : Int) < (n : Int)) = true := decide_eq_true (by omega)
   have d1n : decide (i < n) = true := decide_eq_true hi
   obtain ⟨g, cur, b, rfl, hX, hg, c0, c1, c2, hw⟩ := WLabels.at (WLabels.evo HV.out hS.evo) hi
   obtain ⟨An, cn, en, _, hln, _⟩ := id hw.1
   obtain ⟨Ab, cb, eb, _, hbn, _⟩ := id hw.2
   have b0 := cntL_mono its (i := i + 1) (n := n) (by omega)
   rw [cntL] at b0
   have q0 : wr.cell? ⟨g, i * 3, none⟩ = some (.slice An (its i).ln cn) := by rw [cell_of_row _ _ _ _ _ _ hg, c0, en]
   have e2 : (0 ≤ (i : Int)) = True := eq_true (by omega)
   have e3 : ((i : Int) < (n : Int)) = True := eq_true (by omega)
   have hlt : g < wr.heap.size := (Array.getElem?_eq_some_iff.1 hg).1
   have hgi : ¬ itX (its i) g := row_not_it hg hw
   have hw1 := hw.1
   have hw2 := hw.2
   rw [en] at hw1
   rw [eb] at hw2
   have HGI := Aside0.mk hgi
   have HW1 := Aside0.mk hw1
   have HW2 := Aside0.mk hw2
   have HG := Aside0.mk hg
   have HC1 := Aside0.mk c1
   have HC2 := Aside0.mk c2
   have EN := Lib.hid en
   have EB := Lib.hid eb
   have HC := Aside0.mk (show cntL its (i + 1) = cntL its i + ((its i).ln + 1 + cntB (its i)) from rfl)
   have hkc : 0 ≤ k + (cntL its i : Int) := by omega
   unfold cntB at b0
   clear hg c0 c1 c2 hw hw1 hw2 en eb hgi
   go_wp2_with (first
    | (go_at_call 24; go_must (refine (markByte_in _ _ An (its i).ln cn _ HW1.out hln (by omega) (by omega)).mono ?_; rintro e W1 ⟨rfl, hF⟩; have hg1 : W1.heap[g]? = some (Obj.cells cur 72 (0, 0)) := (hF.evo.same g hlt fun hx => HGI.out (.inl (by rw [EN.out]; exact ownV_slice.2 hx))).trans HG.out; have p1 : W1.cell? ⟨g, i * 3 + 1, none⟩ = some (.bool b) := (cell_of_row _ _ _ _ _ _ hg1).trans HC1.out; have p2 : W1.cell? ⟨g, i * 3 + 2, none⟩ = some (.slice Ab (its i).bn cb) := (cell_of_row _ _ _ _ _ _ hg1).trans (HC2.out.trans (congrArg some EB.out)); have p3 : W1.frozen? ⟨g, i * 3 + 1, none⟩ = false := (by simp [World.frozen?, hg1]); have HF := Aside0.mk hF; have HG1 := Aside0.mk hg1; clear hF hg1))
    | (go_at_call 121; go_must (refine (markOps_in _ _ Ab (its i).bn cb _ _ _ (WOps.evo (WOps.evo HW2.out HF.out.evo) (Evo.set (X := fun _ => True) HG1.out HC1.out trivial (.inr (.inr ⟨_, _, rfl, rfl⟩)))) hbn (by omega) (by omega)).mono ?_; rintro e W2 ⟨rfl, hO⟩; have HN := Aside0.mk (LabelsSt.next HV.out hS hi EN.out EB.out HF.out hO); clear hO)))
   go_roundg k1
   case measure => omega
   case rel => exact ⟨i + 1, by rw [HC.out, cntB]; first | (simp; omega) | (rw [wid (by omega) (by omega)]; simp; omega), by first | rfl | (simp; done) | (rw [wid (by omega) (by omega)]; simp), ⟨by omega, by omega⟩, HN.out⟩
end Go.Proofs.Ytdiilocgjnlmiaa.Tre
end
section
namespace Go.Proofs.Ytdiilocgjnlmiaa.Tre
open Go.RowKit Go.Proofs.YtdiilocgjnlmiaaW.PrintWords Go.Proofs.YtdiilocgjnlmiaaW.PrintLast Go.Proofs.YtdiilocgjnlmiaaW.PrintMore
open Go.Proofs.Ytdiilocgjnlmiaa.PAll
set_option linter.unusedVariables false
set_option linter.unusedSimpArgs false
structure Gr where
 A0 : Option Addr
 c0 : Nat
 n0 : Nat
 its : Nat → It
 A1 : Option Addr
 c1 : Nat
 n1 : Nat
 itl : Nat → It
def WGr (W : World) (X : Nat → Prop) (G : Gr) : Prop := WRules W X (.slice G.A0 G.n0 G.c0) G.n0 G.its ∧ WLabels W X (.slice G.A1 G.n1 G.c1) G.n1 G.itl
def grV (G : Gr) : Value := .agg #[.slice G.A0 G.n0 G.c0, .slice G.A1 G.n1 G.c1]
def cntG (G : Gr) : Nat := cntR G.its G.n0 + cntL G.itl G.n1
def grX (G : Gr) (b : Nat) : Prop := itsX G.n0 G.its b ∨ labX G.A1 G.n1 G.itl b
def ApartG (G : Gr) : Prop := ApartI G.n0 G.its ∧ ApartI G.n1 G.itl ∧ ∀ i j, i < G.n0 → j < G.n1 → ∀ b, itX (G.its i) b → ¬ itX (G.itl j) b
theorem WGr.evo {W W' : World} {X Y : Nat → Prop} {G : Gr} (h : WGr W X G) (he : Evo Y W W') : WGr W' X G := ⟨WRules.evo h.1 he, WLabels.evo h.2 he⟩
structure GrMarked (W : World) (G : Gr) (k : Int) : Prop where
 rules : ∀ j, j < G.n0 → ItMarked W (G.its j) (k + cntR G.its j) (k + cntR G.its j + (G.its j).ln)
 labels : ∀ g, G.A1 = some ⟨g, 0, none⟩ → ∀ j, j < G.n1 → ItMarked W (G.itl j) (k + cntR G.its G.n0 + cntL G.itl j) (k + cntR G.its G.n0 + cntL G.itl j + (G.itl j).ln + 1) ∧ W.cell? ⟨g, j * 3 + 1, none⟩ = some (.bool ((k + cntR G.its G.n0 + cntL G.itl j + (G.itl j).ln) % 3 == 0))
def GramPost (W : World) (G : Gr) (k : Int) (e : Ending) (W' : World) : Prop := e = .returned (.int .i64 (k + cntG G)) ∧ Evo (grX G) W W' ∧ (ApartG G → GrMarked W' G k)
theorem WRules.it {W : World} {X : Nat → Prop} {A : Option Addr} {c n : Nat} {its : Nat → It} (h : WRules W X (.slice A n c) n its) : ∀ j, j < n → WIt W X (its j) := fun j hj => by
 obtain ⟨_, _, _, _, _, _, _, h⟩ := WRules.at h hj
 exact h
theorem WLabels.it {W : World} {X : Nat → Prop} {A : Option Addr} {c n : Nat} {its : Nat → It} (h : WLabels W X (.slice A n c) n its) : ∀ j, j < n → WIt W X (its j) := fun j hj => by
 obtain ⟨_, _, _, _, _, _, _, _, _, h⟩ := WLabels.at h hj
 exact h
theorem gram_post {W W0 W1 W2 : World} {X : Nat → Prop} {G : Gr} {k : Int} (hV : WGr W X G) (h0 : Below W.heap.size W W0) (h1 : RulesSt W0 W1 G.n0 G.its k G.n0) (h2 : LabelsSt W1 W2 G.A1 G.n1 G.itl (k + cntR G.its G.n0) G.n1) : Evo (grX G) W W2 ∧ (ApartG G → GrMarked W2 G k) := by
 have E0 : Evo (grX G) W W0 := Evo.of_below h0
 have E1 := E0.trans (h1.evo.mono (Y := grX G) fun b hb => .inl hb)
 refine ⟨E1.trans (h2.evo.mono fun b hb => .inr hb), fun hA => ⟨fun j hj => ?_, fun g e j hj => h2.cont hA.2.1 g e j hj⟩⟩
 refine (h1.cont hA.1 j hj).keep fun b hb q => World.cell?_of_block (h2.evo.same b ?_ fun hx => ?_)
 ·exact (WIt.types (WRules.it (WRules.evo hV.1 E1) j hj) hb).2.1
 rcases hx with hx | ⟨i, hi, hx⟩
 ·by_cases hn : G.n1 = 0
  ·obtain ⟨A', c', e, _, _, h⟩ := WLabels.evo hV.2 E1
   cases e
   rcases h with ⟨h, _⟩ | ⟨g, cur, e, _, hg, _⟩
   ·rw [h] at hx
    obtain ⟨a, e, _⟩ := hx
    cases e
   rw [e] at hx
   obtain ⟨a, e2, e3⟩ := hx
   cases e2
   subst e3
   exact row_not_it hg (WRules.it (WRules.evo hV.1 E1) j hj) hb
  obtain ⟨g, cur, _, e, _, hg, _⟩ := WLabels.at (WLabels.evo hV.2 E1) (i := 0) (by omega)
  rw [e] at hx
  obtain ⟨a, e2, e3⟩ := hx
  cases e2
  subst e3
  exact row_not_it hg (WRules.it (WRules.evo hV.1 E1) j hj) hb
 exact hA.2.2 j i hj hi b hb hx
theorem gram_box {W W1 : World} {X : Nat → Prop} {G : Gr} {k : Int} (hV : WGr W X G) (h1 : RulesSt (W.alloc (Obj.cells #[.slice G.A0 G.n0 G.c0, .slice G.A1 G.n1 G.c1] 31)) W1 G.n0 G.its k G.n0) : W1.cell? ⟨W.heap.size, 1, none⟩ = some (.slice G.A1 G.n1 G.c1) := by
 refine (World.cell?_of_block (h1.evo.same W.heap.size (by simp) fun hx => ?_)).trans (cell_new W _ _ 1 _ rfl)
 obtain ⟨j, hj, hx⟩ := hx
 exact absurd (WIt.types (WRules.it hV.1 j hj) hx).2.1 (Nat.lt_irrefl _)
set_option maxRecDepth 100000 in
set_option maxHeartbeats 4000000 in
theorem markGram_in (W : World) (X : Nat → Prop) (G : Gr) (k : Int) (hV : WGr W X G) (h0 : 0 ≤ k) (h1 : k + cntG G ≤ 4611686018427387904) :
 Calls Try.prog 29 #[grV G, .int .i64 k] W (GramPost W G k) := by
 have hn0 : G.n0 ≤ 1099511627776 := by obtain ⟨_, _, _, _, h, _⟩ := hV.1; exact h
 have hn1 : G.n1 ≤ 1099511627776 := by obtain ⟨_, _, _, _, h, _⟩ := hV.2; exact h
 have HV := Aside0.mk hV
 have HGV := Aside0.mk (fun W1 W2 h1 h2 => gram_post (W0 := W.alloc (Obj.cells #[.slice G.A0 G.n0 G.c0, .slice G.A1 G.n1 G.c1] 31)) (W1 := W1) (W2 := W2) (k := k) hV (below_alloc (Below.refl _ _) _) h1 h2)
 clear hV
 unfold cntG at h1
 unfold grV
 go_enter Try.func29, Try.ntmps29
 go_wp2_with (first
  | (go_at_call 75; go_must (refine (markRules_in _ _ G.A0 G.n0 G.c0 G.its _ (WRules.evo HV.out.1 (Evo.of_below (X := fun _ => True) (below_alloc (Below.refl _ _) _))) hn0 (by omega) (by omega)).mono ?_; rintro e W1 ⟨rfl, hR⟩; have p1 : W1.cell? ⟨W.heap.size, 1, none⟩ = some (.slice G.A1 G.n1 G.c1) := gram_box HV.out hR; have HR := Aside0.mk hR; clear hR))
  | (go_at_call 76; go_must (refine (markLabels_in _ _ G.A1 G.n1 G.c1 G.itl _ (WLabels.evo HV.out.2 ((Evo.of_below (X := itsX G.n0 G.its) (below_alloc (Below.refl _ _) _)).trans HR.out.evo)) hn1 (by omega) (by omega)).mono ?_; rintro e W2 ⟨rfl, hL⟩; have HL := Aside0.mk hL; clear hL)))
 go_ret
 exact ⟨by rw [cntG]; simp; omega, HGV.out _ _ HR.out HL.out⟩
end Go.Proofs.Ytdiilocgjnlmiaa.Tre
end
section
namespace Go.Proofs.Ytdiilocgjnlmiaa.Tre
open Go.RowKit Go.Proofs.YtdiilocgjnlmiaaW.PrintWords Go.Proofs.YtdiilocgjnlmiaaW.PrintLast Go.Proofs.YtdiilocgjnlmiaaW.PrintMore
open Go.Proofs.Ytdiilocgjnlmiaa.PAll
set_option linter.unusedVariables false
set_option linter.unusedSimpArgs false
theorem WRow.of_own {W : World} {base : Nat} {t : TypeId} {sz : Nat} {v : Value} {n : Nat} {inner : List Value} {p : Nat → List Value → Prop} (ho : W.ownsRow base t sz v n inner) (hn : n ≤ 1099511627776) (hp : ∀ i, i < n → p i ((inner.drop (i * sz)).take sz)) : WRow W (fun b => base ≤ b) t sz p v n := by
 rcases ho.2 with ⟨rfl, rfl⟩ | ⟨g, cap, cur, rfl, hb, hg, hnc, hcm, hcs, htake⟩
 ·exact ⟨none, 0, rfl, Nat.le_refl _, by omega, .inl ⟨rfl, rfl⟩⟩
 refine ⟨some ⟨g, 0, none⟩, cap, rfl, hnc, hn, .inr ⟨g, cur, rfl, hb, hg, fun i hi => ?_⟩⟩
 have hle : i * sz + sz ≤ n * sz := by rw [← Nat.succ_mul]; exact Nat.mul_le_mul_right _ hi
 refine ⟨(inner.drop (i * sz)).take sz, ?_, fun j u hu => ?_, hp i hi⟩
 ·rw [List.length_take, List.length_drop, ho.1]; omega
 have hj : j < sz := by
  have := (List.getElem?_eq_some_iff.1 hu).1
  rw [List.length_take] at this
  omega
 rw [List.getElem?_take, if_pos hj, List.getElem?_drop, ← htake, List.getElem?_take, if_pos (by omega)] at hu
 simpa using hu
theorem wints_of_R {W : World} {base : Nat} {ok : Nat → Prop} {t : TypeId} {k : IntKind} {v : Value} {xs : List Int} (h : Kd.R (Kd.int k) t W base ok v xs) (hn : xs.length ≤ 1099511627776) : WInts W (fun b => base ≤ b) t k v xs.length := by
 obtain ⟨_, inner, ho, hr⟩ := h
 refine WRow.of_own ho hn fun i hi => ?_
 exact ⟨xs[i], hr.2 i _ (List.getElem?_eq_getElem hi)⟩
theorem skolem {α : Type} [Inhabited α] {n : Nat} {P : Nat → α → Prop} (h : ∀ i, i < n → ∃ a, P i a) : ∃ f : Nat → α, ∀ i, i < n → P i (f i) :=
 ⟨fun i => if hi : i < n then Classical.choose (h i hi) else default, fun i hi => by
  simp only [dif_pos hi]
  exact Classical.choose_spec (h i hi)⟩
theorem wops_of_R {W : World} {base : Nat} {ok : Nat → Prop} {v : Value} {xs : List Op} (h : Kd.R k79 79 W base ok v xs) (hn : xs.length ≤ 1099511627776) (hs : ∀ o ∈ xs, o.f1.length ≤ 1099511627776) : ∃ sv, WOps W (fun b => base ≤ b) v xs.length sv (fun i => (rd_T79 xs (i : Int)).f1.length) := by
 obtain ⟨_, inner, ho, hr⟩ := h
 have hx : ∀ i, i < xs.length → ∃ s : Value, ∃ x y, (inner.drop (i * 3)).take 3 = [.int .i64 x, s, .int .i64 y] ∧ WInts W (fun b => base ≤ b) 3 .i64 s (rd_T79 xs (i : Int)).f1.length := fun i hi => by
  have hM := hr.2 i _ (List.getElem?_eq_getElem hi)
  obtain ⟨v1, e, hv⟩ := k79_openM hM
  have erd : rd_T79 xs (i : Int) = xs[i] := by simp [rd_T79, List.getD_eq_getElem?_getD, hi]
  rw [erd]
  exact ⟨v1, _, _, e, wints_of_R hv (hs _ (List.getElem_mem hi))⟩
 haveI : Inhabited Value := ⟨undef⟩
 obtain ⟨sv, hsv⟩ := skolem hx
 refine ⟨sv, WRow.of_own ho hn fun i hi => ?_⟩
 obtain ⟨x, y, e, hw⟩ := hsv i hi
 exact ⟨x, y, e, hw⟩
theorem cntO_le {m : Nat → Nat} {B : Nat} (h : ∀ i, m i ≤ B) (n : Nat) : cntO m n ≤ n * (2 + B) := by
 induction n with
 | zero => simp [cntO]
 | succ n ih =>
  have := h n
  rw [cntO, Nat.succ_mul]
  omega
instance : Inhabited It := ⟨⟨undef, 0, undef, 0, fun _ => undef, fun _ => 0⟩⟩
def ItSm (t : It) : Prop := t.ln ≤ 1048576 ∧ t.bn ≤ 1048576 ∧ ∀ i, t.m i ≤ 1048576
theorem cntR_le {its : Nat → It} {n : Nat} (h : ∀ i, i < n → ItSm (its i)) : ∀ i, i ≤ n → cntR its i ≤ i * 1099514773504
 | 0, _ => by simp [cntR]
 | i + 1, hi => by
  have ih := cntR_le h i (by omega)
  obtain ⟨h1, h2, h3⟩ := h i (by omega)
  have h4 := cntO_le h3 (its i).bn
  have h5 : (its i).bn * (2 + 1048576) ≤ 1048576 * (2 + 1048576) := Nat.mul_le_mul_right _ h2
  rw [cntR, cntB]
  omega
theorem cntL_le {its : Nat → It} {n : Nat} (h : ∀ i, i < n → ItSm (its i)) : ∀ i, i ≤ n → cntL its i ≤ i * 1099514773505
 | 0, _ => by simp [cntL]
 | i + 1, hi => by
  have ih := cntL_le h i (by omega)
  obtain ⟨h1, h2, h3⟩ := h i (by omega)
  have h4 := cntO_le h3 (its i).bn
  have h5 : (its i).bn * (2 + 1048576) ≤ 1048576 * (2 + 1048576) := Nat.mul_le_mul_right _ h2
  rw [cntL, cntB]
  omega
theorem it_of_R {W : World} {base : Nat} {ok : Nat → Prop} {v0 v1 : Value} {nm : List Int} {bd : List Op} (h0 : Kd.R (Kd.int .u8) 5 W base ok v0 nm) (h1 : Kd.R k79 79 W base ok v1 bd) (hn : nm.length ≤ 1048576) (hb : ssOs bd) : ∃ t : It, t.nm = v0 ∧ t.bv = v1 ∧ WIt W (fun b => base ≤ b) t ∧ ItSm t := by
 obtain ⟨sv, hs⟩ := wops_of_R h1 (by have := hb.1; omega) (fun o ho => by have := hb.2 o ho; unfold ssO at this; omega)
 refine ⟨⟨v0, nm.length, v1, bd.length, sv, fun i => (rd_T79 bd (i : Int)).f1.length⟩, rfl, rfl, ⟨wints_of_R h0 (by omega), hs⟩, hn, hb.1, fun i => ?_⟩
 simp only
 by_cases hi : i < bd.length
 ·rw [rd_Op hi]
  exact hb.2 _ (List.getElem_mem hi)
 simp [rd_T79, List.getD_eq_getElem?_getD, List.getElem?_eq_none (Nat.le_of_not_lt hi), z79]
theorem wrules_of_R {W : World} {base : Nat} {ok : Nat → Prop} {v : Value} {Rs : List Ru} (h : Kd.R k68 68 W base ok v Rs) (hs : ssRs Rs) : ∃ its, WRules W (fun b => base ≤ b) v Rs.length its ∧ ∀ i, i < Rs.length → ItSm (its i) := by
 obtain ⟨_, inner, ho, hr⟩ := h
 have hx : ∀ i, i < Rs.length → ∃ t : It, (inner.drop (i * 2)).take 2 = [t.nm, t.bv] ∧ WIt W (fun b => base ≤ b) t ∧ ItSm t := fun i hi => by
  obtain ⟨v0, v1, e, h0, h1⟩ := k68_openM (hr.2 i _ (List.getElem?_eq_getElem hi))
  obtain ⟨q1, q2⟩ := hs.2 _ (List.getElem_mem hi)
  obtain ⟨t, e0, e1, hw, hm⟩ := it_of_R h0 h1 q1 q2
  exact ⟨t, by rw [e0, e1]; exact e, hw, hm⟩
 obtain ⟨its, hits⟩ := skolem hx
 exact ⟨its, WRow.of_own ho (by have := hs.1; omega) fun i hi => ⟨(hits i hi).1, (hits i hi).2.1⟩, fun i hi => (hits i hi).2.2⟩
theorem wlabels_of_R {W : World} {base : Nat} {ok : Nat → Prop} {v : Value} {Ls : List La} (h : Kd.R k72 72 W base ok v Ls) (hs : ssLs Ls) : ∃ its, WLabels W (fun b => base ≤ b) v Ls.length its ∧ ∀ i, i < Ls.length → ItSm (its i) := by
 obtain ⟨_, inner, ho, hr⟩ := h
 have hx : ∀ i, i < Ls.length → ∃ t : It, (∃ b, (inner.drop (i * 3)).take 3 = [t.nm, .bool b, t.bv]) ∧ WIt W (fun b => base ≤ b) t ∧ ItSm t := fun i hi => by
  obtain ⟨v0, v2, e, h0, h1⟩ := k72_openM (hr.2 i _ (List.getElem?_eq_getElem hi))
  obtain ⟨q1, q2⟩ := hs.2 _ (List.getElem_mem hi)
  obtain ⟨t, e0, e1, hw, hm⟩ := it_of_R h0 h1 q1 q2
  exact ⟨t, ⟨_, by rw [e0, e1]; exact e⟩, hw, hm⟩
 obtain ⟨its, hits⟩ := skolem hx
 exact ⟨its, WRow.of_own ho (by have := hs.1; omega) fun i hi => ⟨(hits i hi).1, (hits i hi).2.1⟩, fun i hi => (hits i hi).2.2⟩
theorem wgr_of_R {W : World} {base : Nat} {ok ok' : Nat → Prop} {v0 v1 : Value} {Rs : List Ru} {Ls : List La} (h0 : Kd.R k68 68 W base ok v0 Rs) (h1 : Kd.R k72 72 W base ok' v1 Ls) (hR : ssRs Rs) (hL : ssLs Ls) : ∃ G, grV G = .agg #[v0, v1] ∧ WGr W (fun b => base ≤ b) G ∧ 1 + cntG G ≤ 4611686018427387904 := by
 obtain ⟨its, hw0, hs0⟩ := wrules_of_R h0 hR
 obtain ⟨itl, hw1, hs1⟩ := wlabels_of_R h1 hL
 obtain ⟨A0, c0, rfl, _⟩ := id hw0
 obtain ⟨A1, c1, rfl, _⟩ := id hw1
 refine ⟨⟨A0, c0, Rs.length, its, A1, c1, Ls.length, itl⟩, rfl, ⟨hw0, hw1⟩, ?_⟩
 have b0 := cntR_le hs0 Rs.length (Nat.le_refl _)
 have b1 := cntL_le hs1 Ls.length (Nat.le_refl _)
 have l0 := hR.1
 have l1 := hL.1
 show 1 + (cntR its Rs.length + cntL itl Ls.length) ≤ _
 omega
end Go.Proofs.Ytdiilocgjnlmiaa.Tre
end
section
namespace Go.Proofs.Ytdiilocgjnlmiaa.Tre
open Go.RowKit Go.Proofs.YtdiilocgjnlmiaaW.PrintWords Go.Proofs.YtdiilocgjnlmiaaW.PrintLast Go.Proofs.YtdiilocgjnlmiaaW.PrintMore
open Go.Proofs.Ytdiilocgjnlmiaa.PAll
set_option linter.unusedVariables false
set_option linter.unusedSimpArgs false
def mkI (k : Int) (n : Nat) : List Int := (List.range n).map fun (q : Nat) => k + (q : Int)
theorem mkI_len (k : Int) (n : Nat) : (mkI k n).length = n := by simp [mkI]
theorem rd_mkI {k : Int} {n i : Nat} (h : i < n) : rd (mkI k n) (i : Int) = k + i := by simp [rd, mkI, List.getD_eq_getElem?_getD, h]
theorem heldIntS_l0 (a : Int) (n : Nat) (ha : 0 ≤ a) (hb : a + n ≤ 4611686018427387904) : ∀ (k : Nat) (i : Nat), i ≤ n → n - i < k → laws_heldIntS.l0 k (mkI a n) (a + i) (i : Int) = some (a + n)
 | 0, _, _, h => by omega
 | k + 1, i, hi, hk => by
  rw [laws_heldIntS.l0, mkI_len]
  by_cases c : i < n
  ·rw [if_pos (by omega), if_pos (by omega), if_pos (rd_mkI c), wid (x := a + (i : Int) + 1) (by omega) (by omega), wid (x := (i : Int) + 1) (by omega) (by omega)]
   have h := heldIntS_l0 a n ha hb k (i + 1) (by omega) (by omega)
   rw [show a + (i : Int) + 1 = a + ((i + 1 : Nat) : Int) by omega, show (i : Int) + 1 = ((i + 1 : Nat) : Int) by omega]
   exact h
  rw [if_neg (by omega), show i = n by omega]
theorem heldIntS_f (a : Int) (n k : Nat) (ha : 0 ≤ a) (hb : a + n ≤ 4611686018427387904) (hk : n < k) : laws_heldIntS.f k (mkI a n) a = some (a + n) := by
 have h := heldIntS_l0 a n ha hb k 0 (by omega) (by omega)
 rw [laws_heldIntS.f]
 simpa using h
end Go.Proofs.Ytdiilocgjnlmiaa.Tre
end
section
namespace Go.Proofs.Ytdiilocgjnlmiaa.Tre
open Go.RowKit Go.Proofs.YtdiilocgjnlmiaaW.PrintWords Go.Proofs.YtdiilocgjnlmiaaW.PrintLast Go.Proofs.YtdiilocgjnlmiaaW.PrintMore
open Go.Proofs.Ytdiilocgjnlmiaa.PAll
set_option linter.unusedVariables false
set_option linter.unusedSimpArgs false
def SrcN (w : World) (A : Option Addr) (news : List Value) : Prop := ∀ (j : Nat) (u : Value), news[j]? = some u → ∃ a, A = some a ∧ w.cell? (a.add j) = some u
theorem run_append_src {P : Program} (w : World) (base : Nat) (t ty e : TypeId) (i : TypeInfo) (z : Value) (size bytes : Nat) (ht : P.underlying t = some (.slice e)) (hi : P.info? e = some i) (hz : i.zero = some z)
 (hsize : i.size = size) (hby : i.bytes = bytes) (hzs : z.cells.size = size) (hsz : 0 < size) (v : Value) (n : Nat) (xs : List Value) (hown : w.ownsRow base e size v n xs)
 (A : Option Addr) (m c : Nat) (news : List Value) (hl : news.length = m * size) (hnews : SrcN w A news) (h1 : ∀ u ∈ news, u.oneCell' = true)
 (h63 : n + m ≤ maxLen) (hbytes : (n + m) * bytes ≤ 140737488355328) (hbase : base ≤ w.heap.size) :
 ∃ v' w', (Builtin.append_ #[t, t] ty #[v, .slice A m c]).run P w = .ok v' w' ∧ w'.ownsRow base e size v' (n + m) (xs ++ news) ∧ w.grownBy w' v.ownBlock := by
 by_cases h0 : news = []
 rotate_left
 ·have hpos : 0 < news.length := List.length_pos_iff.2 h0
  obtain ⟨a, rfl, _⟩ := hnews 0 (news[0]) (by simp [List.getElem?_eq_getElem hpos])
  have hn' : ∀ j u, news[j]? = some u → w.cell? (a.add j) = some u := fun j u h => by
   obtain ⟨a', e', h'⟩ := hnews j u h
   injection e' with e'
   subst e'
   exact h'
  obtain ⟨v', w', hr, ho, hgr, _⟩ := run_append_own (P := P) w base t ty e i z size bytes ht hi hz hsize hby hzs hsz v n xs hown a m c news hl hn' h1 h63 hbytes hbase
  exact ⟨v', w', hr, ho, hgr⟩
 subst h0
 obtain rfl : m = 0 := by
  rcases Nat.eq_zero_or_pos m with h | h
  ·exact h
  have : 0 < m * size := Nat.mul_pos h hsz
  simp at hl
  omega
 have hf : (Builtin.firstCells i.size 0 (.slice A 0 c)).run P w = .ok #[] w := by
  cases A with
  | none => simp [Builtin.firstCells]
  | some a => simpa using run_firstCells_some (P := P) w i.size 0 a 0 c [] (by simp) (by simp)
 have hx : ((xs ++ []) : List Value) = xs := List.append_nil _
 simp only [Nat.add_zero, hx]
 refine ⟨v, w, ?_, hown, ⟨rfl, rfl, rfl, Nat.le_refl _, fun _ _ _ => rfl⟩⟩
 rcases hown.2 with ⟨rfl, rfl⟩ | ⟨g, cap, cur, rfl, _, _, hnc, _⟩
 ·simp [Builtin.append_, run_underlying ht, sizeOf, typeInfo, hi, Builtin.lenOf, hf]
 simp [Builtin.append_, run_underlying ht, sizeOf, typeInfo, hi, Builtin.lenOf, hf, hnc, storeCells]
theorem app_src {P : Program} {ops : Array Oper} {rest : List Oper} {o : Oper} {a : Act} {Q : Exit → Act → World → Prop} (w : World) (base : Nat) (t e : TypeId) (i : TypeInfo) (z : Value) (size bytes : Nat) (ht : P.underlying t = some (.slice e)) (hi : P.info? e = some i) (hz : i.zero = some z)
 (hsize : i.size = size) (hby : i.bytes = bytes) (hzs : z.cells.size = size) (hsz : 0 < size) (v : Value) (n : Nat) (xs : List Value) (hown : w.ownsRow base e size v n xs) (hgd : o.guard = none) (sl x : Operand)
 (ho : o.op = .call { callee := .builtin .append, args := #[sl, x], argTypes := #[t, t] }) (hs : a.eval sl = v)
 (A : Option Addr) (m c : Nat) (news : List Value) (hx : a.eval x = .slice A m c) (hl : news.length = m * size) (hnews : SrcN w A news) (h1 : ∀ u ∈ news, u.oneCell' = true)
 (h63 : n + m ≤ maxLen) (hbytes : (n + m) * bytes ≤ 140737488355328) (hbase : base ≤ w.heap.size)
 (h : ∀ v' w', w'.ownsRow base e size v' (n + m) (xs ++ news) → w.grownBy w' v.ownBlock → wpList P ops Q rest (a.put o.dst v') w') : wpList P ops Q (o :: rest) a w := by
 refine wpList_plain hgd fun K hK => ?_
 obtain ⟨v', w', hr, h2, h3⟩ := run_append_src (P := P) w base t o.type e i z size bytes ht hi hz hsize hby hzs hsz v n xs hown A m c news hl hnews h1 h63 hbytes hbase
 unfold Oper.wp execOp
 simp only [ho, resolve, invoke, builtin, Sem.run_bind, Sem.run_pure, Result.andThen_ok, List.map_toArray, List.map_cons, List.map_nil, hs, hx, hr]
 exact hK _ _ (h v' w' h2 h3)
theorem own_same {W W' : World} {B : Nat} {t : TypeId} {sz : Nat} {v : Value} {n : Nat} {xs : List Value} (h : W.ownsRow B t sz v n xs) (hs : ∀ b, B ≤ b → b < W.heap.size → W'.heap[b]? = W.heap[b]?) : W'.ownsRow B t sz v n xs :=
 own_move h fun k hk => hs k (h.lt k hk).1 (h.lt k hk).2
theorem own_lower' {W : World} {B B' : Nat} {t : TypeId} {sz : Nat} {v : Value} {n : Nat} {xs : List Value} (h : W.ownsRow B t sz v n xs) (hb : B' ≤ B) : W.ownsRow B' t sz v n xs := by
 refine ⟨h.1, ?_⟩
 rcases h.2 with h2 | ⟨g, cap, cur, e, hg, r⟩
 ·exact .inl h2
 exact .inr ⟨g, cap, cur, e, Nat.le_trans hb hg, r⟩
theorem own_types {W : World} {B B' : Nat} {t t' : TypeId} {sz sz' : Nat} {v v' : Value} {n n' : Nat} {xs xs' : List Value} (h : W.ownsRow B t sz v n xs) (h' : W.ownsRow B' t' sz' v' n' xs') (ht : t ≠ t') : v.ownBlock = none ∨ v.ownBlock ≠ v'.ownBlock := by
 cases e : v.ownBlock with
 | none => exact .inl rfl
 | some k =>
  refine .inr fun e' => ?_
  obtain ⟨c1, h1⟩ := own_typed h k e
  obtain ⟨c2, h2⟩ := own_typed h' k e'.symm
  rw [h1] at h2
  simp only [Option.some.injEq, Obj.cells.injEq] at h2
  exact ht h2.2.1
theorem own_form1 {W : World} {B : Nat} {t : TypeId} {sz n : Nat} {v : Value} {xs : List Value} (h : W.ownsRow B t sz v n xs) : ∃ A c, v = .slice A n c := by
 rcases h.2 with ⟨rfl, rfl⟩ | ⟨g, cap, cur, rfl, _⟩
 ·exact ⟨_, _, rfl⟩
 exact ⟨_, _, rfl⟩
theorem src_three (W : World) (cs : List Value) (ob : Obj) (m : Nat) {t : TypeId} (hob : ob = .cells cs.toArray t) (hm : m = W.heap.size) : SrcN (W.alloc ob) (some ⟨m, 0, none⟩) cs := by
 subst hob hm
 intro j u hu
 refine ⟨_, rfl, ?_⟩
 have hadd : (⟨W.heap.size, 0, none⟩ : Addr).add j = ⟨W.heap.size, j, none⟩ := by unfold Addr.add; split <;> simp_all
 rw [hadd]
 exact cell_new W _ _ j u (by simpa using hu)
theorem step_append_src {P : Program} {ops : Array Oper} {o : Oper} {a : Act} {w : World} {K : Act → World → Prop} {Q : Exit → Act → World → Prop} {E : Prop}
 (hg : o.guard = none) (s x : Operand) (t : TypeId) (hop : o.op = Op.call { callee := Callee.builtin Builtin.append, args := #[s, x], argTypes := #[t, t] })
 (base : Nat) (e : TypeId) (i : TypeInfo) (z : Value) (size bytes : Nat) (ht : P.underlying t = some (.slice e)) (hi : P.info? e = some i) (hz : i.zero = some z) (hsize : i.size = size) (hby : i.bytes = bytes) (hzs : z.cells.size = size) (hsz : 0 < size)
 (v : Value) (n : Nat) (xs : List Value) (hown : w.ownsRow base e size v n xs) (hs : a.eval s = v)
 (A : Option Addr) (m c : Nat) (news : List Value) (hx : a.eval x = .slice A m c) (hl : news.length = m * size) (hnews : SrcN w A news) (h1 : ∀ u ∈ news, u.oneCell' = true)
 (h63 : n + m ≤ maxLen) (hbytes : (n + m) * bytes ≤ 140737488355328) (hbase : base ≤ w.heap.size)
 (hK : ∀ v' w', w'.ownsRow base e size v' (n + m) (xs ++ news) → w.grownBy w' v.ownBlock → K (a.put o.dst v') w') :
 if Region.wanted o (yielded ops a.tmps) = true then Oper.wp P o a w K Q else E := by
 have hw : Region.wanted o (yielded ops a.tmps) = true := by simp [Region.wanted, hg]
 rw [if_pos hw]
 obtain ⟨v', w', hrun, r1, r2⟩ := run_append_src (P := P) w base t o.type e i z size bytes ht hi hz hsize hby hzs hsz v n xs hown A m c news hl hnews h1 h63 hbytes hbase
 unfold Oper.wp
 simp [execOp, hop, resolve, invoke, builtin, hs, hx, hrun, Result.andThen]
 exact hK v' w' r1 r2
theorem own_box {W : World} {B : Nat} {t t' : TypeId} {sz : Nat} {v : Value} {n : Nat} {xs : List Value} {k : Nat} {cs : Array Value} (h : W.ownsRow B t sz v n xs) (hb : W.heap[k]? = some (.cells cs t' (0, 0))) (hne : t ≠ t') : some k ≠ v.ownBlock := by
 intro e
 obtain ⟨c1, h1⟩ := own_typed h k e.symm
 rw [hb] at h1
 simp only [Option.some.injEq, Obj.cells.injEq] at h1
 exact hne h1.2.1.symm
theorem own_set {W : World} {B : Nat} {t t' : TypeId} {sz : Nat} {v : Value} {n : Nat} {xs : List Value} {k : Nat} {cs : Array Value} (h : W.ownsRow B t sz v n xs) (hb : W.heap[k]? = some (.cells cs t' (0, 0))) (hne : t ≠ t') (i : Nat) (u : Value) : (W.setCell ⟨k, i, none⟩ u).ownsRow B t sz v n xs :=
 own_move h fun j hj => Below.heap_setCell _ _ _ _ (fun e => own_box h hb hne (by rw [hj]; exact congrArg some e.symm))
end Go.Proofs.Ytdiilocgjnlmiaa.Tre
end
section
namespace Go.Proofs.Ytdiilocgjnlmiaa.Tre
open Go.RowKit Go.Proofs.YtdiilocgjnlmiaaW.PrintWords Go.Proofs.YtdiilocgjnlmiaaW.PrintLast Go.Proofs.YtdiilocgjnlmiaaW.PrintMore
open Go.Proofs.Ytdiilocgjnlmiaa.PAll
set_option linter.unusedVariables false
set_option linter.unusedSimpArgs false
def ClonePost (t : TypeId) (k : IntKind) (w : World) (l : List Int) (e : Ending) (w' : World) : Prop := ∃ v, e = .returned v ∧ w'.ownsRow w.heap.size t 1 v l.length (nums k l) ∧ Below w.heap.size w w'
theorem nums_one (k : IntKind) (l : List Int) : ∀ u ∈ nums k l, u.oneCell' = true := by
 intro u hu
 obtain ⟨x, _, rfl⟩ := List.mem_map.1 hu
 rfl
theorem src_of_C {w : World} {k : IntKind} {A : Option Addr} {l : List Int} (h : Kd.C (Kd.int k) w A l.length l) : SrcN w A (nums k l) := by
 intro j u hu
 have hj : j < l.length := by
  have := (List.getElem?_eq_some_iff.1 hu).1
  simpa [nums] using this
 obtain ⟨ad, e, hc⟩ : ∃ ad, A = some ad ∧ w.cell? (ad.add j) = some (.int k (rd l (j : Int))) := by
  cases A with
  | none =>
   exfalso
   obtain ⟨ad, c, e, _⟩ := Kd.C_get h (0 : Int) (j : Int) (by omega) (by omega)
   cases e
  | some ad => exact ⟨ad, rfl, by have := Kd.foot_int h (j : Int) (by omega) (by omega); rwa [Int.toNat_natCast] at this⟩
 refine ⟨ad, e, ?_⟩
 rw [hc, ← hu]
 simp [nums, rd, List.getD_eq_getElem?_getD, hj]
theorem infoI : (Try.prog.info? 3).map (fun i => (i.zero, i.size, i.bytes)) = some (some (.int .i64 0), 1, 8) := by kernel_rfl
set_option maxRecDepth 100000 in
set_option maxHeartbeats 4000000 in
theorem cloneI_in (w : World) (A : Option Addr) (c : Nat) (l : List Int) (hr : Kd.C (Kd.int .i64) w A l.length l) (hl : l.length ≤ 1099511627776) :
 Calls Try.prog 73 #[.slice A l.length c] w (ClonePost 3 .i64 w l) := by
 obtain ⟨i0, hi0, hz, hs1, hby⟩ := info_parts infoI
 have heq := run_eql_slice_nil (P := Try.prog) w 38 3 A l.length c Try.underlying38
 have HR := Aside0.mk hr
 clear hr
 cases A with
 | none =>
  have h0 : l = [] := by
   cases l with
   | nil => rfl
   | cons x l =>
    obtain ⟨ad, _, e, _⟩ := Kd.C_get HR.out (0 : Int) 0 (by omega) (by simp)
    cases e
  subst h0
  simp only [List.length_nil] at heq ⊢
  go_enter Try.func73, Try.ntmps73
  go_wp2
  go_ret
  exact ⟨_, rfl, own_nil _ _ _ _, Below.refl _ _⟩
 | some ad =>
  go_enter Try.func73, Try.ntmps73
  go_wp2_with (first
   | ((with_reducible refine gate_dst (N := 7) rfl ?_); go_must (refine app_src _ w.heap.size 38 3 i0 (.int .i64 0) 1 8 Try.underlying38 hi0 hz hs1 hby rfl (by decide) _ 0 [] (World.ownsRow_made w #[] 0 (Nat.le_refl _) (by unfold maxLen; omega) (by simp)) rfl _ _ rfl rfl (some ad) l.length c (nums .i64 l) rfl (by simp [nums]) (src_of_C (Kd.C_alloc HR.out _)) (nums_one _ _) (by unfold maxLen; omega) (by omega) (by simp) ?_; intro v' w' ho hg))
   )
  go_ret
  refine ⟨v', rfl, ?_, ?_⟩
  ·rw [Nat.zero_add, List.nil_append] at ho
   exact ho
  refine (below_alloc (Below.refl _ _) _).grown hg (by simp) fun k hk => ?_
  simp [Value.ownBlock] at hk
  omega
end Go.Proofs.Ytdiilocgjnlmiaa.Tre
end
section
namespace Go.Proofs.Ytdiilocgjnlmiaa.Tre
open Go.RowKit Go.Proofs.YtdiilocgjnlmiaaW.PrintWords Go.Proofs.YtdiilocgjnlmiaaW.PrintLast Go.Proofs.YtdiilocgjnlmiaaW.PrintMore
open Go.Proofs.Ytdiilocgjnlmiaa.PAll
set_option linter.unusedVariables false
set_option linter.unusedSimpArgs false
def lineC (cell : Nat → List Value) : Nat → List Value
 | 0 => []
 | n + 1 => lineC cell n ++ cell n
theorem lineC_len {cell : Nat → List Value} {sz : Nat} (h : ∀ i, (cell i).length = sz) : ∀ n, (lineC cell n).length = n * sz
 | 0 => by simp [lineC]
 | n + 1 => by rw [lineC, List.length_append, lineC_len h n, h, Nat.succ_mul]
theorem lineC_at {cell : Nat → List Value} {sz : Nat} (h : ∀ i, (cell i).length = sz) : ∀ (n i : Nat), i < n → ((lineC cell n).drop (i * sz)).take sz = cell i
 | 0, i, hi => by omega
 | n + 1, i, hi => by
  rw [lineC]
  have hl := lineC_len h n
  rcases (by omega : i < n ∨ i = n) with hin | rfl
  ·have : i * sz + sz ≤ n * sz := by rw [← Nat.succ_mul]; exact Nat.mul_le_mul_right _ hin
   rw [List.drop_append_of_le_length (by omega), List.take_append_of_le_length (by rw [List.length_drop]; omega)]
   exact lineC_at h n i hin
  rw [← hl, List.drop_left, ← h i, List.take_length]
theorem lineC_congr {c d : Nat → List Value} : ∀ n, (∀ i, i < n → c i = d i) → lineC c n = lineC d n
 | 0, _ => rfl
 | n + 1, h => by rw [lineC, lineC, lineC_congr n (fun i hi => h i (by omega)), h n (by omega)]
abbrev opn (ops : List Op) (q : Nat) : Op := rd_T79 ops (q : Int)
def bdCell (sv : Nat → Value) (ops : List Op) (q : Nat) : List Value := [.int .i64 (opn ops q).f0, sv q, .int .i64 (opn ops q).f2]
structure BdSt (W : World) (B : Nat) (v : Value) (sv : Nat → Value) (ops : List Op) : Prop where
 row : W.ownsRow B 79 3 v ops.length (lineC (bdCell sv ops) ops.length)
 sets : ∀ q, q < ops.length → W.ownsRow B 3 1 (sv q) (opn ops q).f1.length (nums .i64 (opn ops q).f1)
 apart : Apart ops.length sv
theorem BdSt.same {W W' : World} {B : Nat} {v : Value} {sv : Nat → Value} {ops : List Op} (h : BdSt W B v sv ops) (hs : ∀ b, B ≤ b → b < W.heap.size → W'.heap[b]? = W.heap[b]?) : BdSt W' B v sv ops :=
 ⟨own_same h.row hs, fun q hq => own_same (h.sets q hq) hs, h.apart⟩
theorem BdSt.below {W W' : World} {B : Nat} {v : Value} {sv : Nat → Value} {ops : List Op} (h : BdSt W B v sv ops) (hb : Below W.heap.size W W') : BdSt W' B v sv ops := h.same fun b _ hl => hb.block b hl
theorem BdSt.nil (W : World) (B : Nat) (sv : Nat → Value) : BdSt W B (.slice none 0 0) sv [] := ⟨own_nil _ _ _ _, fun q hq => absurd hq (Nat.not_lt_zero _), fun i j hi => absurd hi (Nat.not_lt_zero _)⟩
structure ItSt (W : World) (B : Nat) (t : It) (nm : List Int) (bd : List Op) : Prop where
 ln : t.ln = nm.length
 bn : t.bn = bd.length
 m : ∀ q, t.m q = (opn bd q).f1.length
 name : W.ownsRow B 5 1 t.nm nm.length (nums .u8 nm)
 body : BdSt W B t.bv t.sv bd
theorem ItSt.same {W W' : World} {B : Nat} {t : It} {nm : List Int} {bd : List Op} (h : ItSt W B t nm bd) (hs : ∀ b, B ≤ b → b < W.heap.size → W'.heap[b]? = W.heap[b]?) : ItSt W' B t nm bd :=
 ⟨h.ln, h.bn, h.m, own_same h.name hs, h.body.same hs⟩
theorem ItSt.lt {W : World} {B : Nat} {t : It} {nm : List Int} {bd : List Op} (h : ItSt W B t nm bd) {b : Nat} (hb : itX t b) : B ≤ b ∧ b < W.heap.size := by
 rcases hb with hb | hb | ⟨q, hq, hb⟩
 ·exact h.name.lt b hb
 ·exact h.body.row.lt b hb
 exact (h.body.sets q (by rw [← h.bn]; exact hq)).lt b hb
theorem ItSt.kept {W W' : World} {B B' : Nat} {t : It} {nm : List Int} {bd : List Op} {v : Value} {n : Nat} {xs : List Value} {ty : TypeId} {sz : Nat} (h : ItSt W B t nm bd) (hv : W.ownsRow B' ty sz v n xs) (hty : ty ≠ 5 ∧ ty ≠ 79 ∧ ty ≠ 3) (hg : W.grownBy W' v.ownBlock) : ItSt W' B t nm bd :=
 ⟨h.ln, h.bn, h.m, h.name.kept hg (own_types h.name hv (fun e => hty.1 e.symm)), ⟨h.body.row.kept hg (own_types h.body.row hv (fun e => hty.2.1 e.symm)), fun q hq => (h.body.sets q hq).kept hg (own_types (h.body.sets q hq) hv (fun e => hty.2.2 e.symm)), h.body.apart⟩⟩
def ruCell (its : Nat → It) (j : Nat) : List Value := [(its j).nm, (its j).bv]
structure RlSt (W : World) (B : Nat) (v : Value) (its : Nat → It) (Rs : List Ru) : Prop where
 row : W.ownsRow B 68 2 v Rs.length (lineC (ruCell its) Rs.length)
 items : ∀ j, j < Rs.length → ItSt W B (its j) (ru Rs j).f0 (ru Rs j).f1
 apart : ApartI Rs.length its
theorem RlSt.same {W W' : World} {B : Nat} {v : Value} {its : Nat → It} {Rs : List Ru} (h : RlSt W B v its Rs) (hs : ∀ b, B ≤ b → b < W.heap.size → W'.heap[b]? = W.heap[b]?) : RlSt W' B v its Rs :=
 ⟨own_same h.row hs, fun j hj => (h.items j hj).same hs, h.apart⟩
theorem RlSt.below {W W' : World} {B : Nat} {v : Value} {its : Nat → It} {Rs : List Ru} (h : RlSt W B v its Rs) (hb : Below W.heap.size W W') : RlSt W' B v its Rs := h.same fun b _ hl => hb.block b hl
theorem RlSt.nil (W : World) (B : Nat) (its : Nat → It) : RlSt W B (.slice none 0 0) its [] := ⟨own_nil _ _ _ _, fun q hq => absurd hq (Nat.not_lt_zero _), ⟨fun i j hi => absurd hi (Nat.not_lt_zero _), fun i hi => absurd hi (Nat.not_lt_zero _)⟩⟩
end Go.Proofs.Ytdiilocgjnlmiaa.Tre
end
section
namespace Go.Proofs.Ytdiilocgjnlmiaa.Tre
open Go.RowKit Go.Proofs.YtdiilocgjnlmiaaW.PrintWords Go.Proofs.YtdiilocgjnlmiaaW.PrintLast Go.Proofs.YtdiilocgjnlmiaaW.PrintMore
open Go.Proofs.Ytdiilocgjnlmiaa.PAll
set_option linter.unusedVariables false
set_option linter.unusedSimpArgs false
theorem C_of_W {α : Type} (d : Kd α) {W : World} {X : Nat → Prop} {t : TypeId} {sz : Nat} {p : Nat → List Value → Prop} {v : Value} {n : Nat} {xs : List α} (h : WRow W X t sz p v n) (hsz : d.sz = sz) (hl : xs.length = n)
 (hp : ∀ (i : Nat) (x : α) (g c : Nat) (cs : List Value), i < n → xs[i]? = some x → v = .slice (some ⟨g, 0, none⟩) n c → cs.length = sz → (∀ (j : Nat) (u : Value), cs[j]? = some u → W.cell? ⟨g, i * sz + j, none⟩ = some u) → p i cs → d.K W x cs) : ∃ A c, v = .slice A n c ∧ n ≤ c ∧ d.C W A n xs := by
 subst hsz
 obtain ⟨A, c, rfl, hc, hm, h⟩ := h
 refine ⟨A, c, rfl, hc, hl, by omega, fun h0 => ?_⟩
 rcases h with ⟨_, hn⟩ | ⟨g, cur, rfl, _, hg, hi⟩
 ·omega
 refine ⟨_, rfl, fun i x hx => ?_⟩
 have hi' : i < n := by rw [← hl]; exact (List.getElem?_eq_some_iff.1 hx).1
 obtain ⟨cs, h1, h2, h3⟩ := hi i hi'
 have hcell : ∀ (j : Nat) (u : Value), cs[j]? = some u → W.cell? ⟨g, i * d.sz + j, none⟩ = some u := fun j u hu => (blk_cell hg _).trans (h2 j u hu)
 refine ⟨cs, h1, hp i x g c cs hi' hx rfl h1 hcell h3, fun j u hu => ?_⟩
 rw [add_plain]
 exact hcell j u hu
theorem ints_marked {W : World} {X : Nat → Prop} {t : TypeId} {kd : IntKind} {v : Value} {n : Nat} {xs : List Int} (h : WInts W X t kd v n) (hl : xs.length = n) (hc : ∀ g c, v = .slice (some ⟨g, 0, none⟩) n c → ∀ q, q < n → W.cell? ⟨g, q, none⟩ = some (.int kd (xs.getD q 0))) : ∃ A c, v = .slice A n c ∧ n ≤ c ∧ (Kd.int kd).C W A n xs := by
 refine C_of_W (Kd.int kd) h rfl hl fun i x g c cs hi hx e hcs hcell hp => ?_
 obtain ⟨a, rfl⟩ := hp
 have h1 := hcell 0 _ rfl
 have h2 := hc g c e i hi
 rw [Nat.mul_one, Nat.add_zero] at h1
 rw [h1] at h2
 have hx2 : xs.getD i 0 = x := by rw [List.getD_eq_getElem?_getD, hx]; rfl
 rw [hx2] at h2
 have h3 : a = x := by injection h2 with h2; injection h2
 subst h3
 rfl
theorem getD_mkI {k : Int} {n q : Nat} (h : q < n) : (mkI k n).getD q 0 = k + q := by simp [mkI, List.getD_eq_getElem?_getD, h]
theorem get_range {α : Type} {f : Nat → α} {n i : Nat} {x : α} (h : ((List.range n).map f)[i]? = some x) : x = f i := by
 obtain ⟨hi, e⟩ := List.getElem?_eq_some_iff.1 h
 simpa using e.symm
theorem take1 {α : Type} {l : List α} {i : Nat} (h : i < l.length) : (l.drop (i * 1)).take 1 = [l[i]] := by
 rw [Nat.mul_one, List.drop_eq_getElem_cons h]
 rfl
theorem nums1 {k : IntKind} {l : List Int} {i : Nat} (h : i < l.length) : ((nums k l).drop (i * 1)).take 1 = [.int k l[i]] := by
 rw [take1 (by rw [nums, List.length_map]; exact h)]
 simp [nums]
theorem own_C_int {W : World} {B : Nat} {t : TypeId} {k : IntKind} {v : Value} {l : List Int} (h : W.ownsRow B t 1 v l.length (nums k l)) (hn : l.length ≤ 1099511627776) : ∃ A c, v = .slice A l.length c ∧ l.length ≤ c ∧ (Kd.int k).C W A l.length l := by
 refine C_of_W (Kd.int k) (WRow.of_own (p := fun i cs => cs = ((nums k l).drop (i * 1)).take 1) h hn fun i _ => rfl) rfl rfl fun i x g c cs hi hx e hcs hcell hp => ?_
 rw [hp, nums1 hi]
 obtain ⟨_, e2⟩ := List.getElem?_eq_some_iff.1 hx
 rw [e2]
 rfl
end Go.Proofs.Ytdiilocgjnlmiaa.Tre
end
section
namespace Go.Proofs.Ytdiilocgjnlmiaa.Tre
open Go.RowKit Go.Proofs.YtdiilocgjnlmiaaW.PrintWords Go.Proofs.YtdiilocgjnlmiaaW.PrintLast Go.Proofs.YtdiilocgjnlmiaaW.PrintMore
open Go.Proofs.Ytdiilocgjnlmiaa.PAll
set_option linter.unusedVariables false
set_option linter.unusedSimpArgs false
abbrev In := S88
abbrev inn (l : List In) (q : Nat) : In := rd_T88 l (q : Int)
def inCell (sv : Nat → Value) (l : List In) (q : Nat) : List Value := [.int .i64 (inn l q).f0, .int .i64 (inn l q).f1, .int .i64 (inn l q).f2, sv q]
theorem inn_lt {l m : List In} {q : Nat} (h : q < l.length) : inn (l ++ m) q = inn l q := by
 simp [inn, rd_T88, List.getD_eq_getElem?_getD, List.getElem?_append_left h]
theorem inn_ge {l m : List In} {q : Nat} : inn (l ++ m) (l.length + q) = inn m q := by
 simp only [inn, rd_T88, List.getD_eq_getElem?_getD, Int.toNat_natCast]
 rw [List.getElem?_append_right (by omega), Nat.add_sub_cancel_left]
theorem inn_get {l : List In} {q : Nat} (h : q < l.length) : inn l q = l[q] := by
 simp [inn, rd_T88, List.getD_eq_getElem?_getD, h]
def joinF {α : Type} (f : Nat → α) (n : Nat) (g : Nat → α) : Nat → α := fun i => if i < n then f i else g (i - n)
theorem joinF_lt {α : Type} {f g : Nat → α} {n i : Nat} (h : i < n) : joinF f n g i = f i := by unfold joinF; rw [if_pos h]
theorem joinF_ge {α : Type} {f g : Nat → α} {n i : Nat} : joinF f n g (n + i) = g i := by unfold joinF; rw [if_neg (by omega), Nat.add_sub_cancel_left]
theorem lineC_add {c d e : Nat → List Value} (n : Nat) (h1 : ∀ i, i < n → c i = d i) : ∀ m, (∀ i, i < m → c (n + i) = e i) → lineC c (n + m) = lineC d n ++ lineC e m
 | 0, _ => by rw [Nat.add_zero, lineC_congr n h1]; simp [lineC]
 | m + 1, h2 => by
  rw [← Nat.add_assoc, lineC, lineC_add n h1 m (fun i hi => h2 i (by omega)), h2 m (by omega), lineC, List.append_assoc]
structure InSt (W : World) (B : Nat) (v : Value) (sv : Nat → Value) (l : List In) : Prop where
 row : W.ownsRow B 88 4 v l.length (lineC (inCell sv l) l.length)
 sets : ∀ q, q < l.length → W.ownsRow B 3 1 (sv q) (inn l q).f3.length (nums .i64 (inn l q).f3)
 apart : Apart l.length sv
theorem InSt.same {W W' : World} {B : Nat} {v : Value} {sv : Nat → Value} {l : List In} (h : InSt W B v sv l) (hs : ∀ b, B ≤ b → b < W.heap.size → W'.heap[b]? = W.heap[b]?) : InSt W' B v sv l :=
 ⟨own_same h.row hs, fun q hq => own_same (h.sets q hq) hs, h.apart⟩
theorem InSt.below {W W' : World} {B : Nat} {v : Value} {sv : Nat → Value} {l : List In} (h : InSt W B v sv l) (hb : Below W.heap.size W W') : InSt W' B v sv l := h.same fun b _ hl => hb.block b hl
theorem InSt.lower {W : World} {B B' : Nat} {v : Value} {sv : Nat → Value} {l : List In} (h : InSt W B v sv l) (hb : B' ≤ B) : InSt W B' v sv l :=
 ⟨own_lower' h.row hb, fun q hq => own_lower' (h.sets q hq) hb, h.apart⟩
theorem InSt.nil (W : World) (B : Nat) (sv : Nat → Value) : InSt W B (.slice none 0 0) sv [] := ⟨own_nil _ _ _ _, fun q hq => absurd hq (Nat.not_lt_zero _), fun i j hi => absurd hi (Nat.not_lt_zero _)⟩
theorem InSt.form {W : World} {B : Nat} {v : Value} {sv : Nat → Value} {l : List In} (h : InSt W B v sv l) : ∃ A c, v = .slice A l.length c := own_form1 h.row
theorem InSt.set {W : World} {B : Nat} {v : Value} {sv : Nat → Value} {l : List In} (h : InSt W B v sv l) {k : Nat} {cs : Array Value} {t' : TypeId} (hb : W.heap[k]? = some (.cells cs t' (0, 0))) (h1 : 88 ≠ t') (h2 : 3 ≠ t') (i : Nat) (u : Value) : InSt (W.setCell ⟨k, i, none⟩ u) B v sv l :=
 ⟨own_set h.row hb h1 i u, fun q hq => own_set (h.sets q hq) hb h2 i u, h.apart⟩
theorem InSt.one {W : World} {B : Nat} (hB : B ≤ W.heap.size) {s : Value} {x : In} (hs : W.ownsRow B 3 1 s x.f3.length (nums .i64 x.f3)) (sv : Nat → Value) (hv : sv 0 = s) :
 InSt (W.alloc (Obj.cells #[.int .i64 x.f0, .int .i64 x.f1, .int .i64 x.f2, s] 88)) B (.slice (some ⟨W.heap.size, 0, none⟩) 1 1) sv [x] := by
 subst hv
 have e0 : inn [x] 0 = x := rfl
 refine ⟨?_, fun q hq => ?_, fun i j hi hj hne => ?_⟩
 ·have := World.ownsRow_lit (base := B) (e := 88) (size := 4) W #[.int .i64 x.f0, .int .i64 x.f1, .int .i64 x.f2, sv 0] 1 hB (by unfold maxLen; omega) (by simp)
  simpa [lineC, inCell, e0] using this
 ·obtain rfl : q = 0 := by simpa using hq
  rw [e0]
  exact own_same hs fun b _ hl => (below_alloc (Below.refl _ _) _).block b hl
 simp at hi hj
 omega
theorem InSt.app {W W1 W2 : World} {B : Nat} {v v2 v' : Value} {sv sv2 : Nat → Value} {l l2 : List In} (h : InSt W B v sv l) (hB : B ≤ W.heap.size) (h1 : Below W.heap.size W W1) (h2 : InSt W1 W.heap.size v2 sv2 l2)
 (ho : W2.ownsRow B 88 4 v' (l.length + l2.length) (lineC (inCell sv l) l.length ++ lineC (inCell sv2 l2) l2.length)) (hg : W1.grownBy W2 v.ownBlock) : InSt W2 B v' (joinF sv l.length sv2) (l ++ l2) := by
 have hb := h.below h1
 refine ⟨?_, fun q hq => ?_, fun i j hi hj hne b hbi hbj => ?_⟩
 ·have e : lineC (inCell (joinF sv l.length sv2) (l ++ l2)) (l.length + l2.length) = lineC (inCell sv l) l.length ++ lineC (inCell sv2 l2) l2.length :=
   lineC_add _ (fun i hi => by rw [inCell, inCell, inn_lt hi, joinF_lt hi]) _ fun i hi => by rw [inCell, inCell, inn_ge, joinF_ge]
  rw [List.length_append, e]
  exact ho
 ·rw [List.length_append] at hq
  rcases Nat.lt_or_ge q l.length with hl | hl
  ·rw [inn_lt hl, joinF_lt hl]
   exact (hb.sets q hl).kept hg (own_types (hb.sets q hl) hb.row (by decide))
  obtain ⟨p, rfl⟩ : ∃ p, q = l.length + p := ⟨q - l.length, by omega⟩
  rw [inn_ge, joinF_ge]
  exact own_lower' ((h2.sets p (by omega)).kept hg (own_types (h2.sets p (by omega)) hb.row (by decide))) hB
 rw [List.length_append] at hi hj
 have old : ∀ q, q < l.length → ∀ b, ownV (sv q) b → b < W.heap.size := fun q hq b hb' => ((h.sets q hq).lt b hb').2
 have new : ∀ q, q < l2.length → ∀ b, ownV (sv2 q) b → W.heap.size ≤ b := fun q hq b hb' => ((h2.sets q hq).lt b hb').1
 rcases Nat.lt_or_ge i l.length with hil | hil
 ·rcases Nat.lt_or_ge j l.length with hjl | hjl
  ·rw [joinF_lt hil] at hbi
   rw [joinF_lt hjl] at hbj
   exact h.apart i j hil hjl hne b hbi hbj
  obtain ⟨p, rfl⟩ : ∃ p, j = l.length + p := ⟨j - l.length, by omega⟩
  rw [joinF_lt hil] at hbi
  rw [joinF_ge] at hbj
  have := old i hil b hbi
  have := new p (by omega) b hbj
  omega
 obtain ⟨p, rfl⟩ : ∃ p, i = l.length + p := ⟨i - l.length, by omega⟩
 rw [joinF_ge] at hbi
 rcases Nat.lt_or_ge j l.length with hjl | hjl
 ·rw [joinF_lt hjl] at hbj
  have := old j hjl b hbj
  have := new p (by omega) b hbi
  omega
 obtain ⟨r, rfl⟩ : ∃ r, j = l.length + r := ⟨j - l.length, by omega⟩
 rw [joinF_ge] at hbj
 exact h2.apart p r (by omega) (by omega) (fun e => hne (by rw [e])) b hbi hbj
theorem InSt.src {W : World} {B : Nat} {v : Value} {sv : Nat → Value} {l : List In} (h : InSt W B v sv l) {A : Option Addr} {c : Nat} (hv : v = .slice A l.length c) : SrcN W A (lineC (inCell sv l) l.length) := by
 intro j u hu
 rcases h.row.2 with ⟨e, hn⟩ | ⟨g, cap, cur, e, hb, hg, hnc, hcm, hcs, htake⟩
 ·rw [hn] at hu
  simp [lineC] at hu
 rw [hv] at e
 injection e with e1 e2 e3
 subst e1
 refine ⟨_, rfl, ?_⟩
 rw [add_plain, blk_cell hg]
 have hl : j < l.length * 4 := by
  have := (List.getElem?_eq_some_iff.1 hu).1
  rwa [lineC_len (sz := 4) (fun i => rfl)] at this
 rw [← htake, List.getElem?_take, if_pos hl] at hu
 simpa using hu
theorem InSt.line_one {W : World} {B : Nat} {v : Value} {sv : Nat → Value} {l : List In} (h : InSt W B v sv l) : ∀ n, n ≤ l.length → ∀ u ∈ lineC (inCell sv l) n, u.oneCell' = true
 | 0, _, u, hu => by cases hu
 | n + 1, hn, u, hu => by
  rw [lineC] at hu
  rcases List.mem_append.1 hu with hu | hu
  ·exact h.line_one n (by omega) u hu
  obtain ⟨A, c, e⟩ := own_form1 (h.sets n (by omega))
  simp only [inCell, e, List.mem_cons, List.not_mem_nil, or_false] at hu
  rcases hu with rfl | rfl | rfl | rfl <;> rfl
theorem InSt.C {W : World} {B : Nat} {v : Value} {sv : Nat → Value} {l : List In} (h : InSt W B v sv l) (hn : l.length ≤ 1048576) (hs : ∀ x ∈ l, x.f3.length ≤ 1048576) : ∃ A c, v = .slice A l.length c ∧ l.length ≤ c ∧ k88.C W A l.length l := by
 refine C_of_W k88 (WRow.of_own (p := fun i cs => cs = ((lineC (inCell sv l) l.length).drop (i * 4)).take 4) h.row (by omega) fun i _ => rfl) rfl rfl fun i x g c cs hi hx e hcs hcell hp => ?_
 rw [hp, lineC_at (cell := inCell sv l) (sz := 4) (fun j => rfl) l.length i hi, inCell]
 obtain ⟨_, e2⟩ := List.getElem?_eq_some_iff.1 hx
 have eo : inn l i = x := by rw [inn_get hi, e2]
 have hx1 : x.f3.length ≤ 1048576 := hs x (by rw [← e2]; exact List.getElem_mem hi)
 have hsv := h.sets i hi
 rw [eo] at hsv ⊢
 obtain ⟨A1, c1, es, h1, C1⟩ := own_C_int hsv (by omega)
 rw [es]
 exact k88_mk W x h1 C1
end Go.Proofs.Ytdiilocgjnlmiaa.Tre
end
