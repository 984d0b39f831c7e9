/- Lemmas of the proof, and the walks of functions that it stands on. -/
import Derived.Test.YtdiilocgjnlmiaaCpgMarkFlat
import Derived.Lib.LazyBuf
import Derived.Laws.AppendOwn
import Derived.Deep.DeepMust
import Derived.Test.YtdiilocgjnlmiaaCpgFlat
section
namespace Go.Proofs.Ytdiilocgjnlmiaa.Tre
open Go.RowKit Go.Proofs.YtdiilocgjnlmiaaW.PrintWords Go.Proofs.YtdiilocgjnlmiaaW.PrintLast Go.Proofs.YtdiilocgjnlmiaaW.PrintMore
open Go.Proofs.Ytdiilocgjnlmiaa.PAll
set_option linter.unusedVariables false
set_option linter.unusedSimpArgs false
def ownV (v : Value) (b : Nat) : Prop := v.ownBlock = some b
theorem ownV_slice {A : Option Addr} {n c b : Nat} : ownV (.slice A n c) b ↔ ownX A b := by
 unfold ownV ownX Value.ownBlock
 cases A with
 | none => simp
 | some a => simp
def cntO (m : Nat → Nat) : Nat → Nat
 | 0 => 0
 | n + 1 => cntO m n + (2 + m n)
theorem cntO_mono (m : Nat → Nat) {i n : Nat} (h : i ≤ n) : cntO m i ≤ cntO m n := by
 induction n with
 | zero => obtain rfl : i = 0 := by omega
           exact Nat.le_refl _
 | succ n ih =>
  rcases (by omega : i ≤ n ∨ i = n + 1) with h' | rfl
  ·have := ih h'
   rw [cntO]; omega
  exact Nat.le_refl _
def pOp (W : World) (X : Nat → Prop) (sv : Nat → Value) (m : Nat → Nat) (i : Nat) (cs : List Value) : Prop := ∃ x y, cs = [.int .i64 x, sv i, .int .i64 y] ∧ WInts W X 3 .i64 (sv i) (m i)
abbrev WOps (W : World) (X : Nat → Prop) (v : Value) (n : Nat) (sv : Nat → Value) (m : Nat → Nat) : Prop := WRow W X 79 3 (pOp W X sv m) v n
theorem three_like {cs cs' : List Value} {x y z : Value} (h : cs = [x, y, z]) (hl : cs'.length = cs.length) (hh : ∀ (j : Nat) (u : Value), cs[j]? = some u → ∃ u' : Value, cs'[j]? = some u' ∧ Like u u') : ∃ x' y' z', cs' = [x', y', z'] ∧ Like x x' ∧ Like y y' ∧ Like z z' := by
 subst h
 obtain ⟨x', h1, g1⟩ := hh 0 x rfl
 obtain ⟨y', h2, g2⟩ := hh 1 y rfl
 obtain ⟨z', h3, g3⟩ := hh 2 z rfl
 match cs', hl, h1, h2, h3 with
 | [a, b, c], _, h1, h2, h3 => cases h1; cases h2; cases h3; exact ⟨_, _, _, rfl, g1, g2, g3⟩
theorem WOps.evo {W W' : World} {X Y : Nat → Prop} {v : Value} {n : Nat} {sv : Nat → Value} {m : Nat → Nat} (h : WOps W X v n sv m) (he : Evo Y W W') : WOps W' X v n sv m :=
 WRow.evo h he fun i cs cs' ⟨x, y, e, hi⟩ hl hh => by
  obtain ⟨x', s', y', rfl, g1, g2, g3⟩ := three_like e hl hh
  obtain ⟨a, rfl⟩ := g1.int
  obtain ⟨b, rfl⟩ := g3.int
  obtain ⟨A, c, hs, _⟩ := id hi
  rw [hs] at g2
  rw [g2.slice, ← hs]
  exact ⟨a, b, rfl, hi.evo he⟩
theorem WOps.at {W : World} {X : Nat → Prop} {A : Option Addr} {c n i : Nat} {sv : Nat → Value} {m : Nat → Nat} (h : WOps W X (.slice A n c) n sv m) (hi : i < n) : ∃ (g : Nat) (cur : Array Value) (x y : Int), A = some ⟨g, 0, none⟩ ∧ X g ∧ W.heap[g]? = some (Obj.cells cur 79 (0, 0)) ∧ cur[i * 3]? = some (.int .i64 x) ∧ cur[i * 3 + 1]? = some (sv i) ∧ cur[i * 3 + 2]? = some (.int .i64 y) ∧ WInts W X 3 .i64 (sv i) (m i) := by
 obtain ⟨A', c', e, hc, hn, h⟩ := h
 cases e
 rcases h with h | ⟨g, cur, rfl, hX, hg, h⟩
 ·omega
 obtain ⟨cs, _, h2, ⟨x, y, rfl, hw⟩⟩ := h i hi
 exact ⟨g, cur, x, y, rfl, hX, hg, h2 0 _ rfl, h2 1 _ rfl, h2 2 _ rfl, hw⟩
def Apart (n : Nat) (sv : Nat → Value) : Prop := ∀ i j, i < n → j < n → i ≠ j → ∀ b, ownV (sv i) b → ¬ ownV (sv j) b
def opsX (A : Option Addr) (n : Nat) (sv : Nat → Value) (b : Nat) : Prop := ownX A b ∨ ∃ i, i < n ∧ ownV (sv i) b
structure OpMarked (W : World) (g j : Nat) (s : Value) (m : Nat) (k : Int) : Prop where
 f0 : W.cell? ⟨g, j * 3, none⟩ = some (.int .i64 k)
 f2 : W.cell? ⟨g, j * 3 + 2, none⟩ = some (.int .i64 (k + 1 + m))
 f1 : ∀ gs c, s = .slice (some ⟨gs, 0, none⟩) m c → ∀ q, q < m → W.cell? ⟨gs, q, none⟩ = some (.int .i64 (k + 1 + q))
theorem OpMarked.keep {W W' : World} {g j : Nat} {s : Value} {m : Nat} {k : Int} (h : OpMarked W g j s m k) (h0 : ∀ o, o = j * 3 ∨ o = j * 3 + 2 → W'.cell? ⟨g, o, none⟩ = W.cell? ⟨g, o, none⟩) (hs : ∀ gs, ownV s gs → ∀ q, W'.cell? ⟨gs, q, none⟩ = W.cell? ⟨gs, q, none⟩) : OpMarked W' g j s m k :=
 ⟨(h0 _ (.inl rfl)).trans h.f0, (h0 _ (.inr rfl)).trans h.f2, fun gs c e q hq => (hs gs (by rw [e]; rfl) q).trans (h.f1 gs c e q hq)⟩
structure OpsSt (W W' : World) (A : Option Addr) (n : Nat) (sv : Nat → Value) (m : Nat → Nat) (k : Int) (i : Nat) : Prop where
 evo : Evo (opsX A n sv) W W'
 cont : Apart n sv → ∀ g, A = some ⟨g, 0, none⟩ → ∀ j, j < i → OpMarked W' g j (sv j) (m j) (k + cntO m j)
def OpsPost (W : World) (A : Option Addr) (n : Nat) (sv : Nat → Value) (m : Nat → Nat) (k : Int) (e : Ending) (W' : World) : Prop := e = .returned (.int .i64 (k + cntO m n)) ∧ OpsSt W W' A n sv m k n
theorem OpsSt.start (W : World) (A : Option Addr) (n : Nat) (sv : Nat → Value) (m : Nat → Nat) (k : Int) : OpsSt W W A n sv m k 0 := ⟨Evo.refl _ _, fun _ g hg j hj => absurd hj (Nat.not_lt_zero _)⟩
theorem cell_other (W : World) (g o1 o2 : Nat) (u : Value) (h : o1 ≠ o2) : (W.setCell ⟨g, o1, none⟩ u).cell? ⟨g, o2, none⟩ = W.cell? ⟨g, o2, none⟩ := World.cell?_setCell_other W _ _ u (fun e => h (congrArg Addr.off e))
theorem cell_same (W : World) (g o : Nat) (u v : Value) (h : W.cell? ⟨g, o, none⟩ = some v) : (W.setCell ⟨g, o, none⟩ u).cell? ⟨g, o, none⟩ = some u := World.cell?_setCell_same W _ u h
theorem OpsSt.next {W W' W2 : World} {X : Nat → Prop} {g n c i : Nat} {sv : Nat → Value} {m : Nat → Nat} {k : Int} {As : Option Addr} {cs : Nat} (hV : WOps W X (.slice (some ⟨g, 0, none⟩) n c) n sv m) (h : OpsSt W W' (some ⟨g, 0, none⟩) n sv m k i) (hi : i < n) (hs : sv i = .slice As (m i) cs)
 (h2 : FlatSt (W'.setCell ⟨g, i * 3, none⟩ (.int .i64 (k + cntO m i))) W2 As (m i) (fun j => .int .i64 (k + cntO m i + 1 + (j : Int)))) :
 OpsSt W (W2.setCell ⟨g, i * 3 + 2, none⟩ (.int .i64 (k + cntO m i + 1 + m i))) (some ⟨g, 0, none⟩) n sv m k (i + 1) := by
 have hV1 := WOps.evo hV h.evo
 obtain ⟨g', cur, x, y, e, hX, hg, c0, c1, c2, hw⟩ := WOps.at hV1 hi
 cases e
 have hlt : g < W'.heap.size := (Array.getElem?_eq_some_iff.1 hg).1
 have hown : ∀ b, ownX As b → ownV (sv i) b := fun b hb => by rw [hs]; exact ownV_slice.2 hb
 have hne : ∀ j, j < n → ∀ b, ownV (sv j) b → b ≠ g ∧ b < W'.heap.size := by
  intro j hj b hb
  obtain ⟨_, _, _, _, e', _, _, _, _, _, hwj⟩ := WOps.at hV1 hj
  obtain ⟨_, cu, hcu⟩ := WRow.block hwj hb
  refine ⟨fun e => ?_, (Array.getElem?_eq_some_iff.1 hcu).1⟩
  subst e
  rw [hg] at hcu
  simp only [Option.some.injEq, Obj.cells.injEq] at hcu
  exact absurd hcu.2.1 (by decide)
 have E1 : Evo (opsX (some ⟨g, 0, none⟩) n sv) W' (W'.setCell ⟨g, i * 3, none⟩ (.int .i64 (k + cntO m i))) := Evo.set hg c0 (.inl ⟨_, rfl, rfl⟩) (.inr (.inl ⟨_, _, _, rfl, rfl⟩))
 have E2 : Evo (opsX (some ⟨g, 0, none⟩) n sv) _ W2 := h2.evo.mono fun b hb => .inr ⟨i, hi, hown b hb⟩
 have E12 := (h.evo.trans E1).trans E2
 obtain ⟨g', cur2, x2, y2, e, _, hg2, _, _, d2, _⟩ := WOps.at (WOps.evo hV E12) hi
 cases e
 have E3 : Evo (opsX (some ⟨g, 0, none⟩) n sv) W2 (W2.setCell ⟨g, i * 3 + 2, none⟩ (.int .i64 (k + cntO m i + 1 + m i))) := Evo.set hg2 d2 (.inl ⟨_, rfl, rfl⟩) (.inr (.inl ⟨_, _, _, rfl, rfl⟩))
 have r2 : ∀ o, W2.cell? ⟨g, o, none⟩ = (W'.setCell ⟨g, i * 3, none⟩ (.int .i64 (k + cntO m i))).cell? ⟨g, o, none⟩ := fun o =>
  World.cell?_of_block (h2.evo.same g (by simpa using hlt) fun hx => (hne i hi g (hown g hx)).1 rfl)
 refine ⟨E12.trans E3, fun hA g' e j hj => ?_⟩
 cases e
 rcases (by omega : j < i ∨ j = i) with hji | rfl
 ·refine OpMarked.keep (h.cont hA g rfl j hji) (fun o ho => ?_) (fun gs hgs q => ?_)
  ·rw [cell_other _ _ _ _ _ (by omega), r2 o, cell_other _ _ _ _ _ (by omega)]
  obtain ⟨hn1, hn2⟩ := hne j (by omega) gs hgs
  rw [World.cell?_setCell_far _ _ _ _ (by exact fun e => hn1 e.symm), World.cell?_of_block (h2.evo.same gs (by simpa using hn2) fun hx => hA i j hi (by omega) (by omega) gs (hown gs hx) hgs), World.cell?_setCell_far _ _ _ _ (by exact fun e => hn1 e.symm)]
 refine ⟨?_, ?_, fun gs c' e q hq => ?_⟩
 ·rw [cell_other _ _ _ _ _ (by omega), r2]
  exact cell_same _ _ _ _ (.int .i64 x) (by rw [cell_of_row _ _ _ _ _ _ hg]; exact c0)
 ·exact cell_same _ _ _ _ (.int .i64 y2) (by rw [cell_of_row _ _ _ _ _ _ hg2]; exact d2)
 rw [hs] at e
 cases e
 have hgs : ownV (sv j) gs := by rw [hs]; rfl
 rw [World.cell?_setCell_far _ _ _ _ (by exact fun e => (hne j hi gs hgs).1 e.symm)]
 exact h2.cont gs rfl q hq
theorem ops_second {W W' W2 : World} {X : Nat → Prop} {g n c i : Nat} {sv : Nat → Value} {m : Nat → Nat} {k : Int} {As : Option Addr} {cs : Nat} (hV : WOps W X (.slice (some ⟨g, 0, none⟩) n c) n sv m) (h : OpsSt W W' (some ⟨g, 0, none⟩) n sv m k i) (hi : i < n) (hs : sv i = .slice As (m i) cs)
 (h2 : FlatSt (W'.setCell ⟨g, i * 3, none⟩ (.int .i64 (k + cntO m i))) W2 As (m i) (fun j => .int .i64 (k + cntO m i + 1 + (j : Int)))) : ∃ y : Int, W2.cell? ⟨g, i * 3 + 2, none⟩ = some (.int .i64 y) ∧ W2.frozen? ⟨g, i * 3 + 2, none⟩ = false := by
 obtain ⟨g', cur, x, y, e, hX, hg, c0, c1, c2, hw⟩ := WOps.at (WOps.evo hV h.evo) hi
 cases e
 have E1 : Evo (opsX (some ⟨g, 0, none⟩) n sv) W' (W'.setCell ⟨g, i * 3, none⟩ (.int .i64 (k + cntO m i))) := Evo.set hg c0 (.inl ⟨_, rfl, rfl⟩) (.inr (.inl ⟨_, _, _, rfl, rfl⟩))
 have E2 : Evo (opsX (some ⟨g, 0, none⟩) n sv) _ W2 := h2.evo.mono fun b hb => .inr ⟨i, hi, by rw [hs]; exact ownV_slice.2 hb⟩
 obtain ⟨g', cur2, x2, y2, e, _, hg2, _, _, d2, _⟩ := WOps.at (WOps.evo hV ((h.evo.trans E1).trans E2)) hi
 cases e
 exact ⟨y2, by rw [cell_of_row _ _ _ _ _ _ hg2]; exact d2, by simp [World.frozen?, hg2]⟩
set_option maxRecDepth 100000 in
set_option maxHeartbeats 4000000 in
theorem markOps_in (W : World) (X : Nat → Prop) (A : Option Addr) (n c : Nat) (sv : Nat → Value) (m : Nat → Nat) (k : Int) (hV : WOps W X (.slice A n c) n sv m) (hn : n ≤ 1099511627776) (h0 : 0 ≤ k) (h1 : k + cntO m n ≤ 4611686018427387904) :
 Calls Try.prog 121 #[.slice A n c, .int .i64 k] W (OpsPost W A n sv m k) := by
 have HV := Aside0.mk hV
 clear hV
 go_enter Try.func121, Try.ntmps121
 go_wp2
 go_loopg [1, 5] (n + 1) (fun kq v1 v5 W' => ∃ (i : Nat), v1 = .int .i64 (k + (cntO m i : Int)) ∧ v5 = .int .i64 (i : Int) ∧ Aside0 (i ≤ n ∧ n < i + kq) ∧ OpsSt W W' A n sv m k i)
 case atStart => exact ⟨0, by simp [cntO], rfl, ⟨by omega, by omega⟩, OpsSt.start _ _ _ _ _ _⟩
 case round =>
  obtain ⟨i, rfl, rfl, HI, hS⟩ := hrel
  obtain ⟨i1, i2⟩ := HI.out
  clear HI
  cases gk with
  | zero => omega
  | succ k1 =>
   by_cases hi : i < n
   rotate_left
   ·have d1 : decide ((i : Int) < (n : Int)) = false := decide_eq_false (by omega)
    have e : i = n := by omega
    subst e
    go_wp2
    go_ret
    exact ⟨rfl, hS⟩
   have d1 : decide ((i : Int) < (n : Int)) = true := decide_eq_true (by omega)
   have d1n : decide (i < n) = true := decide_eq_true hi
   obtain ⟨g, cur, x, y, rfl, hX, hg, c0, c1, c2, hw⟩ := WOps.at (WOps.evo HV.out hS.evo) hi
   obtain ⟨As, cs, hs, _, hmi, _⟩ := id hw
   have b0 := cntO_mono m (i := i + 1) (n := n) (by omega)
   rw [cntO] at b0
   have q0 : wr.cell? ⟨g, i * 3, none⟩ = some (.int .i64 x) := by rw [cell_of_row _ _ _ _ _ _ hg]; exact c0
   have q1 : wr.cell? ⟨g, i * 3 + 1, none⟩ = some (.slice As (m i) cs) := by rw [cell_of_row _ _ _ _ _ _ hg, c1, hs]
   have f0 : ∀ o, wr.frozen? ⟨g, o, none⟩ = false := fun o => by simp [World.frozen?, hg]
   have e2 : (0 ≤ (i : Int)) = True := eq_true (by omega)
   have e3 : ((i : Int) < (n : Int)) = True := eq_true (by omega)
   have hw1 := WInts.evo hw (Evo.set hg c0 hX (.inr (.inl ⟨_, _, k + (cntO m i : Int), rfl, rfl⟩)))
   rw [hs] at hw1
   have HW1 := Aside0.mk hw1
   have HS := Lib.hid hs
   have HC := Aside0.mk (show cntO m (i + 1) = cntO m i + (2 + m i) from rfl)
   clear hg c0 c1 c2 hw hw1 hs
   have hkb : k + (cntO m i : Int) + 1 + (m i : Int) + 1 ≤ 4611686018427387904 := by omega
   have hkc : 0 ≤ k + (cntO m i : Int) := by omega
   go_wp2_with (first
    | (go_at_call 68; go_must (refine (markInt_in _ _ As (m i) cs _ HW1.out hmi (by omega) (by omega)).mono ?_; rintro e W2 ⟨rfl, hF⟩; have HN := Aside0.mk (OpsSt.next HV.out hS hi HS.out hF); obtain ⟨y2, p2, p3⟩ := ops_second HV.out hS hi HS.out hF; clear hF)))
   go_roundg k1
   case measure => omega
   case rel => exact ⟨i + 1, by rw [HC.out]; first | (simp; omega) | (rw [wid (by omega) (by omega)]; simp; omega), by first | rfl | (simp; done) | (rw [wid (by omega) (by omega)]; simp), ⟨by omega, by omega⟩, HN.out⟩
end Go.Proofs.Ytdiilocgjnlmiaa.Tre
end
section
namespace Go.Proofs.Ytdiilocgjnlmiaa.Tre
open Go.RowKit Go.Proofs.YtdiilocgjnlmiaaW.PrintWords Go.Proofs.YtdiilocgjnlmiaaW.PrintLast Go.Proofs.YtdiilocgjnlmiaaW.PrintMore
open Go.Proofs.Ytdiilocgjnlmiaa.PAll
set_option linter.unusedVariables false
set_option linter.unusedSimpArgs false
structure It where
 nm : Value
 ln : Nat
 bv : Value
 bn : Nat
 sv : Nat → Value
 m : Nat → Nat
def WIt (W : World) (X : Nat → Prop) (t : It) : Prop := WInts W X 5 .u8 t.nm t.ln ∧ WOps W X t.bv t.bn t.sv t.m
theorem WIt.evo {W W' : World} {X Y : Nat → Prop} {t : It} (h : WIt W X t) (he : Evo Y W W') : WIt W' X t := ⟨WInts.evo h.1 he, WOps.evo h.2 he⟩
def itX (t : It) (b : Nat) : Prop := ownV t.nm b ∨ ownV t.bv b ∨ ∃ q, q < t.bn ∧ ownV (t.sv q) b
def cntB (t : It) : Nat := cntO t.m t.bn
structure ItMarked (W : World) (t : It) (k kb : Int) : Prop where
 nm : ∀ g c, t.nm = .slice (some ⟨g, 0, none⟩) t.ln c → ∀ q, q < t.ln → W.cell? ⟨g, q, none⟩ = some (.int .u8 ((k + q) % 256))
 bd : ∀ g c, t.bv = .slice (some ⟨g, 0, none⟩) t.bn c → ∀ q, q < t.bn → OpMarked W g q (t.sv q) (t.m q) (kb + cntO t.m q)
theorem ItMarked.keep {W W' : World} {t : It} {k kb : Int} (h : ItMarked W t k kb) (hs : ∀ b, itX t b → ∀ q, W'.cell? ⟨b, q, none⟩ = W.cell? ⟨b, q, none⟩) : ItMarked W' t k kb :=
 ⟨fun g c e q hq => (hs g (.inl (by rw [e]; rfl)) q).trans (h.nm g c e q hq), fun g c e q hq => (h.bd g c e q hq).keep (fun o _ => hs g (.inr (.inl (by rw [e]; rfl))) o) fun gs hgs o => hs gs (.inr (.inr ⟨q, hq, hgs⟩)) o⟩
def ApartI (n : Nat) (its : Nat → It) : Prop := (∀ i j, i < n → j < n → i ≠ j → ∀ b, itX (its i) b → ¬ itX (its j) b) ∧ ∀ i, i < n → Apart (its i).bn (its i).sv
theorem WIt.types {W : World} {X : Nat → Prop} {t : It} (h : WIt W X t) {b : Nat} (hb : itX t b) : X b ∧ b < W.heap.size ∧ ∃ (cur : Array Value) (ty : TypeId), W.heap[b]? = some (Obj.cells cur ty (0, 0)) ∧ (ty = 5 ∨ ty = 79 ∨ ty = 3) := by
 rcases hb with hb | hb | ⟨q, hq, hb⟩
 ·obtain ⟨hX, cur, hc⟩ := WRow.block h.1 hb
  exact ⟨hX, (Array.getElem?_eq_some_iff.1 hc).1, cur, _, hc, .inl rfl⟩
 ·obtain ⟨hX, cur, hc⟩ := WRow.block h.2 hb
  exact ⟨hX, (Array.getElem?_eq_some_iff.1 hc).1, cur, _, hc, .inr (.inl rfl)⟩
 obtain ⟨A, c, e, _⟩ := id h.2
 have hw := h.2
 rw [e] at hw
 obtain ⟨_, _, _, _, _, _, _, _, _, _, hs⟩ := WOps.at hw hq
 obtain ⟨hX, cur, hc⟩ := WRow.block hs hb
 exact ⟨hX, (Array.getElem?_eq_some_iff.1 hc).1, cur, _, hc, .inr (.inr rfl)⟩
theorem WIt.name_apart {W : World} {X : Nat → Prop} {t : It} (h : WIt W X t) {b : Nat} (hb : ownV t.nm b) : ¬ (ownV t.bv b ∨ ∃ q, q < t.bn ∧ ownV (t.sv q) b) := by
 obtain ⟨_, cur, hc⟩ := WRow.block h.1 hb
 rintro (hx | ⟨q, hq, hx⟩)
 ·obtain ⟨_, cur2, hc2⟩ := WRow.block h.2 hx
  rw [hc] at hc2
  simp only [Option.some.injEq, Obj.cells.injEq] at hc2
  exact absurd hc2.2.1 (by decide)
 obtain ⟨A, c, e, _⟩ := id h.2
 have hw := h.2
 rw [e] at hw
 obtain ⟨_, _, _, _, _, _, _, _, _, _, hs⟩ := WOps.at hw hq
 obtain ⟨_, cur2, hc2⟩ := WRow.block hs hx
 rw [hc] at hc2
 simp only [Option.some.injEq, Obj.cells.injEq] at hc2
 exact absurd hc2.2.1 (by decide)
theorem opsX_it {A : Option Addr} {t : It} {c b : Nat} (e : t.bv = .slice A t.bn c) (h : opsX A t.bn t.sv b) : ownV t.bv b ∨ ∃ q, q < t.bn ∧ ownV (t.sv q) b := by
 rcases h with h | h
 ·left; rw [e]; exact ownV_slice.2 h
 right; exact h
theorem it_marked {W0 W1 W1' W2 : World} {X : Nat → Prop} {t : It} {An Ab : Option Addr} {cn cb : Nat} {k kb : Int} (h : WIt W0 X t) (en : t.nm = .slice An t.ln cn) (eb : t.bv = .slice Ab t.bn cb)
 (h1 : FlatSt W0 W1 An t.ln (fun j => .int .u8 ((k + (j : Int)) % 256))) (hm : Evo (fun b => ¬ itX t b) W1 W1') (h2 : OpsSt W1' W2 Ab t.bn t.sv t.m kb t.bn) (hA : Apart t.bn t.sv) : ItMarked W2 t k kb := by
 refine ⟨fun g c e q hq => ?_, fun g c e q hq => ?_⟩
 ·rw [en] at e
  cases e
  have hg : ownV t.nm g := by rw [en]; rfl
  have hlt := (WIt.types h (.inl hg)).2.1
  rw [World.cell?_of_block (h2.evo.same g (Nat.lt_of_lt_of_le hlt (Nat.le_trans h1.evo.size hm.size)) fun hx => WIt.name_apart h hg (opsX_it eb hx)), World.cell?_of_block (hm.same g (Nat.lt_of_lt_of_le hlt h1.evo.size) fun hx => hx (.inl hg))]
  exact h1.cont g rfl q hq
 rw [eb] at e
 cases e
 exact h2.cont hA g rfl q hq
def cntR (its : Nat → It) : Nat → Nat
 | 0 => 0
 | n + 1 => cntR its n + ((its n).ln + cntB (its n))
def cntL (its : Nat → It) : Nat → Nat
 | 0 => 0
 | n + 1 => cntL its n + ((its n).ln + 1 + cntB (its n))
theorem cntR_mono (its : Nat → It) {i n : Nat} (h : i ≤ n) : cntR its i ≤ cntR its n := by
 induction n with
 | zero => obtain rfl : i = 0 := by omega
           exact Nat.le_refl _
 | succ n ih =>
  rcases (by omega : i ≤ n ∨ i = n + 1) with h' | rfl
  ·have := ih h'
   rw [cntR]; omega
  exact Nat.le_refl _
theorem cntL_mono (its : Nat → It) {i n : Nat} (h : i ≤ n) : cntL its i ≤ cntL its n := by
 induction n with
 | zero => obtain rfl : i = 0 := by omega
           exact Nat.le_refl _
 | succ n ih =>
  rcases (by omega : i ≤ n ∨ i = n + 1) with h' | rfl
  ·have := ih h'
   rw [cntL]; omega
  exact Nat.le_refl _
def pRu (W : World) (X : Nat → Prop) (its : Nat → It) (i : Nat) (cs : List Value) : Prop := cs = [(its i).nm, (its i).bv] ∧ WIt W X (its i)
def pLa (W : World) (X : Nat → Prop) (its : Nat → It) (i : Nat) (cs : List Value) : Prop := (∃ b, cs = [(its i).nm, .bool b, (its i).bv]) ∧ WIt W X (its i)
abbrev WRules (W : World) (X : Nat → Prop) (v : Value) (n : Nat) (its : Nat → It) : Prop := WRow W X 68 2 (pRu W X its) v n
abbrev WLabels (W : World) (X : Nat → Prop) (v : Value) (n : Nat) (its : Nat → It) : Prop := WRow W X 72 3 (pLa W X its) v n
theorem two_like {cs cs' : List Value} {x y : Value} (h : cs = [x, y]) (hl : cs'.length = cs.length) (hh : ∀ (j : Nat) (u : Value), cs[j]? = some u → ∃ u' : Value, cs'[j]? = some u' ∧ Like u u') : ∃ x' y', cs' = [x', y'] ∧ Like x x' ∧ Like y y' := by
 subst h
 obtain ⟨x', h1, g1⟩ := hh 0 x rfl
 obtain ⟨y', h2, g2⟩ := hh 1 y rfl
 match cs', hl, h1, h2 with
 | [a, b], _, h1, h2 => cases h1; cases h2; exact ⟨_, _, rfl, g1, g2⟩
theorem WRules.evo {W W' : World} {X Y : Nat → Prop} {v : Value} {n : Nat} {its : Nat → It} (h : WRules W X v n its) (he : Evo Y W W') : WRules W' X v n its :=
 WRow.evo h he fun i cs cs' ⟨e, hi⟩ hl hh => by
  obtain ⟨x', y', rfl, g1, g2⟩ := two_like e hl hh
  obtain ⟨A, c, hs, _⟩ := id hi.1
  obtain ⟨B, d, ht, _⟩ := id hi.2
  rw [hs] at g1
  rw [ht] at g2
  exact ⟨by rw [g1.slice, g2.slice, hs, ht], hi.evo he⟩
theorem WLabels.evo {W W' : World} {X Y : Nat → Prop} {v : Value} {n : Nat} {its : Nat → It} (h : WLabels W X v n its) (he : Evo Y W W') : WLabels W' X v n its :=
 WRow.evo h he fun i cs cs' ⟨⟨b, e⟩, hi⟩ hl hh => by
  obtain ⟨x', b', y', rfl, g1, g3, g2⟩ := three_like e hl hh
  obtain ⟨A, c, hs, _⟩ := id hi.1
  obtain ⟨B, d, ht, _⟩ := id hi.2
  obtain ⟨b2, rfl⟩ := g3.bool
  rw [hs] at g1
  rw [ht] at g2
  exact ⟨⟨b2, by rw [g1.slice, g2.slice, hs, ht]⟩, hi.evo he⟩
theorem WRules.at {W : World} {X : Nat → Prop} {A : Option Addr} {c n i : Nat} {its : Nat → It} (h : WRules W X (.slice A n c) n its) (hi : i < n) : ∃ (g : Nat) (cur : Array Value), A = some ⟨g, 0, none⟩ ∧ X g ∧ W.heap[g]? = some (Obj.cells cur 68 (0, 0)) ∧ cur[i * 2]? = some (its i).nm ∧ cur[i * 2 + 1]? = some (its i).bv ∧ WIt W X (its i) := by
 obtain ⟨A', c', e, hc, hn, h⟩ := h
 cases e
 rcases h with h | ⟨g, cur, rfl, hX, hg, h⟩
 ·omega
 obtain ⟨cs, _, h2, ⟨rfl, hw⟩⟩ := h i hi
 exact ⟨g, cur, rfl, hX, hg, h2 0 _ rfl, h2 1 _ rfl, hw⟩
theorem WLabels.at {W : World} {X : Nat → Prop} {A : Option Addr} {c n i : Nat} {its : Nat → It} (h : WLabels W X (.slice A n c) n its) (hi : i < n) : ∃ (g : Nat) (cur : Array Value) (b : Bool), A = some ⟨g, 0, none⟩ ∧ X g ∧ W.heap[g]? = some (Obj.cells cur 72 (0, 0)) ∧ cur[i * 3]? = some (its i).nm ∧ cur[i * 3 + 1]? = some (.bool b) ∧ cur[i * 3 + 2]? = some (its i).bv ∧ WIt W X (its i) := by
 obtain ⟨A', c', e, hc, hn, h⟩ := h
 cases e
 rcases h with h | ⟨g, cur, rfl, hX, hg, h⟩
 ·omega
 obtain ⟨cs, _, h2, ⟨⟨b, rfl⟩, hw⟩⟩ := h i hi
 exact ⟨g, cur, b, rfl, hX, hg, h2 0 _ rfl, h2 1 _ rfl, h2 2 _ rfl, hw⟩
def itsX (n : Nat) (its : Nat → It) (b : Nat) : Prop := ∃ j, j < n ∧ itX (its j) b
structure RulesSt (W W' : World) (n : Nat) (its : Nat → It) (k : Int) (i : Nat) : Prop where
 evo : Evo (itsX n its) W W'
 cont : ApartI n its → ∀ j, j < i → ItMarked W' (its j) (k + cntR its j) (k + cntR its j + (its j).ln)
theorem RulesSt.start (W : World) (n : Nat) (its : Nat → It) (k : Int) : RulesSt W W n its k 0 := ⟨Evo.refl _ _, fun _ j hj => absurd hj (Nat.not_lt_zero _)⟩
theorem it_keep {W0 W1 W1' W2 : World} {X : Nat → Prop} {t u : It} {An Ab : Option Addr} {cn cb : Nat} {k kb k' : Int} {f : Nat → Value} (hu : WIt W0 X u) (en : t.nm = .slice An t.ln cn) (eb : t.bv = .slice Ab t.bn cb)
 (h1 : FlatSt W0 W1 An t.ln f) (hm : Evo (fun b => ¬ itX u b) W1 W1') (h2 : OpsSt W1' W2 Ab t.bn t.sv t.m k' t.bn) (hA : ∀ b, itX t b → ¬ itX u b) (h : ItMarked W0 u k kb) : ItMarked W2 u k kb := by
 refine h.keep fun b hb q => ?_
 have hlt := (WIt.types hu hb).2.1
 rw [World.cell?_of_block (h2.evo.same b (Nat.lt_of_lt_of_le hlt (Nat.le_trans h1.evo.size hm.size)) fun hx => hA b (by rcases opsX_it eb hx with h | h; exact .inr (.inl h); exact .inr (.inr h)) hb),
  World.cell?_of_block (hm.same b (Nat.lt_of_lt_of_le hlt h1.evo.size) fun hx => hx hb), World.cell?_of_block (h1.evo.same b hlt fun hx => hA b (.inl (by rw [en]; exact ownV_slice.2 hx)) hb)]
theorem RulesSt.next {W W' W1 W2 : World} {X : Nat → Prop} {n i : Nat} {its : Nat → It} {k : Int} {An Ab : Option Addr} {cn cb : Nat} (hall : ∀ j, j < n → WIt W X (its j)) (h : RulesSt W W' n its k i) (hi : i < n) (en : (its i).nm = .slice An (its i).ln cn) (eb : (its i).bv = .slice Ab (its i).bn cb)
 (h1 : FlatSt W' W1 An (its i).ln (fun j => .int .u8 ((k + cntR its i + (j : Int)) % 256))) (h2 : OpsSt W1 W2 Ab (its i).bn (its i).sv (its i).m (k + cntR its i + (its i).ln) (its i).bn) : RulesSt W W2 n its k (i + 1) := by
 refine ⟨(h.evo.trans (h1.evo.mono fun b hb => ⟨i, hi, .inl (by rw [en]; exact ownV_slice.2 hb)⟩)).trans (h2.evo.mono fun b hb => ⟨i, hi, by rcases opsX_it eb hb with h | h; exact .inr (.inl h); exact .inr (.inr h)⟩), fun hA j hj => ?_⟩
 rcases (by omega : j < i ∨ j = i) with hji | rfl
 ·exact it_keep ((hall j (by omega)).evo h.evo) en eb h1 (Evo.refl _ _) h2 (hA.1 i j hi (by omega) (by omega)) (h.cont hA j hji)
 exact it_marked ((hall j hi).evo h.evo) en eb h1 (Evo.refl _ _) h2 (hA.2 j hi)
def RulesPost (W : World) (n : Nat) (its : Nat → It) (k : Int) (e : Ending) (W' : World) : Prop := e = .returned (.int .i64 (k + cntR its n)) ∧ RulesSt W W' n its k n
set_option maxRecDepth 100000 in
set_option maxHeartbeats 4000000 in
theorem markRules_in (W : World) (X : Nat → Prop) (A : Option Addr) (n c : Nat) (its : Nat → It) (k : Int) (hV : WRules W X (.slice A n c) n its) (hn : n ≤ 1099511627776) (h0 : 0 ≤ k) (h1 : k + cntR its n ≤ 4611686018427387904) :
 Calls Try.prog 75 #[.slice A n c, .int .i64 k] W (RulesPost W n its k) := by
 have hall : ∀ j, j < n → WIt W X (its j) := fun j hj => by
  obtain ⟨_, _, _, _, _, _, _, h⟩ := WRules.at hV hj
  exact h
 have HALL := Aside0.mk hall
 have HV := Aside0.mk hV
 clear hV hall
 go_enter Try.func75, Try.ntmps75
 go_wp2
 go_loopg [1, 5] (n + 1) (fun kq v1 v5 W' => ∃ (i : Nat), v1 = .int .i64 (k + (cntR its i : Int)) ∧ v5 = .int .i64 (i : Int) ∧ Aside0 (i ≤ n ∧ n < i + kq) ∧ RulesSt W W' n its k i)
 case atStart => exact ⟨0, by simp [cntR], rfl, ⟨by omega, by omega⟩, RulesSt.start _ _ _ _⟩
 case round =>
  obtain ⟨i, rfl, rfl, HI, hS⟩ := hrel
  obtain ⟨i1, i2⟩ := HI.out
  clear HI
  cases gk with
  | zero => omega
  | succ k1 =>
   by_cases hi : i < n
   rotate_left
   ·have d1 : decide ((i : Int) < (n : Int)) = false := decide_eq_false (by omega)
    have e : i = n := by omega
    subst e
    go_wp2
    go_ret
    exact ⟨rfl, hS⟩
   have d1 : decide ((i : Int) < (n : Int)) = true := decide_eq_true (by omega)
   have d1n : decide (i < n) = true := decide_eq_true hi
   obtain ⟨g, cur, rfl, hX, hg, c0, c1, hw⟩ := WRules.at (WRules.evo HV.out hS.evo) hi
   obtain ⟨An, cn, en, _, hln, _⟩ := id hw.1
   obtain ⟨Ab, cb, eb, _, hbn, _⟩ := id hw.2
   have b0 := cntR_mono its (i := i + 1) (n := n) (by omega)
   rw [cntR] at b0
   have q0 : wr.cell? ⟨g, i * 2, none⟩ = some (.slice An (its i).ln cn) := by rw [cell_of_row _ _ _ _ _ _ hg, c0, en]
   have e2 : (0 ≤ (i : Int)) = True := eq_true (by omega)
   have e3 : ((i : Int) < (n : Int)) = True := eq_true (by omega)
   have hw1 := hw.1
   have hw2 := hw.2
   rw [en] at hw1
   rw [eb] at hw2
   have HW1 := Aside0.mk hw1
   have HW2 := Aside0.mk hw2
   have HG := Aside0.mk hg
   have HC1 := Aside0.mk c1
   have EN := Lib.hid en
   have EB := Lib.hid eb
   have HC := Aside0.mk (show cntR its (i + 1) = cntR its i + ((its i).ln + cntB (its i)) from rfl)
   have hkc : 0 ≤ k + (cntR its i : Int) := by omega
   unfold cntB at b0
   clear hg c0 c1 hw hw1 hw2 en eb
   go_wp2_with (first
    | (go_at_call 24; go_must (refine (markByte_in _ _ An (its i).ln cn _ HW1.out hln (by omega) (by omega)).mono ?_; rintro e W1 ⟨rfl, hF⟩; obtain ⟨cur1, hg1, _, hl1⟩ := hF.evo.like g cur _ _ HG.out; obtain ⟨u1, hu1, hu2⟩ := hl1 _ _ HC1.out; rw [EB.out] at hu2; have p1 : W1.cell? ⟨g, i * 2 + 1, none⟩ = some (.slice Ab (its i).bn cb) := (cell_of_row _ _ _ _ _ _ hg1).trans (hu1.trans (congrArg some hu2.slice)); have HF := Aside0.mk hF; clear hF hg1 hl1 hu1 hu2))
    | (go_at_call 121; go_must (refine (markOps_in _ _ Ab (its i).bn cb _ _ _ (WOps.evo HW2.out HF.out.evo) hbn (by omega) (by omega)).mono ?_; rintro e W2 ⟨rfl, hO⟩; have HN := Aside0.mk (RulesSt.next HALL.out hS hi EN.out EB.out HF.out hO); clear hO)))
   go_roundg k1
   case measure => omega
   case rel => exact ⟨i + 1, by rw [HC.out, cntB]; first | (simp; omega) | (rw [wid (by omega) (by omega)]; simp; omega), by first | rfl | (simp; done) | (rw [wid (by omega) (by omega)]; simp), ⟨by omega, by omega⟩, HN.out⟩
end Go.Proofs.Ytdiilocgjnlmiaa.Tre
end
section
namespace Go.Proofs.Ytdiilocgjnlmiaa.Tre
open Go.RowKit Go.Proofs.YtdiilocgjnlmiaaW.PrintWords Go.Proofs.YtdiilocgjnlmiaaW.PrintLast Go.Proofs.YtdiilocgjnlmiaaW.PrintMore
open Go.Proofs.Ytdiilocgjnlmiaa.PAll
set_option linter.unusedVariables false
set_option linter.unusedSimpArgs false
def labX (A : Option Addr) (n : Nat) (its : Nat → It) (b : Nat) : Prop := ownX A b ∨ itsX n its b
structure LabelsSt (W W' : World) (A : Option Addr) (n : Nat) (its : Nat → It) (k : Int) (i : Nat) : Prop where
 evo : Evo (labX A n its) W W'
 cont : ApartI n its → ∀ g, A = some ⟨g, 0, none⟩ → ∀ j, j < i → ItMarked W' (its j) (k + cntL its j) (k + cntL its j + (its j).ln + 1) ∧ W'.cell? ⟨g, j * 3 + 1, none⟩ = some (.bool ((k + cntL its j + (its j).ln) % 3 == 0))
theorem LabelsSt.start (W : World) (A : Option Addr) (n : Nat) (its : Nat → It) (k : Int) : LabelsSt W W A n its k 0 := ⟨Evo.refl _ _, fun _ g _ j hj => absurd hj (Nat.not_lt_zero _)⟩
theorem row_not_it {W : World} {X : Nat → Prop} {g : Nat} {cur : Array Value} {u : It} (hg : W.heap[g]? = some (Obj.cells cur 72 (0, 0))) (hu : WIt W X u) : ¬ itX u g := fun hx => by
 obtain ⟨_, _, cur2, ty, hc, hty⟩ := WIt.types hu hx
 rw [hg] at hc
 simp only [Option.some.injEq, Obj.cells.injEq] at hc
 rcases hty with e | e | e <;> (rw [e] at hc; exact absurd hc.2.1 (by decide))
theorem LabelsSt.next {W W' W1 W2 : World} {X : Nat → Prop} {g n c i : Nat} {its : Nat → It} {k : Int} {An Ab : Option Addr} {cn cb : Nat} (hV : WLabels W X (.slice (some ⟨g, 0, none⟩) n c) n its) (h : LabelsSt W W' (some ⟨g, 0, none⟩) n its k i) (hi : i < n) (en : (its i).nm = .slice An (its i).ln cn) (eb : (its i).bv = .slice Ab (its i).bn cb)
 (h1 : FlatSt W' W1 An (its i).ln (fun j => .int .u8 ((k + cntL its i + (j : Int)) % 256)))
 (h2 : OpsSt (W1.setCell ⟨g, i * 3 + 1, none⟩ (.bool ((k + cntL its i + (its i).ln) % 3 == 0))) W2 Ab (its i).bn (its i).sv (its i).m (k + cntL its i + (its i).ln + 1) (its i).bn) : LabelsSt W W2 (some ⟨g, 0, none⟩) n its k (i + 1) := by
 have hall : ∀ j, j < n → WIt W' X (its j) := fun j hj => by
  obtain ⟨_, _, _, _, _, _, _, _, _, h⟩ := WLabels.at (WLabels.evo hV h.evo) hj
  exact h
 obtain ⟨g', cur, b, e, hX, hg, c0, c1, c2, hw⟩ := WLabels.at (WLabels.evo hV h.evo) hi
 cases e
 have hlt : g < W'.heap.size := (Array.getElem?_eq_some_iff.1 hg).1
 have hgi : ∀ j, j < n → ¬ itX (its j) g := fun j hj => row_not_it hg (hall j hj)
 have hn1 : ∀ q, ownX An q → itX (its i) q := fun q hq => .inl (by rw [en]; exact ownV_slice.2 hq)
 have hn2 : ∀ q, opsX Ab (its i).bn (its i).sv q → itX (its i) q := fun q hq => by rcases opsX_it eb hq with h | h; exact .inr (.inl h); exact .inr (.inr h)
 have hg1 : W1.heap[g]? = some (Obj.cells cur 72 (0, 0)) := (h1.evo.same g hlt fun hx => hgi i hi (hn1 g hx)).trans hg
 have hset : ∀ Y : Nat → Prop, Y g → Evo Y W1 (W1.setCell ⟨g, i * 3 + 1, none⟩ (.bool ((k + cntL its i + (its i).ln) % 3 == 0))) := fun Y hY => Evo.set hg1 c1 hY (.inr (.inr ⟨_, _, rfl, rfl⟩))
 have r2 : ∀ o, W2.cell? ⟨g, o, none⟩ = (W1.setCell ⟨g, i * 3 + 1, none⟩ (.bool ((k + cntL its i + (its i).ln) % 3 == 0))).cell? ⟨g, o, none⟩ := fun o =>
  World.cell?_of_block (h2.evo.same g (by simpa using Nat.lt_of_lt_of_le hlt h1.evo.size) fun hx => hgi i hi (hn2 g hx))
 refine ⟨((h.evo.trans (h1.evo.mono fun q hq => .inr ⟨i, hi, hn1 q hq⟩)).trans (hset _ (.inl ⟨_, rfl, rfl⟩))).trans (h2.evo.mono fun q hq => .inr ⟨i, hi, hn2 q hq⟩), fun hA g' e j hj => ?_⟩
 cases e
 rcases (by omega : j < i ∨ j = i) with hji | rfl
 ·obtain ⟨o1, o2⟩ := h.cont hA g rfl j hji
  refine ⟨it_keep (hall j (by omega)) en eb h1 (hset _ (hgi j (by omega))) h2 (hA.1 i j hi (by omega) (by omega)) o1, ?_⟩
  rw [r2, cell_other _ _ _ _ _ (by omega), World.cell?_of_block (h1.evo.same g hlt fun hx => hgi i hi (hn1 g hx))]
  exact o2
 refine ⟨it_marked (hall j hi) en eb h1 (hset _ (hgi j hi)) h2 (hA.2 j hi), ?_⟩
 rw [r2]
 exact cell_same _ _ _ _ (.bool b) (by rw [cell_of_row _ _ _ _ _ _ hg1]; exact c1)
def LabelsPost (W : World) (A : Option Addr) (n : Nat) (its : Nat → It) (k : Int) (e : Ending) (W' : World) : Prop := e = .returned (.int .i64 (k + cntL its n)) ∧ LabelsSt W W' A n its k n
set_option maxRecDepth 100000 in
set_option maxHeartbeats 4000000 in
theorem markLabels_in (W : World) (X : Nat → Prop) (A : Option Addr) (n c : Nat) (its : Nat → It) (k : Int) (hV : WLabels W X (.slice A n c) n its) (hn : n ≤ 1099511627776) (h0 : 0 ≤ k) (h1 : k + cntL its n ≤ 4611686018427387904) :
 Calls Try.prog 76 #[.slice A n c, .int .i64 k] W (LabelsPost W A n its k) := by
 have HV := Aside0.mk hV
 clear hV
 go_enter Try.func76, Try.ntmps76
 go_wp2
 go_loopg [1, 5] (n + 1) (fun kq v1 v5 W' => ∃ (i : Nat), v1 = .int .i64 (k + (cntL its i : Int)) ∧ v5 = .int .i64 (i : Int) ∧ Aside0 (i ≤ n ∧ n < i + kq) ∧ LabelsSt W W' A n its k i)
 case atStart => exact ⟨0, by simp [cntL], rfl, ⟨by omega, by omega⟩, LabelsSt.start _ _ _ _ _⟩
 case round =>
  obtain ⟨i, rfl, rfl, HI, hS⟩ := hrel
  obtain ⟨i1, i2⟩ := HI.out
  clear HI
  cases gk with
  | zero => omega
  | succ k1 =>
   by_cases hi : i < n
   rotate_left
   ·have d1 : decide ((i : Int) < (n : Int)) = false := decide_eq_false (by omega)
    have e : i = n := by omega
    subst e
    go_wp2
    go_ret
    exact ⟨rfl, hS⟩
   have d1 : decide ((i : Int) < (n : Int)) = true := decide_eq_true (by omega)
   have d1n : decide (i < n) = true := decide_eq_true hi
   obtain ⟨g, cur, b, rfl, hX, hg, c0, c1, c2, hw⟩ := WLabels.at (WLabels.evo HV.out hS.evo) hi
   obtain ⟨An, cn, en, _, hln, _⟩ := id hw.1
   obtain ⟨Ab, cb, eb, _, hbn, _⟩ := id hw.2
   have b0 := cntL_mono its (i := i + 1) (n := n) (by omega)
   rw [cntL] at b0
   have q0 : wr.cell? ⟨g, i * 3, none⟩ = some (.slice An (its i).ln cn) := by rw [cell_of_row _ _ _ _ _ _ hg, c0, en]
   have e2 : (0 ≤ (i : Int)) = True := eq_true (by omega)
   have e3 : ((i : Int) < (n : Int)) = True := eq_true (by omega)
   have hlt : g < wr.heap.size := (Array.getElem?_eq_some_iff.1 hg).1
   have hgi : ¬ itX (its i) g := row_not_it hg hw
   have hw1 := hw.1
   have hw2 := hw.2
   rw [en] at hw1
   rw [eb] at hw2
   have HGI := Aside0.mk hgi
   have HW1 := Aside0.mk hw1
   have HW2 := Aside0.mk hw2
   have HG := Aside0.mk hg
   have HC1 := Aside0.mk c1
   have HC2 := Aside0.mk c2
   have EN := Lib.hid en
   have EB := Lib.hid eb
   have HC := Aside0.mk (show cntL its (i + 1) = cntL its i + ((its i).ln + 1 + cntB (its i)) from rfl)
   have hkc : 0 ≤ k + (cntL its i : Int) := by omega
   unfold cntB at b0
   clear hg c0 c1 c2 hw hw1 hw2 en eb hgi
   go_wp2_with (first
    | (go_at_call 24; go_must (refine (markByte_in _ _ An (its i).ln cn _ HW1.out hln (by omega) (by omega)).mono ?_; rintro e W1 ⟨rfl, hF⟩; have hg1 : W1.heap[g]? = some (Obj.cells cur 72 (0, 0)) := (hF.evo.same g hlt fun hx => HGI.out (.inl (by rw [EN.out]; exact ownV_slice.2 hx))).trans HG.out; have p1 : W1.cell? ⟨g, i * 3 + 1, none⟩ = some (.bool b) := (cell_of_row _ _ _ _ _ _ hg1).trans HC1.out; have p2 : W1.cell? ⟨g, i * 3 + 2, none⟩ = some (.slice Ab (its i).bn cb) := (cell_of_row _ _ _ _ _ _ hg1).trans (HC2.out.trans (congrArg some EB.out)); have p3 : W1.frozen? ⟨g, i * 3 + 1, none⟩ = false := (by simp [World.frozen?, hg1]); have HF := Aside0.mk hF; have HG1 := Aside0.mk hg1; clear hF hg1))
    | (go_at_call 121; go_must (refine (markOps_in _ _ Ab (its i).bn cb _ _ _ (WOps.evo (WOps.evo HW2.out HF.out.evo) (Evo.set (X := fun _ => True) HG1.out HC1.out trivial (.inr (.inr ⟨_, _, rfl, rfl⟩)))) hbn (by omega) (by omega)).mono ?_; rintro e W2 ⟨rfl, hO⟩; have HN := Aside0.mk (LabelsSt.next HV.out hS hi EN.out EB.out HF.out hO); clear hO)))
   go_roundg k1
   case measure => omega
   case rel => exact ⟨i + 1, by rw [HC.out, cntB]; first | (simp; omega) | (rw [wid (by omega) (by omega)]; simp; omega), by first | rfl | (simp; done) | (rw [wid (by omega) (by omega)]; simp), ⟨by omega, by omega⟩, HN.out⟩
end Go.Proofs.Ytdiilocgjnlmiaa.Tre
end
section
namespace Go.Proofs.Ytdiilocgjnlmiaa.Tre
open Go.RowKit Go.Proofs.YtdiilocgjnlmiaaW.PrintWords Go.Proofs.YtdiilocgjnlmiaaW.PrintLast Go.Proofs.YtdiilocgjnlmiaaW.PrintMore
open Go.Proofs.Ytdiilocgjnlmiaa.PAll
set_option linter.unusedVariables false
set_option linter.unusedSimpArgs false
structure Gr where
 A0 : Option Addr
 c0 : Nat
 n0 : Nat
 its : Nat → It
 A1 : Option Addr
 c1 : Nat
 n1 : Nat
 itl : Nat → It
def WGr (W : World) (X : Nat → Prop) (G : Gr) : Prop := WRules W X (.slice G.A0 G.n0 G.c0) G.n0 G.its ∧ WLabels W X (.slice G.A1 G.n1 G.c1) G.n1 G.itl
def grV (G : Gr) : Value := .agg #[.slice G.A0 G.n0 G.c0, .slice G.A1 G.n1 G.c1]
def cntG (G : Gr) : Nat := cntR G.its G.n0 + cntL G.itl G.n1
def grX (G : Gr) (b : Nat) : Prop := itsX G.n0 G.its b ∨ labX G.A1 G.n1 G.itl b
def ApartG (G : Gr) : Prop := ApartI G.n0 G.its ∧ ApartI G.n1 G.itl ∧ ∀ i j, i < G.n0 → j < G.n1 → ∀ b, itX (G.its i) b → ¬ itX (G.itl j) b
theorem WGr.evo {W W' : World} {X Y : Nat → Prop} {G : Gr} (h : WGr W X G) (he : Evo Y W W') : WGr W' X G := ⟨WRules.evo h.1 he, WLabels.evo h.2 he⟩
structure GrMarked (W : World) (G : Gr) (k : Int) : Prop where
 rules : ∀ j, j < G.n0 → ItMarked W (G.its j) (k + cntR G.its j) (k + cntR G.its j + (G.its j).ln)
 labels : ∀ g, G.A1 = some ⟨g, 0, none⟩ → ∀ j, j < G.n1 → ItMarked W (G.itl j) (k + cntR G.its G.n0 + cntL G.itl j) (k + cntR G.its G.n0 + cntL G.itl j + (G.itl j).ln + 1) ∧ W.cell? ⟨g, j * 3 + 1, none⟩ = some (.bool ((k + cntR G.its G.n0 + cntL G.itl j + (G.itl j).ln) % 3 == 0))
def GramPost (W : World) (G : Gr) (k : Int) (e : Ending) (W' : World) : Prop := e = .returned (.int .i64 (k + cntG G)) ∧ Evo (grX G) W W' ∧ (ApartG G → GrMarked W' G k)
theorem WRules.it {W : World} {X : Nat → Prop} {A : Option Addr} {c n : Nat} {its : Nat → It} (h : WRules W X (.slice A n c) n its) : ∀ j, j < n → WIt W X (its j) := fun j hj => by
 obtain ⟨_, _, _, _, _, _, _, h⟩ := WRules.at h hj
 exact h
theorem WLabels.it {W : World} {X : Nat → Prop} {A : Option Addr} {c n : Nat} {its : Nat → It} (h : WLabels W X (.slice A n c) n its) : ∀ j, j < n → WIt W X (its j) := fun j hj => by
 obtain ⟨_, _, _, _, _, _, _, _, _, h⟩ := WLabels.at h hj
 exact h
theorem gram_post {W W0 W1 W2 : World} {X : Nat → Prop} {G : Gr} {k : Int} (hV : WGr W X G) (h0 : Below W.heap.size W W0) (h1 : RulesSt W0 W1 G.n0 G.its k G.n0) (h2 : LabelsSt W1 W2 G.A1 G.n1 G.itl (k + cntR G.its G.n0) G.n1) : Evo (grX G) W W2 ∧ (ApartG G → GrMarked W2 G k) := by
 have E0 : Evo (grX G) W W0 := Evo.of_below h0
 have E1 := E0.trans (h1.evo.mono (Y := grX G) fun b hb => .inl hb)
 refine ⟨E1.trans (h2.evo.mono fun b hb => .inr hb), fun hA => ⟨fun j hj => ?_, fun g e j hj => h2.cont hA.2.1 g e j hj⟩⟩
 refine (h1.cont hA.1 j hj).keep fun b hb q => World.cell?_of_block (h2.evo.same b ?_ fun hx => ?_)
 ·exact (WIt.types (WRules.it (WRules.evo hV.1 E1) j hj) hb).2.1
 rcases hx with hx | ⟨i, hi, hx⟩
 ·by_cases hn : G.n1 = 0
  ·obtain ⟨A', c', e, _, _, h⟩ := WLabels.evo hV.2 E1
   cases e
   rcases h with ⟨h, _⟩ | ⟨g, cur, e, _, hg, _⟩
   ·rw [h] at hx
    obtain ⟨a, e, _⟩ := hx
    cases e
   rw [e] at hx
   obtain ⟨a, e2, e3⟩ := hx
   cases e2
   subst e3
   exact row_not_it hg (WRules.it (WRules.evo hV.1 E1) j hj) hb
  obtain ⟨g, cur, _, e, _, hg, _⟩ := WLabels.at (WLabels.evo hV.2 E1) (i := 0) (by omega)
  rw [e] at hx
  obtain ⟨a, e2, e3⟩ := hx
  cases e2
  subst e3
  exact row_not_it hg (WRules.it (WRules.evo hV.1 E1) j hj) hb
 exact hA.2.2 j i hj hi b hb hx
theorem gram_box {W W1 : World} {X : Nat → Prop} {G : Gr} {k : Int} (hV : WGr W X G) (h1 : RulesSt (W.alloc (Obj.cells #[.slice G.A0 G.n0 G.c0, .slice G.A1 G.n1 G.c1] 31)) W1 G.n0 G.its k G.n0) : W1.cell? ⟨W.heap.size, 1, none⟩ = some (.slice G.A1 G.n1 G.c1) := by
 refine (World.cell?_of_block (h1.evo.same W.heap.size (by simp) fun hx => ?_)).trans (cell_new W _ _ 1 _ rfl)
 obtain ⟨j, hj, hx⟩ := hx
 exact absurd (WIt.types (WRules.it hV.1 j hj) hx).2.1 (Nat.lt_irrefl _)
set_option maxRecDepth 100000 in
set_option maxHeartbeats 4000000 in
theorem markGram_in (W : World) (X : Nat → Prop) (G : Gr) (k : Int) (hV : WGr W X G) (h0 : 0 ≤ k) (h1 : k + cntG G ≤ 4611686018427387904) :
 Calls Try.prog 29 #[grV G, .int .i64 k] W (GramPost W G k) := by
 have hn0 : G.n0 ≤ 1099511627776 := by obtain ⟨_, _, _, _, h, _⟩ := hV.1; exact h
 have hn1 : G.n1 ≤ 1099511627776 := by obtain ⟨_, _, _, _, h, _⟩ := hV.2; exact h
 have HV := Aside0.mk hV
 have HGV := Aside0.mk (fun W1 W2 h1 h2 => gram_post (W0 := W.alloc (Obj.cells #[.slice G.A0 G.n0 G.c0, .slice G.A1 G.n1 G.c1] 31)) (W1 := W1) (W2 := W2) (k := k) hV (below_alloc (Below.refl _ _) _) h1 h2)
 clear hV
 unfold cntG at h1
 unfold grV
 go_enter Try.func29, Try.ntmps29
 go_wp2_with (first
  | (go_at_call 75; go_must (refine (markRules_in _ _ G.A0 G.n0 G.c0 G.its _ (WRules.evo HV.out.1 (Evo.of_below (X := fun _ => True) (below_alloc (Below.refl _ _) _))) hn0 (by omega) (by omega)).mono ?_; rintro e W1 ⟨rfl, hR⟩; have p1 : W1.cell? ⟨W.heap.size, 1, none⟩ = some (.slice G.A1 G.n1 G.c1) := gram_box HV.out hR; have HR := Aside0.mk hR; clear hR))
  | (go_at_call 76; go_must (refine (markLabels_in _ _ G.A1 G.n1 G.c1 G.itl _ (WLabels.evo HV.out.2 ((Evo.of_below (X := itsX G.n0 G.its) (below_alloc (Below.refl _ _) _)).trans HR.out.evo)) hn1 (by omega) (by omega)).mono ?_; rintro e W2 ⟨rfl, hL⟩; have HL := Aside0.mk hL; clear hL)))
 go_ret
 exact ⟨by rw [cntG]; simp; omega, HGV.out _ _ HR.out HL.out⟩
end Go.Proofs.Ytdiilocgjnlmiaa.Tre
end
section
namespace Go.Proofs.Ytdiilocgjnlmiaa.Tre
open Go.RowKit Go.Proofs.YtdiilocgjnlmiaaW.PrintWords Go.Proofs.YtdiilocgjnlmiaaW.PrintLast Go.Proofs.YtdiilocgjnlmiaaW.PrintMore
open Go.Proofs.Ytdiilocgjnlmiaa.PAll
set_option linter.unusedVariables false
set_option linter.unusedSimpArgs false
theorem WRow.of_own {W : World} {base : Nat} {t : TypeId} {sz : Nat} {v : Value} {n : Nat} {inner : List Value} {p : Nat → List Value → Prop} (ho : W.ownsRow base t sz v n inner) (hn : n ≤ 1099511627776) (hp : ∀ i, i < n → p i ((inner.drop (i * sz)).take sz)) : WRow W (fun b => base ≤ b) t sz p v n := by
 rcases ho.2 with ⟨rfl, rfl⟩ | ⟨g, cap, cur, rfl, hb, hg, hnc, hcm, hcs, htake⟩
 ·exact ⟨none, 0, rfl, Nat.le_refl _, by omega, .inl ⟨rfl, rfl⟩⟩
 refine ⟨some ⟨g, 0, none⟩, cap, rfl, hnc, hn, .inr ⟨g, cur, rfl, hb, hg, fun i hi => ?_⟩⟩
 have hle : i * sz + sz ≤ n * sz := by rw [← Nat.succ_mul]; exact Nat.mul_le_mul_right _ hi
 refine ⟨(inner.drop (i * sz)).take sz, ?_, fun j u hu => ?_, hp i hi⟩
 ·rw [List.length_take, List.length_drop, ho.1]; omega
 have hj : j < sz := by
  have := (List.getElem?_eq_some_iff.1 hu).1
  rw [List.length_take] at this
  omega
 rw [List.getElem?_take, if_pos hj, List.getElem?_drop, ← htake, List.getElem?_take, if_pos (by omega)] at hu
 simpa using hu
theorem wints_of_R {W : World} {base : Nat} {ok : Nat → Prop} {t : TypeId} {k : IntKind} {v : Value} {xs : List Int} (h : Kd.R (Kd.int k) t W base ok v xs) (hn : xs.length ≤ 1099511627776) : WInts W (fun b => base ≤ b) t k v xs.length := by
 obtain ⟨_, inner, ho, hr⟩ := h
 refine WRow.of_own ho hn fun i hi => ?_
 exact ⟨xs[i], hr.2 i _ (List.getElem?_eq_getElem hi)⟩
theorem skolem {α : Type} [Inhabited α] {n : Nat} {P : Nat → α → Prop} (h : ∀ i, i < n → ∃ a, P i a) : ∃ f : Nat → α, ∀ i, i < n → P i (f i) :=
 ⟨fun i => if hi : i < n then Classical.choose (h i hi) else default, fun i hi => by
  simp only [dif_pos hi]
  exact Classical.choose_spec (h i hi)⟩
theorem wops_of_R {W : World} {base : Nat} {ok : Nat → Prop} {v : Value} {xs : List Op} (h : Kd.R k79 79 W base ok v xs) (hn : xs.length ≤ 1099511627776) (hs : ∀ o ∈ xs, o.f1.length ≤ 1099511627776) : ∃ sv, WOps W (fun b => base ≤ b) v xs.length sv (fun i => (rd_T79 xs (i : Int)).f1.length) := by
 obtain ⟨_, inner, ho, hr⟩ := h
 have hx : ∀ i, i < xs.length → ∃ s : Value, ∃ x y, (inner.drop (i * 3)).take 3 = [.int .i64 x, s, .int .i64 y] ∧ WInts W (fun b => base ≤ b) 3 .i64 s (rd_T79 xs (i : Int)).f1.length := fun i hi => by
  have hM := hr.2 i _ (List.getElem?_eq_getElem hi)
  obtain ⟨v1, e, hv⟩ := k79_openM hM
  have erd : rd_T79 xs (i : Int) = xs[i] := by simp [rd_T79, List.getD_eq_getElem?_getD, hi]
  rw [erd]
  exact ⟨v1, _, _, e, wints_of_R hv (hs _ (List.getElem_mem hi))⟩
 haveI : Inhabited Value := ⟨undef⟩
 obtain ⟨sv, hsv⟩ := skolem hx
 refine ⟨sv, WRow.of_own ho hn fun i hi => ?_⟩
 obtain ⟨x, y, e, hw⟩ := hsv i hi
 exact ⟨x, y, e, hw⟩
theorem cntO_le {m : Nat → Nat} {B : Nat} (h : ∀ i, m i ≤ B) (n : Nat) : cntO m n ≤ n * (2 + B) := by
 induction n with
 | zero => simp [cntO]
 | succ n ih =>
  have := h n
  rw [cntO, Nat.succ_mul]
  omega
instance : Inhabited It := ⟨⟨undef, 0, undef, 0, fun _ => undef, fun _ => 0⟩⟩
def ItSm (t : It) : Prop := t.ln ≤ 1048576 ∧ t.bn ≤ 1048576 ∧ ∀ i, t.m i ≤ 1048576
theorem cntR_le {its : Nat → It} {n : Nat} (h : ∀ i, i < n → ItSm (its i)) : ∀ i, i ≤ n → cntR its i ≤ i * 1099514773504
 | 0, _ => by simp [cntR]
 | i + 1, hi => by
  have ih := cntR_le h i (by omega)
  obtain ⟨h1, h2, h3⟩ := h i (by omega)
  have h4 := cntO_le h3 (its i).bn
  have h5 : (its i).bn * (2 + 1048576) ≤ 1048576 * (2 + 1048576) := Nat.mul_le_mul_right _ h2
  rw [cntR, cntB]
  omega
theorem cntL_le {its : Nat → It} {n : Nat} (h : ∀ i, i < n → ItSm (its i)) : ∀ i, i ≤ n → cntL its i ≤ i * 1099514773505
 | 0, _ => by simp [cntL]
 | i + 1, hi => by
  have ih := cntL_le h i (by omega)
  obtain ⟨h1, h2, h3⟩ := h i (by omega)
  have h4 := cntO_le h3 (its i).bn
  have h5 : (its i).bn * (2 + 1048576) ≤ 1048576 * (2 + 1048576) := Nat.mul_le_mul_right _ h2
  rw [cntL, cntB]
  omega
theorem it_of_R {W : World} {base : Nat} {ok : Nat → Prop} {v0 v1 : Value} {nm : List Int} {bd : List Op} (h0 : Kd.R (Kd.int .u8) 5 W base ok v0 nm) (h1 : Kd.R k79 79 W base ok v1 bd) (hn : nm.length ≤ 1048576) (hb : ssOs bd) : ∃ t : It, t.nm = v0 ∧ t.bv = v1 ∧ WIt W (fun b => base ≤ b) t ∧ ItSm t := by
 obtain ⟨sv, hs⟩ := wops_of_R h1 (by have := hb.1; omega) (fun o ho => by have := hb.2 o ho; unfold ssO at this; omega)
 refine ⟨⟨v0, nm.length, v1, bd.length, sv, fun i => (rd_T79 bd (i : Int)).f1.length⟩, rfl, rfl, ⟨wints_of_R h0 (by omega), hs⟩, hn, hb.1, fun i => ?_⟩
 simp only
 by_cases hi : i < bd.length
 ·rw [rd_Op hi]
  exact hb.2 _ (List.getElem_mem hi)
 simp [rd_T79, List.getD_eq_getElem?_getD, List.getElem?_eq_none (Nat.le_of_not_lt hi), z79]
theorem wrules_of_R {W : World} {base : Nat} {ok : Nat → Prop} {v : Value} {Rs : List Ru} (h : Kd.R k68 68 W base ok v Rs) (hs : ssRs Rs) : ∃ its, WRules W (fun b => base ≤ b) v Rs.length its ∧ ∀ i, i < Rs.length → ItSm (its i) := by
 obtain ⟨_, inner, ho, hr⟩ := h
 have hx : ∀ i, i < Rs.length → ∃ t : It, (inner.drop (i * 2)).take 2 = [t.nm, t.bv] ∧ WIt W (fun b => base ≤ b) t ∧ ItSm t := fun i hi => by
  obtain ⟨v0, v1, e, h0, h1⟩ := k68_openM (hr.2 i _ (List.getElem?_eq_getElem hi))
  obtain ⟨q1, q2⟩ := hs.2 _ (List.getElem_mem hi)
  obtain ⟨t, e0, e1, hw, hm⟩ := it_of_R h0 h1 q1 q2
  exact ⟨t, by rw [e0, e1]; exact e, hw, hm⟩
 obtain ⟨its, hits⟩ := skolem hx
 exact ⟨its, WRow.of_own ho (by have := hs.1; omega) fun i hi => ⟨(hits i hi).1, (hits i hi).2.1⟩, fun i hi => (hits i hi).2.2⟩
theorem wlabels_of_R {W : World} {base : Nat} {ok : Nat → Prop} {v : Value} {Ls : List La} (h : Kd.R k72 72 W base ok v Ls) (hs : ssLs Ls) : ∃ its, WLabels W (fun b => base ≤ b) v Ls.length its ∧ ∀ i, i < Ls.length → ItSm (its i) := by
 obtain ⟨_, inner, ho, hr⟩ := h
 have hx : ∀ i, i < Ls.length → ∃ t : It, (∃ b, (inner.drop (i * 3)).take 3 = [t.nm, .bool b, t.bv]) ∧ WIt W (fun b => base ≤ b) t ∧ ItSm t := fun i hi => by
  obtain ⟨v0, v2, e, h0, h1⟩ := k72_openM (hr.2 i _ (List.getElem?_eq_getElem hi))
  obtain ⟨q1, q2⟩ := hs.2 _ (List.getElem_mem hi)
  obtain ⟨t, e0, e1, hw, hm⟩ := it_of_R h0 h1 q1 q2
  exact ⟨t, ⟨_, by rw [e0, e1]; exact e⟩, hw, hm⟩
 obtain ⟨its, hits⟩ := skolem hx
 exact ⟨its, WRow.of_own ho (by have := hs.1; omega) fun i hi => ⟨(hits i hi).1, (hits i hi).2.1⟩, fun i hi => (hits i hi).2.2⟩
theorem wgr_of_R {W : World} {base : Nat} {ok ok' : Nat → Prop} {v0 v1 : Value} {Rs : List Ru} {Ls : List La} (h0 : Kd.R k68 68 W base ok v0 Rs) (h1 : Kd.R k72 72 W base ok' v1 Ls) (hR : ssRs Rs) (hL : ssLs Ls) : ∃ G, grV G = .agg #[v0, v1] ∧ WGr W (fun b => base ≤ b) G ∧ 1 + cntG G ≤ 4611686018427387904 := by
 obtain ⟨its, hw0, hs0⟩ := wrules_of_R h0 hR
 obtain ⟨itl, hw1, hs1⟩ := wlabels_of_R h1 hL
 obtain ⟨A0, c0, rfl, _⟩ := id hw0
 obtain ⟨A1, c1, rfl, _⟩ := id hw1
 refine ⟨⟨A0, c0, Rs.length, its, A1, c1, Ls.length, itl⟩, rfl, ⟨hw0, hw1⟩, ?_⟩
 have b0 := cntR_le hs0 Rs.length (Nat.le_refl _)
 have b1 := cntL_le hs1 Ls.length (Nat.le_refl _)
 have l0 := hR.1
 have l1 := hL.1
 show 1 + (cntR its Rs.length + cntL itl Ls.length) ≤ _
 omega
end Go.Proofs.Ytdiilocgjnlmiaa.Tre
end
section
namespace Go.Proofs.Ytdiilocgjnlmiaa.Tre
open Go.RowKit Go.Proofs.YtdiilocgjnlmiaaW.PrintWords Go.Proofs.YtdiilocgjnlmiaaW.PrintLast Go.Proofs.YtdiilocgjnlmiaaW.PrintMore
open Go.Proofs.Ytdiilocgjnlmiaa.PAll
set_option linter.unusedVariables false
set_option linter.unusedSimpArgs false
def SrcN (w : World) (A : Option Addr) (news : List Value) : Prop := ∀ (j : Nat) (u : Value), news[j]? = some u → ∃ a, A = some a ∧ w.cell? (a.add j) = some u
theorem run_append_src {P : Program} (w : World) (base : Nat) (t ty e : TypeId) (i : TypeInfo) (z : Value) (size bytes : Nat) (ht : P.underlying t = some (.slice e)) (hi : P.info? e = some i) (hz : i.zero = some z)
 (hsize : i.size = size) (hby : i.bytes = bytes) (hzs : z.cells.size = size) (hsz : 0 < size) (v : Value) (n : Nat) (xs : List Value) (hown : w.ownsRow base e size v n xs)
 (A : Option Addr) (m c : Nat) (news : List Value) (hl : news.length = m * size) (hnews : SrcN w A news) (h1 : ∀ u ∈ news, u.oneCell' = true)
 (h63 : n + m ≤ maxLen) (hbytes : (n + m) * bytes ≤ 140737488355328) (hbase : base ≤ w.heap.size) :
 ∃ v' w', (Builtin.append_ #[t, t] ty #[v, .slice A m c]).run P w = .ok v' w' ∧ w'.ownsRow base e size v' (n + m) (xs ++ news) ∧ w.grownBy w' v.ownBlock := by
 by_cases h0 : news = []
 rotate_left
 ·have hpos : 0 < news.length := List.length_pos_iff.2 h0
  obtain ⟨a, rfl, _⟩ := hnews 0 (news[0]) (by simp [List.getElem?_eq_getElem hpos])
  have hn' : ∀ j u, news[j]? = some u → w.cell? (a.add j) = some u := fun j u h => by
   obtain ⟨a', e', h'⟩ := hnews j u h
   injection e' with e'
   subst e'
   exact h'
  obtain ⟨v', w', hr, ho, hgr, _⟩ := run_append_own (P := P) w base t ty e i z size bytes ht hi hz hsize hby hzs hsz v n xs hown a m c news hl hn' h1 h63 hbytes hbase
  exact ⟨v', w', hr, ho, hgr⟩
 subst h0
 obtain rfl : m = 0 := by
  rcases Nat.eq_zero_or_pos m with h | h
  ·exact h
  have : 0 < m * size := Nat.mul_pos h hsz
  simp at hl
  omega
 have hf : (Builtin.firstCells i.size 0 (.slice A 0 c)).run P w = .ok #[] w := by
  cases A with
  | none => simp [Builtin.firstCells]
  | some a => simpa using run_firstCells_some (P := P) w i.size 0 a 0 c [] (by simp) (by simp)
 have hx : ((xs ++ []) : List Value) = xs := List.append_nil _
 simp only [Nat.add_zero, hx]
 refine ⟨v, w, ?_, hown, ⟨rfl, rfl, rfl, Nat.le_refl _, fun _ _ _ => rfl⟩⟩
 rcases hown.2 with ⟨rfl, rfl⟩ | ⟨g, cap, cur, rfl, _, _, hnc, _⟩
 ·simp [Builtin.append_, run_underlying ht, sizeOf, typeInfo, hi, Builtin.lenOf, hf]
 simp [Builtin.append_, run_underlying ht, sizeOf, typeInfo, hi, Builtin.lenOf, hf, hnc, storeCells]
theorem app_src {P : Program} {ops : Array Oper} {rest : List Oper} {o : Oper} {a : Act} {Q : Exit → Act → World → Prop} (w : World) (base : Nat) (t e : TypeId) (i : TypeInfo) (z : Value) (size bytes : Nat) (ht : P.underlying t = some (.slice e)) (hi : P.info? e = some i) (hz : i.zero = some z)
 (hsize : i.size = size) (hby : i.bytes = bytes) (hzs : z.cells.size = size) (hsz : 0 < size) (v : Value) (n : Nat) (xs : List Value) (hown : w.ownsRow base e size v n xs) (hgd : o.guard = none) (sl x : Operand)
 (ho : o.op = .call { callee := .builtin .append, args := #[sl, x], argTypes := #[t, t] }) (hs : a.eval sl = v)
 (A : Option Addr) (m c : Nat) (news : List Value) (hx : a.eval x = .slice A m c) (hl : news.length = m * size) (hnews : SrcN w A news) (h1 : ∀ u ∈ news, u.oneCell' = true)
 (h63 : n + m ≤ maxLen) (hbytes : (n + m) * bytes ≤ 140737488355328) (hbase : base ≤ w.heap.size)
 (h : ∀ v' w', w'.ownsRow base e size v' (n + m) (xs ++ news) → w.grownBy w' v.ownBlock → wpList P ops Q rest (a.put o.dst v') w') : wpList P ops Q (o :: rest) a w := by
 refine wpList_plain hgd fun K hK => ?_
 obtain ⟨v', w', hr, h2, h3⟩ := run_append_src (P := P) w base t o.type e i z size bytes ht hi hz hsize hby hzs hsz v n xs hown A m c news hl hnews h1 h63 hbytes hbase
 unfold Oper.wp execOp
 simp only [ho, resolve, invoke, builtin, Sem.run_bind, Sem.run_pure, Result.andThen_ok, List.map_toArray, List.map_cons, List.map_nil, hs, hx, hr]
 exact hK _ _ (h v' w' h2 h3)
theorem own_same {W W' : World} {B : Nat} {t : TypeId} {sz : Nat} {v : Value} {n : Nat} {xs : List Value} (h : W.ownsRow B t sz v n xs) (hs : ∀ b, B ≤ b → b < W.heap.size → W'.heap[b]? = W.heap[b]?) : W'.ownsRow B t sz v n xs :=
 own_move h fun k hk => hs k (h.lt k hk).1 (h.lt k hk).2
theorem own_lower' {W : World} {B B' : Nat} {t : TypeId} {sz : Nat} {v : Value} {n : Nat} {xs : List Value} (h : W.ownsRow B t sz v n xs) (hb : B' ≤ B) : W.ownsRow B' t sz v n xs := by
 refine ⟨h.1, ?_⟩
 rcases h.2 with h2 | ⟨g, cap, cur, e, hg, r⟩
 ·exact .inl h2
 exact .inr ⟨g, cap, cur, e, Nat.le_trans hb hg, r⟩
theorem own_types {W : World} {B B' : Nat} {t t' : TypeId} {sz sz' : Nat} {v v' : Value} {n n' : Nat} {xs xs' : List Value} (h : W.ownsRow B t sz v n xs) (h' : W.ownsRow B' t' sz' v' n' xs') (ht : t ≠ t') : v.ownBlock = none ∨ v.ownBlock ≠ v'.ownBlock := by
 cases e : v.ownBlock with
 | none => exact .inl rfl
 | some k =>
  refine .inr fun e' => ?_
  obtain ⟨c1, h1⟩ := own_typed h k e
  obtain ⟨c2, h2⟩ := own_typed h' k e'.symm
  rw [h1] at h2
  simp only [Option.some.injEq, Obj.cells.injEq] at h2
  exact ht h2.2.1
theorem own_form1 {W : World} {B : Nat} {t : TypeId} {sz n : Nat} {v : Value} {xs : List Value} (h : W.ownsRow B t sz v n xs) : ∃ A c, v = .slice A n c := by
 rcases h.2 with ⟨rfl, rfl⟩ | ⟨g, cap, cur, rfl, _⟩
 ·exact ⟨_, _, rfl⟩
 exact ⟨_, _, rfl⟩
theorem src_three (W : World) (cs : List Value) (ob : Obj) (m : Nat) {t : TypeId} (hob : ob = .cells cs.toArray t) (hm : m = W.heap.size) : SrcN (W.alloc ob) (some ⟨m, 0, none⟩) cs := by
 subst hob hm
 intro j u hu
 refine ⟨_, rfl, ?_⟩
 have hadd : (⟨W.heap.size, 0, none⟩ : Addr).add j = ⟨W.heap.size, j, none⟩ := by unfold Addr.add; split <;> simp_all
 rw [hadd]
 exact cell_new W _ _ j u (by simpa using hu)
theorem own_box {W : World} {B : Nat} {t t' : TypeId} {sz : Nat} {v : Value} {n : Nat} {xs : List Value} {k : Nat} {cs : Array Value} (h : W.ownsRow B t sz v n xs) (hb : W.heap[k]? = some (.cells cs t' (0, 0))) (hne : t ≠ t') : some k ≠ v.ownBlock := by
 intro e
 obtain ⟨c1, h1⟩ := own_typed h k e.symm
 rw [hb] at h1
 simp only [Option.some.injEq, Obj.cells.injEq] at h1
 exact hne h1.2.1.symm
theorem own_set {W : World} {B : Nat} {t t' : TypeId} {sz : Nat} {v : Value} {n : Nat} {xs : List Value} {k : Nat} {cs : Array Value} (h : W.ownsRow B t sz v n xs) (hb : W.heap[k]? = some (.cells cs t' (0, 0))) (hne : t ≠ t') (i : Nat) (u : Value) : (W.setCell ⟨k, i, none⟩ u).ownsRow B t sz v n xs :=
 own_move h fun j hj => Below.heap_setCell _ _ _ _ (fun e => own_box h hb hne (by rw [hj]; exact congrArg some e.symm))
end Go.Proofs.Ytdiilocgjnlmiaa.Tre
end
section
namespace Go.Proofs.Ytdiilocgjnlmiaa.Tre
open Go.RowKit Go.Proofs.YtdiilocgjnlmiaaW.PrintWords Go.Proofs.YtdiilocgjnlmiaaW.PrintLast Go.Proofs.YtdiilocgjnlmiaaW.PrintMore
open Go.Proofs.Ytdiilocgjnlmiaa.PAll
set_option linter.unusedVariables false
set_option linter.unusedSimpArgs false
end Go.Proofs.Ytdiilocgjnlmiaa.Tre
end
