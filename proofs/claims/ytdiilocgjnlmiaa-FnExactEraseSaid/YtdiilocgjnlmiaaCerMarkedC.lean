/- Lemmas of the proof, and the walks of functions that it stands on. -/
import Derived.Test.YtdiilocgjnlmiaaCerOwnGram
import Derived.Test.YtdiilocgjnlmiaaCerPAllx16
import Derived.Test.YtdiilocgjnlmiaaCerCompare
section
namespace Go.Proofs.Ytdiilocgjnlmiaa.Tre
open Go.RowKit Go.Proofs.YtdiilocgjnlmiaaW.PrintWords Go.Proofs.YtdiilocgjnlmiaaW.PrintLast Go.Proofs.YtdiilocgjnlmiaaW.PrintMore
open Go.Proofs.Ytdiilocgjnlmiaa.PAll
set_option linter.unusedVariables false
set_option linter.unusedSimpArgs false
def mkI (k : Int) (n : Nat) : List Int := (List.range n).map fun (q : Nat) => k + (q : Int)
def mkB (k : Int) (n : Nat) : List Int := (List.range n).map fun (q : Nat) => (k + (q : Int)) % 256
def mkO (k : Int) (m : Nat) : Op := ⟨k, mkI (k + 1) m, k + 1 + m⟩
def mkOs (k : Int) (m : Nat → Nat) (n : Nat) : List Op := (List.range n).map fun (q : Nat) => mkO (k + cntO m q) (m q)
def mkR (k : Int) (t : It) : Ru := ⟨mkB k t.ln, mkOs (k + t.ln) t.m t.bn⟩
def mkL (k : Int) (t : It) : La := ⟨mkB k t.ln, ((k + t.ln) % 3 == 0), mkOs (k + t.ln + 1) t.m t.bn⟩
def mkRs (k : Int) (its : Nat → It) (n : Nat) : List Ru := (List.range n).map fun j => mkR (k + cntR its j) (its j)
def mkLs (k : Int) (its : Nat → It) (n : Nat) : List La := (List.range n).map fun j => mkL (k + cntL its j) (its j)
theorem mkI_len (k : Int) (n : Nat) : (mkI k n).length = n := by simp [mkI]
theorem mkB_len (k : Int) (n : Nat) : (mkB k n).length = n := by simp [mkB]
theorem mkOs_len (k : Int) (m : Nat → Nat) (n : Nat) : (mkOs k m n).length = n := by simp [mkOs]
theorem mkRs_len (k : Int) (its : Nat → It) (n : Nat) : (mkRs k its n).length = n := by simp [mkRs]
theorem mkLs_len (k : Int) (its : Nat → It) (n : Nat) : (mkLs k its n).length = n := by simp [mkLs]
theorem rd_mkI {k : Int} {n i : Nat} (h : i < n) : rd (mkI k n) (i : Int) = k + i := by simp [rd, mkI, List.getD_eq_getElem?_getD, h]
theorem rd_mkB {k : Int} {n i : Nat} (h : i < n) : rd (mkB k n) (i : Int) = (k + i) % 256 := by simp [rd, mkB, List.getD_eq_getElem?_getD, h]
theorem rd_mkOs {k : Int} {m : Nat → Nat} {n i : Nat} (h : i < n) : rd_T79 (mkOs k m n) (i : Int) = mkO (k + cntO m i) (m i) := by simp [rd_T79, mkOs, List.getD_eq_getElem?_getD, h]
theorem rd_mkRs {k : Int} {its : Nat → It} {n i : Nat} (h : i < n) : rd_T68 (mkRs k its n) (i : Int) = mkR (k + cntR its i) (its i) := by simp [rd_T68, mkRs, List.getD_eq_getElem?_getD, h]
theorem rd_mkLs {k : Int} {its : Nat → It} {n i : Nat} (h : i < n) : rd_T72 (mkLs k its n) (i : Int) = mkL (k + cntL its i) (its i) := by simp [rd_T72, mkLs, List.getD_eq_getElem?_getD, h]
theorem heldIntS_l0 (a : Int) (n : Nat) (ha : 0 ≤ a) (hb : a + n ≤ 4611686018427387904) : ∀ (k : Nat) (i : Nat), i ≤ n → n - i < k → laws_heldIntS.l0 k (mkI a n) (a + i) (i : Int) = some (a + n)
  | 0, _, _, h => by omega
  | k + 1, i, hi, hk => by
    rw [laws_heldIntS.l0, mkI_len]
    by_cases c : i < n
    · rw [if_pos (by omega), if_pos (by omega), if_pos (rd_mkI c), wid (x := a + (i : Int) + 1) (by omega) (by omega), wid (x := (i : Int) + 1) (by omega) (by omega)]
      have h := heldIntS_l0 a n ha hb k (i + 1) (by omega) (by omega)
      rw [show a + (i : Int) + 1 = a + ((i + 1 : Nat) : Int) by omega, show (i : Int) + 1 = ((i + 1 : Nat) : Int) by omega]
      exact h
    · rw [if_neg (by omega), show i = n by omega]
theorem heldIntS_f (a : Int) (n k : Nat) (ha : 0 ≤ a) (hb : a + n ≤ 4611686018427387904) (hk : n < k) : laws_heldIntS.f k (mkI a n) a = some (a + n) := by
  have h := heldIntS_l0 a n ha hb k 0 (by omega) (by omega)
  rw [laws_heldIntS.f]
  simpa using h
theorem heldByteS_l0 (a : Int) (n : Nat) (ha : 0 ≤ a) (hb : a + n ≤ 4611686018427387904) : ∀ (k : Nat) (i : Nat), i ≤ n → n - i < k → laws_heldByteS.l0 k (mkB a n) (a + i) (i : Int) = some (a + n)
  | 0, _, _, h => by omega
  | k + 1, i, hi, hk => by
    rw [laws_heldByteS.l0, mkB_len]
    by_cases c : i < n
    · rw [if_pos (by omega), if_pos (by omega), if_pos (rd_mkB c), wid (x := a + (i : Int) + 1) (by omega) (by omega), wid (x := (i : Int) + 1) (by omega) (by omega)]
      have h := heldByteS_l0 a n ha hb k (i + 1) (by omega) (by omega)
      rw [show a + (i : Int) + 1 = a + ((i + 1 : Nat) : Int) by omega, show (i : Int) + 1 = ((i + 1 : Nat) : Int) by omega]
      exact h
    · rw [if_neg (by omega), show i = n by omega]
theorem heldByteS_f (a : Int) (n k : Nat) (ha : 0 ≤ a) (hb : a + n ≤ 4611686018427387904) (hk : n < k) : laws_heldByteS.f k (mkB a n) a = some (a + n) := by
  have h := heldByteS_l0 a n ha hb k 0 (by omega) (by omega)
  rw [laws_heldByteS.f]
  simpa using h
theorem heldOpS_l0 (a : Int) (m : Nat → Nat) (n : Nat) (hm : ∀ q, m q ≤ 1048576) (ha : 0 ≤ a) (hb : a + cntO m n ≤ 4611686018427387904) (hn : n ≤ 1048576) : ∀ (k : Nat) (i : Nat), i ≤ n → n - i + 1048577 < k → laws_heldOpS.l0 k (mkOs a m n) (a + cntO m i) (i : Int) = some (a + cntO m n)
  | 0, _, _, h => by omega
  | k + 1, i, hi, hk => by
    rw [laws_heldOpS.l0, mkOs_len]
    by_cases c : i < n
    · have hmi := hm i
      have hc : cntO m (i + 1) = cntO m i + (2 + m i) := rfl
      have hle := cntO_mono m (i := i + 1) (n := n) (by omega)
      rw [if_pos (by omega), if_pos (by omega), rd_mkOs c, mkO]
      simp only
      rw [if_pos trivial, wid (x := a + (cntO m i : Int) + 1) (by omega) (by omega), heldIntS_f _ _ k (by omega) (by omega) (by omega), Option.bind_some, if_neg (by omega), if_pos rfl, wid (x := a + (cntO m i : Int) + 1 + (m i : Int) + 1) (by omega) (by omega), wid (x := (i : Int) + 1) (by omega) (by omega)]
      have h := heldOpS_l0 a m n hm ha hb hn k (i + 1) (by omega) (by omega)
      rw [show a + (cntO m i : Int) + 1 + (m i : Int) + 1 = a + ((cntO m (i + 1) : Nat) : Int) by rw [hc]; omega, show (i : Int) + 1 = ((i + 1 : Nat) : Int) by omega]
      exact h
    · rw [if_neg (by omega), show i = n by omega]
theorem heldOpS_f (a : Int) (m : Nat → Nat) (n k : Nat) (hm : ∀ q, m q ≤ 1048576) (ha : 0 ≤ a) (hb : a + cntO m n ≤ 4611686018427387904) (hn : n ≤ 1048576) (hk : 2097153 < k) : laws_heldOpS.f k (mkOs a m n) a = some (a + cntO m n) := by
  have h := heldOpS_l0 a m n hm ha hb hn k 0 (by omega) (by omega)
  rw [laws_heldOpS.f]
  simpa [cntO] using h
theorem cntR_step (its : Nat → It) (i : Nat) : cntR its (i + 1) = cntR its i + ((its i).ln + cntO (its i).m (its i).bn) := rfl
theorem cntL_step (its : Nat → It) (i : Nat) : cntL its (i + 1) = cntL its i + ((its i).ln + 1 + cntO (its i).m (its i).bn) := rfl
theorem cntR_mono2 (its : Nat → It) : ∀ {i n : Nat}, i ≤ n → cntR its i ≤ cntR its n
  | i, 0, h => by obtain rfl : i = 0 := by omega
                  exact Nat.le_refl _
  | i, n + 1, h => by
    rcases (by omega : i ≤ n ∨ i = n + 1) with h' | rfl
    · have := cntR_mono2 its h'
      rw [cntR_step]; omega
    · exact Nat.le_refl _
theorem cntL_mono2 (its : Nat → It) : ∀ {i n : Nat}, i ≤ n → cntL its i ≤ cntL its n
  | i, 0, h => by obtain rfl : i = 0 := by omega
                  exact Nat.le_refl _
  | i, n + 1, h => by
    rcases (by omega : i ≤ n ∨ i = n + 1) with h' | rfl
    · have := cntL_mono2 its h'
      rw [cntL_step]; omega
    · exact Nat.le_refl _
theorem heldRuleS_l0 (a : Int) (its : Nat → It) (n : Nat) (hm : ∀ q, q < n → ItSm (its q)) (ha : 0 ≤ a) (hb : a + cntR its n ≤ 4611686018427387904) (hn : n ≤ 1048576) : ∀ (k : Nat) (i : Nat), i ≤ n → n - i + 2097160 < k → laws_heldRuleS.l0 k (mkRs a its n) (a + cntR its i) (i : Int) = some (a + cntR its n)
  | 0, _, _, h => by omega
  | k + 1, i, hi, hk => by
    rw [laws_heldRuleS.l0, mkRs_len]
    by_cases c : i < n
    · obtain ⟨m1, m2, m3⟩ := hm i c
      have hc := cntR_step its i
      have hle := cntR_mono2 its (i := i + 1) (n := n) (by omega)
      rw [if_pos (by omega), if_pos (by omega), rd_mkRs c, mkR]
      simp only
      rw [heldByteS_f _ _ k (by omega) (by omega) (by omega), Option.bind_some, if_neg (by omega), heldOpS_f _ _ _ k m3 (by omega) (by omega) m2 (by omega), Option.bind_some, if_neg (by omega), wid (x := (i : Int) + 1) (by omega) (by omega)]
      have h := heldRuleS_l0 a its n hm ha hb hn k (i + 1) (by omega) (by omega)
      rw [show a + (cntR its i : Int) + ((its i).ln : Int) + (cntO (its i).m (its i).bn : Int) = a + ((cntR its (i + 1) : Nat) : Int) by rw [hc]; omega, show (i : Int) + 1 = ((i + 1 : Nat) : Int) by omega]
      exact h
    · rw [if_neg (by omega), show i = n by omega]
theorem heldRuleS_f (a : Int) (its : Nat → It) (n k : Nat) (hm : ∀ q, q < n → ItSm (its q)) (ha : 0 ≤ a) (hb : a + cntR its n ≤ 4611686018427387904) (hn : n ≤ 1048576) (hk : 3145740 < k) : laws_heldRuleS.f k (mkRs a its n) a = some (a + cntR its n) := by
  have h := heldRuleS_l0 a its n hm ha hb hn k 0 (by omega) (by omega)
  rw [laws_heldRuleS.f]
  simpa [cntR] using h
theorem heldLabelS_l0 (a : Int) (its : Nat → It) (n : Nat) (hm : ∀ q, q < n → ItSm (its q)) (ha : 0 ≤ a) (hb : a + cntL its n ≤ 4611686018427387904) (hn : n ≤ 1048576) : ∀ (k : Nat) (i : Nat), i ≤ n → n - i + 2097160 < k → laws_heldLabelS.l0 k (mkLs a its n) (a + cntL its i) (i : Int) = some (a + cntL its n)
  | 0, _, _, h => by omega
  | k + 1, i, hi, hk => by
    rw [laws_heldLabelS.l0, mkLs_len]
    by_cases c : i < n
    · obtain ⟨m1, m2, m3⟩ := hm i c
      have hc := cntL_step its i
      have hle := cntL_mono2 its (i := i + 1) (n := n) (by omega)
      rw [if_pos (by omega), if_pos (by omega), rd_mkLs c, mkL]
      simp only
      rw [heldByteS_f _ _ k (by omega) (by omega) (by omega), Option.bind_some, if_neg (by omega), Int.tmod_eq_emod_of_nonneg (by omega), if_neg (by simp), wid (x := a + (cntL its i : Int) + ((its i).ln : Int) + 1) (by omega) (by omega), heldOpS_f _ _ _ k m3 (by omega) (by omega) m2 (by omega), Option.bind_some, if_neg (by omega), wid (x := (i : Int) + 1) (by omega) (by omega)]
      have h := heldLabelS_l0 a its n hm ha hb hn k (i + 1) (by omega) (by omega)
      rw [show a + (cntL its i : Int) + ((its i).ln : Int) + 1 + (cntO (its i).m (its i).bn : Int) = a + ((cntL its (i + 1) : Nat) : Int) by rw [hc]; omega, show (i : Int) + 1 = ((i + 1 : Nat) : Int) by omega]
      exact h
    · rw [if_neg (by omega), show i = n by omega]
theorem heldLabelS_f (a : Int) (its : Nat → It) (n k : Nat) (hm : ∀ q, q < n → ItSm (its q)) (ha : 0 ≤ a) (hb : a + cntL its n ≤ 4611686018427387904) (hn : n ≤ 1048576) (hk : 3145740 < k) : laws_heldLabelS.f k (mkLs a its n) a = some (a + cntL its n) := by
  have h := heldLabelS_l0 a its n hm ha hb hn k 0 (by omega) (by omega)
  rw [laws_heldLabelS.f]
  simpa [cntL] using h
/-- heldGrammar on what markGrammar leaves -/
theorem heldGrammar_f (a : Int) (its itl : Nat → It) (n0 n1 k : Nat) (hm : ∀ q, q < n0 → ItSm (its q)) (hl : ∀ q, q < n1 → ItSm (itl q)) (ha : 0 ≤ a) (hb : a + (cntR its n0 + cntL itl n1 : Nat) ≤ 4611686018427387904) (h0 : n0 ≤ 1048576) (h1 : n1 ≤ 1048576) (hk : 3145740 < k) :
    laws_heldGrammar.f k (mkRs a its n0) (mkLs (a + cntR its n0) itl n1) a = some (a + (cntR its n0 + cntL itl n1 : Nat)) := by
  rw [laws_heldGrammar.f, heldRuleS_f a its n0 k hm ha (by omega) h0 hk, Option.bind_some, if_neg (by omega), heldLabelS_f _ itl n1 k hl (by omega) (by omega) h1 hk, Option.bind_some, if_neg (by omega)]
  congr 1
  omega
end Go.Proofs.Ytdiilocgjnlmiaa.Tre
end
section
namespace Go.Proofs.Ytdiilocgjnlmiaa.Tre
open Go.RowKit Go.Proofs.YtdiilocgjnlmiaaW.PrintWords Go.Proofs.YtdiilocgjnlmiaaW.PrintLast Go.Proofs.YtdiilocgjnlmiaaW.PrintMore
open Go.Proofs.Ytdiilocgjnlmiaa.PAll
set_option linter.unusedVariables false
set_option linter.unusedSimpArgs false
/-- a weak row as a row of elements: each element's cells as they stand in memory -/
theorem C_of_W {α : Type} (d : Kd α) {W : World} {X : Nat → Prop} {t : TypeId} {sz : Nat} {p : Nat → List Value → Prop} {v : Value} {n : Nat} {xs : List α} (h : WRow W X t sz p v n) (hsz : d.sz = sz) (hl : xs.length = n)
    (hp : ∀ (i : Nat) (x : α) (g c : Nat) (cs : List Value), i < n → xs[i]? = some x → v = .slice (some ⟨g, 0, none⟩) n c → cs.length = sz → (∀ (j : Nat) (u : Value), cs[j]? = some u → W.cell? ⟨g, i * sz + j, none⟩ = some u) → p i cs → d.K W x cs) : ∃ A c, v = .slice A n c ∧ n ≤ c ∧ d.C W A n xs := by
  subst hsz
  obtain ⟨A, c, rfl, hc, hm, h⟩ := h
  refine ⟨A, c, rfl, hc, hl, by omega, fun h0 => ?_⟩
  rcases h with ⟨_, hn⟩ | ⟨g, cur, rfl, _, hg, hi⟩
  · omega
  · refine ⟨_, rfl, fun i x hx => ?_⟩
    have hi' : i < n := by rw [← hl]; exact (List.getElem?_eq_some_iff.1 hx).1
    obtain ⟨cs, h1, h2, h3⟩ := hi i hi'
    have hcell : ∀ (j : Nat) (u : Value), cs[j]? = some u → W.cell? ⟨g, i * d.sz + j, none⟩ = some u := fun j u hu => (blk_cell hg _).trans (h2 j u hu)
    refine ⟨cs, h1, hp i x g c cs hi' hx rfl h1 hcell h3, fun j u hu => ?_⟩
    rw [add_plain]
    exact hcell j u hu
theorem ints_marked {W : World} {X : Nat → Prop} {t : TypeId} {kd : IntKind} {v : Value} {n : Nat} {xs : List Int} (h : WInts W X t kd v n) (hl : xs.length = n) (hc : ∀ g c, v = .slice (some ⟨g, 0, none⟩) n c → ∀ q, q < n → W.cell? ⟨g, q, none⟩ = some (.int kd (xs.getD q 0))) : ∃ A c, v = .slice A n c ∧ n ≤ c ∧ (Kd.int kd).C W A n xs := by
  refine C_of_W (Kd.int kd) h rfl hl fun i x g c cs hi hx e hcs hcell hp => ?_
  obtain ⟨a, rfl⟩ := hp
  have h1 := hcell 0 _ rfl
  have h2 := hc g c e i hi
  rw [Nat.mul_one, Nat.add_zero] at h1
  rw [h1] at h2
  have hx2 : xs.getD i 0 = x := by rw [List.getD_eq_getElem?_getD, hx]; rfl
  rw [hx2] at h2
  have h3 : a = x := by injection h2 with h2; injection h2
  subst h3
  rfl
theorem getD_mkI {k : Int} {n q : Nat} (h : q < n) : (mkI k n).getD q 0 = k + q := by simp [mkI, List.getD_eq_getElem?_getD, h]
theorem getD_mkB {k : Int} {n q : Nat} (h : q < n) : (mkB k n).getD q 0 = (k + q) % 256 := by simp [mkB, List.getD_eq_getElem?_getD, h]
theorem get_range {α : Type} {f : Nat → α} {n i : Nat} {x : α} (h : ((List.range n).map f)[i]? = some x) : x = f i := by
  obtain ⟨hi, e⟩ := List.getElem?_eq_some_iff.1 h
  simpa using e.symm
theorem ops_marked {W : World} {X : Nat → Prop} {v : Value} {n : Nat} {sv : Nat → Value} {m : Nat → Nat} {k : Int} (h : WOps W X v n sv m) (hm : ∀ g c, v = .slice (some ⟨g, 0, none⟩) n c → ∀ q, q < n → OpMarked W g q (sv q) (m q) (k + cntO m q)) : ∃ A c, v = .slice A n c ∧ n ≤ c ∧ k79.C W A n (mkOs k m n) := by
  refine C_of_W k79 h rfl (mkOs_len _ _ _) fun i x g c cs hi hx e hcs hcell hp => ?_
  obtain ⟨a, b, rfl, hw⟩ := hp
  have hM := hm g c e i hi
  obtain rfl := get_range hx
  obtain ⟨A1, c1, es, hc1, hC⟩ := ints_marked (xs := mkI (k + cntO m i + 1) (m i)) hw (mkI_len _ _) fun gs c' e' q hq => by rw [getD_mkI hq]; exact hM.f1 gs c' e' q hq
  have h0 := hcell 0 _ rfl
  have h2 := hcell 2 _ rfl
  rw [Nat.add_zero, hM.f0] at h0
  rw [hM.f2] at h2
  have e0 : a = k + cntO m i := by injection h0 with h0; injection h0 with _ h0; exact h0.symm
  have e2 : b = k + cntO m i + 1 + m i := by injection h2 with h2; injection h2 with _ h2; exact h2.symm
  rw [e0, e2, es]
  have hl := mkI_len (k + cntO m i + 1) (m i)
  have := k79_mk W (mkO (k + cntO m i) (m i)) (A1 := A1) (c1 := c1) (by rw [mkO]; simp only; rw [hl]; exact hc1) (by rw [mkO]; simp only; rw [hl]; exact hC)
  rw [mkO] at this
  simp only [hl] at this
  exact this
theorem rules_marked {W : World} {X : Nat → Prop} {v : Value} {n : Nat} {its : Nat → It} {k : Int} (h : WRules W X v n its) (hm : ∀ j, j < n → ItMarked W (its j) (k + cntR its j) (k + cntR its j + (its j).ln)) : ∃ A c, v = .slice A n c ∧ n ≤ c ∧ k68.C W A n (mkRs k its n) := by
  refine C_of_W k68 h rfl (mkRs_len _ _ _) fun i x g c cs hi hx e hcs hcell hp => ?_
  obtain ⟨rfl, hw⟩ := hp
  obtain rfl := get_range hx
  have hM := hm i hi
  obtain ⟨A0, c0, e0, h0, C0⟩ := ints_marked (xs := mkB (k + cntR its i) (its i).ln) hw.1 (mkB_len _ _) fun gs c' e' q hq => by rw [getD_mkB hq]; exact hM.nm gs c' e' q hq
  obtain ⟨A1, c1, e1, h1, C1⟩ := ops_marked hw.2 hM.bd
  rw [e0, e1]
  have hl0 := mkB_len (k + cntR its i) (its i).ln
  have hl1 := mkOs_len (k + cntR its i + (its i).ln) (its i).m (its i).bn
  have := k68_mk W (mkR (k + cntR its i) (its i)) (A0 := A0) (c0 := c0) (by rw [mkR]; simp only; rw [hl0]; exact h0) (by rw [mkR]; simp only; rw [hl0]; exact C0) (A1 := A1) (c1 := c1) (by rw [mkR]; simp only; rw [hl1]; exact h1) (by rw [mkR]; simp only; rw [hl1]; exact C1)
  rw [mkR] at this
  simp only [hl0, hl1] at this
  exact this
theorem take1 {α : Type} {l : List α} {i : Nat} (h : i < l.length) : (l.drop (i * 1)).take 1 = [l[i]] := by
  rw [Nat.mul_one, List.drop_eq_getElem_cons h]
  rfl
theorem nums1 {k : IntKind} {l : List Int} {i : Nat} (h : i < l.length) : ((nums k l).drop (i * 1)).take 1 = [.int k l[i]] := by
  rw [take1 (by rw [nums, List.length_map]; exact h)]
  simp [nums]
/-- rules of the call's own, weakly -/
theorem ItSt.wit {W : World} {B : Nat} {t : It} {nm : List Int} {bd : List Op} (h : ItSt W B t nm bd) (hn : nm.length ≤ 1099511627776) (hb : bd.length ≤ 1099511627776) (hs : ∀ o ∈ bd, o.f1.length ≤ 1099511627776) : WIt W (fun b => B ≤ b) t := by
  refine ⟨?_, ?_⟩
  · rw [h.ln]
    refine WRow.of_own h.name hn fun i hi => ?_
    exact ⟨nm[i], nums1 hi⟩
  · rw [h.bn]
    refine WRow.of_own h.body.row hb fun i hi => ?_
    refine ⟨(opn bd i).f0, (opn bd i).f2, lineC_at (cell := bdCell t.sv bd) (sz := 3) (fun j => rfl) bd.length i hi, ?_⟩
    have := h.body.sets i hi
    rw [h.m]
    refine WRow.of_own this ?_ fun q hq => ?_
    · exact hs _ (by rw [opn, rd_Op hi]; exact List.getElem_mem hi)
    · exact ⟨(opn bd i).f1[q], nums1 hq⟩
theorem own_C_int {W : World} {B : Nat} {t : TypeId} {k : IntKind} {v : Value} {l : List Int} (h : W.ownsRow B t 1 v l.length (nums k l)) (hn : l.length ≤ 1099511627776) : ∃ A c, v = .slice A l.length c ∧ l.length ≤ c ∧ (Kd.int k).C W A l.length l := by
  refine C_of_W (Kd.int k) (WRow.of_own (p := fun i cs => cs = ((nums k l).drop (i * 1)).take 1) h hn fun i _ => rfl) rfl rfl fun i x g c cs hi hx e hcs hcell hp => ?_
  rw [hp, nums1 hi]
  obtain ⟨_, e2⟩ := List.getElem?_eq_some_iff.1 hx
  rw [e2]
  rfl
theorem own_C_ops {W : World} {B : Nat} {v : Value} {sv : Nat → Value} {bd : List Op} (h : BdSt W B v sv bd) (hb : ssOs bd) : ∃ A c, v = .slice A bd.length c ∧ bd.length ≤ c ∧ k79.C W A bd.length bd := by
  refine C_of_W k79 (WRow.of_own (p := fun i cs => cs = ((lineC (bdCell sv bd) bd.length).drop (i * 3)).take 3) h.row (by have := hb.1; omega) fun i _ => rfl) rfl rfl fun i x g c cs hi hx e hcs hcell hp => ?_
  rw [hp, lineC_at (cell := bdCell sv bd) (sz := 3) (fun j => rfl) bd.length i hi, bdCell]
  obtain ⟨_, e2⟩ := List.getElem?_eq_some_iff.1 hx
  have eo : opn bd i = x := by rw [opn, rd_Op hi, e2]
  have hx1 : x.f1.length ≤ 1048576 := hb.2 x (by rw [← e2]; exact List.getElem_mem hi)
  have hsv := h.sets i hi
  rw [eo] at hsv ⊢
  obtain ⟨A1, c1, es, h1, C1⟩ := own_C_int hsv (by omega)
  rw [es]
  exact k79_mk W x h1 C1
theorem ru_get {Rs : List Ru} {i : Nat} (hi : i < Rs.length) : ru Rs i = Rs[i] := by rw [ru, rd_Ru hi]
theorem own_C_rules {W : World} {B : Nat} {v : Value} {its : Nat → It} {Rs : List Ru} (h : RlSt W B v its Rs) (hs : ssRs Rs) : ∃ A c, v = .slice A Rs.length c ∧ Rs.length ≤ c ∧ k68.C W A Rs.length Rs := by
  refine C_of_W k68 (WRow.of_own (p := fun i cs => cs = ((lineC (ruCell its) Rs.length).drop (i * 2)).take 2) h.row (by have := hs.1; omega) fun i _ => rfl) rfl rfl fun i x g c cs hi hx e hcs hcell hp => ?_
  rw [hp, lineC_at (cell := ruCell its) (sz := 2) (fun j => rfl) Rs.length i hi, ruCell]
  obtain ⟨_, e2⟩ := List.getElem?_eq_some_iff.1 hx
  have eo : ru Rs i = x := by rw [ru_get hi, e2]
  have hx1 : ssR x := hs.2 x (by rw [← e2]; exact List.getElem_mem hi)
  have hI := h.items i hi
  rw [eo] at hI
  obtain ⟨A0, c0, e0, h0, C0⟩ := own_C_int hI.name (by have := hx1.1; omega)
  obtain ⟨A1, c1, e1, h1, C1⟩ := own_C_ops hI.body hx1.2
  rw [e0, e1]
  exact k68_mk W x h0 C0 h1 C1
theorem opn_len {bd : List Op} (hb : ssOs bd) (q : Nat) : (opn bd q).f1.length ≤ 1048576 := by
  by_cases hq : q < bd.length
  · rw [opn, rd_Op hq]; exact hb.2 _ (List.getElem_mem hq)
  · simp [opn, rd_T79, List.getD_eq_getElem?_getD, List.getElem?_eq_none (by omega : bd.length ≤ q), z79]
theorem ItSt.sm {W : World} {B : Nat} {t : It} {nm : List Int} {bd : List Op} (h : ItSt W B t nm bd) (hn : nm.length ≤ 1048576) (hb : ssOs bd) : ItSm t := ⟨by rw [h.ln]; exact hn, by rw [h.bn]; exact hb.1, fun q => by rw [h.m]; exact opn_len hb q⟩
theorem wgr_of_rl {W : World} {B : Nat} {v : Value} {its : Nat → It} {Rs : List Ru} (h : RlSt W B v its Rs) (hs : ssRs Rs) : ∃ G : Gr, grV G = .agg #[v, .slice none 0 0] ∧ WGr W (fun b => B ≤ b) G ∧ ApartG G ∧ 1 + cntG G ≤ 4611686018427387904 ∧ G.n0 ≤ 1048576 ∧ G.n1 = 0 ∧ ∀ q, q < G.n0 → ItSm (G.its q) := by
  obtain ⟨A, c, e, _, _⟩ := own_C_rules h hs
  subst e
  have hi : ∀ i, i < Rs.length → ssR (ru Rs i) := fun i hi => by rw [ru_get hi]; exact hs.2 _ (List.getElem_mem hi)
  have hsm : ∀ i, i < Rs.length → ItSm (its i) := fun i hl => (h.items i hl).sm (hi i hl).1 (hi i hl).2
  have hc := cntR_le hsm Rs.length (Nat.le_refl _)
  have h1 := hs.1
  refine ⟨⟨A, c, Rs.length, its, none, 0, 0, fun _ => default⟩, rfl, ⟨?_, ⟨none, 0, rfl, Nat.le_refl _, by simp, .inl ⟨rfl, rfl⟩⟩⟩, ⟨h.apart, ⟨fun i j hi => absurd hi (Nat.not_lt_zero _), fun i hi => absurd hi (Nat.not_lt_zero _)⟩, fun i j _ hj => absurd hj (Nat.not_lt_zero _)⟩, ?_, h1, rfl, hsm⟩
  · refine WRow.of_own h.row (show Rs.length ≤ 1099511627776 by omega) fun i hl => ⟨lineC_at (cell := ruCell its) (sz := 2) (fun j => rfl) Rs.length i hl, (h.items i hl).wit ?_ ?_ ?_⟩
    · have := (hi i hl).1; omega
    · have := (hi i hl).2.1; omega
    · intro o ho
      have : o.f1.length ≤ 1048576 := (hi i hl).2.2 o ho
      omega
  · simp only [cntG, cntL]
    have : Rs.length * 1099514773504 ≤ 1048576 * 1099514773504 := Nat.mul_le_mul_right _ h1
    omega
end Go.Proofs.Ytdiilocgjnlmiaa.Tre
end
