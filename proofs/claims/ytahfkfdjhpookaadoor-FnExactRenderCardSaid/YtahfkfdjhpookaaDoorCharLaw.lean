/- characters, line ends, line beginnings: plain laws. -/
import Derived.Test.YtahfkfdjhpookaaDoorTextEnd
namespace Go.Proofs.YtahfkfdjhpookaaDoor.Txt
open Go.RowKit Go.Proofs.YtahfkfdjhpookaaDoorW.PrintWords Go.Proofs.YtahfkfdjhpookaaDoorW.PrintLast
open Go.Proofs.YtahfkfdjhpookaaDoor.PAll

theorem chF_fuel (l : List Int) : ∀ (f g a : Nat), l.length < a + f → l.length < a + g → chF l f a = chF l g a
  | 0, 0, _, _, _ => rfl
  | 0, g + 1, a, h, _ => by rw [chF, chF, if_neg (by omega)]
  | f + 1, 0, a, _, h => by rw [chF, chF, if_neg (by omega)]
  | f + 1, g + 1, a, h, h' => by
    rw [chF, chF]
    by_cases c : a < l.length
    · have := chl_pos c
      rw [if_pos c, if_pos c, chF_fuel l f g (a + (chl l (a : Int)).toNat) (by omega) (by omega)]
    · rw [if_neg c, if_neg c]
def ch (l : List Int) (a : Nat) : List Nat := chF l (l.length + 1) a
theorem ch_end {l : List Int} {a : Nat} (h : ¬ a < l.length) : ch l a = [] := by rw [ch, chF, if_neg h]
theorem ch_nl {l : List Int} {a : Nat} (h : a < l.length) (h' : rd l (a : Int) = 10) : ch l a = [a] := by rw [ch, chF, if_pos h, if_pos h']
theorem ch_on {l : List Int} {a : Nat} (h : a < l.length) (h' : ¬ rd l (a : Int) = 10) : ch l a = a :: ch l (a + (chl l (a : Int)).toNat) := by
  have := chl_pos h
  rw [ch, chF, if_pos h, if_neg h', ch, chF_fuel l l.length (l.length + 1) _ (by omega) (by omega)]

theorem enF_fuel (l : List Int) : ∀ (f g a : Nat), l.length < a + f → l.length < a + g → enF l f a = enF l g a
  | 0, 0, _, _, _ => rfl
  | 0, g + 1, a, h, _ => by rw [enF, enF, if_neg (by omega)]
  | f + 1, 0, a, _, h => by rw [enF, enF, if_neg (by omega)]
  | f + 1, g + 1, a, h, h' => by
    rw [enF, enF]
    by_cases c : a < l.length
    · rw [if_pos c, if_pos c, enF_fuel l f g (a + 1) (by omega) (by omega)]
    · rw [if_neg c, if_neg c]
theorem end_end {l : List Int} {a : Nat} (h : ¬ a < l.length) : endOf l a = l.length := by rw [endOf, enF, if_neg h]
theorem end_nl {l : List Int} {a : Nat} (h : a < l.length) (h' : rd l (a : Int) = 10) : endOf l a = a := by rw [endOf, enF, if_pos h, if_pos h']
theorem end_step {l : List Int} {a : Nat} (h : a < l.length) (h' : ¬ rd l (a : Int) = 10) : endOf l a = endOf l (a + 1) := by
  rw [endOf, enF, if_pos h, if_neg h', endOf, enF_fuel l l.length (l.length + 1) _ (by omega) (by omega)]

/-- the beginnings of the lines behind a -/
def nxF (l : List Int) : Nat → Nat → List Nat
  | 0, _ => []
  | f + 1, a => if a < l.length then (if rd l (a : Int) = 10 then (a + 1) :: nxF l f (a + 1) else nxF l f (a + 1)) else []
theorem nxF_fuel (l : List Int) : ∀ (f g a : Nat), l.length < a + f → l.length < a + g → nxF l f a = nxF l g a
  | 0, 0, _, _, _ => rfl
  | 0, g + 1, a, h, _ => by rw [nxF, nxF, if_neg (by omega)]
  | f + 1, 0, a, _, h => by rw [nxF, nxF, if_neg (by omega)]
  | f + 1, g + 1, a, h, h' => by
    rw [nxF, nxF]
    by_cases c : a < l.length
    · rw [if_pos c, if_pos c, nxF_fuel l f g (a + 1) (by omega) (by omega)]
    · rw [if_neg c, if_neg c]
def nx (l : List Int) (a : Nat) : List Nat := nxF l (l.length + 1) a
theorem nx_end {l : List Int} {a : Nat} (h : ¬ a < l.length) : nx l a = [] := by rw [nx, nxF, if_neg h]
theorem nx_nl {l : List Int} {a : Nat} (h : a < l.length) (h' : rd l (a : Int) = 10) : nx l a = (a + 1) :: nx l (a + 1) := by
  rw [nx, nxF, if_pos h, if_pos h', nx, nxF_fuel l l.length (l.length + 1) _ (by omega) (by omega)]
theorem nx_step {l : List Int} {a : Nat} (h : a < l.length) (h' : ¬ rd l (a : Int) = 10) : nx l a = nx l (a + 1) := by
  rw [nx, nxF, if_pos h, if_neg h', nx, nxF_fuel l l.length (l.length + 1) _ (by omega) (by omega)]
theorem upS_nx (l : List Int) : ∀ (d i : Nat), i + d = l.length → upS l i ++ nx l i = upS l l.length
  | 0, i, h => by rw [nx_end (by omega), List.append_nil, show i = l.length by omega]
  | d + 1, i, h => by
    by_cases c : rd l (i : Int) = 10
    · rw [nx_nl (by omega) c, ← upS_nx l d (i + 1) (by omega), upS_yes c]; simp
    · rw [nx_step (by omega) c, ← upS_nx l d (i + 1) (by omega), upS_no c]
theorem upS_all (l : List Int) : upS l l.length = 0 :: nx l 0 := by rw [← upS_nx l l.length 0 (by omega), upS_zero]; rfl

/-- no newline stands within a character -/
theorem no_nl {l : List Int} {a : Nat} (h : a < l.length) (j : Nat) (h1 : 1 ≤ j) (h2 : (j : Int) < chl l a) : ¬ rd l ((a + j : Nat) : Int) = 10 := by
  intro e
  unfold chl at h2
  rw [if_neg (by omega)] at h2
  have key : ∀ i : Int, i = 1 ∨ i = 2 ∨ i = 3 → (j : Int) = i → rd l ((a : Int) + i) = 10 := fun i _ hj => by rw [← e]; congr 1; omega
  split at h2
  · rename_i r; unfold R2 at r
    have := key 1 (by omega) (by omega); omega
  split at h2
  · rename_i r; unfold R3 at r
    have k1 := key 1 (by omega); have k2 := key 2 (by omega); omega
  split at h2
  · rename_i r; unfold R4 at r
    have k1 := key 1 (by omega); have k2 := key 2 (by omega); have k3 := key 3 (by omega); omega
  · omega
theorem chl_nl {l : List Int} {a : Nat} (h : a < l.length) (h' : rd l (a : Int) = 10) : chl l (a : Int) = 1 := by
  unfold chl
  rw [if_neg (by omega), if_neg (by unfold R2; omega), if_neg (by unfold R3; omega), if_neg (by unfold R4; omega)]
theorem over_char {β : Type} (f : Nat → β) {l : List Int} (hf : ∀ b, b < l.length → ¬ rd l (b : Int) = 10 → f b = f (b + 1)) {a : Nat} (h : a < l.length) (h' : ¬ rd l (a : Int) = 10) : f a = f (a + (chl l (a : Int)).toNat) := by
  have hp := chl_pos h
  have : ∀ j : Nat, (j : Int) ≤ chl l a → 1 ≤ j → f a = f (a + j) := by
    intro j
    induction j with
    | zero => intro _ h; omega
    | succ j ih =>
      intro hj _
      by_cases e : j = 0
      · subst e; exact hf a h h'
      · rw [ih (by omega) (by omega)]
        exact hf (a + j) (by omega) (no_nl h j (by omega) (by omega))
  have := this (chl l a).toNat (by omega) (by omega)
  exact this

end Go.Proofs.YtahfkfdjhpookaaDoor.Txt
