/- OffsetOf: the program's closed form is what the reference's walk from character to character answers; for every text of bytes, every line and column. -/
import Derived.Test.YtahfkfdjhpookaaExtOffset
import Derived.Test.YtahfkfdjhpookaaPAllx4
namespace Go.Proofs.Ytahfkfdjhpookaa.Txt
open Go.RowKit Go.Proofs.YtahfkfdjhpookaaW.PrintWords Go.Proofs.YtahfkfdjhpookaaW.PrintLast
open Go.Proofs.Ytahfkfdjhpookaa.PAll

theorem chF_fuel (l : List Int) : ∀ (f g a : Nat), l.length < a + f → l.length < a + g → chF l f a = chF l g a
  | 0, 0, _, _, _ => rfl
  | 0, g + 1, a, h, _ => by rw [chF, chF, if_neg (by omega)]
  | f + 1, 0, a, _, h => by rw [chF, chF, if_neg (by omega)]
  | f + 1, g + 1, a, h, h' => by
    rw [chF, chF]
    by_cases c : a < l.length
    · have := chl_pos c
      rw [if_pos c, if_pos c, chF_fuel l f g (a + (chl l (a : Int)).toNat) (by omega) (by omega)]
    · rw [if_neg c, if_neg c]
def ch (l : List Int) (a : Nat) : List Nat := chF l (l.length + 1) a
theorem ch_end {l : List Int} {a : Nat} (h : ¬ a < l.length) : ch l a = [] := by rw [ch, chF, if_neg h]
theorem ch_nl {l : List Int} {a : Nat} (h : a < l.length) (h' : rd l (a : Int) = 10) : ch l a = [a] := by rw [ch, chF, if_pos h, if_pos h']
theorem ch_on {l : List Int} {a : Nat} (h : a < l.length) (h' : ¬ rd l (a : Int) = 10) : ch l a = a :: ch l (a + (chl l (a : Int)).toNat) := by
  have := chl_pos h
  rw [ch, chF, if_pos h, if_neg h', ch, chF_fuel l l.length (l.length + 1) _ (by omega) (by omega)]

theorem enF_fuel (l : List Int) : ∀ (f g a : Nat), l.length < a + f → l.length < a + g → enF l f a = enF l g a
  | 0, 0, _, _, _ => rfl
  | 0, g + 1, a, h, _ => by rw [enF, enF, if_neg (by omega)]
  | f + 1, 0, a, _, h => by rw [enF, enF, if_neg (by omega)]
  | f + 1, g + 1, a, h, h' => by
    rw [enF, enF]
    by_cases c : a < l.length
    · rw [if_pos c, if_pos c, enF_fuel l f g (a + 1) (by omega) (by omega)]
    · rw [if_neg c, if_neg c]
theorem end_end {l : List Int} {a : Nat} (h : ¬ a < l.length) : endOf l a = l.length := by rw [endOf, enF, if_neg h]
theorem end_nl {l : List Int} {a : Nat} (h : a < l.length) (h' : rd l (a : Int) = 10) : endOf l a = a := by rw [endOf, enF, if_pos h, if_pos h']
theorem end_step {l : List Int} {a : Nat} (h : a < l.length) (h' : ¬ rd l (a : Int) = 10) : endOf l a = endOf l (a + 1) := by
  rw [endOf, enF, if_pos h, if_neg h', endOf, enF_fuel l l.length (l.length + 1) _ (by omega) (by omega)]

/-- the beginnings of the lines behind a -/
def nxF (l : List Int) : Nat → Nat → List Nat
  | 0, _ => []
  | f + 1, a => if a < l.length then (if rd l (a : Int) = 10 then (a + 1) :: nxF l f (a + 1) else nxF l f (a + 1)) else []
theorem nxF_fuel (l : List Int) : ∀ (f g a : Nat), l.length < a + f → l.length < a + g → nxF l f a = nxF l g a
  | 0, 0, _, _, _ => rfl
  | 0, g + 1, a, h, _ => by rw [nxF, nxF, if_neg (by omega)]
  | f + 1, 0, a, _, h => by rw [nxF, nxF, if_neg (by omega)]
  | f + 1, g + 1, a, h, h' => by
    rw [nxF, nxF]
    by_cases c : a < l.length
    · rw [if_pos c, if_pos c, nxF_fuel l f g (a + 1) (by omega) (by omega)]
    · rw [if_neg c, if_neg c]
def nx (l : List Int) (a : Nat) : List Nat := nxF l (l.length + 1) a
theorem nx_end {l : List Int} {a : Nat} (h : ¬ a < l.length) : nx l a = [] := by rw [nx, nxF, if_neg h]
theorem nx_nl {l : List Int} {a : Nat} (h : a < l.length) (h' : rd l (a : Int) = 10) : nx l a = (a + 1) :: nx l (a + 1) := by
  rw [nx, nxF, if_pos h, if_pos h', nx, nxF_fuel l l.length (l.length + 1) _ (by omega) (by omega)]
theorem nx_step {l : List Int} {a : Nat} (h : a < l.length) (h' : ¬ rd l (a : Int) = 10) : nx l a = nx l (a + 1) := by
  rw [nx, nxF, if_pos h, if_neg h', nx, nxF_fuel l l.length (l.length + 1) _ (by omega) (by omega)]
theorem upS_nx (l : List Int) : ∀ (d i : Nat), i + d = l.length → upS l i ++ nx l i = upS l l.length
  | 0, i, h => by rw [nx_end (by omega), List.append_nil, show i = l.length by omega]
  | d + 1, i, h => by
    by_cases c : rd l (i : Int) = 10
    · rw [nx_nl (by omega) c, ← upS_nx l d (i + 1) (by omega), upS_yes c]; simp
    · rw [nx_step (by omega) c, ← upS_nx l d (i + 1) (by omega), upS_no c]
theorem upS_all (l : List Int) : upS l l.length = 0 :: nx l 0 := by rw [← upS_nx l l.length 0 (by omega), upS_zero]; rfl

/-- no newline stands within a character -/
theorem no_nl {l : List Int} {a : Nat} (h : a < l.length) (j : Nat) (h1 : 1 ≤ j) (h2 : (j : Int) < chl l a) : ¬ rd l ((a + j : Nat) : Int) = 10 := by
  intro e
  unfold chl at h2
  rw [if_neg (by omega)] at h2
  have key : ∀ i : Int, i = 1 ∨ i = 2 ∨ i = 3 → (j : Int) = i → rd l ((a : Int) + i) = 10 := fun i _ hj => by rw [← e]; congr 1; omega
  split at h2
  · rename_i r; unfold R2 at r
    have := key 1 (by omega) (by omega); omega
  split at h2
  · rename_i r; unfold R3 at r
    have k1 := key 1 (by omega); have k2 := key 2 (by omega); omega
  split at h2
  · rename_i r; unfold R4 at r
    have k1 := key 1 (by omega); have k2 := key 2 (by omega); have k3 := key 3 (by omega); omega
  · omega
theorem chl_nl {l : List Int} {a : Nat} (h : a < l.length) (h' : rd l (a : Int) = 10) : chl l (a : Int) = 1 := by
  unfold chl
  rw [if_neg (by omega), if_neg (by unfold R2; omega), if_neg (by unfold R3; omega), if_neg (by unfold R4; omega)]
theorem over_char {β : Type} (f : Nat → β) {l : List Int} (hf : ∀ b, b < l.length → ¬ rd l (b : Int) = 10 → f b = f (b + 1)) {a : Nat} (h : a < l.length) (h' : ¬ rd l (a : Int) = 10) : f a = f (a + (chl l (a : Int)).toNat) := by
  have hp := chl_pos h
  have : ∀ j : Nat, (j : Int) ≤ chl l a → 1 ≤ j → f a = f (a + j) := by
    intro j
    induction j with
    | zero => intro _ h; omega
    | succ j ih =>
      intro hj _
      by_cases e : j = 0
      · subst e; exact hf a h h'
      · rw [ih (by omega) (by omega)]
        exact hf (a + j) (by omega) (no_nl h j (by omega) (by omega))
  have := this (chl l a).toNat (by omega) (by omega)
  exact this

def G (l : List Int) (col : Int) (a : Nat) (c : Int) : Int :=
  if c ≤ col ∧ col - c < (ch l a).length then ((ch l a).getD (col - c).toNat 0 : Nat) else if endOf l a = l.length ∧ c + (ch l a).length = col then (l.length : Int) else -1
def H (l : List Int) (line col : Int) (a : Nat) (n : Int) : Int :=
  if line - n ≤ (nx l a).length then G l col ((nx l a).getD (line - n - 1).toNat 0) 1 else -1
def sp (l : List Int) (line col : Int) (a : Nat) (n c : Int) : Int := if line < n then -1 else if line = n then G l col a c else H l line col a n

theorem sp_hit (l : List Int) (col n : Int) (a : Nat) (h : a ≤ l.length) : sp l n col a n col = a := by
  unfold sp G
  rw [if_neg (by omega), if_pos rfl]
  by_cases c : a < l.length
  · have e : ∃ r, ch l a = a :: r := by
      by_cases d : rd l (a : Int) = 10
      · exact ⟨_, ch_nl c d⟩
      · exact ⟨_, ch_on c d⟩
    obtain ⟨r, e⟩ := e
    rw [e, if_pos ⟨by omega, by simp⟩, show (col - col).toNat = 0 by omega]
    rfl
  · rw [ch_end c, if_neg (by simp), end_end c, if_pos ⟨rfl, by simp⟩]
    omega
theorem sp_last (l : List Int) (line col n c : Int) (h : ¬ (n = line ∧ c = col)) : sp l line col l.length n c = -1 := by
  unfold sp H G
  by_cases h1 : line < n
  · rw [if_pos h1]
  rw [if_neg h1]
  by_cases h2 : line = n
  · rw [if_pos h2, ch_end (by omega), if_neg (by simp only [List.length_nil]; omega), if_neg (by simp only [List.length_nil]; omega)]
  · rw [if_neg h2, nx_end (by omega), if_neg (by simp; omega)]
theorem sp_nl (l : List Int) (line col n c : Int) (a : Nat) (h : a < l.length) (h' : rd l (a : Int) = 10) (hn : ¬ (n = line ∧ c = col)) : sp l line col a n c = sp l line col (a + 1) (n + 1) 1 := by
  unfold sp
  by_cases h1 : line < n
  · rw [if_pos h1, if_pos (by omega)]
  rw [if_neg h1]
  by_cases h2 : line = n
  · rw [if_pos h2, if_pos (by omega), G, ch_nl h h', end_nl h h', if_neg (by simp; omega), if_neg (by omega)]
  · rw [if_neg h2, if_neg (by omega), H, nx_nl h h']
    by_cases h3 : line = n + 1
    · rw [if_pos h3, if_pos (by simp; omega), show (line - n - 1).toNat = 0 by omega]
      rfl
    · rw [if_neg h3, H]
      by_cases h4 : line - (n + 1) ≤ (nx l (a + 1)).length
      · rw [if_pos h4, if_pos (by simp; omega)]
        congr 1
        rw [show (line - n - 1).toNat = (line - (n + 1) - 1).toNat + 1 by omega]
        rfl
      · rw [if_neg h4, if_neg (by simp; omega)]
theorem sp_on (l : List Int) (line col n c : Int) (a : Nat) (h : a < l.length) (h' : ¬ rd l (a : Int) = 10) (hn : ¬ (n = line ∧ c = col)) :
    sp l line col a n c = sp l line col (a + (chl l (a : Int)).toNat) n (c + 1) := by
  have he := over_char (fun b => endOf l b) (fun b hb hb' => end_step hb hb') h h'
  have hx := over_char (fun b => nx l b) (fun b hb hb' => nx_step hb hb') h h'
  unfold sp
  by_cases h1 : line < n
  · rw [if_pos h1, if_pos h1]
  rw [if_neg h1, if_neg h1]
  by_cases h2 : line = n
  · rw [if_pos h2, if_pos h2, G, G, ch_on h h', he]
    simp only [List.length_cons]
    by_cases h3 : c ≤ col ∧ col - c < (((ch l (a + (chl l (a : Int)).toNat)).length + 1 : Nat) : Int)
    · rw [if_pos h3, if_pos (by omega), show (col - c).toNat = (col - (c + 1)).toNat + 1 by omega]
      rfl
    · rw [if_neg h3, if_neg (c := c + 1 ≤ col ∧ _) (by omega)]
      by_cases h4 : endOf l (a + (chl l (a : Int)).toNat) = l.length ∧ c + 1 + (ch l (a + (chl l (a : Int)).toNat)).length = col
      · rw [if_pos h4, if_pos ⟨h4.1, by omega⟩]
      · rw [if_neg h4, if_neg (by omega)]
  · rw [if_neg h2, if_neg h2, H, H, hx]

theorem spec_off (l : List Int) (hB : Byt l) (hm : l.length < 281474976710657) (line col : Int) : ∀ (d k a : Nat) (n c : Int), a ≤ l.length → l.length - a ≤ d → 2 * d + 25 ≤ k → 1 ≤ n → n ≤ a + 1 → 1 ≤ c → c ≤ a + 1 →
    spec_OffsetOf.l0 k l line col n c (a : Int) = some (sp l line col a n c) := by
  intro d
  induction d with
  | zero =>
    intro k a n c ha hd hk _ _ _ _
    obtain ⟨k, rfl⟩ : ∃ m, k = m + 2 := ⟨k - 2, by omega⟩
    obtain rfl : a = l.length := by omega
    rw [spec_OffsetOf.l0]
    by_cases h1 : n = line
    · rw [if_pos h1, spec_OffsetOf.j1]
      by_cases h2 : c = col
      · subst h1 h2
        rw [if_neg (by simp), sp_hit l c n l.length (Nat.le_refl _)]
      · rw [if_pos (by simpa using h2), if_pos rfl, sp_last l line col n c (by omega)]
    · rw [if_neg h1, spec_OffsetOf.j1, if_pos rfl, if_pos rfl, sp_last l line col n c (by omega)]
  | succ d ih =>
    intro k a n c ha hd hk hn1 hn2 hc1 hc2
    by_cases hlt : a < l.length
    · obtain ⟨k, rfl⟩ : ∃ m, k = m + 22 := ⟨k - 22, by omega⟩
      have hp := chl_pos hlt
      have e : ¬ (n = line ∧ c = col) → spec_OffsetOf.j1 (k + 21) l line col n c (a : Int) true = some (sp l line col a n c) := by
        intro hne
        rw [spec_OffsetOf.j1, if_pos rfl, if_neg (by omega), if_pos (by omega), if_pos (by omega)]
        by_cases h10 : rd l (a : Int) = 10
        · rw [if_pos h10, spec_charlen hB hm, Option.bind_some, chl_nl hlt h10, wid (x := n + 1) (by omega) (by omega), wid (x := (a : Int) + 1) (by omega) (by omega)]
          have := ih (k + 20) (a + 1) (n + 1) 1 (by omega) (by omega) (by omega) (by omega) (by omega) (by omega) (by omega)
          rw [show (((a + 1 : Nat)) : Int) = (a : Int) + 1 by omega] at this
          rw [this, sp_nl l line col n c a hlt h10 hne]
        · rw [if_neg h10, spec_charlen hB hm, Option.bind_some, wid (x := c + 1) (by omega) (by omega), wid (x := (a : Int) + chl l a) (by omega) (by omega)]
          have := ih (k + 20) (a + (chl l (a : Int)).toNat) n (c + 1) (by omega) (by omega) (by omega) (by omega) (by omega) (by omega) (by omega)
          rw [show (((a + (chl l (a : Int)).toNat : Nat)) : Int) = (a : Int) + chl l a by omega] at this
          rw [this, sp_on l line col n c a hlt h10 hne]
      rw [spec_OffsetOf.l0]
      by_cases h1 : n = line
      · rw [if_pos h1]
        by_cases h2 : c = col
        · subst h1 h2
          rw [spec_OffsetOf.j1, if_neg (by simp), sp_hit l c n a ha]
        · rw [show (c != col) = true by simpa using h2]
          exact e (by omega)
      · rw [if_neg h1]
        exact e (by omega)
    · exact ih k a n c ha (by omega) (by omega) hn1 hn2 hc1 hc2

theorem sp_start (l : List Int) (line col : Int) : sp l line col 0 1 1 = offOf l line col := by
  unfold sp offOf
  rw [upS_all]
  have hg : ∀ s, G l col s 1 = offIn l s col := by
    intro s
    unfold G offIn ch
    by_cases h : 1 ≤ col ∧ col ≤ (chF l (l.length + 1) s).length
    · rw [if_pos h, if_pos (by omega)]
    · rw [if_neg h, if_neg (by omega)]
      by_cases h2 : endOf l s = l.length ∧ ((chF l (l.length + 1) s).length : Int) + 1 = col
      · rw [if_pos h2, if_pos ⟨h2.1, by omega⟩]
      · rw [if_neg h2, if_neg (fun x => h2 ⟨x.1, by omega⟩)]
  by_cases h1 : line < 1
  · rw [if_pos h1, if_neg (by omega)]
  rw [if_neg h1]
  by_cases h2 : line = 1
  · subst h2
    rw [if_pos rfl, if_pos (by simp; omega), hg]
    rfl
  · rw [if_neg h2, H]
    by_cases h3 : line - 1 ≤ (nx l 0).length
    · rw [if_pos h3, if_pos (by simp; omega), hg]
      congr 1
      rw [show (line - 1).toNat = (line - 1 - 1).toNat + 1 by omega]
      rfl
    · rw [if_neg h3, if_neg (by simp; omega)]

theorem spec_offset {l : List Int} (hB : Byt l) (hm : l.length < 281474976710657) (line col : Int) (k : Nat) (hk : 2 * l.length + 25 ≤ k) : spec_OffsetOf.f k l line col = some (offOf l line col) := by
  rw [spec_OffsetOf.f, ← sp_start]
  exact spec_off l hB hm line col l.length k 0 1 1 (by omega) (by omega) hk (by omega) (by omega) (by omega) (by omega)
end Go.Proofs.Ytahfkfdjhpookaa.Txt

