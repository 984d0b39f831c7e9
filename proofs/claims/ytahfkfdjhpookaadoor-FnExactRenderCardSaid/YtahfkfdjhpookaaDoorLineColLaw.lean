/- LineCol: the program's closed form is what the reference answers; and OffsetOf of LineCol is the offset where a character begins; for every text of bytes. -/
import Derived.Test.YtahfkfdjhpookaaDoorTextLineCol
import Derived.Test.YtahfkfdjhpookaaDoorPAllx3
import Derived.Test.YtahfkfdjhpookaaDoorPAllx1
import Derived.Test.YtahfkfdjhpookaaDoorCharLaw
namespace Go.Proofs.YtahfkfdjhpookaaDoor.Txt
open Go.RowKit Go.Proofs.YtahfkfdjhpookaaDoorW.PrintWords Go.Proofs.YtahfkfdjhpookaaDoorW.PrintLast
open Go.Proofs.YtahfkfdjhpookaaDoor.PAll

theorem upS_bound (l : List Int) (i : Nat) : ∀ s ∈ upS l i, s ≤ i := by
  intro s hs
  unfold upS at hs
  simp only [List.mem_cons, List.mem_map, List.mem_filter, List.mem_range] at hs
  rcases hs with rfl | ⟨j, ⟨hj, _⟩, rfl⟩ <;> omega
theorem nxF_bound (l : List Int) : ∀ (f a : Nat), ∀ s ∈ nxF l f a, a < s
  | 0, _, s, h => by cases h
  | f + 1, a, s, h => by
    rw [nxF] at h
    split at h
    · split at h
      · rcases List.mem_cons.1 h with rfl | h
        · omega
        · have := nxF_bound l f (a + 1) s h; omega
      · have := nxF_bound l f (a + 1) s h; omega
    · cases h
theorem takeWhile_split {p : Nat → Bool} : ∀ {xs ys : List Nat}, (∀ x ∈ xs, p x = true) → (∀ y ∈ ys, p y = false) → (xs ++ ys).takeWhile p = xs
  | [], [], _, _ => rfl
  | [], y :: ys, _, h => by rw [List.nil_append, List.takeWhile_cons, if_neg (by simp [h y (by simp)])]
  | x :: xs, ys, h, h' => by rw [List.cons_append, List.takeWhile_cons, if_pos (h x (by simp)), takeWhile_split (fun z hz => h z (by simp [hz])) h']
theorem plc_eq (l : List Int) (o : Nat) (h : o ≤ l.length) : plc l (o : Int) = upS l o := by
  rw [plc, ← upS_nx l (l.length - o) o (by omega)]
  refine takeWhile_split (fun s hs => ?_) (fun s hs => ?_)
  · have := upS_bound l o s hs; simp; omega
  · have := nxF_bound l _ o s hs; simp; omega

/-- the beginning of an offset's line -/
def st (l : List Int) (o : Nat) : Nat := (upS l o).getLastD 0
theorem st_zero (l : List Int) : st l 0 = 0 := rfl
theorem st_yes {l : List Int} {i : Nat} (h : rd l (i : Int) = 10) : st l (i + 1) = i + 1 := by rw [st, upS_yes h, List.getLastD_concat]
theorem st_no {l : List Int} {i : Nat} (h : ¬ rd l (i : Int) = 10) : st l (i + 1) = st l i := by rw [st, upS_no h, st]
theorem st_le (l : List Int) : ∀ o, st l o ≤ o
  | 0 => by rw [st_zero]; omega
  | o + 1 => by
    by_cases h : rd l (o : Int) = 10
    · rw [st_yes h]; omega
    · rw [st_no h]; have := st_le l o; omega
/-- no newline from the line's beginning on -/
theorem st_clear (l : List Int) : ∀ o j, st l o ≤ j → j < o → ¬ rd l (j : Int) = 10
  | 0, j, _, h => by omega
  | o + 1, j, h1, h2 => by
    by_cases h : rd l (o : Int) = 10
    · rw [st_yes h] at h1; omega
    · rw [st_no h] at h1
      by_cases e : j = o
      · subst e; exact h
      · exact st_clear l o j h1 (by omega)

theorem ls_loop (l : List Int) (hm : l.length < 281474976710657) (o : Nat) (ho : o ≤ l.length) : ∀ (d k i : Nat), i + d = o → d < k → spec_l1lineStart.l0 k l (o : Int) (st l i : Int) (i : Int) = some (st l o : Int)
  | 0, 0, _, _, h => by omega
  | 0, k + 1, i, h, _ => by rw [spec_l1lineStart.l0, if_neg (by omega), show i = o by omega]
  | d + 1, 0, _, _, h => by omega
  | d + 1, k + 1, i, h, hk => by
    rw [spec_l1lineStart.l0, if_pos (by omega), if_pos (by omega), if_pos (by omega), wid (x := (i : Int) + 1) (by omega) (by omega)]
    have := ls_loop l hm o ho d k (i + 1) (by omega) (by omega)
    by_cases c : rd l (i : Int) = 10
    · rw [if_pos c]
      rw [st_yes c] at this
      exact this
    · rw [if_neg c]
      rw [st_no c] at this
      exact this
theorem line_start (l : List Int) (hm : l.length < 281474976710657) (o : Nat) (ho : o ≤ l.length) (k : Nat) (hk : l.length < k) : spec_l1lineStart.f k l (o : Int) = some (st l o : Int) :=
  ls_loop l hm o ho o k 0 (by omega) (by omega)

/-- the characters that begin ahead of o -/
def tw (o : Nat) (xs : List Nat) : List Nat := xs.takeWhile (fun s : Nat => decide ((s : Int) < (o : Int)))
theorem tw_cons (o x : Nat) (xs : List Nat) (h : x < o) : tw o (x :: xs) = x :: tw o xs := by rw [tw, List.takeWhile_cons, if_pos (by simp; omega), tw]
theorem tw_none (o x : Nat) (xs : List Nat) (h : ¬ x < o) : tw o (x :: xs) = [] := by rw [tw, List.takeWhile_cons, if_neg (by simp; omega)]
theorem tw_ch (l : List Int) (o a : Nat) (h : o ≤ a) : tw o (ch l a) = [] := by
  by_cases c : a < l.length
  · by_cases d : rd l (a : Int) = 10
    · rw [ch_nl c d, tw_none _ _ _ (by omega)]
    · rw [ch_on c d, tw_none _ _ _ (by omega)]
  · rw [ch_end c]; rfl
theorem col_loop (l : List Int) (hB : Byt l) (hm : l.length < 281474976710657) (o : Nat) (ho : o ≤ l.length) (line : Int) : ∀ (d k i : Nat) (c : Int), o ≤ i + d → d + 25 ≤ k → 0 ≤ c → c ≤ i + 1 → (∀ j, i ≤ j → j < o → ¬ rd l (j : Int) = 10) →
    spec_LineCol.l1 k l (o : Int) line c (i : Int) = some (line, c + ((tw o (ch l i)).length : Int))
  | d, k, i, c, h, hk, hc0, hc1, hn => by
    obtain ⟨k, rfl⟩ : ∃ m, k = m + 1 := ⟨k - 1, by omega⟩
    by_cases e : i < o
    · cases d with
      | zero => omega
      | succ d =>
        obtain ⟨k, rfl⟩ : ∃ m, k = m + 20 := ⟨k - 20, by omega⟩
        have hp := chl_pos (show i < l.length by omega)
        rw [spec_LineCol.l1, if_pos (by omega), spec_charlen hB hm, Option.bind_some, wid (x := c + 1) (by omega) (by omega), wid (x := (i : Int) + chl l i) (by omega) (by omega)]
        have := col_loop l hB hm o ho line d (k + 20) (i + (chl l (i : Int)).toNat) (c + 1) (by omega) (by omega) (by omega) (by omega) (fun j h1 h2 => hn j (by omega) h2)
        rw [show ((i + (chl l (i : Int)).toNat : Nat) : Int) = (i : Int) + chl l i by omega] at this
        rw [this, ch_on (by omega) (hn i (Nat.le_refl _) e), tw_cons _ _ _ e, List.length_cons]
        congr 2
        omega
    · rw [spec_LineCol.l1, if_neg (by omega), tw_ch l o i (by omega)]
      simp

theorem line_loop (l : List Int) (hB : Byt l) (hm : l.length < 281474976710657) (o : Nat) (ho : o ≤ l.length) : ∀ (d k i : Nat), i + d = o → d + l.length + 40 ≤ k →
    spec_LineCol.l0 k l (o : Int) ((upS l i).length : Int) (i : Int) = some (((upS l o).length : Int), 1 + ((tw o (ch l (st l o))).length : Int))
  | 0, k, i, h, hk => by
    obtain ⟨k, rfl⟩ : ∃ m, k = m + 1 := ⟨k - 1, by omega⟩
    obtain rfl : i = o := by omega
    rw [spec_LineCol.l0, if_neg (by omega), line_start l hm i ho k (by omega), Option.bind_some]
    have hs := st_le l i
    exact col_loop l hB hm i ho _ i k (st l i) 1 (by omega) (by omega) (by omega) (by omega) (fun j h1 h2 => st_clear l i j h1 h2)
  | d + 1, k, i, h, hk => by
    obtain ⟨k, rfl⟩ : ∃ m, k = m + 1 := ⟨k - 1, by omega⟩
    have hu := upS_size l i
    rw [spec_LineCol.l0, if_pos (by omega), if_pos (by omega), if_pos (by omega), wid (x := (i : Int) + 1) (by omega) (by omega), wid (x := ((upS l i).length : Int) + 1) (by omega) (by omega)]
    have := line_loop l hB hm o ho d k (i + 1) (by omega) (by omega)
    by_cases c : rd l (i : Int) = 10
    · rw [if_pos c]
      rw [upS_yes c, List.length_append, List.length_singleton] at this
      exact this
    · rw [if_neg c]
      rw [upS_no c] at this
      exact this

theorem lcol_in (l : List Int) (o : Nat) (ho : o ≤ l.length) : lcol l (o : Int) = (((upS l o).length : Int), 1 + ((tw o (ch l (st l o))).length : Int)) := by
  rw [lcol, if_neg (by omega), cols, plc_eq l o ho]
  congr 1
  rw [Int.add_comm]
  rfl

theorem spec_linecol {l : List Int} (hB : Byt l) (hm : l.length < 281474976710657) (off : Int) (k : Nat) (hk : 2 * l.length + 45 ≤ k) : spec_LineCol.f k l off = some (lcol l off) := by
  obtain ⟨k, rfl⟩ : ∃ m, k = m + 1 := ⟨k - 1, by omega⟩
  rw [spec_LineCol.f]
  by_cases h0 : off < 0
  · rw [if_pos h0, spec_LineCol.j0, if_pos rfl, lcol, if_pos (.inl h0)]
  rw [if_neg h0, spec_LineCol.j0]
  by_cases h1 : off > (l.length : Int)
  · rw [if_pos (by simpa using h1), lcol, if_pos (.inr h1)]
  · rw [if_neg (by simpa using h1)]
    obtain ⟨o, rfl⟩ : ∃ o : Nat, off = o := ⟨off.toNat, by omega⟩
    rw [lcol_in l o (by omega)]
    exact line_loop l hB hm o (by omega) o k 0 (by omega) (by omega)

end Go.Proofs.YtahfkfdjhpookaaDoor.Txt
