/- Render of the reference: what it answers, as a plain function. -/
import Derived.Lib.ItoaLen
import Derived.Test.YtahfkfdjhpookaaDoorLineColLaw
import Derived.Test.YtahfkfdjhpookaaDoorOwnM
import Derived.Test.YtahfkfdjhpookaaDoorPAllx3
import Derived.Test.YtahfkfdjhpookaaDoorPAllx1
namespace Go.Proofs.YtahfkfdjhpookaaDoor.Txt
open Go.RowKit Go.Proofs.YtahfkfdjhpookaaDoorW.PrintWords Go.Proofs.YtahfkfdjhpookaaDoorW.PrintLast Go.Proofs.YtahfkfdjhpookaaDoorW.PrintMore
open Go.Proofs.YtahfkfdjhpookaaDoor.PAll Go.Proofs.YtahfkfdjhpookaaDoor.OwnM
set_option linter.unusedVariables false
set_option linter.unusedSimpArgs false

/-- a byte's number -/
def bI (s : List UInt8) : List Int := s.map fun b => (b.toNat : Int)
theorem bI_length (s : List UInt8) : (bI s).length = s.length := by simp [bI]
theorem strCells_bI (s : List UInt8) : Lib.strCells ⟨s.toArray⟩ = nums .u8 (bI s) := by simp [Lib.strCells, nums, bI]
theorem nums_one (k : IntKind) (x : Int) : nums k [x] = [.int k x] := rfl
theorem nums_cell {k : IntKind} {xs : List Int} : ∀ u ∈ nums k xs, u.oneCell' = true := by
  intro u hu
  obtain ⟨x, _, rfl⟩ := List.mem_map.1 hu
  rfl

theorem src_of {w : World} {A : Option Addr} {xs : List Int} {k : IntKind} (h : Kd.C (Kd.int k) w A xs.length xs) : Src w A (nums k xs) := by
  intro j u hu
  have hj : j < xs.length := by
    have := (List.getElem?_eq_some_iff.1 hu).1
    simpa [nums] using this
  obtain ⟨ad, e, hc⟩ := Kd.at_int h (j : Int) (by omega) (by omega)
  refine ⟨ad, e, ?_⟩
  have : u = .int k (rd xs (j : Int)) := by
    simp only [nums, List.getElem?_map, List.getElem?_eq_getElem hj, Option.map_some, Option.some.injEq] at hu
    rw [← hu, rd]
    simp [List.getD_eq_getElem?_getD, hj]
  rw [this]
  simpa using hc

/-! ### decimals -/
theorem dec_le (n : Int) (h0 : 0 ≤ n) (h1 : n ≤ 9223372036854775807) : (Lib.decDigits n.toNat).length ≤ 21 := by
  have := Lib.itoa_length_le n (by omega) h1
  unfold Lib.itoa at this
  rwa [if_neg (by omega)] at this

theorem dec_one (n : Nat) (h : n < 10) : ((⟨#[48, 49, 50, 51, 52, 53, 54, 55, 56, 57]⟩ : ByteArray).extract n (n + 1)) = ⟨(Lib.decDigits n).toArray⟩ := by
  rw [Lib.decDigits, dif_pos h]
  match n, h with
  | 0, _ => decide
  | 1, _ => decide
  | 2, _ => decide
  | 3, _ => decide
  | 4, _ => decide
  | 5, _ => decide
  | 6, _ => decide
  | 7, _ => decide
  | 8, _ => decide
  | 9, _ => decide

theorem l1dec_f : ∀ (d n k : Nat), n ≤ d → n < 281474976710657 → d + 2 ≤ k → spec_l1dec.f k (n : Int) = some ⟨(Lib.decDigits n).toArray⟩
  | d, n, 0, _, _, h => by omega
  | d, n, k + 1, hd, hn, hk => by
    rw [spec_l1dec.f]
    by_cases c : n < 10
    · rw [if_pos (by omega), if_pos (by omega), wid (x := (n : Int) + 1) (by omega) (by omega), if_pos (by omega), if_pos (by omega)]
      have e1 : ((n : Int)).toNat = n := by omega
      have e2 : ((n : Int) + 1).toNat = n + 1 := by omega
      rw [e1, e2, dec_one n c]
    · rw [if_neg (by omega)]
      have q : Int.tdiv (n : Int) 10 = ((n / 10 : Nat) : Int) := by rw [Int.tdiv_eq_ediv_of_nonneg (by omega)]; omega
      have m : Int.tmod (n : Int) 10 = ((n % 10 : Nat) : Int) := by rw [Int.tmod_eq_emod_of_nonneg (by omega)]; omega
      rw [q, m, wid (x := ((n / 10 : Nat) : Int)) (by omega) (by omega)]
      obtain ⟨d, rfl⟩ : ∃ d', d = d' + 1 := ⟨d - 1, by omega⟩
      rw [l1dec_f d (n / 10) k (by omega) (by omega) (by omega), l1dec_f d (n % 10) k (by omega) (by omega) (by omega)]
      have l1 := dec_le ((n / 10 : Nat) : Int) (by omega) (by omega)
      have l2 := dec_le ((n % 10 : Nat) : Int) (by omega) (by omega)
      rw [Int.toNat_natCast] at l1 l2
      have s1 : (⟨(Lib.decDigits (n / 10)).toArray⟩ : ByteArray).size = (Lib.decDigits (n / 10)).length := by simp [ByteArray.size]
      have s2 : (⟨(Lib.decDigits (n % 10)).toArray⟩ : ByteArray).size = (Lib.decDigits (n % 10)).length := by simp [ByteArray.size]
      simp only [Option.bind_some]
      rw [if_pos (by rw [s1, s2]; omega)]
      have e1 : Lib.decDigits n = Lib.decDigits (n / 10) ++ [UInt8.ofNat (48 + n % 10)] := by
        conv => lhs; rw [Lib.decDigits]
        rw [dif_neg c]
      have e2 : Lib.decDigits (n % 10) = [UInt8.ofNat (48 + n % 10)] := by
        rw [Lib.decDigits, dif_pos (by omega)]
      rw [e1, e2]
      first
        | done
        | (congr 1; done)
        | (congr 1; apply ByteArray.ext; simp [ByteArray.data_append])

/-! ### what Render answers -/
/-- the bytes of l from s to e -/
def seg (l : List Int) (s e : Nat) : List Int := (l.drop s).take (e - s)
def decI (n : Int) : List Int := bI (Lib.decDigits n.toNat)
/-- what stands ahead of the text's line -/
def rend0 (l : List Int) (off : Int) : List Int := decI (lcol l off).1 ++ [58] ++ decI (lcol l off).2 ++ [58, 32]
def rendF (l : List Int) (off : Int) (m : List Int) : List Int :=
  if off < 0 ∨ (l.length : Int) < off then [] else
  rend0 l off ++ m ++ [10] ++ seg l (st l off.toNat) (endOf l (st l off.toNat)) ++ [10] ++ List.replicate ((lcol l off).2 - 1).toNat 32 ++ [94, 10]

theorem seg_nil (l : List Int) (s : Nat) : seg l s s = [] := by simp [seg]
theorem seg_next (l : List Int) (s e : Nat) (h : s ≤ e) (he : e < l.length) : seg l s (e + 1) = seg l s e ++ [rd l (e : Int)] := by
  unfold seg
  have h1 : e + 1 - s = (e - s) + 1 := by omega
  rw [h1, List.take_add_one]
  congr 1
  rw [List.getElem?_drop]
  have h2 : s + (e - s) = e := by omega
  rw [h2, List.getElem?_eq_getElem he, rd]
  simp [List.getD_eq_getElem?_getD, he]
theorem seg_length (l : List Int) (s e : Nat) : (seg l s e).length ≤ l.length := by simp [seg]; omega
end Go.Proofs.YtahfkfdjhpookaaDoor.Txt
