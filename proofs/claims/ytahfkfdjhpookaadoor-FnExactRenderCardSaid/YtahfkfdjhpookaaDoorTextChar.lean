/- CharLen, of the program and of the reference, in closed form, for every text of bytes and every offset; copies and comparisons of lists of bytes. -/
import Derived.Test.YtahfkfdjhpookaaDoorPAllx3
import Derived.Test.YtahfkfdjhpookaaDoorPAllx5
import Derived.Test.YtahfkfdjhpookaaDoorPAllx4
namespace Go.Proofs.YtahfkfdjhpookaaDoor.Txt
open Go.RowKit Go.Proofs.YtahfkfdjhpookaaDoor.PAll Go.Proofs.YtahfkfdjhpookaaDoorW.PrintWords Go.Proofs.YtahfkfdjhpookaaDoorW.PrintLast

theorem wid {x : Int} (h0 : -9223372036854775808 ≤ x) (h1 : x < 9223372036854775808) : wrap64 x = x := by
  unfold wrap64; omega

def Byt (l : List Int) : Prop := ∀ i : Int, 0 ≤ rd l i ∧ rd l i ≤ 255

theorem byt_of {l : List Int} (h : ∀ x ∈ l, (Lit.int .u8 x).wf = true) : Byt l := by
  intro i
  unfold rd
  by_cases hi : i.toNat < l.length
  · have := h (l[i.toNat]) (List.getElem_mem hi)
    have e0 : IntKind.u8.min = 0 := by decide
    have e1 : IntKind.u8.max = 255 := by decide
    simp [Lit.wf, e0, e1] at this
    simp [List.getD_eq_getElem?_getD, hi]
    omega
  · simp [List.getD_eq_getElem?_getD, List.getElem?_eq_none (Nat.le_of_not_lt hi)]

/-- l1value's loop, one round -/
theorem vstep {l : List Int} (hB : Byt l) {a n v i : Int} (k : Nat) (ha : 0 ≤ a) (hn : n ≤ 4) (hl : a + n ≤ l.length) (hm : l.length < 281474976710657) (hi : 1 ≤ i) (hin : i < n)
    (hv0 : 0 ≤ v) (hv1 : v < 1048576) :
    spec_l1value.l0 (k + 1) l a n v i = if rd l (a + i) / 64 = 2 then spec_l1value.l0 k l a n (v * 64 + rd l (a + i) % 64) (i + 1) else some (-1) := by
  have hb := hB (a + i)
  rw [spec_l1value.l0, if_pos hin, wid (x := a + i) (by omega) (by omega), if_pos (by omega), if_pos (by omega), wid (x := rd l (a + i)) (by omega) (by omega),
    Int.tdiv_eq_ediv_of_nonneg hb.1, Int.tmod_eq_emod_of_nonneg hb.1, wid (x := rd l (a + i) / 64) (by omega) (by omega), wid (x := v * 64) (by omega) (by omega),
    wid (x := v * 64 + rd l (a + i) % 64) (by omega) (by omega), wid (x := i + 1) (by omega) (by omega)]

theorem vend {l : List Int} {a n v : Int} (k : Nat) : spec_l1value.l0 (k + 1) l a n v n = some v := by
  rw [spec_l1value.l0, if_neg (by omega)]

/-- l1value for two, three and four bytes -/
def V2 (l : List Int) (a : Int) : Int := if rd l a / 32 = 6 ∧ rd l (a + 1) / 64 = 2 then rd l a % 32 * 64 + rd l (a + 1) % 64 else -1
def V3 (l : List Int) (a : Int) : Int := if rd l a / 16 = 14 ∧ rd l (a + 1) / 64 = 2 ∧ rd l (a + 2) / 64 = 2 then (rd l a % 16 * 64 + rd l (a + 1) % 64) * 64 + rd l (a + 2) % 64 else -1
def V4 (l : List Int) (a : Int) : Int := if rd l a / 8 = 30 ∧ rd l (a + 1) / 64 = 2 ∧ rd l (a + 2) / 64 = 2 ∧ rd l (a + 3) / 64 = 2 then ((rd l a % 8 * 64 + rd l (a + 1) % 64) * 64 + rd l (a + 2) % 64) * 64 + rd l (a + 3) % 64 else -1

theorem vout {l : List Int} {a n : Int} (k : Nat) (ha : 0 ≤ a) (hal : a < l.length) (hm : l.length < 281474976710657) (hn : 0 ≤ n) (hn4 : n ≤ 4) (h : (l.length : Int) < a + n) : spec_l1value.f k l a n = some (-1) := by
  rw [spec_l1value.f, wid (by omega) (by omega), if_pos h]

theorem v2 {l : List Int} (hB : Byt l) {a : Int} (ha : 0 ≤ a) (hl : a + 2 ≤ l.length) (hm : l.length < 281474976710657) (k : Nat) : spec_l1value.f (k + 10) l a 2 = some (V2 l a) := by
  have hb := hB a
  have hb1 := hB (a + 1)
  rw [spec_l1value.f, wid (x := a + 2) (by omega) (by omega), if_neg (by omega), if_pos ha, if_pos (by omega), if_pos rfl, wid (x := rd l a) (by omega) (by omega)]
  rw [Int.tdiv_eq_ediv_of_nonneg hb.1, wid (x := rd l a / 32) (by omega) (by omega)]
  unfold V2
  by_cases c : rd l a / 32 = 6
  · rw [spec_l1value.j0, if_pos (by simp [c]), Int.tmod_eq_emod_of_nonneg hb.1, spec_l1value.j1, if_neg (by decide), spec_l1value.j2, if_neg (by decide), spec_l1value.j3, if_neg (by decide),
      spec_l1value.j4, if_neg (by decide), spec_l1value.j5, if_neg (by omega), vstep hB _ ha (by decide) hl hm (by decide) (by decide) (by omega) (by omega)]
    by_cases c1 : rd l (a + 1) / 64 = 2
    · rw [if_pos c1, show (1 : Int) + 1 = 2 from rfl, vend, if_pos ⟨c, c1⟩]
    · rw [if_neg c1, if_neg (fun h => c1 h.2)]
  · rw [spec_l1value.j0, if_neg (by simp [c]), spec_l1value.j1, if_neg (by decide), spec_l1value.j2, if_neg (by decide), spec_l1value.j3, if_neg (by decide),
      spec_l1value.j4, if_neg (by decide), spec_l1value.j5, if_pos (by decide), if_neg (fun h => c h.1)]

theorem v3 {l : List Int} (hB : Byt l) {a : Int} (ha : 0 ≤ a) (hl : a + 3 ≤ l.length) (hm : l.length < 281474976710657) (k : Nat) : spec_l1value.f (k + 10) l a 3 = some (V3 l a) := by
  have hb := hB a
  have hb1 := hB (a + 1)
  have hb2 := hB (a + 2)
  rw [spec_l1value.f, wid (x := a + 3) (by omega) (by omega), if_neg (by omega), if_pos ha, if_pos (by omega), if_neg (by decide), wid (x := rd l a) (by omega) (by omega)]
  rw [spec_l1value.j0, if_neg (by decide), spec_l1value.j1, if_pos rfl, Int.tdiv_eq_ediv_of_nonneg hb.1, wid (x := rd l a / 16) (by omega) (by omega)]
  unfold V3
  by_cases c : rd l a / 16 = 14
  · rw [spec_l1value.j2, if_pos (by simp [c]), Int.tmod_eq_emod_of_nonneg hb.1, spec_l1value.j3, if_neg (by decide),
      spec_l1value.j4, if_neg (by decide), spec_l1value.j5, if_neg (by omega), vstep hB _ ha (by decide) hl hm (by decide) (by decide) (by omega) (by omega)]
    by_cases c1 : rd l (a + 1) / 64 = 2
    · rw [if_pos c1, show (1 : Int) + 1 = 2 from rfl, vstep hB _ ha (by decide) hl hm (by decide) (by decide) (by omega) (by omega)]
      by_cases c2 : rd l (a + 2) / 64 = 2
      · rw [if_pos c2, show (2 : Int) + 1 = 3 from rfl, vend, if_pos ⟨c, c1, c2⟩]
      · rw [if_neg c2, if_neg (fun h => c2 h.2.2)]
    · rw [if_neg c1, if_neg (fun h => c1 h.2.1)]
  · rw [spec_l1value.j2, if_neg (by simp [c]), spec_l1value.j3, if_neg (by decide),
      spec_l1value.j4, if_neg (by decide), spec_l1value.j5, if_pos (by decide), if_neg (fun h => c h.1)]

theorem v4 {l : List Int} (hB : Byt l) {a : Int} (ha : 0 ≤ a) (hl : a + 4 ≤ l.length) (hm : l.length < 281474976710657) (k : Nat) : spec_l1value.f (k + 10) l a 4 = some (V4 l a) := by
  have hb := hB a
  have hb1 := hB (a + 1)
  have hb2 := hB (a + 2)
  have hb3 := hB (a + 3)
  rw [spec_l1value.f, wid (x := a + 4) (by omega) (by omega), if_neg (by omega), if_pos ha, if_pos (by omega), if_neg (by decide), wid (x := rd l a) (by omega) (by omega)]
  rw [spec_l1value.j0, if_neg (by decide), spec_l1value.j1, if_neg (by decide), spec_l1value.j2, if_neg (by decide), spec_l1value.j3, if_pos rfl, Int.tdiv_eq_ediv_of_nonneg hb.1, wid (x := rd l a / 8) (by omega) (by omega)]
  unfold V4
  by_cases c : rd l a / 8 = 30
  · rw [spec_l1value.j4, if_pos (by simp [c]), Int.tmod_eq_emod_of_nonneg hb.1, spec_l1value.j5, if_neg (by omega), vstep hB _ ha (by decide) hl hm (by decide) (by decide) (by omega) (by omega)]
    by_cases c1 : rd l (a + 1) / 64 = 2
    · rw [if_pos c1, show (1 : Int) + 1 = 2 from rfl, vstep hB _ ha (by decide) hl hm (by decide) (by decide) (by omega) (by omega)]
      by_cases c2 : rd l (a + 2) / 64 = 2
      · rw [if_pos c2, show (2 : Int) + 1 = 3 from rfl, vstep hB _ ha (by decide) hl hm (by decide) (by decide) (by omega) (by omega)]
        by_cases c3 : rd l (a + 3) / 64 = 2
        · rw [if_pos c3, show (3 : Int) + 1 = 4 from rfl, vend, if_pos ⟨c, c1, c2, c3⟩]
        · rw [if_neg c3, if_neg (fun h => c3 h.2.2.2)]
      · rw [if_neg c2, if_neg (fun h => c2 h.2.2.1)]
    · rw [if_neg c1, if_neg (fun h => c1 h.2.1)]
  · rw [spec_l1value.j4, if_neg (by simp [c]), spec_l1value.j5, if_pos (by decide), if_neg (fun h => c h.1)]

/-- the reference's answer in closed form: a valid character of n bytes stands at a -/
def R2 (l : List Int) (a : Int) : Prop := a + 2 ≤ l.length ∧ 194 ≤ rd l a ∧ rd l a ≤ 223 ∧ 128 ≤ rd l (a + 1) ∧ rd l (a + 1) ≤ 191
def R3 (l : List Int) (a : Int) : Prop := a + 3 ≤ l.length ∧ 224 ≤ rd l a ∧ rd l a ≤ 239 ∧ 128 ≤ rd l (a + 1) ∧ rd l (a + 1) ≤ 191 ∧ 128 ≤ rd l (a + 2) ∧ rd l (a + 2) ≤ 191 ∧
  (rd l a = 224 → 160 ≤ rd l (a + 1)) ∧ (rd l a = 237 → rd l (a + 1) ≤ 159)
def R4 (l : List Int) (a : Int) : Prop := a + 4 ≤ l.length ∧ 240 ≤ rd l a ∧ rd l a ≤ 244 ∧ 128 ≤ rd l (a + 1) ∧ rd l (a + 1) ≤ 191 ∧ 128 ≤ rd l (a + 2) ∧ rd l (a + 2) ≤ 191 ∧ 128 ≤ rd l (a + 3) ∧ rd l (a + 3) ≤ 191 ∧
  (rd l a = 240 → 144 ≤ rd l (a + 1)) ∧ (rd l a = 244 → rd l (a + 1) ≤ 143)
instance (l : List Int) (a : Int) : Decidable (R2 l a) := by unfold R2; infer_instance
instance (l : List Int) (a : Int) : Decidable (R3 l a) := by unfold R3; infer_instance
instance (l : List Int) (a : Int) : Decidable (R4 l a) := by unfold R4; infer_instance

/-- how many bytes the character has that begins at an offset -/
def chl (l : List Int) (a : Int) : Int :=
  if a < 0 ∨ (l.length : Int) ≤ a then 0 else if R2 l a then 2 else if R3 l a then 3 else if R4 l a then 4 else 1

theorem good2 (v : Int) : spec_l1good.f v 2 = some (decide (v ≥ 128)) := by rw [spec_l1good.f, if_pos rfl]
theorem good3 (v : Int) : spec_l1good.f v 3 = some (decide (v ≥ 2048 ∧ (v < 55296 ∨ v > 57343))) := by
  rw [spec_l1good.f, if_neg (by decide), if_pos rfl]
  by_cases h : v ≥ 2048
  · rw [if_pos h]
    by_cases h1 : v < 55296
    · rw [if_pos h1]; simp [h, h1]
    · rw [if_neg h1]; simp [h, h1]
  · rw [if_neg h]; simp [h]
theorem good4 (v : Int) : spec_l1good.f v 4 = some (decide (v ≥ 65536 ∧ v ≤ 1114111)) := by
  rw [spec_l1good.f, if_neg (by decide), if_neg (by decide)]
  by_cases h : v ≥ 65536
  · rw [if_pos h]; simp [h]
  · rw [if_neg h]; simp [h]

/-- one round of the reference's loop: whether n is the answer -/
theorem sround {l : List Int} {a n v : Int} {g : Bool} (k : Nat) (hn : n ≤ 4) (hn0 : 0 ≤ n) (hv : spec_l1value.f k l a n = some v) (hg : spec_l1good.f v n = some g) :
    spec_CharLen.l0 (k + 1) l a n = if 0 ≤ v ∧ g = true then some n else spec_CharLen.l0 k l a (n + 1) := by
  rw [spec_CharLen.l0, if_pos hn, hv, Option.bind_some, wid (x := n + 1) (by omega) (by omega)]
  by_cases h : v ≥ 0
  · rw [if_pos h, hg, Option.bind_some]
    by_cases hg : g = true
    · rw [if_pos hg, if_pos ⟨h, hg⟩]
    · rw [if_neg hg, if_neg (fun x => hg x.2)]
  · rw [if_neg h, if_neg (fun x => h x.1)]

theorem spec_charlen {l : List Int} (hB : Byt l) (hm : l.length < 281474976710657) (a : Int) (k : Nat) : spec_CharLen.f (k + 20) l a = some (chl l a) := by
  unfold chl spec_CharLen.f
  by_cases h0 : a < 0
  · rw [if_pos h0, if_pos (.inl h0), spec_CharLen.j0, if_pos rfl]
  rw [if_neg h0]
  by_cases h1 : a ≥ (l.length : Int)
  · rw [if_pos (.inr h1), spec_CharLen.j0, if_pos (by simpa using h1)]
  rw [if_neg (by omega), spec_CharLen.j0, if_neg (by simpa using h1)]
  have hb := hB a
  have hb1 := hB (a + 1)
  have hb2 := hB (a + 2)
  have hb3 := hB (a + 3)
  by_cases e2 : a + 2 ≤ l.length
  · rw [sround _ (by decide) (by decide) (v2 hB (by omega) e2 hm _) (good2 _)]
    have r2 : (0 ≤ V2 l a ∧ decide (V2 l a ≥ 128) = true) ↔ R2 l a := by
      unfold V2 R2
      split
      · simp only [decide_eq_true_eq]; omega
      · simp only [decide_eq_true_eq]; omega
    by_cases g2 : R2 l a
    · rw [if_pos (r2.2 g2), if_pos g2]
    rw [if_neg (fun h => g2 (r2.1 h)), if_neg g2, show (2 : Int) + 1 = 3 from rfl]
    by_cases e3 : a + 3 ≤ l.length
    · rw [sround _ (by decide) (by decide) (v3 hB (by omega) e3 hm _) (good3 _)]
      have r3 : (0 ≤ V3 l a ∧ decide (V3 l a ≥ 2048 ∧ (V3 l a < 55296 ∨ V3 l a > 57343)) = true) ↔ R3 l a := by
        unfold V3 R3
        split
        · simp only [decide_eq_true_eq]; omega
        · simp only [decide_eq_true_eq]; omega
      by_cases g3 : R3 l a
      · rw [if_pos (r3.2 g3), if_pos g3]
      rw [if_neg (fun h => g3 (r3.1 h)), if_neg g3, show (3 : Int) + 1 = 4 from rfl]
      by_cases e4 : a + 4 ≤ l.length
      · rw [sround _ (by decide) (by decide) (v4 hB (by omega) e4 hm _) (good4 _)]
        have r4 : (0 ≤ V4 l a ∧ decide (V4 l a ≥ 65536 ∧ V4 l a ≤ 1114111) = true) ↔ R4 l a := by
          unfold V4 R4
          split
          · simp only [decide_eq_true_eq]; omega
          · simp only [decide_eq_true_eq]; omega
        by_cases g4 : R4 l a
        · rw [if_pos (r4.2 g4), if_pos g4]
        rw [if_neg (fun h => g4 (r4.1 h)), if_neg g4, show (4 : Int) + 1 = 5 from rfl, spec_CharLen.l0, if_neg (by decide)]
      · rw [sround _ (by decide) (by decide) (vout _ (by omega) (by omega) hm (by decide) (by decide) (by omega)) (good4 _), if_neg (by omega), if_neg (by unfold R4; omega), show (4 : Int) + 1 = 5 from rfl, spec_CharLen.l0, if_neg (by decide)]
    · rw [sround _ (by decide) (by decide) (vout _ (by omega) (by omega) hm (by decide) (by decide) (by omega)) (good3 _), if_neg (by omega), if_neg (by unfold R3; omega), show (3 : Int) + 1 = 4 from rfl,
        sround _ (by decide) (by decide) (vout _ (by omega) (by omega) hm (by decide) (by decide) (by omega)) (good4 _), if_neg (by omega), if_neg (by unfold R4; omega), show (4 : Int) + 1 = 5 from rfl, spec_CharLen.l0, if_neg (by decide)]
  · rw [sround _ (by decide) (by decide) (vout _ (by omega) (by omega) hm (by decide) (by decide) (by omega)) (good2 _), if_neg (by omega), if_neg (by unfold R2; omega), show (2 : Int) + 1 = 3 from rfl,
      sround _ (by decide) (by decide) (vout _ (by omega) (by omega) hm (by decide) (by decide) (by omega)) (good3 _), if_neg (by omega), if_neg (by unfold R3; omega), show (3 : Int) + 1 = 4 from rfl,
      sround _ (by decide) (by decide) (vout _ (by omega) (by omega) hm (by decide) (by decide) (by omega)) (good4 _), if_neg (by omega), if_neg (by unfold R4; omega), show (4 : Int) + 1 = 5 from rfl, spec_CharLen.l0, if_neg (by decide)]

/-- the program's loop, one round -/
theorem istep {l : List Int} {a n lo hi i : Int} (k : Nat) (ha : 0 ≤ a) (hn : n ≤ 4) (hl : a + n ≤ l.length) (hm : l.length < 281474976710657) (hi1 : 1 ≤ i) (hin : i < n) :
    impl_CharLen.l0 (k + 1) l a n lo hi i = if lo ≤ rd l (a + i) ∧ rd l (a + i) ≤ hi then impl_CharLen.l0 k l a n 128 191 (i + 1) else some 1 := by
  rw [impl_CharLen.l0, if_pos hin, wid (x := a + i) (by omega) (by omega), if_pos (by omega), if_pos (by omega), wid (x := i + 1) (by omega) (by omega)]
  by_cases h : rd l (a + i) < lo
  · rw [if_pos h, if_neg (by omega)]
  · rw [if_neg h]
    by_cases h' : rd l (a + i) > hi
    · rw [if_pos h', if_neg (by omega)]
    · rw [if_neg h', if_pos (by omega)]
theorem iend {l : List Int} {a n lo hi : Int} (k : Nat) : impl_CharLen.l0 (k + 1) l a n lo hi n = some n := by
  rw [impl_CharLen.l0, if_neg (by omega)]
theorem iout {l : List Int} {a n lo hi : Int} (k : Nat) (ha : 0 ≤ a) (hal : a < l.length) (hm : l.length < 281474976710657) (hn : 0 ≤ n) (hn4 : n ≤ 4) (h : (l.length : Int) < a + n) : impl_CharLen.j4 (k + 1) l a n lo hi = some 1 := by
  rw [impl_CharLen.j4, wid (by omega) (by omega), if_pos h]
theorem iin {l : List Int} {a n lo hi : Int} (k : Nat) (ha : 0 ≤ a) (hm : l.length < 281474976710657) (hn : 0 ≤ n) (hn4 : n ≤ 4) (h : ¬ (l.length : Int) < a + n) : impl_CharLen.j4 (k + 1) l a n lo hi = impl_CharLen.l0 k l a n lo hi 1 := by
  rw [impl_CharLen.j4, wid (by omega) (by omega), if_neg h]

theorem i1 {l : List Int} {a lo hi : Int} (k : Nat) (ha : 0 ≤ a) (hal : a < l.length) (hm : l.length < 281474976710657) : impl_CharLen.j4 (k + 2) l a 1 lo hi = some 1 := by
  rw [iin _ ha hm (by decide) (by decide) (by omega), iend]
theorem i2 {l : List Int} {a lo hi : Int} (k : Nat) (ha : 0 ≤ a) (hal : a < l.length) (hm : l.length < 281474976710657) :
    impl_CharLen.j4 (k + 3) l a 2 lo hi = some (if a + 2 ≤ l.length ∧ lo ≤ rd l (a + 1) ∧ rd l (a + 1) ≤ hi then 2 else 1) := by
  by_cases h : (l.length : Int) < a + 2
  · rw [iout _ ha hal hm (by decide) (by decide) h, if_neg (by omega)]
  · rw [iin _ ha hm (by decide) (by decide) h, istep _ ha (by decide) (by omega) hm (by decide) (by decide)]
    by_cases c : lo ≤ rd l (a + 1) ∧ rd l (a + 1) ≤ hi
    · rw [if_pos c, show (1 : Int) + 1 = 2 from rfl, iend, if_pos ⟨by omega, c⟩]
    · rw [if_neg c, if_neg (fun x => c x.2)]
theorem i3 {l : List Int} {a lo hi : Int} (k : Nat) (ha : 0 ≤ a) (hal : a < l.length) (hm : l.length < 281474976710657) :
    impl_CharLen.j4 (k + 4) l a 3 lo hi = some (if a + 3 ≤ l.length ∧ (lo ≤ rd l (a + 1) ∧ rd l (a + 1) ≤ hi) ∧ (128 ≤ rd l (a + 2) ∧ rd l (a + 2) ≤ 191) then 3 else 1) := by
  by_cases h : (l.length : Int) < a + 3
  · rw [iout _ ha hal hm (by decide) (by decide) h, if_neg (by omega)]
  · rw [iin _ ha hm (by decide) (by decide) h, istep _ ha (by decide) (by omega) hm (by decide) (by decide)]
    by_cases c : lo ≤ rd l (a + 1) ∧ rd l (a + 1) ≤ hi
    · rw [if_pos c, show (1 : Int) + 1 = 2 from rfl, istep _ ha (by decide) (by omega) hm (by decide) (by decide)]
      by_cases c2 : 128 ≤ rd l (a + 2) ∧ rd l (a + 2) ≤ 191
      · rw [if_pos c2, show (2 : Int) + 1 = 3 from rfl, iend, if_pos ⟨by omega, c, c2⟩]
      · rw [if_neg c2, if_neg (fun x => c2 x.2.2)]
    · rw [if_neg c, if_neg (fun x => c x.2.1)]
theorem i4 {l : List Int} {a lo hi : Int} (k : Nat) (ha : 0 ≤ a) (hal : a < l.length) (hm : l.length < 281474976710657) :
    impl_CharLen.j4 (k + 5) l a 4 lo hi = some (if a + 4 ≤ l.length ∧ (lo ≤ rd l (a + 1) ∧ rd l (a + 1) ≤ hi) ∧ (128 ≤ rd l (a + 2) ∧ rd l (a + 2) ≤ 191) ∧ (128 ≤ rd l (a + 3) ∧ rd l (a + 3) ≤ 191) then 4 else 1) := by
  by_cases h : (l.length : Int) < a + 4
  · rw [iout _ ha hal hm (by decide) (by decide) h, if_neg (by omega)]
  · rw [iin _ ha hm (by decide) (by decide) h, istep _ ha (by decide) (by omega) hm (by decide) (by decide)]
    by_cases c : lo ≤ rd l (a + 1) ∧ rd l (a + 1) ≤ hi
    · rw [if_pos c, show (1 : Int) + 1 = 2 from rfl, istep _ ha (by decide) (by omega) hm (by decide) (by decide)]
      by_cases c2 : 128 ≤ rd l (a + 2) ∧ rd l (a + 2) ≤ 191
      · rw [if_pos c2, show (2 : Int) + 1 = 3 from rfl, istep _ ha (by decide) (by omega) hm (by decide) (by decide)]
        by_cases c3 : 128 ≤ rd l (a + 3) ∧ rd l (a + 3) ≤ 191
        · rw [if_pos c3, show (3 : Int) + 1 = 4 from rfl, iend, if_pos ⟨by omega, c, c2, c3⟩]
        · rw [if_neg c3, if_neg (fun x => c3 x.2.2.2)]
      · rw [if_neg c2, if_neg (fun x => c2 x.2.2.1)]
    · rw [if_neg c, if_neg (fun x => c x.2.1)]

theorem some_ite {p q : Prop} [Decidable p] [Decidable q] {x y z : Int} (h : p ↔ q) (hy : ¬ q → y = z) : some (if p then x else y) = some (if q then x else z) := by
  by_cases c : q
  · rw [if_pos (h.2 c), if_pos c]
  · rw [if_neg (fun x => c (h.1 x)), if_neg c, hy c]

theorem impl_charlen {l : List Int} (hB : Byt l) (hm : l.length < 281474976710657) (a : Int) (k : Nat) : impl_CharLen.f (k + 20) l a = some (chl l a) := by
  unfold chl impl_CharLen.f
  by_cases h0 : a < 0
  · rw [if_pos h0, if_pos (.inl h0), impl_CharLen.j0, if_pos rfl]
  rw [if_neg h0]
  by_cases h1 : a ≥ (l.length : Int)
  · rw [if_pos (.inr h1), impl_CharLen.j0, if_pos (by simpa using h1)]
  have ha : 0 ≤ a := by omega
  have hal : a < (l.length : Int) := by omega
  rw [if_neg (by omega), impl_CharLen.j0, if_neg (by simpa using h1), if_pos ha, if_pos hal]
  have hb := hB a
  have n2 : ¬ (194 ≤ rd l a ∧ rd l a ≤ 223) → ¬ R2 l a := fun h g => h ⟨g.2.1, g.2.2.1⟩
  have n3 : ¬ (224 ≤ rd l a ∧ rd l a ≤ 239) → ¬ R3 l a := fun h g => h ⟨g.2.1, g.2.2.1⟩
  have n4 : ¬ (240 ≤ rd l a ∧ rd l a ≤ 244) → ¬ R4 l a := fun h g => h ⟨g.2.1, g.2.2.1⟩
  by_cases c2 : 194 ≤ rd l a ∧ rd l a ≤ 223
  · rw [if_pos c2.1, impl_CharLen.j1, if_pos (by simpa using c2.2), i2 _ ha hal hm]
    exact some_ite (by unfold R2; omega) (fun _ => by rw [if_neg (n3 (by omega)), if_neg (n4 (by omega))])
  have e1 : (if rd l a ≥ 194 then impl_CharLen.j1 (k + 19) l a (rd l a) 1 128 191 (decide (rd l a ≤ 223)) else impl_CharLen.j1 (k + 19) l a (rd l a) 1 128 191 false) = impl_CharLen.j1 (k + 19) l a (rd l a) 1 128 191 false := by
    split
    · rw [show decide (rd l a ≤ 223) = false from by simp; omega]
    · rfl
  refine e1.trans ?_
  rw [if_neg (n2 c2), impl_CharLen.j1, if_neg (by decide)]
  by_cases c3 : 224 ≤ rd l a ∧ rd l a ≤ 239
  · rw [if_pos c3.1, impl_CharLen.j2, if_pos (by simpa using c3.2)]
    by_cases p : rd l a = 224
    · rw [if_pos p, if_neg (by omega), i3 _ ha hal hm]
      exact some_ite (by unfold R3; omega) (fun _ => by rw [if_neg (n4 (by omega))])
    · rw [if_neg p]
      by_cases q : rd l a = 237
      · rw [if_pos q, i3 _ ha hal hm]
        exact some_ite (by unfold R3; omega) (fun _ => by rw [if_neg (n4 (by omega))])
      · rw [if_neg q, i3 _ ha hal hm]
        exact some_ite (by unfold R3; omega) (fun _ => by rw [if_neg (n4 (by omega))])
  have e2 : (if rd l a ≥ 224 then impl_CharLen.j2 (k + 18) l a (rd l a) 1 128 191 (decide (rd l a ≤ 239)) else impl_CharLen.j2 (k + 18) l a (rd l a) 1 128 191 false) = impl_CharLen.j2 (k + 18) l a (rd l a) 1 128 191 false := by
    split
    · rw [show decide (rd l a ≤ 239) = false from by simp; omega]
    · rfl
  refine e2.trans ?_
  rw [if_neg (n3 c3), impl_CharLen.j2, if_neg (by decide)]
  by_cases c4 : 240 ≤ rd l a ∧ rd l a ≤ 244
  · rw [if_pos c4.1, impl_CharLen.j3, if_pos (by simpa using c4.2)]
    by_cases p : rd l a = 240
    · rw [if_pos p, if_neg (by omega), i4 _ ha hal hm]
      exact some_ite (by unfold R4; omega) (fun _ => rfl)
    · rw [if_neg p]
      by_cases q : rd l a = 244
      · rw [if_pos q, i4 _ ha hal hm]
        exact some_ite (by unfold R4; omega) (fun _ => rfl)
      · rw [if_neg q, i4 _ ha hal hm]
        exact some_ite (by unfold R4; omega) (fun _ => rfl)
  have e3 : (if rd l a ≥ 240 then impl_CharLen.j3 (k + 17) l a (rd l a) 1 128 191 (decide (rd l a ≤ 244)) else impl_CharLen.j3 (k + 17) l a (rd l a) 1 128 191 false) = impl_CharLen.j3 (k + 17) l a (rd l a) 1 128 191 false := by
    split
    · rw [show decide (rd l a ≤ 244) = false from by simp; omega]
    · rfl
  refine e3.trans ?_
  rw [if_neg (n4 c4), impl_CharLen.j3, if_neg (by decide), i1 _ ha hal hm]

theorem rd_set_self {l : List Int} (i : Nat) (h : i < l.length) (x : Int) : (l.set i x)[i]? = some x := by simp [h]
theorem rd_at {l : List Int} (i : Nat) (h : i < l.length) : some (rd l (i : Int)) = l[i]? := by
  simp [rd, h]

theorem to_l0 (l : List Int) (hm : l.length < 281474976710657) : ∀ (k : Nat) (out : List Int) (i : Nat), out.length = l.length → (∀ j, j < i → out[j]? = l[j]?) → i ≤ l.length → l.length - i < k →
    laws_toByteS.l0 k l out (i : Int) = some l
  | 0, _, _, _, _, _, h => by omega
  | k + 1, out, i, ho, hj, hi, hk => by
    rw [laws_toByteS.l0]
    by_cases c : i < l.length
    · rw [if_pos (by omega), if_pos (by omega), if_pos (by omega), wid (x := (i : Int) + 1) (by omega) (by omega)]
      refine to_l0 l hm k _ (i + 1) (by simp [ho]) ?_ (by omega) (by omega)
      intro j hji
      by_cases e : j = i
      · subst e
        rw [Int.toNat_natCast, rd_set_self _ (by omega), rd_at _ c]
      · rw [Int.toNat_natCast, List.getElem?_set_ne (by omega), hj j (by omega)]
    · rw [if_neg (by omega)]
      have : out = l := by
        apply List.ext_getElem?
        intro j
        by_cases e : j < i
        · exact hj j e
        · rw [List.getElem?_eq_none (by omega), List.getElem?_eq_none (by omega)]
      rw [this]

theorem to_bytes (l : List Int) (hm : l.length < 281474976710657) (k : Nat) (hk : l.length < k) : laws_toByteS.f k l = some l := by
  rw [laws_toByteS.f, if_pos (by omega), if_pos (by omega)]
  exact to_l0 l hm k _ 0 (by simp) (fun j h => by omega) (by omega) (by omega)

theorem eq_l0 (l : List Int) (hm : l.length < 281474976710657) : ∀ (k : Nat) (i : Nat), i ≤ l.length → l.length - i < k → laws_eqByteS.l0 k l l (i : Int) = some true
  | 0, _, _, h => by omega
  | k + 1, i, hi, hk => by
    rw [laws_eqByteS.l0]
    by_cases c : i < l.length
    · rw [if_pos (by omega), if_pos (by omega), if_pos (by omega), if_pos rfl, wid (x := (i : Int) + 1) (by omega) (by omega)]
      exact eq_l0 l hm k (i + 1) (by omega) (by omega)
    · rw [if_neg (by omega)]

theorem eq_bytes (l : List Int) (hm : l.length < 281474976710657) (k : Nat) (hk : l.length < k) : laws_eqByteS.f k l l = some true := by
  rw [laws_eqByteS.f, if_pos rfl]
  exact eq_l0 l hm k 0 (by omega) (by omega)

end Go.Proofs.YtahfkfdjhpookaaDoor.Txt
