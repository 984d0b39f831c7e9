/- The draws of chapter 1: they end, and a drawn text is a short list of bytes. -/
import Derived.Test.YtahfkfdjhpookaaExtOffset
import Derived.Test.YtahfkfdjhpookaaPAllx10
import Derived.Test.YtahfkfdjhpookaaPAllx9
namespace Go.Proofs.Ytahfkfdjhpookaa.Txt
open Go.RowKit Go.Proofs.YtahfkfdjhpookaaW.PrintWords Go.Proofs.YtahfkfdjhpookaaW.PrintLast
open Go.Proofs.Ytahfkfdjhpookaa.PAll

/-- a reader's state: the code, cut short, and the place -/
structure Rdr (b : List Int) (i : Int) : Prop where
  byt : Byt b
  small : b.length ≤ 500
  lo : 0 ≤ i
  hi : i ≤ b.length

theorem Byt.take {l : List Int} (h : Byt l) (n : Nat) : Byt (l.take n) := by
  intro i
  have := h i
  unfold rd at *
  by_cases hi : i.toNat < n
  · rw [List.getD_eq_getElem?_getD, List.getElem?_take, if_pos hi, ← List.getD_eq_getElem?_getD]; exact this
  · rw [List.getD_eq_getElem?_getD, List.getElem?_take, if_neg hi]; simp

theorem rd_open {l : List Int} (h : Byt l) : ∃ b, spec_l1open.f l = some (b, 0) ∧ Rdr b 0 := by
  unfold spec_l1open.f
  by_cases c : (l.length : Int) > 500
  · rw [if_pos c, if_pos (by omega)]
    exact ⟨_, rfl, h.take _, by simp; omega, by omega, by omega⟩
  · rw [if_neg c, if_pos (by omega), if_pos (by omega)]
    exact ⟨_, rfl, h.take _, by simp; omega, by omega, by omega⟩

theorem rd_next {b : List Int} {i : Int} (h : Rdr b i) : ∃ v j, spec_l1rd_next.f b i = some (v, j) ∧ 0 ≤ v ∧ v ≤ 255 ∧ Rdr b j := by
  unfold spec_l1rd_next.f
  have hb := h.byt i
  have h1 := h.small
  have h2 := h.lo
  have h3 := h.hi
  by_cases c : i ≥ (b.length : Int)
  · rw [if_pos c]; exact ⟨_, _, rfl, by omega, by omega, h⟩
  · rw [if_neg c, if_pos h2, if_pos (by omega), wid (x := rd b i) (by omega) (by omega), wid (x := i + 1) (by omega) (by omega)]
    exact ⟨_, _, rfl, hb.1, hb.2, h.byt, h1, by omega, by omega⟩

theorem rd_left {b : List Int} {i : Int} (h : Rdr b i) : spec_l1rd_left.f b i = some ((b.length : Int) - i, i) := by
  have h1 := h.small
  have h2 := h.lo
  have h3 := h.hi
  rw [spec_l1rd_left.f, wid (by omega) (by omega)]

/-- a list of bytes -/
def Bys (l : List Int) : Prop := ∀ x ∈ l, 0 ≤ x ∧ x ≤ 255
theorem Bys.byt {l : List Int} (h : Bys l) : Byt l := by
  intro i
  unfold rd
  by_cases hi : i.toNat < l.length
  · have := h (l[i.toNat]) (List.getElem_mem hi)
    simp [List.getD_eq_getElem?_getD, hi]
    exact this
  · simp [List.getD_eq_getElem?_getD, List.getElem?_eq_none (Nat.le_of_not_lt hi)]
theorem Bys.append {a b : List Int} (h : Bys a) (k : Bys b) : Bys (a ++ b) := fun x hx => (List.mem_append.1 hx).elim (h x) (k x)
theorem Bys.ok {l : List Int} (h : Bys l) (hl : l.length < 281474976710657) : okText l = true := by
  simp only [okText, Bool.and_eq_true, List.all_eq_true, decide_eq_true_eq]
  exact ⟨fun x hx => h x hx, hl⟩

def PieceOk (b : List Int) (r : Option (List Int × Int)) : Prop := ∃ p j, r = some (p, j) ∧ Bys p ∧ p.length ≤ 4 ∧ 1 ≤ p.length ∧ Rdr b j
theorem PieceOk.ite {b : List Int} {c : Prop} [Decidable c] {x y : Option (List Int × Int)} (h : PieceOk b x) (k : PieceOk b y) : PieceOk b (if c then x else y) := by
  split <;> assumption
theorem PieceOk.mk {b p : List Int} {j : Int} (hr : Rdr b j) (h : Bys p) (h4 : p.length ≤ 4) (h1 : 1 ≤ p.length) : PieceOk b (some (p, j)) := ⟨p, j, rfl, h, h4, h1, hr⟩
theorem draw_piece {b : List Int} {i : Int} (h : Rdr b i) : ∃ p j, spec_l1piece.f b i = some (p, j) ∧ Bys p ∧ p.length ≤ 4 ∧ 1 ≤ p.length ∧ Rdr b j := by
  obtain ⟨k, j, e1, _, _, h1⟩ := rd_next h
  obtain ⟨d, j2, e2, _, _, h2⟩ := rd_next h1
  show PieceOk b _
  unfold spec_l1piece.f
  rw [e1, Option.bind_some, e2, Option.bind_some]
  dsimp only
  repeat' (with_reducible refine PieceOk.ite ?_ ?_)
  all_goals exact PieceOk.mk h2 (fun x hx => by simp only [List.mem_cons, List.not_mem_nil, or_false] at hx; omega) (by simp) (by simp)

theorem Bys.take {l : List Int} (h : Bys l) (n : Nat) : Bys (l.take n) := fun x hx => h x (List.mem_of_mem_take hx)

theorem draw_l0 (n : Int) (hn : n ≤ 255) {b : List Int} : ∀ (d k : Nat) (i : Int) (out : List Int) (m : Int), 0 ≤ m → (n - m).toNat ≤ d → d + 2 ≤ k → Rdr b i → Bys out → (out.length : Int) ≤ 4 * m → m ≤ 255 →
    ∃ t j, spec_l1drawText.l0 k n out m b i = some (t, j) ∧ Bys t ∧ t.length ≤ 1100 ∧ Rdr b j := by
  intro d
  induction d with
  | zero =>
    intro k i out m hm hd hk hr ho hl hm2
    obtain ⟨k, rfl⟩ : ∃ q, k = q + 1 := ⟨k - 1, by omega⟩
    obtain ⟨v, j, e, _, _, h1⟩ := rd_next hr
    rw [spec_l1drawText.l0, if_neg (by omega), e, Option.bind_some]
    split
    · split
      · rw [wid (by omega) (by omega), if_pos (by omega), if_pos (by omega)]
        exact ⟨_, _, rfl, ho.take _, by simp; omega, h1⟩
      · exact ⟨_, _, rfl, ho, by omega, h1⟩
    · exact ⟨_, _, rfl, ho, by omega, h1⟩
  | succ d ih =>
    intro k i out m hm hd hk hr ho hl hm2
    by_cases c : m < n
    · obtain ⟨k, rfl⟩ : ∃ q, k = q + 1 := ⟨k - 1, by omega⟩
      obtain ⟨p, j, e, hp, hp4, hp1, h1⟩ := draw_piece hr
      have go : ∃ t j', (if out.length + p.length < 140737488355328 then (spec_l1drawText.l0 k n (out ++ p) (wrap64 (m + 1)) b j) else none) = some (t, j') ∧ Bys t ∧ t.length ≤ 1100 ∧ Rdr b j' := by
        rw [if_pos (by omega), wid (by omega) (by omega)]
        exact ih k j (out ++ p) (m + 1) (by omega) (by omega) (by omega) h1 (ho.append hp) (by simp; omega) (by omega)
      rw [spec_l1drawText.l0, if_pos c]
      by_cases c3 : m < 3
      · rw [if_pos c3, e, Option.bind_some]
        exact go
      · rw [if_neg c3, rd_left hr, Option.bind_some]
        by_cases c4 : (b.length : Int) - i > 0
        · rw [if_pos c4, e, Option.bind_some]
          exact go
        · rw [if_neg c4]
          obtain ⟨v, j2, e2, _, _, h2⟩ := rd_next hr
          rw [e2, Option.bind_some]
          split
          · split
            · rw [wid (by omega) (by omega), if_pos (by omega), if_pos (by omega)]
              exact ⟨_, _, rfl, ho.take _, by simp; omega, h2⟩
            · exact ⟨_, _, rfl, ho, by omega, h2⟩
          · exact ⟨_, _, rfl, ho, by omega, h2⟩
    · exact ih k i out m hm (by omega) (by omega) hr ho hl hm2

theorem draw_text {b : List Int} {i : Int} (h : Rdr b i) (most : Int) (h1 : 1 ≤ most) (k : Nat) (hk : 300 ≤ k) : ∃ t j, spec_l1drawText.f k b i most = some (t, j) ∧ Bys t ∧ t.length ≤ 1100 ∧ Rdr b j := by
  obtain ⟨v, j, e, hv0, hv1, hr⟩ := rd_next h
  rw [spec_l1drawText.f, e, Option.bind_some, if_neg (by omega)]
  rw [Int.tmod_eq_emod_of_nonneg hv0]
  have hle : v % most ≤ v := by
    have e1 := Int.mul_ediv_add_emod v most
    have e2 := Int.mul_nonneg (show 0 ≤ most by omega) (Int.ediv_nonneg hv0 (show 0 ≤ most by omega))
    omega
  exact draw_l0 (v % most) (by omega) 255 k j [] 0 (by omega) (by omega) (by omega) hr (fun x hx => by cases hx) (by simp) (by omega)

theorem draw_linecol {l : List Int} (h : Byt l) (k : Nat) (hk : 300 ≤ k) : ∃ t v, spec_DrawLineCol.f k l = some (t, v) ∧ Bys t ∧ t.length ≤ 1100 := by
  obtain ⟨b, e, hr⟩ := rd_open h
  obtain ⟨t, j, e2, ht, hl, hr2⟩ := draw_text hr 40 (by omega) k hk
  obtain ⟨v, j3, e3, _, _, hr3⟩ := rd_next hr2
  rw [spec_DrawLineCol.f, e, Option.bind_some, e2, Option.bind_some, e3, Option.bind_some, wid (x := (t.length : Int) + 3) (by omega) (by omega), if_neg (by omega)]
  exact ⟨_, _, rfl, ht, hl⟩
end Go.Proofs.Ytahfkfdjhpookaa.Txt
