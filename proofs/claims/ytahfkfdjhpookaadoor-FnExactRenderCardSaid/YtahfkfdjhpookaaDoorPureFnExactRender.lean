/- Render of the program answers what Render of the reference answers: both answer rendF. -/
import Derived.Test.YtahfkfdjhpookaaDoorRendWalk
import Derived.Test.YtahfkfdjhpookaaDoorPAllx4
import Derived.Test.YtahfkfdjhpookaaDoorPAllx8
namespace Go.Proofs.YtahfkfdjhpookaaDoor.Pure
open Go.RowKit Go.Proofs.YtahfkfdjhpookaaDoorW.PrintWords Go.Proofs.YtahfkfdjhpookaaDoorW.PrintLast Go.Proofs.YtahfkfdjhpookaaDoor.Txt Go.Proofs.YtahfkfdjhpookaaDoor.PAll

theorem mark_b (n : Nat) (hn : n ≤ 1099511628) : ∀ (d k i : Nat) (xs : List Int) (m : Int), xs.length = n → i + d = n → d < k → 0 ≤ m → m ≤ i + 1099511629 →
    ∃ xs', laws_markByteS.l0 k xs m (i : Int) = some (m + d, xs') ∧ xs'.length = n ∧ (∀ j, j < i → xs'[j]? = xs[j]?) ∧ ∀ k', d < k' → laws_heldByteS.l0 k' xs' m (i : Int) = some (m + d)
  | 0, k, i, xs, m, hl, hi, hk, h0, h1 => by
    obtain ⟨k, rfl⟩ : ∃ q, k = q + 1 := ⟨k - 1, by omega⟩
    exact ⟨xs, by rw [laws_markByteS.l0, if_neg (by omega)]; simp, hl, fun _ _ => rfl, fun k' hk' => by
      obtain ⟨k', rfl⟩ : ∃ q, k' = q + 1 := ⟨k' - 1, by omega⟩
      rw [laws_heldByteS.l0, if_neg (by omega)]; simp⟩
  | d + 1, k, i, xs, m, hl, hi, hk, h0, h1 => by
    obtain ⟨k, rfl⟩ : ∃ q, k = q + 1 := ⟨k - 1, by omega⟩
    rw [laws_markByteS.l0, if_pos (by omega), if_pos (by omega), Int.toNat_natCast, wid (x := m + 1) (by omega) (by omega), wid (x := (i : Int) + 1) (by omega) (by omega)]
    obtain ⟨xs', e, hl', hj, hh⟩ := mark_b n hn d k (i + 1) (xs.set i (m % 256)) (m + 1) (by simp [hl]) (by omega) (by omega) (by omega) (by omega)
    rw [show (((i + 1 : Nat)) : Int) = (i : Int) + 1 by omega, show m + 1 + (d : Int) = m + ((d + 1 : Nat) : Int) by omega] at e hh
    refine ⟨xs', e, hl', fun j hji => ?_, fun k' hk' => ?_⟩
    · rw [hj j (by omega), List.getElem?_set_ne (by omega)]
    · obtain ⟨k', rfl⟩ : ∃ q, k' = q + 1 := ⟨k' - 1, by omega⟩
      have hx : rd xs' (i : Int) = m % 256 := by
        have := hj i (by omega)
        rw [List.getElem?_set_self (by omega)] at this
        rw [rd, Int.toNat_natCast, List.getD_eq_getElem?_getD, this]
        rfl
      rw [laws_heldByteS.l0, if_pos (by omega), if_pos (by omega), if_pos hx, wid (x := m + 1) (by omega) (by omega), wid (x := (i : Int) + 1) (by omega) (by omega)]
      exact hh k' (by omega)

theorem rend_len (l m : List Int) (a : Int) (hl : l.length ≤ 1048576) (hm : m.length ≤ 1048576) : (rendF l a m).length ≤ 100000000 := by
  rw [rendF]
  split
  · simp
  · rename_i h
    obtain ⟨o, rfl⟩ : ∃ o : Nat, a = (o : Int) := ⟨a.toNat, by omega⟩
    obtain ⟨⟨a1, a2⟩, b1, b2⟩ := lcol_bounds l o (by omega) (by omega)
    have c2 : (lcol l (o : Int)).2 ≤ 1048580 := by
      rw [lcol_in l o (by omega)]
      have h2 := tw_len o (ch l (st l o))
      have h3 := chF_len l (l.length + 1) (st l o)
      rw [← ch] at h3
      simp only
      omega
    have d1 := dec_le (lcol l (o : Int)).1 (by omega) (by omega)
    have d2 := dec_le (lcol l (o : Int)).2 (by omega) (by omega)
    have s1 := seg_length l (st l (o : Int).toNat) (endOf l (st l (o : Int).toNat))
    simp only [rend0, decI, List.length_append, bI_length, List.length_replicate, List.length_cons, List.length_nil]
    omega

theorem FnExactRender : laws_FnExactRender.Pure := by
  intro l a m hlm hl hB _ hmm hm hC
  have hl' : l.length < 281474976710657 := by omega
  have hm' : m.length < 281474976710657 := by omega
  have ht := okText_of hB hl'
  refine ⟨100000000 + l.length + m.length + 50, ?_⟩
  rw [laws_FnExactRender.f]
  by_cases h : (l.length : Int) > 1048576
  · rw [if_pos h]
  by_cases h2 : (m.length : Int) > 1048576
  · rw [if_neg h, if_pos h2]
  have hR : okRend l m = true := by simp [okRend, ht]; omega
  have hr := rend_len l m a (by omega) (by omega)
  have hsp : spec_Render.f l a m = some (rendF l a m) := by rw [spec_Render.f, if_pos hR]
  have him : impl_Render.f l a m = some (rendF l a m) := by rw [impl_Render.f, if_pos hR]
  generalize rendF l a m = r at *
  have tl := fun k hk => to_bytes l hl' k hk
  have tm := fun k hk => to_bytes m hm' k hk
  have er := fun k hk => eq_bytes r (by omega) k hk
  obtain ⟨x1, e1, f1, _, _⟩ := mark_b l.length (by omega) l.length (100000000 + l.length + m.length + 50) 0 l 1 rfl (by omega) (by omega) (by omega) (by omega)
  obtain ⟨x2, e2, f2, _, _⟩ := mark_b m.length (by omega) m.length (100000000 + l.length + m.length + 50) 0 m (1 + l.length) rfl (by omega) (by omega) (by omega) (by omega)
  obtain ⟨x3, e3, f3, _, g3⟩ := mark_b r.length (by omega) r.length (100000000 + l.length + m.length + 49) 0 r 1 rfl (by omega) (by omega) (by omega) (by omega)
  have g3' := g3 (100000000 + l.length + m.length + 49) (by omega)
  rw [if_neg h, if_neg h2, tl _ (by omega)]
  simp only [Option.bind_some]
  rw [tm _ (by omega)]
  simp only [Option.bind_some]
  rw [hsp]
  simp only [Option.bind_some]
  rw [him]
  simp only [Option.bind_some]
  rw [er _ (by omega)]
  simp only [Option.bind_some, if_true]
  rw [eq_bytes l hl' _ (by omega)]
  simp only [Option.bind_some, if_true]
  rw [eq_bytes m hm' _ (by omega)]
  simp only [Option.bind_some, if_true]
  rw [laws_markByteS.f, show (0 : Int) = ((0 : Nat) : Int) from rfl, e1]
  simp only [Option.bind_some]
  rw [laws_markByteS.f, show (0 : Int) = ((0 : Nat) : Int) from rfl, e2]
  simp only [Option.bind_some]
  rw [if_neg (by omega)]
  simp only [Bool.not_true]
  rw [laws_FnExactRender.j0, if_neg (by decide), laws_markByteS.f, show (0 : Int) = ((0 : Nat) : Int) from rfl, e3]
  simp only [Option.bind_some]
  rw [laws_heldByteS.f, show (0 : Int) = ((0 : Nat) : Int) from rfl, g3']
  simp only [Option.bind_some]
  rw [if_neg (by omega), if_pos trivial, tl _ (by omega)]
  simp only [Option.bind_some]
  rw [tm _ (by omega)]
  simp only [Option.bind_some]
  rw [him]
  simp only [Option.bind_some]
  rw [er _ (by omega)]
  simp only [Option.bind_some, if_true]
  rw [if_neg (by omega)]
end Go.Proofs.YtahfkfdjhpookaaDoor.Pure
