import Derived.Test.YtahfkfdjhpookaaCbtTreeLaw
import Derived.Test.YtahfkfdjhpookaaCbtPAllx39
import Derived.Test.YtahfkfdjhpookaaCbtPAllx6
import Derived.Test.YtahfkfdjhpookaaCbtPAllx7
import Derived.Test.YtahfkfdjhpookaaCbtPAllx8
import Derived.Test.YtahfkfdjhpookaaCbtPAllx9
import Derived.Test.YtahfkfdjhpookaaCbtPAllx5
namespace Go.Proofs.Ytahfkfdjhpookaa.Tree
open Go.RowKit Go.Proofs.YtahfkfdjhpookaaW.PrintWords Go.Proofs.YtahfkfdjhpookaaW.PrintLast
open Go.Proofs.Ytahfkfdjhpookaa.PAll Go.Proofs.Ytahfkfdjhpookaa.Txt
abbrev LEv := S97
def conv (e : LEv) : Ev := ⟨e.f0, e.f1, e.f2⟩
theorem toev_l0 (l : List LEv) (hm : l.length ≤ 1048576) : ∀ (k : Nat) (out : List Ev) (i : Nat), out.length = l.length → (∀ j, j < i → out[j]? = (l.map conv)[j]?) → i ≤ l.length → l.length - i < k →
    laws_toEventS.l0 k l out (i : Int) = some (l.map conv)
  | 0, _, _, _, _, _, h => by omega
  | k + 1, out, i, ho, hj, hi, hk => by
    rw [laws_toEventS.l0]
    by_cases c : i < l.length
    · rw [if_pos (by omega), if_pos (by omega), laws_toEvent.f, Option.bind_some, if_pos (by omega), wid (x := (i : Int) + 1) (by omega) (by omega)]
      refine toev_l0 l hm k _ (i + 1) (by simp [ho]) ?_ (by omega) (by omega)
      intro j hji
      rw [Int.toNat_natCast, List.getElem?_set]
      by_cases e : j = i
      · subst e
        rw [if_pos rfl, if_pos (by omega)]
        simp [rd_T97, c, conv]
      · rw [if_neg (fun h => e h.symm), hj j (by omega)]
    · rw [if_neg (by omega)]
      congr 1
      apply List.ext_getElem?
      intro j
      by_cases e : j < i
      · exact hj j e
      · rw [List.getElem?_eq_none (by omega), List.getElem?_eq_none (by simp; omega)]
theorem to_ev (l : List LEv) (hm : l.length ≤ 1048576) (k : Nat) (hk : l.length < k) : laws_toEventS.f k l = some (l.map conv) := by
  rw [laws_toEventS.f, if_pos (by omega), if_pos (by omega)]
  exact toev_l0 l hm k _ 0 (by simp) (fun j h => by omega) (by omega) (by omega)
theorem eqev_l0 (l : List Ev) (hm : l.length ≤ 1048576) : ∀ (k : Nat) (i : Nat), i ≤ l.length → l.length - i < k → laws_eqEventS.l0 k l l (i : Int) = some true
  | 0, _, _, h => by omega
  | k + 1, i, hi, hk => by
    rw [laws_eqEventS.l0]
    by_cases c : i < l.length
    · rw [if_pos (by omega), if_pos (by omega), if_pos (by omega), laws_eqEvent.f, if_pos rfl, if_pos rfl, if_pos rfl, Option.bind_some, if_pos rfl, wid (x := (i : Int) + 1) (by omega) (by omega)]
      exact eqev_l0 l hm k (i + 1) (by omega) (by omega)
    · rw [if_neg (by omega)]
theorem eq_ev (l : List Ev) (hm : l.length ≤ 1048576) (k : Nat) (hk : l.length < k) : laws_eqEventS.f k l l = some true := by
  rw [laws_eqEventS.f, if_pos rfl]; exact eqev_l0 l hm k 0 (by omega) (by omega)
theorem eqnd_l0 (l : List Nd) (hm : l.length ≤ 1048576) : ∀ (k : Nat) (i : Nat), i ≤ l.length → l.length - i < k → laws_eqNodeS.l0 k l l (i : Int) = some true
  | 0, _, _, h => by omega
  | k + 1, i, hi, hk => by
    rw [laws_eqNodeS.l0]
    by_cases c : i < l.length
    · rw [if_pos (by omega), if_pos (by omega), if_pos (by omega), laws_eqNode.f, if_pos rfl, if_pos rfl, if_pos rfl, if_pos rfl, if_pos rfl, Option.bind_some, if_pos rfl, wid (x := (i : Int) + 1) (by omega) (by omega)]
      exact eqnd_l0 l hm k (i + 1) (by omega) (by omega)
    · rw [if_neg (by omega)]
theorem eq_nd (l : List Nd) (hm : l.length ≤ 1048576) (k : Nat) (hk : l.length < k) : laws_eqNodeS.f k l l = some true := by
  rw [laws_eqNodeS.f, if_pos rfl]; exact eqnd_l0 l hm k 0 (by omega) (by omega)
theorem mark_ev (n : Nat) (hn : n ≤ 1048576) : ∀ (d k i : Nat) (xs : List Ev) (m : Int), xs.length = n → i + d = n → d < k → 0 ≤ m → m ≤ 10 * i + 10 → ∃ xs' m', laws_markEventS.l0 k xs m (i : Int) = some (m', xs') ∧ 0 ≤ m'
  | 0, k, i, xs, m, hl, hi, hk, h0, h1 => by
    obtain ⟨k, rfl⟩ : ∃ q, k = q + 1 := ⟨k - 1, by omega⟩
    exact ⟨xs, m, by rw [laws_markEventS.l0, if_neg (by omega)], h0⟩
  | d + 1, k, i, xs, m, hl, hi, hk, h0, h1 => by
    obtain ⟨k, rfl⟩ : ∃ q, k = q + 1 := ⟨k - 1, by omega⟩
    rw [laws_markEventS.l0, if_pos (by omega), if_pos (by omega), Option.bind_some, Option.bind_some, wid (x := m + 1) (by omega) (by omega), wid (x := m + 1 + 1) (by omega) (by omega), wid (x := m + 1 + 1 + 1) (by omega) (by omega), wid (x := (i : Int) + 1) (by omega) (by omega)]
    exact mark_ev n hn d k (i + 1) _ (m + 1 + 1 + 1) (by simp [hl]) (by omega) (by omega) (by omega) (by omega)
theorem rdN_set_self (xs : List Nd) (i : Nat) (x : Nd) (h : i < xs.length) : rd_T95 (xs.set i x) (i : Int) = x := by simp [rd_T95, h]
theorem mark_nd (n : Nat) (hn : n ≤ 1048576) : ∀ (d k i : Nat) (xs : List Nd) (m : Int), xs.length = n → i + d = n → d < k → 0 ≤ m → m ≤ 10 * i + 10 →
    ∃ xs' m', laws_markNodeS.l0 k xs m (i : Int) = some (m', xs') ∧ 0 ≤ m' ∧ xs'.length = n ∧ (∀ j, j < i → xs'[j]? = xs[j]?) ∧ ∀ k', d < k' → laws_heldNodeS.l0 k' xs' m (i : Int) = some m'
  | 0, k, i, xs, m, hl, hi, hk, h0, h1 => by
    obtain ⟨k, rfl⟩ : ∃ q, k = q + 1 := ⟨k - 1, by omega⟩
    exact ⟨xs, m, by rw [laws_markNodeS.l0, if_neg (by omega)], h0, hl, fun _ _ => rfl, fun k' hk' => by
      obtain ⟨k', rfl⟩ : ∃ q, k' = q + 1 := ⟨k' - 1, by omega⟩
      rw [laws_heldNodeS.l0, if_neg (by omega)]⟩
  | d + 1, k, i, xs, m, hl, hi, hk, h0, h1 => by
    obtain ⟨k, rfl⟩ : ∃ q, k = q + 1 := ⟨k - 1, by omega⟩
    have hs := fun x => rdN_set_self xs i x (by omega)
    rw [laws_markNodeS.l0, if_pos (by omega), if_pos (by omega)]
    simp only [Option.bind_some, Int.toNat_natCast, List.set_set, hs]
    rw [wid (x := m + 1) (by omega) (by omega), wid (x := m + 1 + 1) (by omega) (by omega), wid (x := m + 1 + 1 + 1) (by omega) (by omega), wid (x := m + 1 + 1 + 1 + 1) (by omega) (by omega), wid (x := m + 1 + 1 + 1 + 1 + 1) (by omega) (by omega), wid (x := (i : Int) + 1) (by omega) (by omega)]
    obtain ⟨xs', m', e, hm', hl', hj, hh⟩ := mark_nd n hn d k (i + 1) (xs.set i ⟨m, m + 1, m + 1 + 1, m + 1 + 1 + 1, m + 1 + 1 + 1 + 1⟩) (m + 1 + 1 + 1 + 1 + 1) (by simp [hl]) (by omega) (by omega) (by omega) (by omega)
    rw [show (((i + 1 : Nat)) : Int) = (i : Int) + 1 by omega] at e hh
    refine ⟨xs', m', e, hm', hl', fun j hji => ?_, fun k' hk' => ?_⟩
    · rw [hj j (by omega), List.getElem?_set_ne (by omega)]
    · obtain ⟨k', rfl⟩ : ∃ q, k' = q + 1 := ⟨k' - 1, by omega⟩
      have hx : rd_T95 xs' (i : Int) = ⟨m, m + 1, m + 1 + 1, m + 1 + 1 + 1, m + 1 + 1 + 1 + 1⟩ := by
        have := hj i (by omega)
        simp [hl, show i < n by omega] at this
        simp [rd_T95, this]
      rw [laws_heldNodeS.l0, if_pos (by omega), if_pos (by omega), hx]
      rw [wid (x := m + 1) (by omega) (by omega), wid (x := m + 1 + 1) (by omega) (by omega), wid (x := m + 1 + 1 + 1) (by omega) (by omega), wid (x := m + 1 + 1 + 1 + 1) (by omega) (by omega), wid (x := m + 1 + 1 + 1 + 1 + 1) (by omega) (by omega), wid (x := (i : Int) + 1) (by omega) (by omega)]
      rw [if_pos rfl, if_pos rfl, if_pos rfl, if_pos rfl, if_pos rfl]
      exact hh k' (by omega)
theorem G_nodes : ∀ (r : List Ev) (st : List Int) (n : Int), (G r st n).2.length ≤ r.length
  | [], st, n => by simp [G]
  | e :: r, st, n => by
    rw [G]
    by_cases c : e.f0 = 2
    · rw [if_pos c]; have := G_nodes r st.tail n; simp; omega
    · rw [if_neg c]; have := G_nodes r (n :: st) (n + 1); simp; omega
theorem tree_len (ev : List Ev) : (tree ev).1.length ≤ ev.length := by
  rw [tree]
  split
  · exact G_nodes ev [] 0
  · simp
theorem law (l : List LEv) (hlm : l.length ≤ 9223372036854775807) : ∃ k, laws_FnExactBuildTree.f k l = some true := by
  refine ⟨3 * l.length + 40, ?_⟩
  rw [laws_FnExactBuildTree.f, laws_szEventS.f, wid (by omega) (by omega)]
  by_cases h : (1048576 : Int) - (l.length : Int) < 0
  · rw [if_pos h, Option.bind_some, if_pos (by omega)]
  · rw [if_neg h, Option.bind_some, if_neg h]
    have hm : l.length ≤ 1048576 := by omega
    have hl : (l.map conv).length = l.length := by simp
    have hto := fun k hk => to_ev l hm k hk
    have ht := fun k hk => impl_tree (l.map conv) (by omega) k hk
    have hst := fun k hk => spec_tree (l.map conv) (by omega) k hk
    have htl := tree_len (l.map conv)
    generalize hg : tree (l.map conv) = t at *
    obtain ⟨nds, cd⟩ := t
    simp only at htl
    obtain ⟨xs', m', e1, h1⟩ := mark_ev l.length hm l.length (3 * l.length + 39) 0 (l.map conv) 1 hl (by omega) (by omega) (by omega) (by omega)
    obtain ⟨ys, q, e2, h2, h3, _, h5⟩ := mark_nd nds.length (by omega) nds.length (3 * l.length + 38) 0 nds 1 rfl (by omega) (by omega) (by omega) (by omega)
    rw [hto _ (by omega)]
    simp only [Option.bind_some]
    rw [hst _ (by omega)]
    simp only [Option.bind_some]
    rw [ht _ (by omega)]
    simp only [Option.bind_some]
    rw [eq_nd nds (by omega) _ (by omega)]
    simp only [Option.bind_some, if_true, bne_self_eq_false]
    rw [laws_FnExactBuildTree.j0, if_neg (by decide), hto _ (by omega)]
    simp only [Option.bind_some]
    rw [eq_ev (l.map conv) (by omega) _ (by omega)]
    simp only [Option.bind_some, if_true]
    rw [laws_markEventS.f, show (0 : Int) = ((0 : Nat) : Int) from rfl, e1]
    simp only [Option.bind_some]
    rw [if_neg (by omega), eq_nd nds (by omega) _ (by omega)]
    simp only [Option.bind_some, if_true, bne_self_eq_false]
    rw [laws_FnExactBuildTree.j1, if_neg (by decide), laws_markNodeS.f, show (0 : Int) = ((0 : Nat) : Int) from rfl, e2]
    simp only [Option.bind_some]
    rw [laws_heldNodeS.f, show (0 : Int) = ((0 : Nat) : Int) from rfl, h5 _ (by omega)]
    simp only [Option.bind_some]
    rw [if_neg (by omega), if_pos trivial, hto _ (by omega)]
    simp only [Option.bind_some]
    rw [ht _ (by omega)]
    simp only [Option.bind_some]
    rw [eq_nd nds (by omega) _ (by omega)]
    simp only [Option.bind_some, if_true, bne_self_eq_false]
    rw [laws_FnExactBuildTree.j2, if_neg (by decide), laws_heldNodeS.f, show (0 : Int) = ((0 : Nat) : Int) from rfl, h5 _ (by omega)]
    simp only [Option.bind_some]
    rw [if_neg (by omega), if_pos trivial]
end Go.Proofs.Ytahfkfdjhpookaa.Tree
