import Derived.Test.YtdiilocgjnlmiaaCchPAllx15
import Derived.Test.YtdiilocgjnlmiaaCchPAllx16
import Derived.Test.YtdiilocgjnlmiaaCchPAllx21
namespace Go.Proofs.Ytdiilocgjnlmiaa.Tre
open Go.RowKit Go.Proofs.YtdiilocgjnlmiaaW.PrintWords Go.Proofs.YtdiilocgjnlmiaaW.PrintLast Go.Proofs.YtdiilocgjnlmiaaW.PrintMore
open Go.Proofs.Ytdiilocgjnlmiaa.PAll
set_option linter.unusedVariables false
set_option linter.unusedSimpArgs false
theorem rd_at {pre post : List Op} {o : Op} {i : Int} (hi : i = (pre.length : Int)) : rd_T79 (pre ++ (o :: post)) i = o := by
 subst hi
 simp [rd_T79, List.getD_eq_getElem?_getD]
theorem flat_pos : ∀ (t : Tr), 0 < (flat t).length
 | .emp => Nat.one_pos
 | .set _ => Nat.one_pos
 | .ref _ => Nat.one_pos
 | .thr _ => Nat.one_pos
 | .seq l r => by simp [flat]; omega
 | .alt l r => by simp [flat]; omega
 | .star x => by simp [flat]
 | .neg x => by simp [flat]
theorem start_step (pre post : List Op) (o : Op) (k n : Nat) (hk : 0 < k) (hl : (pre ++ o :: post).length ≤ 1099511627776) (hn : n ≤ 1099511627776) :
 spec_l2start.l0 (k + 1) (pre ++ o :: post) ((n : Int) + 1) (((pre.length + 1 : Nat)) : Int) = spec_l2start.l0 k (pre ++ o :: post) ((n : Int) + (ar o.f0 : Int)) (pre.length : Int) := by
 have h1 : pre.length + 1 ≤ (pre ++ o :: post).length := by simp
 have e : ((pre.length + 1 : Nat) : Int) - 1 = (pre.length : Int) := by omega
 have ha := ar_le o.f0
 rw [spec_l2start.l0, if_pos (by omega), if_pos (by omega), e, wid (by omega) (by omega), if_pos (by omega), if_pos (by omega), rd_at rfl, arity_f _ _ hk, Option.bind_some, wid (x := (ar o.f0 : Int) - 1) (by omega) (by omega), wid (by omega) (by omega)]
 congr 1
 omega
theorem start_tree : ∀ (t : Tr) (pre post : List Op) (k n : Nat), 0 < k → (pre ++ (flat t ++ post)).length ≤ 1099511627776 → n + (flat t).length ≤ 1099511627776 →
 spec_l2start.l0 (k + (flat t).length) (pre ++ (flat t ++ post)) ((n : Int) + 1) (((pre.length + (flat t).length : Nat)) : Int) = spec_l2start.l0 k (pre ++ (flat t ++ post)) (n : Int) (pre.length : Int)
 | .emp, pre, post, k, n, hk, hl, hn => (start_step pre post ⟨0, [], 0⟩ k n hk hl (by simp [flat] at hn; omega)).trans (by simp [ar]; rfl)
 | .set s, pre, post, k, n, hk, hl, hn => (start_step pre post ⟨1, s, 0⟩ k n hk hl (by simp [flat] at hn; omega)).trans (by simp [ar]; rfl)
 | .ref a, pre, post, k, n, hk, hl, hn => (start_step pre post ⟨2, [], a⟩ k n hk hl (by simp [flat] at hn; omega)).trans (by simp [ar]; rfl)
 | .thr a, pre, post, k, n, hk, hl, hn => (start_step pre post ⟨3, [], a⟩ k n hk hl (by simp [flat] at hn; omega)).trans (by simp [ar]; rfl)
 | .star x, pre, post, k, n, hk, hl, hn => by
  have e : pre ++ (flat (.star x) ++ post) = pre ++ (flat x ++ (⟨6, [], 0⟩ :: post)) := by simp [flat]
  have e2 : pre ++ (flat (.star x) ++ post) = (pre ++ flat x) ++ (⟨6, [], 0⟩ : Op) :: post := by simp [flat]
  have e3 : (flat (.star x)).length = (flat x).length + 1 := by simp [flat]
  rw [e] at hl
  rw [e3] at hn
  have h1 := start_step (pre ++ flat x) post ⟨6, [], 0⟩ (k + (flat x).length) n (by omega) (by rw [← e2, e]; exact hl) (by omega)
  rw [← e2, e] at h1
  rw [e, e3, ← start_tree x pre (⟨6, [], 0⟩ :: post) k n hk hl (by omega), ← Nat.add_assoc, ← Nat.add_assoc]
  rw [List.length_append] at h1
  exact h1
 | .neg x, pre, post, k, n, hk, hl, hn => by
  have e : pre ++ (flat (.neg x) ++ post) = pre ++ (flat x ++ (⟨7, [], 0⟩ :: post)) := by simp [flat]
  have e2 : pre ++ (flat (.neg x) ++ post) = (pre ++ flat x) ++ (⟨7, [], 0⟩ : Op) :: post := by simp [flat]
  have e3 : (flat (.neg x)).length = (flat x).length + 1 := by simp [flat]
  rw [e] at hl
  rw [e3] at hn
  have h1 := start_step (pre ++ flat x) post ⟨7, [], 0⟩ (k + (flat x).length) n (by omega) (by rw [← e2, e]; exact hl) (by omega)
  rw [← e2, e] at h1
  rw [e, e3, ← start_tree x pre (⟨7, [], 0⟩ :: post) k n hk hl (by omega), ← Nat.add_assoc, ← Nat.add_assoc]
  rw [List.length_append] at h1
  exact h1
 | .seq l r, pre, post, k, n, hk, hl, hn => by
  have e : pre ++ (flat (.seq l r) ++ post) = pre ++ (flat l ++ (flat r ++ (⟨4, [], 0⟩ :: post))) := by simp [flat]
  have e1 : pre ++ (flat (.seq l r) ++ post) = (pre ++ flat l) ++ (flat r ++ (⟨4, [], 0⟩ :: post)) := by simp [flat]
  have e2 : pre ++ (flat (.seq l r) ++ post) = ((pre ++ flat l) ++ flat r) ++ (⟨4, [], 0⟩ : Op) :: post := by simp [flat]
  have e3 : (flat (.seq l r)).length = (flat l).length + (flat r).length + 1 := by simp [flat]; omega
  rw [e3] at hn
  have h1 := start_step ((pre ++ flat l) ++ flat r) post ⟨4, [], 0⟩ (k + (flat l).length + (flat r).length) n (by omega) (by rw [← e2]; exact hl) (by omega)
  have h2 := start_tree r (pre ++ flat l) (⟨4, [], 0⟩ :: post) (k + (flat l).length) (n + 1) (by omega) (by rw [← e1]; exact hl) (by omega)
  have h3 := start_tree l pre (flat r ++ (⟨4, [], 0⟩ :: post)) k n hk (by rw [← e]; exact hl) (by omega)
  rw [← e2] at h1
  rw [← e1] at h2
  rw [← e] at h3
  simp only [List.length_append] at h1 h2
  rw [e3, ← h3, ← Nat.add_assoc, ← Nat.add_assoc, ← Nat.add_assoc, ← Nat.add_assoc, h1]
  exact h2
 | .alt l r, pre, post, k, n, hk, hl, hn => by
  have e : pre ++ (flat (.alt l r) ++ post) = pre ++ (flat l ++ (flat r ++ (⟨5, [], 0⟩ :: post))) := by simp [flat]
  have e1 : pre ++ (flat (.alt l r) ++ post) = (pre ++ flat l) ++ (flat r ++ (⟨5, [], 0⟩ :: post)) := by simp [flat]
  have e2 : pre ++ (flat (.alt l r) ++ post) = ((pre ++ flat l) ++ flat r) ++ (⟨5, [], 0⟩ : Op) :: post := by simp [flat]
  have e3 : (flat (.alt l r)).length = (flat l).length + (flat r).length + 1 := by simp [flat]; omega
  rw [e3] at hn
  have h1 := start_step ((pre ++ flat l) ++ flat r) post ⟨5, [], 0⟩ (k + (flat l).length + (flat r).length) n (by omega) (by rw [← e2]; exact hl) (by omega)
  have h2 := start_tree r (pre ++ flat l) (⟨5, [], 0⟩ :: post) (k + (flat l).length) (n + 1) (by omega) (by rw [← e1]; exact hl) (by omega)
  have h3 := start_tree l pre (flat r ++ (⟨5, [], 0⟩ :: post)) k n hk (by rw [← e]; exact hl) (by omega)
  rw [← e2] at h1
  rw [← e1] at h2
  rw [← e] at h3
  simp only [List.length_append] at h1 h2
  rw [e3, ← h3, ← Nat.add_assoc, ← Nat.add_assoc, ← Nat.add_assoc, ← Nat.add_assoc, h1]
  exact h2
theorem start_f (t : Tr) (pre post : List Op) (k : Nat) (hk : (flat t).length < k) (hl : (pre ++ (flat t ++ post)).length ≤ 1099511627776) : spec_l2start.f k (pre ++ (flat t ++ post)) (((pre.length + (flat t).length : Nat)) : Int) = some (pre.length : Int) := by
 obtain ⟨j, rfl⟩ : ∃ j, k = (j + 1) + (flat t).length := ⟨k - (flat t).length - 1, by omega⟩
 have h2 : (flat t).length ≤ (pre ++ (flat t ++ post)).length := by simp; omega
 have h := start_tree t pre post (j + 1) 0 (by omega) hl (by omega)
 rw [spec_l2start.f]
 refine Eq.trans h ?_
 rw [spec_l2start.l0]
 split <;> simp
theorem rdOf_mkd {m : List Bool} {i : Int} {k : Nat} (h : i = (k : Int)) : rdOf false m i = mkd m k := by
 subst h; simp [rdOf, mkd]
theorem l3null_at (Rs : List Ru) (Ls : List La) (pre : List Op) (o : Op) (m : List Bool) (k : Nat) (hl : (pre ++ [o]).length ≤ 1099511627776) :
 spec_l3null.f (k + 3) Rs Ls (pre ++ [o]) m = if o.f0 = 1 then some false else if o.f0 = 2 ∨ o.f0 = 3 then ((spec_l3target.f Rs Ls o.f0 o.f1 o.f2).bind fun t => if 0 ≤ t then (if t < (m.length : Int) then some (rdOf false m t) else none) else none)
  else if o.f0 = 4 ∨ o.f0 = 5 then ((spec_l2start.f k (pre ++ [o]) (pre.length : Int)).bind fun s => if 0 ≤ s then (if s ≤ (pre.length : Int) then ((spec_l3null.f k Rs Ls (((pre ++ [o]).take pre.length).drop s.toNat) m).bind fun y =>
   if o.f0 = 4 then (if y = true then spec_l3null.f k Rs Ls ((pre ++ [o]).take s.toNat) m else some false) else (if y = true then some true else spec_l3null.f k Rs Ls ((pre ++ [o]).take s.toNat) m)) else none) else none)
  else some true := by
 have hlen : ((pre ++ [o]).length : Int) = (pre.length : Int) + 1 := by simp
 have hw : wrap64 (((pre ++ [o]).length : Int) - 1) = (pre.length : Int) := by
  rw [List.length_append, List.length_singleton] at hl
  rw [hlen, wid (by omega) (by omega)]; omega
 have hrd : rd_T79 (pre ++ [o]) (pre.length : Int) = o := rd_at rfl
 obtain ⟨a, b, c⟩ := o
 rw [spec_l3null.f, hw, hrd, if_neg (by omega), if_pos (by omega), if_pos (by omega)]
 simp only
 by_cases h1 : a = 1
 ·rw [if_pos h1, if_pos h1]
 rw [if_neg h1, if_neg h1]
 by_cases h2 : a = 2
 ·rw [if_pos h2, if_pos (.inl h2), spec_l3null.j0, if_pos rfl]
 rw [if_neg h2]
 by_cases h3 : a = 3
 ·rw [if_pos (.inr h3), spec_l3null.j0, if_pos (by simpa using h3)]
 rw [if_neg (by rintro (h | h); exact h2 h; exact h3 h), spec_l3null.j0, if_neg (by simpa using h3)]
 by_cases h4 : a = 4
 ·rw [if_pos h4, if_pos (.inl h4), spec_l3null.j1, if_pos rfl, hw]
  refine congrArg _ (funext fun s => ?_)
  by_cases p1 : 0 ≤ s
  ·rw [if_pos p1, if_pos p1]
   by_cases p2 : s ≤ (pre.length : Int)
   ·rw [if_pos p2, if_pos p2, if_pos (by omega)]
    refine congrArg _ (funext fun y => ?_)
    have q : s ≤ ((pre ++ [(⟨a, b, c⟩ : Op)]).length : Int) := by rw [hlen]; omega
    rw [if_pos h4, if_pos h4, if_pos q]
    simp
   rw [if_neg p2, if_neg p2]
  rw [if_neg p1, if_neg p1]
 rw [if_neg h4]
 by_cases h5 : a = 5
 rotate_left
 ·rw [if_neg (by rintro (h | h); exact h4 h; exact h5 h), spec_l3null.j1, if_neg (by simpa using h5)]
 rw [if_pos (.inr h5), spec_l3null.j1, if_pos (by simpa using h5), hw]
 refine congrArg _ (funext fun s => ?_)
 by_cases p1 : 0 ≤ s
 ·rw [if_pos p1, if_pos p1]
  by_cases p2 : s ≤ (pre.length : Int)
  ·rw [if_pos p2, if_pos p2, if_pos (by omega)]
   refine congrArg _ (funext fun y => ?_)
   have q : s ≤ ((pre ++ [(⟨a, b, c⟩ : Op)]).length : Int) := by rw [hlen]; omega
   rw [if_neg h4, if_neg h4, if_pos q]
   simp
  rw [if_neg p2, if_neg p2]
 rw [if_neg p1, if_neg p1]
theorem l3null_flat (Rs : List Ru) (Ls : List La) (m : List Bool) (hR : Rs.length ≤ 1099511627776) (hL : Ls.length ≤ 1099511627776) (hm : m.length = Rs.length + Ls.length) :
 ∀ (x : Tr) (k : Nat), okT Rs.length Ls.length x → (flat x).length ≤ 1099511627776 → 4 * (flat x).length + 4 ≤ k → spec_l3null.f k Rs Ls (flat x) m = some (nullT Rs.length m x)
 | .emp, k, _, hl, hk => by
  obtain ⟨j, rfl⟩ : ∃ j, k = j + 3 := ⟨k - 3, by simp [flat] at hk; omega⟩
  exact (l3null_at Rs Ls [] ⟨0, [], 0⟩ m j hl).trans rfl
 | .set s, k, _, hl, hk => by
  obtain ⟨j, rfl⟩ : ∃ j, k = j + 3 := ⟨k - 3, by simp [flat] at hk; omega⟩
  exact (l3null_at Rs Ls [] ⟨1, s, 0⟩ m j hl).trans rfl
 | .ref n, k, hx, hl, hk => by
  obtain ⟨j, rfl⟩ : ∃ j, k = j + 3 := ⟨k - 3, by simp [flat] at hk; omega⟩
  have h1 : (0 : Int) ≤ n := hx.1
  have h2 : n < (Rs.length : Int) := hx.2
  refine (l3null_at Rs Ls [] ⟨2, [], n⟩ m j hl).trans ?_
  dsimp only
  rw [if_neg (by decide), if_pos (by decide), spec_l3target.f, if_pos rfl, Option.bind_some, if_pos h1, if_pos (by omega), rdOf_mkd (k := n.toNat) (by omega)]
  rfl
 | .thr n, k, hx, hl, hk => by
  obtain ⟨j, rfl⟩ : ∃ j, k = j + 3 := ⟨k - 3, by simp [flat] at hk; omega⟩
  have h1 : (0 : Int) ≤ n := hx.1
  have h2 : n < (Ls.length : Int) := hx.2
  refine (l3null_at Rs Ls [] ⟨3, [], n⟩ m j hl).trans ?_
  dsimp only
  rw [if_neg (by decide), if_pos (by decide), spec_l3target.f, if_neg (by decide), Option.bind_some, wid (by omega) (by omega), if_pos (by omega), if_pos (by omega), rdOf_mkd (k := Rs.length + n.toNat) (by omega)]
  rfl
 | .star x, k, hx, hl, hk => by
  obtain ⟨j, rfl⟩ : ∃ j, k = j + 3 := ⟨k - 3, by simp [flat] at hk; omega⟩
  exact (l3null_at Rs Ls (flat x) ⟨6, [], 0⟩ m j hl).trans rfl
 | .neg x, k, hx, hl, hk => by
  obtain ⟨j, rfl⟩ : ∃ j, k = j + 3 := ⟨k - 3, by simp [flat] at hk; omega⟩
  exact (l3null_at Rs Ls (flat x) ⟨7, [], 0⟩ m j hl).trans rfl
 | .seq l r, k, hx, hl, hk => by
  have e3 : (flat (.seq l r)).length = (flat l).length + (flat r).length + 1 := by simp [flat]; omega
  rw [e3] at hl hk
  have pl := flat_pos l
  have pr := flat_pos r
  obtain ⟨j, rfl⟩ : ∃ j, k = j + 3 := ⟨k - 3, by omega⟩
  have e : flat (.seq l r) = (flat l ++ flat r) ++ [⟨4, [], 0⟩] := by simp [flat]
  have hs := start_f r (flat l) [⟨4, [], 0⟩] j (by omega) (by simp; omega)
  rw [← List.append_assoc, ← e] at hs
  have il := l3null_flat Rs Ls m hR hL hm l j hx.1 (by omega) (by omega)
  have ir := l3null_flat Rs Ls m hR hL hm r j hx.2 (by omega) (by omega)
  have t1 : ((flat (.seq l r)).take (flat l ++ flat r).length).drop (flat l).length = flat r := by rw [e, List.take_left, List.drop_left]
  have t2 : (flat (.seq l r)).take (flat l).length = flat l := by rw [e, List.append_assoc, List.take_left]
  have h := l3null_at Rs Ls (flat l ++ flat r) ⟨4, [], 0⟩ m j (by simp; omega)
  rw [← e] at h
  rw [h, if_neg (by decide), if_neg (by decide), if_pos (by decide), List.length_append, hs, Option.bind_some, if_pos (by omega), if_pos (by omega), Int.toNat_natCast]
  rw [List.length_append] at t1
  rw [t1, ir, Option.bind_some, if_pos rfl, t2, il]
  simp only [nullT]
  cases nullT Rs.length m r <;> simp
 | .alt l r, k, hx, hl, hk => by
  have e3 : (flat (.alt l r)).length = (flat l).length + (flat r).length + 1 := by simp [flat]; omega
  rw [e3] at hl hk
  have pl := flat_pos l
  have pr := flat_pos r
  obtain ⟨j, rfl⟩ : ∃ j, k = j + 3 := ⟨k - 3, by omega⟩
  have e : flat (.alt l r) = (flat l ++ flat r) ++ [⟨5, [], 0⟩] := by simp [flat]
  have hs := start_f r (flat l) [⟨5, [], 0⟩] j (by omega) (by simp; omega)
  rw [← List.append_assoc, ← e] at hs
  have il := l3null_flat Rs Ls m hR hL hm l j hx.1 (by omega) (by omega)
  have ir := l3null_flat Rs Ls m hR hL hm r j hx.2 (by omega) (by omega)
  have t1 : ((flat (.alt l r)).take (flat l ++ flat r).length).drop (flat l).length = flat r := by rw [e, List.take_left, List.drop_left]
  have t2 : (flat (.alt l r)).take (flat l).length = flat l := by rw [e, List.append_assoc, List.take_left]
  have h := l3null_at Rs Ls (flat l ++ flat r) ⟨5, [], 0⟩ m j (by simp; omega)
  rw [← e] at h
  rw [h, if_neg (by decide), if_neg (by decide), if_pos (by decide), List.length_append, hs, Option.bind_some, if_pos (by omega), if_pos (by omega), Int.toNat_natCast]
  rw [List.length_append] at t1
  rw [t1, ir, Option.bind_some, if_neg (by decide), t2, il]
  simp only [nullT]
  cases nullT Rs.length m r <;> simp
end Go.Proofs.Ytdiilocgjnlmiaa.Tre
