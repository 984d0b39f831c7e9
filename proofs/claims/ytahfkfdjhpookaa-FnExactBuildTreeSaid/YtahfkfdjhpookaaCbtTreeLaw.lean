import Derived.Test.YtahfkfdjhpookaaCbtTextChar
import Derived.Test.YtahfkfdjhpookaaCbtPAllx6
import Derived.Test.YtahfkfdjhpookaaCbtPAllx38
import Derived.Test.YtahfkfdjhpookaaCbtPAllx5
namespace Go.Proofs.Ytahfkfdjhpookaa.Tree
open Go.RowKit Go.Proofs.YtahfkfdjhpookaaW.PrintWords Go.Proofs.YtahfkfdjhpookaaW.PrintLast
open Go.Proofs.Ytahfkfdjhpookaa.PAll Go.Proofs.Ytahfkfdjhpookaa.Txt
abbrev Ev := S93
abbrev Nd := S95
/-- the events are in order and balanced: last: the offset before; m: how many are open -/
def okF : List Ev → Int → Nat → Bool
  | [], _, m => m == 0
  | e :: r, last, m => if e.f2 < last then false else if e.f0 = 2 then (if m = 0 then false else okF r e.f2 (m - 1)) else if e.f0 = 0 ∨ e.f0 = 1 then okF r e.f2 (m + 1) else false
/-- the ends of the open nodes (top first), and the nodes to come -/
def G : List Ev → List Int → Int → List Int × List Nd
  | [], st, _ => (st.map fun _ => 0, [])
  | e :: r, st, n => if e.f0 = 2 then (e.f2 :: (G r st.tail n).1, (G r st.tail n).2)
    else ((G r (n :: st) (n + 1)).1.tail, ⟨e.f0, e.f1, e.f2, (G r (n :: st) (n + 1)).1.headD 0, st.headD (-1)⟩ :: (G r (n :: st) (n + 1)).2)
def rdN (xs : List Nd) (i : Int) : Nd := rd_T95 xs i
def setTo (xs : List Nd) (s : Int) (t : Int) : List Nd := xs.set s.toNat ⟨(rdN xs s).f0, (rdN xs s).f1, (rdN xs s).f2, t, (rdN xs s).f4⟩
def patch : List Nd → List Int → List Int → List Nd
  | out, s :: st, t :: ts => patch (setTo out s t) st ts
  | out, _, _ => out
theorem rdN_append (a b : List Nd) (s : Int) (h0 : 0 ≤ s) (h : s < a.length) : rdN (a ++ b) s = rdN a s := by
  unfold rdN rd_T95
  rw [List.getD_eq_getElem?_getD, List.getD_eq_getElem?_getD, List.getElem?_append_left (by omega)]
theorem setTo_append (a b : List Nd) (s t : Int) (h0 : 0 ≤ s) (h : s < a.length) : setTo (a ++ b) s t = setTo a s t ++ b := by
  unfold setTo
  rw [rdN_append a b s h0 h, List.set_append_left _ _ (by omega)]
theorem setTo_length (a : List Nd) (s t : Int) : (setTo a s t).length = a.length := by simp [setTo]
theorem patch_append (b : List Nd) : ∀ (st ts : List Int) (a : List Nd), (∀ s ∈ st, 0 ≤ s ∧ s < a.length) → patch (a ++ b) st ts = patch a st ts ++ b
  | [], _, a, _ => by simp [patch]
  | _ :: _, [], a, _ => by simp [patch]
  | s :: st, t :: ts, a, h => by
    rw [patch, patch, setTo_append a b s t (h s (by simp)).1 (h s (by simp)).2]
    exact patch_append b st ts _ (fun x hx => by rw [setTo_length]; exact h x (by simp [hx]))
theorem patch_new (a : List Nd) (x : Nd) (t : Int) (st ts : List Int) (h : ∀ s ∈ st, 0 ≤ s ∧ s < a.length) : patch (a ++ [x]) ((a.length : Int) :: st) (t :: ts) = patch a st ts ++ [⟨x.f0, x.f1, x.f2, t, x.f4⟩] := by
  have hr : rdN (a ++ [x]) (a.length : Int) = x := by simp [rdN, rd_T95]
  rw [patch, setTo, hr, Int.toNat_natCast, List.set_append_right _ _ (Nat.le_refl _), Nat.sub_self, List.set_cons_zero]
  exact patch_append _ st ts a h
theorem G_len : ∀ (r : List Ev) (st : List Int) (n last : Int), okF r last st.length = true → (G r st n).1.length = st.length
  | [], st, _, _, _ => by simp [G]
  | e :: r, st, n, last, h => by
    rw [okF] at h
    split at h
    · cases h
    split at h
    · rename_i h2
      cases st with
      | nil => simp at h
      | cons s st =>
        rw [if_neg (by simp), List.length_cons, Nat.add_sub_cancel] at h
        rw [G, if_pos h2]
        simp [G_len r st n _ h]
    · rename_i h2
      split at h
      · rw [G, if_neg h2]
        have := G_len r (n :: st) (n + 1) e.f2 (by simpa using h)
        simp [this]
      · cases h
theorem snoc_cases (l : List Int) : l = [] ∨ ∃ o x, l = o ++ [x] := by
  by_cases h : l = []
  · exact .inl h
  · exact .inr ⟨l.dropLast, l.getLast h, (List.dropLast_concat_getLast h).symm⟩
theorem rd_last (o : List Int) (x : Int) : rd (o ++ [x]) (o.length : Int) = x := by simp [rd]
set_option maxHeartbeats 1000000 in
theorem impl_loop (ev : List Ev) (hm : ev.length ≤ 1048576) : ∀ (r : List Ev) (k i : Nat) (out : List Nd) (op : List Int) (last : Int), ev.drop i = r → i ≤ ev.length → 2 * r.length + 2 ≤ k → out.length ≤ i → op.length ≤ i → (∀ s ∈ op, 0 ≤ s ∧ s < out.length) →
    impl_BuildTree.l0 k out op last ev (ev.length : Int) (i : Int) = if okF r last op.length = true then some (patch out op.reverse (G r op.reverse out.length).1 ++ (G r op.reverse out.length).2, 0) else some ([], 4)
  | [], k, i, out, op, last, hd, hi, hk, ho, hop, hb => by
    have hie : i = ev.length := by
      have := congrArg List.length hd
      simp at this; omega
    obtain ⟨k, rfl⟩ : ∃ q, k = q + 1 := ⟨k - 1, by omega⟩
    rw [impl_BuildTree.l0, if_neg (by omega), okF]
    cases op with
    | nil => simp [patch, G]
    | cons s op => rw [if_pos (by simp), if_neg (by simp)]
  | e :: r, k, i, out, op, last, hd, hi, hk, ho, hop, hb => by
    have hlt : i < ev.length := by
      have := congrArg List.length hd
      simp at this; omega
    have he : rd_T93 ev (i : Int) = e := by
      have := congrArg (fun l : List Ev => l[0]?) hd
      simp at this
      simp [rd_T93, List.getElem?_eq_getElem hlt] at this ⊢
      exact this
    have hdr : ev.drop (i + 1) = r := by rw [← List.drop_drop, hd]; rfl
    simp only [List.length_cons] at hk
    obtain ⟨k, rfl⟩ : ∃ q, k = q + 2 := ⟨k - 2, by omega⟩
    rw [impl_BuildTree.l0, if_pos (by omega), if_pos (by omega), if_pos (by omega), he, okF]
    by_cases c1 : e.f2 < last
    · rw [if_pos c1, if_pos c1, if_neg (by decide)]
    rw [if_neg c1, if_neg c1]
    have ih := fun out' op' h1 h2 h3 => impl_loop ev hm r k (i + 1) out' op' e.f2 hdr (by omega) (by omega) h1 h2 h3
    rw [show (((i + 1 : Nat)) : Int) = (i : Int) + 1 by omega] at ih
    by_cases c2 : e.f0 = 2
    · have e2 : (if e.f0 = 0 then impl_BuildTree.j1 (k + 1) out op e.f2 ev (ev.length : Int) (i : Int) e.f0 (e.f0 == 0) e.f0 e.f1 e.f2 else impl_BuildTree.j1 (k + 1) out op e.f2 ev (ev.length : Int) (i : Int) e.f0 (e.f0 == 1) e.f0 e.f1 e.f2) = impl_BuildTree.j1 (k + 1) out op e.f2 ev (ev.length : Int) (i : Int) e.f0 false e.f0 e.f1 e.f2 := by
        rw [if_neg (by omega)]
        simp [c2]
      rw [e2, impl_BuildTree.j1, if_neg (by decide), if_pos c2, if_pos c2]
      rcases snoc_cases op with rfl | ⟨o, x, rfl⟩
      · rw [if_pos (by unfold wrap64; simp), if_neg (by simp)]
      · have hx := hb x (by simp)
        simp only [List.length_append, List.length_singleton]
        rw [if_neg (show ¬ o.length + 1 = 0 by omega), Nat.add_sub_cancel, wid (x := ((o.length + 1 : Nat) : Int) - 1) (by simp at hop; omega) (by simp at hop; omega), if_neg (by omega), if_pos (by omega), if_pos (by omega),
          show ((o.length + 1 : Nat) : Int) - 1 = (o.length : Int) by omega, rd_last, if_pos hx.1, if_pos hx.2, if_pos (by omega), wid (x := (i : Int) + 1) (by omega) (by omega), Int.toNat_natCast, List.take_left']
        · have := ih (setTo out x e.f2) o (by rw [setTo_length]; omega) (by simp at hop; omega) (fun s hs => by rw [setTo_length]; exact hb s (by simp [hs]))
          rw [setTo] at this
          rw [show rd_T95 = rdN from rfl, this, List.reverse_append, List.reverse_singleton, List.singleton_append, G, if_pos c2, List.length_set, List.tail_cons]
          rfl
        · rfl
    · rw [if_neg c2]
      by_cases c3 : e.f0 = 0 ∨ e.f0 = 1
      · have e2 : (if e.f0 = 0 then impl_BuildTree.j1 (k + 1) out op e.f2 ev (ev.length : Int) (i : Int) e.f0 (e.f0 == 0) e.f0 e.f1 e.f2 else impl_BuildTree.j1 (k + 1) out op e.f2 ev (ev.length : Int) (i : Int) e.f0 (e.f0 == 1) e.f0 e.f1 e.f2) = impl_BuildTree.j1 (k + 1) out op e.f2 ev (ev.length : Int) (i : Int) e.f0 true e.f0 e.f1 e.f2 := by
          rcases c3 with c3 | c3 <;> simp [c3]
        rw [e2, impl_BuildTree.j1, if_pos rfl, if_pos c3]
        have key : ∀ p : Int, p = op.reverse.headD (-1) → (if op.length < 17592186044416 then (if out.length < 3518437208883 then (impl_BuildTree.l0 k (out ++ [(⟨e.f0, e.f1, e.f2, 0, p⟩ : Nd)]) (op ++ [(out.length : Int)]) e.f2 ev (ev.length : Int) (wrap64 ((i : Int) + 1))) else none) else none) =
            if okF r e.f2 (op.length + 1) = true then some (patch out op.reverse (G (e :: r) op.reverse out.length).1 ++ (G (e :: r) op.reverse out.length).2, 0) else some ([], 4) := by
          intro p hp
          rw [if_pos (by omega), if_pos (by omega), wid (x := (i : Int) + 1) (by omega) (by omega)]
          have h := ih (out ++ [(⟨e.f0, e.f1, e.f2, 0, p⟩ : Nd)]) (op ++ [(out.length : Int)]) (by simp; omega) (by simp; omega) (fun s hs => by
            simp only [List.length_append, List.length_singleton]
            rcases List.mem_append.1 hs with h | h
            · have := hb s h; omega
            · simp at h; omega)
          rw [h]
          simp only [List.length_append, List.length_singleton, List.reverse_append, List.reverse_singleton, List.singleton_append]
          by_cases hok : okF r e.f2 (op.length + 1) = true
          · rw [if_pos hok, if_pos hok]
            have hgl := G_len r ((out.length : Int) :: op.reverse) ((out.length : Int) + 1) e.f2 (by simpa using hok)
            rw [show (((out.length + 1 : Nat)) : Int) = (out.length : Int) + 1 by omega, G, if_neg c2]
            obtain ⟨t, ts, ht⟩ : ∃ t ts, (G r ((out.length : Int) :: op.reverse) ((out.length : Int) + 1)).1 = t :: ts := by
              cases hg : (G r ((out.length : Int) :: op.reverse) ((out.length : Int) + 1)).1 with
              | nil => rw [hg] at hgl; simp at hgl
              | cons t ts => exact ⟨t, ts, rfl⟩
            rw [ht, patch_new out _ t op.reverse ts (fun s hs => hb s (by simpa using hs)), ← hp]
            simp
          · rw [if_neg hok, if_neg hok]
        by_cases hop0 : (op.length : Int) > 0
        · rcases snoc_cases op with rfl | ⟨o, x, rfl⟩
          · simp at hop0
          · rw [if_pos hop0]
            have hl : ((o ++ [x]).length : Int) - 1 = (o.length : Int) := by simp
            rw [hl, wid (x := (o.length : Int)) (by simp at hop; omega) (by simp at hop; omega), if_pos (by omega), if_pos (by simp; omega), rd_last]
            exact key x (by simp)
        · rw [if_neg hop0]
          have : op = [] := by
            cases op with
            | nil => rfl
            | cons a b => simp at hop0
          subst this
          exact key (-1) rfl
      · rw [if_neg c3]
        have e2 : (if e.f0 = 0 then impl_BuildTree.j1 (k + 1) out op e.f2 ev (ev.length : Int) (i : Int) e.f0 (e.f0 == 0) e.f0 e.f1 e.f2 else impl_BuildTree.j1 (k + 1) out op e.f2 ev (ev.length : Int) (i : Int) e.f0 (e.f0 == 1) e.f0 e.f1 e.f2) = impl_BuildTree.j1 (k + 1) out op e.f2 ev (ev.length : Int) (i : Int) e.f0 false e.f0 e.f1 e.f2 := by
          rw [if_neg (by omega)]
          rw [show (e.f0 == 1) = false by simp; omega]
        rw [e2, impl_BuildTree.j1, if_neg (by decide), if_neg c2, if_neg (by decide)]
/-- what BuildTree answers -/
def tree (ev : List Ev) : List Nd × Int := if okF ev 0 0 = true then ((G ev [] 0).2, 0) else ([], 4)
theorem impl_tree (ev : List Ev) (hm : ev.length ≤ 1048576) (k : Nat) (hk : 2 * ev.length + 2 ≤ k) : impl_BuildTree.f k ev = some (tree ev) := by
  rw [impl_BuildTree.f]
  have := impl_loop ev hm ev k 0 [] [] 0 rfl (by omega) hk (by simp) (by simp) (fun s hs => by cases hs)
  rw [show ((0 : Nat) : Int) = 0 from rfl] at this
  rw [this, tree]
  by_cases h : okF ev 0 0 = true
  · rw [if_pos (by simpa using h), if_pos h]; simp [patch]
  · rw [if_neg (by simpa using h), if_neg h]
def T1 : List Ev → Nat → List Int
  | [], m => List.replicate m 0
  | e :: r, m => if e.f0 = 2 then e.f2 :: T1 r (m - 1) else (T1 r (m + 1)).tail
theorem G_T1 : ∀ (r : List Ev) (st : List Int) (n : Int), (G r st n).1 = T1 r st.length
  | [], st, n => by simp [G, T1, List.map_const']
  | e :: r, st, n => by
    rw [G, T1]
    by_cases c : e.f0 = 2
    · rw [if_pos c, if_pos c]; simp [G_T1 r st.tail n]
    · rw [if_neg c, if_neg c]; simp [G_T1 r (n :: st) (n + 1)]
def mAt (ev : List Ev) : Nat → Nat
  | 0 => 0
  | i + 1 => if (rd_T93 ev (i : Int)).f0 = 2 then mAt ev i - 1 else mAt ev i + 1
def prv (ev : List Ev) : Nat → Int
  | 0 => 0
  | i + 1 => (rd_T93 ev (i : Int)).f2
theorem mAt_le (ev : List Ev) : ∀ i, mAt ev i ≤ i
  | 0 => by simp [mAt]
  | i + 1 => by
    have := mAt_le ev i
    rw [mAt]; split <;> omega
theorem at_drop {ev r : List Ev} {e : Ev} {i : Nat} (hd : ev.drop i = e :: r) : i < ev.length ∧ rd_T93 ev (i : Int) = e ∧ ev.drop (i + 1) = r := by
  have hlt : i < ev.length := by
    have := congrArg List.length hd
    simp at this; omega
  refine ⟨hlt, ?_, by rw [← List.drop_drop, hd]; rfl⟩
  have := congrArg (fun l : List Ev => l[0]?) hd
  simp at this
  simp [rd_T93, List.getElem?_eq_getElem hlt] at this ⊢
  exact this
theorem end_drop {ev : List Ev} {i : Nat} (hi : i ≤ ev.length) (hd : ev.drop i = []) : i = ev.length := by
  have := congrArg List.length hd
  simp at this; omega
theorem ok_loop (ev : List Ev) (hm : ev.length ≤ 1048576) : ∀ (r : List Ev) (k i : Nat) (op : Nat), ev.drop i = r → i ≤ ev.length → 3 * r.length + 2 ≤ k → op ≤ i → 0 ≤ prv ev i →
    spec_l5eventsOK.l0 k ev (op : Int) (i : Int) = some (okF r (prv ev i) op)
  | [], k, i, op, hd, hi, hk, ho, hp => by
    have hie := end_drop hi hd
    obtain ⟨k, rfl⟩ : ∃ q, k = q + 1 := ⟨k - 1, by omega⟩
    rw [spec_l5eventsOK.l0, if_neg (by omega), okF]
    congr 1
    rw [Bool.eq_iff_iff]; simp
  | e :: r, k, i, op, hd, hi, hk, ho, hp => by
    obtain ⟨hlt, he, hdr⟩ := at_drop hd
    simp only [List.length_cons] at hk
    obtain ⟨k, rfl⟩ : ∃ q, k = q + 3 := ⟨k - 3, by omega⟩
    have ih := fun op' h1 h2 => ok_loop ev hm r k (i + 1) op' hdr (by omega) (by omega) h1 h2
    rw [show (((i + 1 : Nat)) : Int) = (i : Int) + 1 by omega, show prv ev (i + 1) = e.f2 by rw [prv, he]] at ih
    rw [spec_l5eventsOK.l0, if_pos (by omega), if_pos (by omega), he, okF]
    by_cases c1 : e.f0 < 0
    · rw [if_pos c1, spec_l5eventsOK.j1, if_pos rfl]
      congr 1
      split
      · rfl
      · rw [if_neg (by omega), if_neg (by omega)]
    rw [if_neg c1]
    by_cases c2 : e.f0 > 2
    · rw [if_pos c2, spec_l5eventsOK.j1, if_pos rfl]
      congr 1
      split
      · rfl
      · rw [if_neg (by omega), if_neg (by omega)]
    rw [if_neg c2, spec_l5eventsOK.j1]
    by_cases c3 : e.f2 < 0
    · rw [if_pos (by simpa using c3), if_pos (by omega)]
    rw [if_neg (by simpa using c3)]
    have j2 : ∀ b : Bool, b = decide (e.f2 < prv ev i) → spec_l5eventsOK.j2 (k + 1) ev (op : Int) (i : Int) b = some (if e.f2 < prv ev i then false else if e.f0 = 2 then (if op = 0 then false else okF r e.f2 (op - 1)) else if e.f0 = 0 ∨ e.f0 = 1 then okF r e.f2 (op + 1) else false) := by
      intro b hb
      subst hb
      rw [spec_l5eventsOK.j2]
      by_cases c4 : e.f2 < prv ev i
      · rw [if_pos (by simpa using c4), if_pos c4]
      rw [if_neg (by simpa using c4), if_neg c4, if_pos (by omega), if_pos (by omega), he, wid (x := (i : Int) + 1) (by omega) (by omega)]
      by_cases c5 : e.f0 = 2
      · rw [if_pos c5, if_pos c5, wid (x := (op : Int) - 1) (by omega) (by omega)]
        by_cases c6 : op = 0
        · rw [if_pos (by omega), if_pos c6]
        · rw [if_neg (by omega), if_neg c6, show (op : Int) - 1 = ((op - 1 : Nat) : Int) by omega]
          exact ih (op - 1) (by omega) (by omega)
      · rw [if_neg c5, wid (x := (op : Int) + 1) (by omega) (by omega), if_neg (show ¬ (op : Int) + 1 < 0 by omega), if_neg c5, if_pos (show e.f0 = 0 ∨ e.f0 = 1 by omega)]
        exact ih (op + 1) (by omega) (by omega)
    by_cases c7 : (i : Int) > 0
    · obtain ⟨q, rfl⟩ : ∃ q, i = q + 1 := ⟨i - 1, by omega⟩
      rw [if_pos c7, if_pos (by omega), if_pos (by omega), wid (x := ((q + 1 : Nat) : Int) - 1) (by omega) (by omega), if_pos (by omega), if_pos (by omega), he]
      refine j2 _ ?_
      rw [prv, show ((q + 1 : Nat) : Int) - 1 = (q : Int) by omega]
    · rw [if_neg c7]
      obtain rfl : i = 0 := by omega
      refine j2 _ ?_
      rw [prv, decide_eq_false c3]
theorem okF_step {e : Ev} {r : List Ev} {last : Int} {m : Nat} (h : okF (e :: r) last m = true) : okF r e.f2 (if e.f0 = 2 then m - 1 else m + 1) = true ∧ (e.f0 = 2 → 0 < m) := by
  rw [okF] at h
  split at h
  · cases h
  split at h
  · rename_i c
    split at h
    · cases h
    · rw [if_pos c]; exact ⟨h, fun _ => by omega⟩
  · rename_i c
    split at h
    · rw [if_neg c]; exact ⟨h, fun x => absurd x c⟩
    · cases h
theorem ok_at (ev : List Ev) (h : okF ev 0 0 = true) : ∀ i, i ≤ ev.length → okF (ev.drop i) (prv ev i) (mAt ev i) = true
  | 0, _ => h
  | i + 1, hi => by
    have ih := ok_at ev h i (by omega)
    obtain ⟨e, r, hd⟩ : ∃ e r, ev.drop i = e :: r := by
      cases hc : ev.drop i with
      | nil => have := end_drop (by omega) hc; omega
      | cons e r => exact ⟨e, r, rfl⟩
    obtain ⟨_, he, hdr⟩ := at_drop hd
    rw [hd] at ih
    rw [hdr, prv, mAt, he]
    exact (okF_step ih).1
theorem close_pos (ev : List Ev) (h : okF ev 0 0 = true) (i : Nat) (hi : i < ev.length) (hc : (rd_T93 ev (i : Int)).f0 = 2) : 0 < mAt ev i := by
  have ih := ok_at ev h i (by omega)
  obtain ⟨e, r, hd⟩ : ∃ e r, ev.drop i = e :: r := by
    cases hc : ev.drop i with
    | nil => have := end_drop (by omega) hc; omega
    | cons e r => exact ⟨e, r, rfl⟩
  obtain ⟨_, he, hdr⟩ := at_drop hd
  rw [hd] at ih
  rw [he] at hc
  exact (okF_step ih).2 hc
/-- the depth of event i, its own included -/
def dep (ev : List Ev) (i : Nat) : Int := if (rd_T93 ev (i : Int)).f0 = 2 then (mAt ev i : Int) else (mAt ev i : Int) + 1
def deps (ev : List Ev) (n : Nat) : List Int := (List.range n).map (dep ev)
theorem deps_succ (ev : List Ev) (n : Nat) : deps ev (n + 1) = deps ev n ++ [dep ev n] := by simp [deps, List.range_succ]
theorem deps_at (ev : List Ev) {n i : Nat} (h : i < n) : rd (deps ev n) (i : Int) = dep ev i := by simp [rd, deps, h]
theorem deps_len (ev : List Ev) (n : Nat) : (deps ev n).length = n := by simp [deps]
theorem deps_loop (ev : List Ev) (hm : ev.length ≤ 1048576) (hok : okF ev 0 0 = true) : ∀ (d k i : Nat), i + d = ev.length → d < k → spec_l5depths.l0 k ev (deps ev i) (mAt ev i : Int) (i : Int) = some (deps ev ev.length)
  | 0, 0, _, _, h => by omega
  | d + 1, 0, _, _, h => by omega
  | 0, k + 1, i, h, hk => by rw [spec_l5depths.l0, if_neg (by omega), show i = ev.length by omega]
  | d + 1, k + 1, i, h, hk => by
    have ih := deps_loop ev hm hok d k (i + 1) (by omega) (by omega)
    have hml := mAt_le ev i
    have hdl := deps_len ev i
    rw [show (((i + 1 : Nat)) : Int) = (i : Int) + 1 by omega, deps_succ, mAt, dep] at ih
    rw [spec_l5depths.l0, if_pos (show (i : Int) < (ev.length : Int) by omega), if_pos (show 0 ≤ (i : Int) by omega), wid (x := (i : Int) + 1) (by omega) (by omega)]
    by_cases c : (rd_T93 ev (i : Int)).f0 = 2
    · have := close_pos ev hok i (by omega) c
      rw [if_pos c, if_pos (by omega), wid (x := (mAt ev i : Int) - 1) (by omega) (by omega)]
      rw [if_pos c, if_pos c, show ((mAt ev i - 1 : Nat) : Int) = (mAt ev i : Int) - 1 by omega] at ih
      exact ih
    · rw [if_neg c, wid (x := (mAt ev i : Int) + 1) (by omega) (by omega), if_pos (by omega)]
      rw [if_neg c, if_neg c, show ((mAt ev i + 1 : Nat) : Int) = (mAt ev i : Int) + 1 by omega] at ih
      exact ih
theorem rd_set (l : List Int) (i j : Nat) (x : Int) (h : i < l.length) : rd (l.set i x) (j : Int) = if j = i then x else rd l (j : Int) := by
  unfold rd
  rw [Int.toNat_natCast, List.getD_eq_getElem?_getD, List.getD_eq_getElem?_getD, List.getElem?_set]
  by_cases c : j = i
  · subst c; simp [h]
  · rw [if_neg (fun e => c e.symm), if_neg c]
/-- behind the events from i on: where the nodes that are open before i end -/
def Ends (ev : List Ev) (ends : List Int) (i : Nat) : Prop := ∀ j : Nat, 1 ≤ j → j ≤ mAt ev i → rd ends (j : Int) = rd (T1 (ev.drop i) (mAt ev i)) ((mAt ev i - j : Nat) : Int)
def Tos (ev : List Ev) (tq : List Int) (i : Nat) : Prop := ∀ q : Nat, i ≤ q → q < ev.length → ¬ (rd_T93 ev (q : Int)).f0 = 2 → rd tq (q : Int) = rd (T1 (ev.drop (q + 1)) (mAt ev (q + 1))) 0
theorem rd_tail (l : List Int) (j : Nat) : rd l.tail (j : Int) = rd l ((j + 1 : Nat) : Int) := by
  unfold rd
  rw [Int.toNat_natCast, Int.toNat_natCast]
  cases l <;> simp
theorem rd_cons (x : Int) (l : List Int) (j : Nat) : rd (x :: l) ((j + 1 : Nat) : Int) = rd l (j : Int) := by
  unfold rd
  rw [Int.toNat_natCast, Int.toNat_natCast]
  simp
theorem cons_drop {ev : List Ev} {i : Nat} (hi : i < ev.length) : ev.drop i = rd_T93 ev (i : Int) :: ev.drop (i + 1) := by
  obtain ⟨e, r, hd⟩ : ∃ e r, ev.drop i = e :: r := by
    cases hc : ev.drop i with
    | nil => have := end_drop (by omega) hc; omega
    | cons e r => exact ⟨e, r, rfl⟩
  obtain ⟨_, he, hdr⟩ := at_drop hd
  rw [hd, he, hdr]
theorem ends_close {ev : List Ev} (hok : okF ev 0 0 = true) {i : Nat} (hi : i < ev.length) (hc : (rd_T93 ev (i : Int)).f0 = 2) {ends : List Int} (hl : mAt ev i < ends.length) (h : Ends ev ends (i + 1)) :
    Ends ev (ends.set (mAt ev i) (rd_T93 ev (i : Int)).f2) i := by
  intro j h1 h2
  have hp := close_pos ev hok i hi hc
  have hn : mAt ev (i + 1) = mAt ev i - 1 := by rw [mAt, if_pos hc]
  rw [rd_set _ _ _ _ hl, cons_drop hi, T1, if_pos hc]
  by_cases c : j = mAt ev i
  · rw [if_pos c, c, Nat.sub_self]; rfl
  · rw [if_neg c, show mAt ev i - j = (mAt ev i - 1 - j) + 1 by omega, rd_cons, ← hn]
    exact h j h1 (by omega)
theorem ends_open {ev : List Ev} {i : Nat} (hi : i < ev.length) (hc : ¬ (rd_T93 ev (i : Int)).f0 = 2) {ends : List Int} (h : Ends ev ends (i + 1)) :
    Ends ev ends i ∧ rd ends ((mAt ev i + 1 : Nat) : Int) = rd (T1 (ev.drop (i + 1)) (mAt ev (i + 1))) 0 := by
  have hn : mAt ev (i + 1) = mAt ev i + 1 := by rw [mAt, if_neg hc]
  constructor
  · intro j h1 h2
    rw [h j h1 (by omega), cons_drop hi, T1, if_neg hc, rd_tail, ← hn, show mAt ev (i + 1) - j = mAt ev i - j + 1 by omega]
  · rw [← hn, h (mAt ev (i + 1)) (by omega) (Nat.le_refl _), Nat.sub_self]; rfl
theorem rd_head (l : List Int) : rd l 0 = l.headD 0 := by cases l <;> rfl
theorem dep_range {ev : List Ev} {i : Nat} : 0 ≤ dep ev i ∧ dep ev i ≤ (i : Int) + 1 ∧ ((rd_T93 ev (i : Int)).f0 = 2 → dep ev i = (mAt ev i : Int)) ∧ (¬ (rd_T93 ev (i : Int)).f0 = 2 → dep ev i = ((mAt ev i + 1 : Nat) : Int)) := by
  have := mAt_le ev i
  unfold dep
  by_cases c : (rd_T93 ev (i : Int)).f0 = 2
  · rw [if_pos c]; exact ⟨by omega, by omega, fun _ => rfl, fun x => absurd c x⟩
  · rw [if_neg c]; exact ⟨by omega, by omega, fun x => absurd x c, fun _ => by omega⟩
theorem back_loop (ev : List Ev) (hm : ev.length ≤ 1048576) (hok : okF ev 0 0 = true) (k : Nat) : ∀ (n : Nat) (ends tq : List Int), n ≤ ev.length → ends.length = ev.length + 2 → tq.length = ev.length → Ends ev ends n → Tos ev tq n →
    ∃ tq', tq'.length = ev.length ∧ Tos ev tq' 0 ∧ spec_BuildTree.l0 (k + n + 1) ev (deps ev ev.length) ends tq ((n : Int) - 1) = spec_BuildTree.l1 k ev (deps ev ev.length) tq' ((List.replicate (ev.length + 2) 0).set 0 (-1)) [] 0
  | 0, ends, tq, hn, hl, ht, he, hq => by
    refine ⟨tq, ht, hq, ?_⟩
    rw [spec_BuildTree.l0, if_neg (by omega), wid (x := (ev.length : Int) + 2) (by omega) (by omega), if_pos (by omega), if_pos (by omega), Option.bind_some, show ((ev.length : Int) + 2).toNat = ev.length + 2 by omega, if_pos (by simp; omega)]
    rfl
  | n + 1, ends, tq, hn, hl, ht, he, hq => by
    have hml := mAt_le ev n
    obtain ⟨d0, d1, d2, d3⟩ := dep_range (ev := ev) (i := n)
    have hdl := deps_len ev ev.length
    have hda := deps_at ev (show n < ev.length by omega)
    rw [show k + (n + 1) + 1 = (k + n + 1) + 1 by omega, show ((n + 1 : Nat) : Int) - 1 = (n : Int) by omega, spec_BuildTree.l0, if_pos (by omega), if_pos (by omega), if_pos (by omega), hda, hdl, wid (x := (n : Int) - 1) (by omega) (by omega)]
    by_cases c : (rd_T93 ev (n : Int)).f0 = 2
    · have hd := d2 c
      rw [if_pos c, if_pos (by omega), if_pos (by omega), if_pos (by omega), hd, Int.toNat_natCast]
      refine back_loop ev hm hok k n _ tq (by omega) (by simp [hl]) ht (ends_close hok (by omega) c (by omega) he) (fun q h1 h2 h3 => ?_)
      by_cases e : q = n
      · subst e; exact absurd c h3
      · exact hq q (by omega) h2 h3
    · have hd := d3 c
      obtain ⟨h1, h2⟩ := ends_open (show n < ev.length by omega) c he
      rw [if_neg c, if_pos (by omega), if_pos (by omega), if_pos (by omega), if_pos (by omega), hd, h2, Int.toNat_natCast]
      refine back_loop ev hm hok k n ends _ (by omega) hl (by simp [ht]) h1 (fun q g1 g2 g3 => ?_)
      rw [rd_set _ _ _ _ (by omega)]
      by_cases e : q = n
      · rw [if_pos e, e]
      · rw [if_neg e]; exact hq q (by omega) g2 g3
theorem fw_loop (ev : List Ev) (hm : ev.length ≤ 1048576) (hok : okF ev 0 0 = true) (tq : List Int) (htl : tq.length = ev.length) (ht : Tos ev tq 0) : ∀ (r : List Ev) (k i : Nat) (last : List Int) (out : List Nd) (st : List Int),
    ev.drop i = r → i ≤ ev.length → r.length < k → last.length = ev.length + 2 → out.length ≤ i → st.length = mAt ev i → rd last 0 = -1 → (∀ j : Nat, 1 ≤ j → j ≤ mAt ev i → rd last (j : Int) = rd st ((mAt ev i - j : Nat) : Int)) →
    spec_BuildTree.l1 k ev (deps ev ev.length) tq last out (i : Int) = some (out ++ (G r st out.length).2, 0)
  | _, 0, _, _, _, _, _, _, h, _, _, _, _, _ => by omega
  | [], k + 1, i, last, out, st, hd, hi, hk, hl, ho, hs, h0, hst => by
    have hie := end_drop hi hd
    rw [spec_BuildTree.l1, if_neg (by omega), G]
    simp
  | e :: r, k + 1, i, last, out, st, hd, hi, hk, hl, ho, hs, h0, hst => by
    obtain ⟨hlt, he, hdr⟩ := at_drop hd
    simp only [List.length_cons] at hk
    have hml := mAt_le ev i
    obtain ⟨d0, d1, d2, d3⟩ := dep_range (ev := ev) (i := i)
    have hdl := deps_len ev ev.length
    have hda := deps_at ev hlt
    have hte := ht i (Nat.zero_le _) hlt
    rw [he] at d2 d3 hte
    rw [spec_BuildTree.l1, if_pos (by omega), if_pos (by omega), he, hda, hdl, wid (x := (i : Int) + 1) (by omega) (by omega), G]
    by_cases c : e.f0 = 2
    · have hp := close_pos ev hok i hlt (by rw [he]; exact c)
      have hn : mAt ev (i + 1) = mAt ev i - 1 := by rw [mAt, he, if_pos c]
      rw [if_pos c, if_pos c]
      have := fw_loop ev hm hok tq htl ht r k (i + 1) last out st.tail hdr (by omega) (by omega) hl (by omega) (by rw [List.length_tail, hs, hn]) h0 (fun j h1 h2 => by
        rw [hst j h1 (by omega), rd_tail, hn, show mAt ev i - j = mAt ev i - 1 - j + 1 by omega])
      rw [show (((i + 1 : Nat)) : Int) = (i : Int) + 1 by omega] at this
      exact this
    · have hd := d3 c
      have hn : mAt ev (i + 1) = mAt ev i + 1 := by rw [mAt, he, if_neg c]
      rw [if_neg c, if_neg c, if_pos (by omega), if_pos (by omega), if_pos (by omega), Option.bind_some, if_pos (by omega), hd, wid (x := ((mAt ev i + 1 : Nat) : Int) - 1) (by omega) (by omega), if_pos (by omega)]
      rw [Int.toNat_natCast, show ((mAt ev i + 1 : Nat) : Int) - 1 = (mAt ev i : Int) by omega, if_pos (by omega), if_pos (by omega), rd_set last (mAt ev i + 1) (mAt ev i) _ (by omega), if_neg (by omega), hte c]
      have hpar : rd last (mAt ev i : Int) = st.headD (-1) := by
        by_cases z : mAt ev i = 0
        · rw [z] at hs ⊢
          rw [List.eq_nil_of_length_eq_zero hs]
          exact h0
        · rw [hst (mAt ev i) (by omega) (Nat.le_refl _), Nat.sub_self]
          cases st with
          | nil => simp at hs; omega
          | cons a b => rfl
      have hto : rd (T1 (ev.drop (i + 1)) (mAt ev (i + 1))) 0 = (G r ((out.length : Int) :: st) ((out.length : Int) + 1)).1.headD 0 := by
        rw [rd_head, G_T1, hdr, List.length_cons, hs, hn]
      rw [hpar, hto]
      have := fw_loop ev hm hok tq htl ht r k (i + 1) (last.set (mAt ev i + 1) (out.length : Int)) (out ++ [⟨e.f0, e.f1, e.f2, (G r ((out.length : Int) :: st) ((out.length : Int) + 1)).1.headD 0, st.headD (-1)⟩]) ((out.length : Int) :: st) hdr (by omega) (by omega) (by simp [hl]) (by simp; omega) (by simp [hs, hn])
        (by rw [show (0 : Int) = ((0 : Nat) : Int) from rfl, rd_set _ _ _ _ (by omega), if_neg (by omega)]; exact h0) (fun j h1 h2 => by
          rw [rd_set _ _ _ _ (by omega), hn]
          by_cases e2 : j = mAt ev i + 1
          · rw [if_pos e2, e2, Nat.sub_self]; rfl
          · rw [if_neg e2, hst j h1 (by omega), show mAt ev i + 1 - j = mAt ev i - j + 1 by omega, rd_cons])
      rw [show (((i + 1 : Nat)) : Int) = (i : Int) + 1 by omega] at this
      rw [this, List.length_append, List.length_singleton, show (((out.length + 1 : Nat)) : Int) = (out.length : Int) + 1 by omega]
      simp
theorem spec_tree (ev : List Ev) (hm : ev.length ≤ 1048576) (k : Nat) (hk : 3 * ev.length + 10 ≤ k) : spec_BuildTree.f k ev = some (tree ev) := by
  have h1 := ok_loop ev hm ev k 0 0 rfl (by omega) (by omega) (by omega) (by simp [prv])
  rw [spec_BuildTree.f, spec_l5eventsOK.f, show (0 : Int) = ((0 : Nat) : Int) from rfl, h1, Option.bind_some, tree, prv]
  by_cases hok : okF ev 0 0 = true
  · rw [if_pos hok, if_pos hok]
    have h2 := deps_loop ev hm hok ev.length k 0 (by omega) (by omega)
    rw [spec_l5depths.f]
    rw [show deps ev 0 = [] from rfl, mAt] at h2
    rw [show (0 : Int) = ((0 : Nat) : Int) from rfl, h2, Option.bind_some, wid (x := (ev.length : Int) + 2) (by omega) (by omega), if_pos (by omega), if_pos (by omega), if_pos (by omega), if_pos (by omega), wid (x := (ev.length : Int) - 1) (by omega) (by omega)]
    obtain ⟨k, rfl⟩ : ∃ q, k = q + ev.length + 1 := ⟨k - ev.length - 1, by omega⟩
    have hend : mAt ev ev.length = 0 := by
      have := ok_at ev hok ev.length (Nat.le_refl _)
      rw [List.drop_length, okF] at this
      simpa using this
    obtain ⟨tq, htl, ht, hb⟩ := back_loop ev hm hok k ev.length (List.replicate (ev.length + 2) 0) (List.replicate ev.length 0) (Nat.le_refl _) (by simp) (by simp) (fun j h1 h2 => by omega) (fun q h1 h2 => by omega)
    rw [show ((ev.length : Int) + 2).toNat = ev.length + 2 by omega, Int.toNat_natCast]
    rw [show (((0 : Nat) : Int)) = 0 from rfl, hb]
    have := fw_loop ev hm hok tq htl ht ev k 0 ((List.replicate (ev.length + 2) 0).set 0 (-1)) [] [] rfl (by omega) (by omega) (by simp) (by simp) (by simp [mAt]) (by simp [rd]) (fun j h1 h2 => by rw [mAt] at h2; omega)
    rw [show ((0 : Nat) : Int) = 0 from rfl] at this
    rw [this]
    simp
  · rw [if_neg hok, if_neg hok]
end Go.Proofs.Ytahfkfdjhpookaa.Tree
