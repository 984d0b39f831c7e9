/- For every drawn text: the program's OffsetOf of the program's LineCol is the offset, wherever a character begins by the reference, and at the end (no further condition). -/
import Derived.Test.YtahfkfdjhpookaaLineColLaw
import Derived.Test.YtahfkfdjhpookaaDraw1
import Derived.Test.YtahfkfdjhpookaaPAllx41
namespace Go.Proofs.Ytahfkfdjhpookaa.Pure
open Go.RowKit Go.Proofs.YtahfkfdjhpookaaW.PrintWords Go.Proofs.YtahfkfdjhpookaaW.PrintLast Go.Proofs.Ytahfkfdjhpookaa.Txt Go.Proofs.Ytahfkfdjhpookaa.PAll
theorem law_loop (l : List Int) (ht : okText l = true) : ∀ (d k o : Nat), o ≤ l.length → l.length - o ≤ d → d + 25 ≤ k → Cut l o → laws_FnLineCol.l0 k l (o : Int) = some true
  | d, k, o, ho, hd, hk, hc => by
    obtain ⟨hB, hm⟩ := okText_byt ht
    obtain ⟨k, rfl⟩ : ∃ m, k = m + 1 := ⟨k - 1, by omega⟩
    rw [laws_FnLineCol.l0, if_pos (by omega), impl_LineCol.f, if_pos ht, Option.bind_some, impl_OffsetOf.f, if_pos ht, Option.bind_some, back l o ho hc, if_pos rfl]
    by_cases e : (o : Int) = (l.length : Int)
    · rw [if_pos e]
    · have hp := chl_pos (show o < l.length by omega)
      cases d with
      | zero => omega
      | succ d =>
        obtain ⟨k, rfl⟩ : ∃ m, k = m + 20 := ⟨k - 20, by omega⟩
        rw [if_neg e, spec_charlen hB hm, Option.bind_some, wid (by omega) (by omega)]
        have := law_loop l ht d (k + 20) (o + (chl l (o : Int)).toNat) (by omega) (by omega) (by omega) (cut_step (by omega) hc)
        rw [show ((o + (chl l (o : Int)).toNat : Nat) : Int) = (o : Int) + chl l o by omega] at this
        exact this
theorem FnLineCol : laws_FnLineCol.Pure := by
  intro l _ hl hB
  obtain ⟨t, v, e, hb, hn⟩ := draw_linecol (byt_of hB) 2000 (by omega)
  refine ⟨2000, ?_⟩
  rw [laws_FnLineCol.f]
  by_cases h : (l.length : Int) > 1048576
  · rw [if_pos h]
  · rw [if_neg h, e, Option.bind_some]
    exact law_loop t (hb.ok (by omega)) t.length 2000 0 (by omega) (by omega) (by omega) (cut_zero t)
end Go.Proofs.Ytahfkfdjhpookaa.Pure
