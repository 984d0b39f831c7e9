/- OffsetOf of the program answers what OffsetOf of the reference answers, for every text of bytes, every line and column (no further condition). -/
import Derived.Test.YtahfkfdjhpookaaOffsetLaw
import Derived.Test.YtahfkfdjhpookaaPAllx40
namespace Go.Proofs.Ytahfkfdjhpookaa.Pure
open Go.RowKit Go.Proofs.YtahfkfdjhpookaaW.PrintWords Go.Proofs.YtahfkfdjhpookaaW.PrintLast Go.Proofs.Ytahfkfdjhpookaa.Txt Go.Proofs.Ytahfkfdjhpookaa.PAll
theorem FnExactOffsetOf : laws_FnExactOffsetOf.Pure := by
  intro l a b _ hl hB _ _
  have hm : l.length < 281474976710657 := by omega
  have ht := okText_of hB hm
  refine ⟨2 * l.length + 25, ?_⟩
  rw [laws_FnExactOffsetOf.f]
  by_cases h : (l.length : Int) > 1048576
  · rw [if_pos h]
  · rw [if_neg h, to_bytes l hm _ (by omega)]
    simp only [Option.bind_some]
    rw [spec_offset (okText_byt ht).1 hm _ _ _ (by omega), Option.bind_some, impl_OffsetOf.f, if_pos ht, Option.bind_some, if_pos rfl, eq_bytes l hm _ (by omega), Option.bind_some, if_pos rfl]
end Go.Proofs.Ytahfkfdjhpookaa.Pure
