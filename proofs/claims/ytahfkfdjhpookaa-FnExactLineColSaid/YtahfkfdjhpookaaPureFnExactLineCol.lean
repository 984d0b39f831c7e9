/- LineCol of the program answers what LineCol of the reference answers, for every text of bytes and every offset (no further condition). -/
import Derived.Test.YtahfkfdjhpookaaLineColLaw
import Derived.Test.YtahfkfdjhpookaaPAllx41
namespace Go.Proofs.Ytahfkfdjhpookaa.Pure
open Go.RowKit Go.Proofs.YtahfkfdjhpookaaW.PrintWords Go.Proofs.YtahfkfdjhpookaaW.PrintLast Go.Proofs.Ytahfkfdjhpookaa.Txt Go.Proofs.Ytahfkfdjhpookaa.PAll
theorem FnExactLineCol : laws_FnExactLineCol.Pure := by
  intro l a _ hl hB _
  have hm : l.length < 281474976710657 := by omega
  have ht := okText_of hB hm
  refine ⟨2 * l.length + 46, ?_⟩
  rw [laws_FnExactLineCol.f]
  by_cases h : (l.length : Int) > 1048576
  · rw [if_pos h]
  · rw [if_neg h, to_bytes l hm _ (by omega)]
    simp only [Option.bind_some]
    rw [spec_linecol (okText_byt ht).1 hm _ _ (by omega), Option.bind_some, impl_LineCol.f, if_pos ht, Option.bind_some, if_pos rfl, laws_FnExactLineCol.j0, if_neg (by simp), to_bytes l hm _ (by omega)]
    simp only [Option.bind_some]
    rw [eq_bytes l hm _ (by omega), Option.bind_some, if_pos rfl]
end Go.Proofs.Ytahfkfdjhpookaa.Pure
