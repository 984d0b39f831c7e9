/- The tied card of FnExactRender over its proved row. -/
import Derived.Test.YtahfkfdjhpookaaDoorRowFnExactRender
import Derived.Test.YtahfkfdjhpookaaDoorTie
import Derived.Test.YtahfkfdjhpookaaDoorCards
import Derived.SevenTiedAt
namespace Go.Proofs.YtahfkfdjhpookaaDoor
open Go
theorem fnExactRenderCard_holds : Rows.FnExactRenderCardSaid :=
  Claim7.holds_tied_plain_at .later [] [.data, .data, .data] true (true, "fa02d235ab69f68f65b9bc15b492ab8787b94c378269d3f89e6ddf573489644e") false
    fnExactRender_holds (fun _ h => by cases h) (by kernel_rfl) (fun _ h => by cases h) fnExactRender_row_tie rfl ⟨rfl, rfl⟩ (by kernel_rfl) rfl
    (fun f fn hf hfn => by
      obtain rfl : f = 3 := Option.some.inj ((show Tryd.prog.funcNamed "loop.example/s0055/laws.FnExactRender" = some 3 by kernel_rfl).symm.trans hf) |>.symm
      obtain rfl : fn = Tryd.f3 := (Option.some.inj (Tryd.func3.symm.trans hfn)).symm
      exact ⟨by kernel_rfl, fun j t ht => by
        rw [Tryd.params3] at ht
        have hm : t ∈ [22, 3, 22] := by simpa using Array.mem_of_getElem? ht
        have hall : ([22, 3, 22].all fun u => !Tryd.prog.wantsStandIn u) = true := by kernel_rfl
        exact (show Tryd.prog.wantsStandIn t = false by simpa using List.all_eq_true.1 hall t hm)⟩)
    (by kernel_rfl)
#print axioms fnExactRenderCard_holds
end Go.Proofs.YtahfkfdjhpookaaDoor
