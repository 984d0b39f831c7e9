/-
  DERIVED. GIVEN WITH THE SEED: THE CARDS: each row of YtahfkfdjhpookaaDoorRows.lean that lists a variable, with what it lists TIED to the program's text (the seventh form; the later family's looks); each row that meets fmt, with fmt's text TOLD by the authors' own Lean function (tested against real Go, not proved from fmt's source: count such statements apart). THE CARD IS WHAT COUNTS. Prove the row's statement (the work); the ties are given (YtahfkfdjhpookaaDoorTie.lean); close each card by the builder's one call (the guide's Derived/Test/ToyasCard.lean, 'card_holds'). Laid BY PROGRAM, IN A SANDBOX (cutbox-door.mjs). By AI agents, Wed Nov 11 2026. No macro, syntax, notation, axiom, sorry.
-/
import Derived.Test.YtahfkfdjhpookaaDoorRows
import GoSem.ClaimSeven
namespace Go.Proofs.YtahfkfdjhpookaaDoor
namespace Rows

/-- THE TIED CARD OF 'laws.FnExactRender'. -/
def fnExactRenderCard : Claim7 := { stood := { row := fnExactRenderRow, standIns := [], harness := (true, "fa02d235ab69f68f65b9bc15b492ab8787b94c378269d3f89e6ddf573489644e"), looks := false }, kinds := [], alts := [], laidByText := true, laidKinds := [.data, .data, .data], laidTests := true, laidLooks := .later }
def FnExactRenderCardSaid : Prop := Claim7.holds Tryd.pinned (.plain (OpenSpec.ofChange fnExactRenderSpec)) fnExactRenderCard

/-- THE SECOND FORM's CARD OF 'laws.FnExactRender'. -/
def fnExactRenderUptoCard : Claim7 := { stood := { row := fnExactRenderUptoRow, standIns := [], harness := (true, "fa02d235ab69f68f65b9bc15b492ab8787b94c378269d3f89e6ddf573489644e"), looks := false }, kinds := [], alts := [], laidByText := true, laidKinds := [.data, .data, .data], laidTests := true, laidLooks := .later }
def FnExactRenderUptoCardSaid : Prop := Claim7.holds Tryd.pinned (.plain (OpenSpec.upto fnExactRenderSpec)) fnExactRenderUptoCard
end Rows
end Go.Proofs.YtahfkfdjhpookaaDoor
