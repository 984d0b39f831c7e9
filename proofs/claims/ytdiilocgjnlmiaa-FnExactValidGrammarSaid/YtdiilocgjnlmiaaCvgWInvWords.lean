import Derived.Test.YtdiilocgjnlmiaaCvgWInv
import Derived.Test.YtdiilocgjnlmiaaCvgWFootNe
namespace Go.Proofs.YtdiilocgjnlmiaaW.PrintWords
open Go.RowKit
end Go.Proofs.YtdiilocgjnlmiaaW.PrintWords
namespace Go.Proofs.YtdiilocgjnlmiaaW.PrintLast
section
variable {ops : Array Oper} {a : Act} {o og : Oper} {g : Nat} {t : Tmp} {u : Bool}
end
end Go.Proofs.YtdiilocgjnlmiaaW.PrintLast
