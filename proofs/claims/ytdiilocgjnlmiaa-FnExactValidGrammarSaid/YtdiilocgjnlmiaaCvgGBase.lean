import Derived.RangeFuncBox
import Derived.OneCell
import Derived.WalkKit
import Derived.OwnWalk
import Derived.Lib.Hide
import Derived.Handy
import Derived.Test.YtdiilocgjnlmiaaCvgPAllx0
namespace Go.Proofs.Ytdiilocgjnlmiaa.Tre
open Go.RowKit Go.Proofs.YtdiilocgjnlmiaaW.PrintWords Go.Proofs.YtdiilocgjnlmiaaW.PrintLast Go.Proofs.YtdiilocgjnlmiaaW.PrintMore
open Go.Proofs.Ytdiilocgjnlmiaa.PAll
set_option linter.unusedVariables false
theorem wid {x : Int} (h0 : -9223372036854775808 ≤ x) (h1 : x < 9223372036854775808) : wrap64 x = x := by unfold wrap64; omega
end Go.Proofs.Ytdiilocgjnlmiaa.Tre
