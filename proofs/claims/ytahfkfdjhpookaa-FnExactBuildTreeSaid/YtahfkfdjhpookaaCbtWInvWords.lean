import Derived.Test.YtahfkfdjhpookaaCbtWInv
import Derived.Test.YtahfkfdjhpookaaCbtWFootNe
namespace Go.Proofs.YtahfkfdjhpookaaW.PrintWords
open Go.RowKit
end Go.Proofs.YtahfkfdjhpookaaW.PrintWords
namespace Go.Proofs.YtahfkfdjhpookaaW.PrintLast
section
variable {ops : Array Oper} {a : Act} {o og : Oper} {g : Nat} {t : Tmp} {u : Bool}
end
end Go.Proofs.YtahfkfdjhpookaaW.PrintLast
