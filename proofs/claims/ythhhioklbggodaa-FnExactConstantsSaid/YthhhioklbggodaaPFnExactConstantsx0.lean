-- PRINTED BY print.sh 35421559b90ae4d0a3588c463048766b98c2df88dd9212a6774a882060cdf62d: not written by this session
import Derived.Test.YthhhioklbggodaaProg
import Derived.Below
import Derived.Deep.Draws
import Derived.Deep.AppendLies
import Derived.Maps.AppendAt
import Derived.OwnWalk
import Derived.Laws.BytesArg
import Derived.Laws.MakeOwn
import Derived.Laws.OwnMore
import Derived.Deep.OwnRows
import Derived.Tactics
import Derived.Lib.ConvBytes
import Derived.Laws.Slices
import Derived.WalkKit
import Derived.KernelRfl
import Derived.RowKit3
import Derived.Deep.LoopGhost
import Derived.Deep.QuietTactic
import Derived.BigQuiet
import Derived.WideLaws
import Derived.Deep.DeepCutAuto
import Derived.Deep.CutBlock
import Derived.Deep.RegionHeld3
import Derived.Laws.Rows
import Derived.Lib.AppendStr
import Derived.ArgAppend
import Derived.Laws.IdiomCopy
import Derived.OrdersHeld
import Derived.Laws.BitsLemmas
import Derived.RowKit
import Derived.Test.YthhhioklbggodaaWWords
import Derived.Test.YthhhioklbggodaaWLast
import Derived.Test.YthhhioklbggodaaWTab
import Derived.Test.YthhhioklbggodaaWFour
import Derived.Test.YthhhioklbggodaaWQPut
import Derived.Test.YthhhioklbggodaaWApart
import Derived.Test.YthhhioklbggodaaWArr
import Derived.Test.YthhhioklbggodaaWZeros
import Derived.Test.YthhhioklbggodaaWFoot
import Derived.Test.YthhhioklbggodaaWKept
import Derived.Test.YthhhioklbggodaaWShare
import Derived.Test.YthhhioklbggodaaWN
import Derived.Test.YthhhioklbggodaaWFootNe
import Derived.Test.YthhhioklbggodaaWAt
import Derived.Test.YthhhioklbggodaaWEqStruct
import Derived.Test.YthhhioklbggodaaWRepsOne
import Derived.Test.YthhhioklbggodaaWInv
import Derived.Test.YthhhioklbggodaaWInvWords
import Derived.Test.YthhhioklbggodaaWGuard
import Derived.Test.YthhhioklbggodaaWNEv
import Derived.Test.YthhhioklbggodaaWMore
namespace Go.Proofs.Ythhhioklbggodaa.PFnExactConstants
open Go.RowKit Go.Proofs.YthhhioklbggodaaW.PrintWords Go.Proofs.YthhhioklbggodaaW.PrintLast Go.Proofs.YthhhioklbggodaaW.PrintMore
attribute [local go_sem] max2_int min2_int max_two min_two max_three min_three max_four min_four   -- for this text's walks alone
set_option linter.unusedVariables false
set_option linter.unusedSimpArgs false



def errW : Option Int → Value
  | none => .nilIface
  | some c => .iface 0 (.int .i64 c)
theorem errW_none : errW none = .nilIface := rfl
theorem errW_some (c : Int) : errW (some c) = .iface 0 (.int .i64 c) := rfl

-- the values' own types

end Go.Proofs.Ythhhioklbggodaa.PFnExactConstants
