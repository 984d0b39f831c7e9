/- Every exported constant of the program is the document's (no condition). -/
import Derived.Test.YthhhioklbggodaaPFnExactConstantsx1
namespace Go.Proofs.Ythhhioklbggodaa.Pure
open Go.RowKit Go.Proofs.Ythhhioklbggodaa.PFnExactConstants Go.Proofs.YthhhioklbggodaaW.PrintWords Go.Proofs.YthhhioklbggodaaW.PrintLast

theorem FnExactConstants : laws_FnExactConstants.Pure := by
  rfl

end Go.Proofs.Ythhhioklbggodaa.Pure
