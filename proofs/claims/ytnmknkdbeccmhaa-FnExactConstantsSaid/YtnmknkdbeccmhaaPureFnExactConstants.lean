/- Every exported constant of the program is the document's: the law FnExactConstants answers true, without a condition. -/
import Derived.Test.YtnmknkdbeccmhaaPFnExactConstantsx1
namespace Go.Proofs.Ytnmknkdbeccmhaa.Pure
open Go.RowKit Go.Proofs.Ytnmknkdbeccmhaa.PFnExactConstants Go.Proofs.YtnmknkdbeccmhaaW.PrintWords Go.Proofs.YtnmknkdbeccmhaaW.PrintLast

/-- The law's pure statement: it answers true. -/
theorem FnExactConstants : laws_FnExactConstants.Pure := rfl

end Go.Proofs.Ytnmknkdbeccmhaa.Pure
