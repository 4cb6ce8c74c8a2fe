/- Every exported constant is the document's: the law FnExactConstants answers true. No condition. -/
import Derived.Test.YtpoedfmkiiijnaaPFnExactConstantsx1
namespace Go.Proofs.Ytpoedfmkiiijnaa.Pure
open Go.RowKit Go.Proofs.Ytpoedfmkiiijnaa.PFnExactConstants Go.Proofs.YtpoedfmkiiijnaaW.PrintWords Go.Proofs.YtpoedfmkiiijnaaW.PrintLast

theorem FnExactConstants : laws_FnExactConstants.Pure := by
  unfold laws_FnExactConstants.Pure
  rfl

end Go.Proofs.Ytpoedfmkiiijnaa.Pure
