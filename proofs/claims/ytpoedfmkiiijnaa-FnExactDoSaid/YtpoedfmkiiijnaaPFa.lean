/- A fact of the whole program, for all rows. -/
import Derived.Test.YtpoedfmkiiijnaaRows
import Derived.ProofKit
namespace Go.Proofs.Ytpoedfmkiiijnaa.pf
open Go Go.ChangeShapes Go.WideShapes Go.ChangeAt Go.RowKit
theorem mayEnter : Try.pinned.checked.prog.mayEnter = true := by kernel_rfl
end Go.Proofs.Ytpoedfmkiiijnaa.pf
