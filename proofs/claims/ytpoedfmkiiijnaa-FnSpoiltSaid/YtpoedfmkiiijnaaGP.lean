/- Texts of this repo, one behind the other (PFa PFb). Plain lemmas and walks. -/
import Derived.Test.YtpoedfmkiiijnaaRows
import Derived.ProofKit
namespace Go.Proofs.Ytpoedfmkiiijnaa.pf
open Go Go.ChangeShapes Go.WideShapes Go.ChangeAt Go.RowKit
theorem mayEnter : Try.pinned.checked.prog.mayEnter = true := by kernel_rfl
end Go.Proofs.Ytpoedfmkiiijnaa.pf
namespace Go.Proofs.Ytpoedfmkiiijnaa.pf
open Go Go.ChangeShapes Go.WideShapes Go.ChangeAt Go.RowKit
theorem lifts : (Rows.fnExactBeginRow.lifted == Try.pinned.checked.prog.liftsFinal) = true := by kernel_rfl
end Go.Proofs.Ytpoedfmkiiijnaa.pf
