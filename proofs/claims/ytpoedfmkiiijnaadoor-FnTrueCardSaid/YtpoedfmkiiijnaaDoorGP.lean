/- Texts of this repo, one behind the other (PFa PFb). Plain lemmas and walks. -/
import Derived.Test.YtpoedfmkiiijnaaDoorRows
import Derived.ProofKit
namespace Go.Proofs.YtpoedfmkiiijnaaDoor.pf
open Go Go.ChangeShapes Go.WideShapes Go.ChangeAt Go.RowKit
theorem mayEnter : Tryd.pinned.checked.prog.mayEnter = true := by kernel_rfl
theorem lifts : (Rows.fnTrueRow.lifted == Tryd.pinned.checked.prog.liftsFinal) = true := by kernel_rfl
end Go.Proofs.YtpoedfmkiiijnaaDoor.pf
