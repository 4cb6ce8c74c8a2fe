/- wByte: a byte of an input. A walk. -/
import Derived.Test.YtpoedfmkiiijnaaDoorGD
namespace Go.Proofs.YtpoedfmkiiijnaaDoor
open Go Go.RowKit Go.Proofs.YtpoedfmkiiijnaaDoorAm
set_option linter.unusedVariables false
set_option linter.unusedSimpArgs false
set_option maxRecDepth 10000
theorem intA_rem {k : IntKind} {a b : Int} (h : b ≠ 0) : intA .rem k a k b = some (.int k (a.tmod b)) := by simp [intA, h]
end Go.Proofs.YtpoedfmkiiijnaaDoor
