/- What walks over this program's stripped code import. -/
import Derived.Test.YtpoedfmkiiijnaaBeg
import Derived.Test.YtpoedfmkiiijnaaSi
import Derived.Test.YtpoedfmkiiijnaaPu1
namespace Go.Proofs.Ytpoedfmkiiijnaa
open Go Go.Proofs.YtpoedfmkiiijnaaAm
theorem mix : Try.prog.follows .mixedOrders = true := by kernel_rfl
theorem mz_125 : mapZ Try.prog 125 = some (.bool false) := by kernel_rfl
end Go.Proofs.Ytpoedfmkiiijnaa
