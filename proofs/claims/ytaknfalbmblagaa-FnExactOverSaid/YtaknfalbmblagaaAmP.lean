/- The program's rule for regions that may be taken in any order; no condition. -/
import Derived.Test.YtaknfalbmblagaaProg
import Derived.Test.YtaknfalbmblagaaAmU
import Derived.KernelRfl
namespace Go.Proofs.Ytaknfalbmblagaa.Am
open Go Go.Proofs
theorem mixed : Try.prog.follows .mixedOrders = true := by kernel_rfl
end Go.Proofs.Ytaknfalbmblagaa.Am
