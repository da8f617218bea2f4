/- The program's rule for regions that may be taken in any order; no condition. -/
import Derived.Test.YtiejaibmcmicoaaGreatDoorProg
import Derived.Test.YtiejaibmcmicoaaGreatDoorAmU
import Derived.KernelRfl
namespace Go.Proofs.YtiejaibmcmicoaaGreatDoor.Am
open Go Go.Proofs
theorem mixed : Tryz.prog.follows .mixedOrders = true := by kernel_rfl
end Go.Proofs.YtiejaibmcmicoaaGreatDoor.Am
