/- The program's rule for regions that may be taken in any order; no condition. -/
import Derived.Test.YtchbcmenmlohfaaGreatDoorProg
import Derived.Test.YtchbcmenmlohfaaGreatDoorAmU
import Derived.KernelRfl
namespace Go.Proofs.YtchbcmenmlohfaaGreatDoor.Am
open Go Go.Proofs
theorem mixed : Tryz.prog.follows .mixedOrders = true := by kernel_rfl
end Go.Proofs.YtchbcmenmlohfaaGreatDoor.Am
