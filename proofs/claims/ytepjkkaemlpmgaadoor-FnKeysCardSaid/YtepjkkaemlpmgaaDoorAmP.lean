/- The program's rule for regions that may be taken in any order; no condition. -/
import Derived.Test.YtepjkkaemlpmgaaDoorProg
import Derived.Test.YtepjkkaemlpmgaaDoorAmU
import Derived.KernelRfl
namespace Go.Proofs.YtepjkkaemlpmgaaDoor.Am
open Go Go.Proofs
theorem mixed : Tryd.prog.follows .mixedOrders = true := by kernel_rfl
end Go.Proofs.YtepjkkaemlpmgaaDoor.Am
