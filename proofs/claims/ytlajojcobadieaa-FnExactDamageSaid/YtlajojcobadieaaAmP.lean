/- The program's rule for regions that may be taken in any order; no condition. -/
import Derived.Test.YtlajojcobadieaaProg
import Derived.Test.YtlajojcobadieaaAmU
import Derived.KernelRfl
namespace Go.Proofs.Ytlajojcobadieaa.Am
open Go Go.Proofs
theorem mixed : Try.prog.follows .mixedOrders = true := by kernel_rfl
end Go.Proofs.Ytlajojcobadieaa.Am
