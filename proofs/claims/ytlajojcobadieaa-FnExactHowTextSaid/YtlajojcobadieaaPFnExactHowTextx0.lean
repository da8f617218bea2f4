-- PRINTED BY print.sh 35421559b90ae4d0a3588c463048766b98c2df88dd9212a6774a882060cdf62d: not written by this session
import Derived.Test.YtlajojcobadieaaProg
import Derived.Below
import Derived.Deep.Draws
import Derived.Deep.AppendLies
import Derived.Maps.AppendAt
import Derived.OwnWalk
import Derived.Laws.BytesArg
import Derived.Laws.MakeOwn
import Derived.Laws.OwnMore
import Derived.Deep.OwnRows
import Derived.Tactics
import Derived.Lib.ConvBytes
import Derived.Laws.Slices
import Derived.WalkKit
import Derived.KernelRfl
import Derived.RowKit3
import Derived.Deep.LoopGhost
import Derived.Deep.QuietTactic
import Derived.BigQuiet
import Derived.WideLaws
import Derived.Deep.DeepCutAuto
import Derived.Deep.CutBlock
import Derived.Deep.RegionHeld3
import Derived.Laws.Rows
import Derived.Lib.AppendStr
import Derived.ArgAppend
import Derived.Laws.IdiomCopy
import Derived.OrdersHeld
import Derived.Laws.BitsLemmas
import Derived.RowKit
import Derived.Test.YtlajojcobadieaaWWords
import Derived.Test.YtlajojcobadieaaWLast
import Derived.Test.YtlajojcobadieaaWTab
import Derived.Test.YtlajojcobadieaaWFour
import Derived.Test.YtlajojcobadieaaWQPut
import Derived.Test.YtlajojcobadieaaWApart
import Derived.Test.YtlajojcobadieaaWArr
import Derived.Test.YtlajojcobadieaaWZeros
import Derived.Test.YtlajojcobadieaaWFoot
import Derived.Test.YtlajojcobadieaaWKept
import Derived.Test.YtlajojcobadieaaWShare
import Derived.Test.YtlajojcobadieaaWN
import Derived.Test.YtlajojcobadieaaWFootNe
import Derived.Test.YtlajojcobadieaaWAt
import Derived.Test.YtlajojcobadieaaWEqStruct
import Derived.Test.YtlajojcobadieaaWRepsOne
import Derived.Test.YtlajojcobadieaaWInv
import Derived.Test.YtlajojcobadieaaWInvWords
import Derived.Test.YtlajojcobadieaaWGuard
import Derived.Test.YtlajojcobadieaaWNEv
import Derived.Test.YtlajojcobadieaaWMore
namespace Go.Proofs.Ytlajojcobadieaa.PFnExactHowText
open Go.RowKit Go.Proofs.YtlajojcobadieaaW.PrintWords Go.Proofs.YtlajojcobadieaaW.PrintLast Go.Proofs.YtlajojcobadieaaW.PrintMore
attribute [local go_sem] max2_int min2_int max_two min_two max_three min_three max_four min_four   -- for this text's walks alone
set_option linter.unusedVariables false
set_option linter.unusedSimpArgs false



def errW : Option Int → Value
  | none => .nilIface
  | some c => .iface 0 (.int .i64 c)
theorem errW_none : errW none = .nilIface := rfl
theorem errW_some (c : Int) : errW (some c) = .iface 0 (.int .i64 c) := rfl

-- the values' own types

end Go.Proofs.Ytlajojcobadieaa.PFnExactHowText
