/- The program's HowText and the reference's HowText return the same text at every number, so the law FnExactHowText returns true; no condition. -/
import Derived.Test.YtlajojcobadieaaPFnExactHowTextx1
namespace Go.Proofs.Ytlajojcobadieaa.Pure
open Go.RowKit Go.Proofs.Ytlajojcobadieaa.PFnExactHowText Go.Proofs.YtlajojcobadieaaW.PrintWords Go.Proofs.YtlajojcobadieaaW.PrintLast

theorem FnExactHowText : laws_FnExactHowText.Pure := by
  intro a0 _
  unfold laws_FnExactHowText.f spec_HowText.f impl_HowText.f
  repeat' split
  all_goals simp

end Go.Proofs.Ytlajojcobadieaa.Pure
