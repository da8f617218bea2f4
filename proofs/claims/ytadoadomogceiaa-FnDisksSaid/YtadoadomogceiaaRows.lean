/-
  No cell of these rows narrows 'for every input' (looked for: loops, veiled, ifaces, maps, wideKeys, modest, calm, conditions, laid).
  DERIVED. THE GIVEN ROWS OF THIS SEAT. 10 by the template 'for every input the law returns true; each argument reads behind the call as it read before'; 0 by the template 'total and deterministic' (their statements: YtadoadomogceiaaTotals.lean).
  GIVEN WITH THE SEED: the statements are not yours to turn. If you find one false, say at which input.
  Laid BY PROGRAM, IN A SANDBOX (cutbox-rows.mjs): the forced cells as the released guide's own fill.sh prints them over the translation b407d65cf2b356fb… (all of the seat's roots in one cut). By AI agents, Wed Nov 11 2026. No macro, syntax, notation, axiom, sorry.
-/
import Derived.Test.YtadoadomogceiaaChecked
import GoSem.Claim
import GoSem.ClaimJoined
import GoSem.ClaimMapViews
import Derived.JoinedTies
import Derived.KernelRfl
namespace Go.Proofs.Ytadoadomogceiaa
/- THE CELL 'sum', in the pinned program and in every row, IS THE sha256 OF THE DUMP (.gsa) THAT YtadoadomogceiaaProg.lean LOADS. Nothing in Lean hashes anything: it is a label: what it is worth is what the hold of that sum in a sandbox is worth. -/
noncomputable def Try.pinned : Pinned := { name := "ytadoadomogceiaa", sum := "b407d65cf2b356fb2e118d0d63ce012f805709f9d89c67ddabdaa330a2e46159", checked := Try.checked }
namespace Rows
def none {H : Type} : Left H := { results := [], args := [] }

/-- 'laws.FnSames': WHATEVER THE INPUT: true; the input reads as it did. -/
def fnSamesSpec : ChangeSpec := { name := "fnSames", fn := fun _ => fun
  | [d] => { results := [.lit (.bool true)], args := [d] }
  | _ => none }
def fnSamesRow : OpenClaim := { program := "ytadoadomogceiaa", sum := "b407d65cf2b356fb2e118d0d63ce012f805709f9d89c67ddabdaa330a2e46159", func := "loop.example/g00464/laws.FnSames", spec := "fnSames", unfollowed := true, recurses := true, apart := false }
def FnSamesSaid : Prop := fnSamesRow.holds Try.pinned (OpenSpec.ofChange fnSamesSpec)

/-- ITS FALSE NEIGHBOUR: 'it returns false'. Refute it at one input. -/
def fnSamesWrong : ChangeSpec := { name := "fnSames", fn := fun _ => fun
  | [d] => { results := [.lit (.bool false)], args := [d] }
  | _ => none }
def FnSamesWrongFalsely : Prop := fnSamesRow.holds Try.pinned (OpenSpec.ofChange fnSamesWrong)

/-- 'laws.FnExactSameJob': WHATEVER THE INPUT: true; the input reads as it did. -/
def fnExactSameJobSpec : ChangeSpec := { name := "fnExactSameJob", fn := fun _ => fun
  | [d1, d2] => { results := [.lit (.bool true)], args := [d1, d2] }
  | _ => none }
def fnExactSameJobRow : OpenClaim := { program := "ytadoadomogceiaa", sum := "b407d65cf2b356fb2e118d0d63ce012f805709f9d89c67ddabdaa330a2e46159", func := "loop.example/g00464/laws.FnExactSameJob", spec := "fnExactSameJob", unfollowed := true, recurses := true, apart := false }
def FnExactSameJobSaid : Prop := fnExactSameJobRow.holds Try.pinned (OpenSpec.ofChange fnExactSameJobSpec)

/-- ITS FALSE NEIGHBOUR: 'it returns false'. Refute it at one input. -/
def fnExactSameJobWrong : ChangeSpec := { name := "fnExactSameJob", fn := fun _ => fun
  | [d1, d2] => { results := [.lit (.bool false)], args := [d1, d2] }
  | _ => none }
def FnExactSameJobWrongFalsely : Prop := fnExactSameJobRow.holds Try.pinned (OpenSpec.ofChange fnExactSameJobWrong)

/-- 'laws.FnExactLoad': WHATEVER THE INPUT: true; the input reads as it did. -/
def fnExactLoadSpec : ChangeSpec := { name := "fnExactLoad", fn := fun _ => fun
  | [d] => { results := [.lit (.bool true)], args := [d] }
  | _ => none }
def fnExactLoadRow : OpenClaim := { program := "ytadoadomogceiaa", sum := "b407d65cf2b356fb2e118d0d63ce012f805709f9d89c67ddabdaa330a2e46159", func := "loop.example/g00464/laws.FnExactLoad", spec := "fnExactLoad", inPlace := ["slices.overlaps[loop.example/g00464/impl.Doc]"], unfollowed := true, recurses := true, apart := false }
def FnExactLoadSaid : Prop := fnExactLoadRow.holds Try.pinned (OpenSpec.ofChange fnExactLoadSpec)

/-- ITS FALSE NEIGHBOUR: 'it returns false'. Refute it at one input. -/
def fnExactLoadWrong : ChangeSpec := { name := "fnExactLoad", fn := fun _ => fun
  | [d] => { results := [.lit (.bool false)], args := [d] }
  | _ => none }
def FnExactLoadWrongFalsely : Prop := fnExactLoadRow.holds Try.pinned (OpenSpec.ofChange fnExactLoadWrong)

/-- 'laws.FnExactDocsNow': WHATEVER THE INPUT: true; the input reads as it did. -/
def fnExactDocsNowSpec : ChangeSpec := { name := "fnExactDocsNow", fn := fun _ => fun
  | [d] => { results := [.lit (.bool true)], args := [d] }
  | _ => none }
def fnExactDocsNowRow : OpenClaim := { program := "ytadoadomogceiaa", sum := "b407d65cf2b356fb2e118d0d63ce012f805709f9d89c67ddabdaa330a2e46159", func := "loop.example/g00464/laws.FnExactDocsNow", spec := "fnExactDocsNow", inPlace := ["slices.overlaps[loop.example/g00464/impl.Doc]"], unfollowed := true, recurses := true, apart := false }
def FnExactDocsNowSaid : Prop := fnExactDocsNowRow.holds Try.pinned (OpenSpec.ofChange fnExactDocsNowSpec)

/-- ITS FALSE NEIGHBOUR: 'it returns false'. Refute it at one input. -/
def fnExactDocsNowWrong : ChangeSpec := { name := "fnExactDocsNow", fn := fun _ => fun
  | [d] => { results := [.lit (.bool false)], args := [d] }
  | _ => none }
def FnExactDocsNowWrongFalsely : Prop := fnExactDocsNowRow.holds Try.pinned (OpenSpec.ofChange fnExactDocsNowWrong)

/-- 'laws.FnDisks': WHATEVER THE INPUT: true; the input reads as it did. -/
def fnDisksSpec : ChangeSpec := { name := "fnDisks", fn := fun _ => fun
  | [d] => { results := [.lit (.bool true)], args := [d] }
  | _ => none }
def fnDisksRow : OpenClaim := { program := "ytadoadomogceiaa", sum := "b407d65cf2b356fb2e118d0d63ce012f805709f9d89c67ddabdaa330a2e46159", func := "loop.example/g00464/laws.FnDisks", spec := "fnDisks", inPlace := ["slices.overlaps[loop.example/g00464/impl.Doc]"], unfollowed := true, recurses := true, apart := false }
def FnDisksSaid : Prop := fnDisksRow.holds Try.pinned (OpenSpec.ofChange fnDisksSpec)

/-- ITS FALSE NEIGHBOUR: 'it returns false'. Refute it at one input. -/
def fnDisksWrong : ChangeSpec := { name := "fnDisks", fn := fun _ => fun
  | [d] => { results := [.lit (.bool false)], args := [d] }
  | _ => none }
def FnDisksWrongFalsely : Prop := fnDisksRow.holds Try.pinned (OpenSpec.ofChange fnDisksWrong)

/-- 'laws.FnExactSettle': WHATEVER THE INPUT: true; the input reads as it did. -/
def fnExactSettleSpec : ChangeSpec := { name := "fnExactSettle", fn := fun _ => fun
  | [d] => { results := [.lit (.bool true)], args := [d] }
  | _ => none }
def fnExactSettleRow : OpenClaim := { program := "ytadoadomogceiaa", sum := "b407d65cf2b356fb2e118d0d63ce012f805709f9d89c67ddabdaa330a2e46159", func := "loop.example/g00464/laws.FnExactSettle", spec := "fnExactSettle", inPlace := ["slices.overlaps[loop.example/g00464/impl.Doc]"], unfollowed := true, recurses := true, apart := false }
def FnExactSettleSaid : Prop := fnExactSettleRow.holds Try.pinned (OpenSpec.ofChange fnExactSettleSpec)

/-- ITS FALSE NEIGHBOUR: 'it returns false'. Refute it at one input. -/
def fnExactSettleWrong : ChangeSpec := { name := "fnExactSettle", fn := fun _ => fun
  | [d] => { results := [.lit (.bool false)], args := [d] }
  | _ => none }
def FnExactSettleWrongFalsely : Prop := fnExactSettleRow.holds Try.pinned (OpenSpec.ofChange fnExactSettleWrong)

/-- 'laws.FnExactCrash': WHATEVER THE INPUT: true; the input reads as it did. -/
def fnExactCrashSpec : ChangeSpec := { name := "fnExactCrash", fn := fun _ => fun
  | [d1, d2] => { results := [.lit (.bool true)], args := [d1, d2] }
  | _ => none }
def fnExactCrashRow : OpenClaim := { program := "ytadoadomogceiaa", sum := "b407d65cf2b356fb2e118d0d63ce012f805709f9d89c67ddabdaa330a2e46159", func := "loop.example/g00464/laws.FnExactCrash", spec := "fnExactCrash", inPlace := ["slices.overlaps[loop.example/g00464/impl.Doc]"], unfollowed := true, recurses := true, apart := false }
def FnExactCrashSaid : Prop := fnExactCrashRow.holds Try.pinned (OpenSpec.ofChange fnExactCrashSpec)

/-- ITS FALSE NEIGHBOUR: 'it returns false'. Refute it at one input. -/
def fnExactCrashWrong : ChangeSpec := { name := "fnExactCrash", fn := fun _ => fun
  | [d1, d2] => { results := [.lit (.bool false)], args := [d1, d2] }
  | _ => none }
def FnExactCrashWrongFalsely : Prop := fnExactCrashRow.holds Try.pinned (OpenSpec.ofChange fnExactCrashWrong)

/-- 'laws.FnExactSave': WHATEVER THE INPUT: true; the input reads as it did. -/
def fnExactSaveSpec : ChangeSpec := { name := "fnExactSave", fn := fun _ => fun
  | [d1, d2, d3] => { results := [.lit (.bool true)], args := [d1, d2, d3] }
  | _ => none }
def fnExactSaveRow : OpenClaim := { program := "ytadoadomogceiaa", sum := "b407d65cf2b356fb2e118d0d63ce012f805709f9d89c67ddabdaa330a2e46159", func := "loop.example/g00464/laws.FnExactSave", spec := "fnExactSave", inPlace := ["slices.overlaps[loop.example/g00464/impl.Doc]"], unfollowed := true, recurses := true, apart := false }
def FnExactSaveSaid : Prop := fnExactSaveRow.holds Try.pinned (OpenSpec.ofChange fnExactSaveSpec)

/-- ITS FALSE NEIGHBOUR: 'it returns false'. Refute it at one input. -/
def fnExactSaveWrong : ChangeSpec := { name := "fnExactSave", fn := fun _ => fun
  | [d1, d2, d3] => { results := [.lit (.bool false)], args := [d1, d2, d3] }
  | _ => none }
def FnExactSaveWrongFalsely : Prop := fnExactSaveRow.holds Try.pinned (OpenSpec.ofChange fnExactSaveWrong)

/-- 'laws.FnExactCounted': WHATEVER THE INPUT: true; the input reads as it did. -/
def fnExactCountedSpec : ChangeSpec := { name := "fnExactCounted", fn := fun _ => fun
  | [d1, d2] => { results := [.lit (.bool true)], args := [d1, d2] }
  | _ => none }
def fnExactCountedRow : OpenClaim := { program := "ytadoadomogceiaa", sum := "b407d65cf2b356fb2e118d0d63ce012f805709f9d89c67ddabdaa330a2e46159", func := "loop.example/g00464/laws.FnExactCounted", spec := "fnExactCounted", apart := false }
def FnExactCountedSaid : Prop := fnExactCountedRow.holds Try.pinned (OpenSpec.ofChange fnExactCountedSpec)

/-- ITS FALSE NEIGHBOUR: 'it returns false'. Refute it at one input. -/
def fnExactCountedWrong : ChangeSpec := { name := "fnExactCounted", fn := fun _ => fun
  | [d1, d2] => { results := [.lit (.bool false)], args := [d1, d2] }
  | _ => none }
def FnExactCountedWrongFalsely : Prop := fnExactCountedRow.holds Try.pinned (OpenSpec.ofChange fnExactCountedWrong)

/-- 'laws.FnExactHowOf': WHATEVER THE INPUT: true; the input reads as it did. -/
def fnExactHowOfSpec : ChangeSpec := { name := "fnExactHowOf", fn := fun _ => fun
  | [d1, d2] => { results := [.lit (.bool true)], args := [d1, d2] }
  | _ => none }
def fnExactHowOfRow : OpenClaim := { program := "ytadoadomogceiaa", sum := "b407d65cf2b356fb2e118d0d63ce012f805709f9d89c67ddabdaa330a2e46159", func := "loop.example/g00464/laws.FnExactHowOf", spec := "fnExactHowOf", apart := false }
def FnExactHowOfSaid : Prop := fnExactHowOfRow.holds Try.pinned (OpenSpec.ofChange fnExactHowOfSpec)

/-- ITS FALSE NEIGHBOUR: 'it returns false'. Refute it at one input. -/
def fnExactHowOfWrong : ChangeSpec := { name := "fnExactHowOf", fn := fun _ => fun
  | [d1, d2] => { results := [.lit (.bool false)], args := [d1, d2] }
  | _ => none }
def FnExactHowOfWrongFalsely : Prop := fnExactHowOfRow.holds Try.pinned (OpenSpec.ofChange fnExactHowOfWrong)

/- THE SECOND FORM. 'bulk': how many values and letters a reading holds, each counted each time it is reached (what is shared counts as often as it is met; a slice's spare places count too). A statement '..UptoSaid' is the law's where the arguments, and the package variables that the reading takes, are together of bulk at most 1048576: NARROWER than '..Said'. Prove '..Said' where nothing that the law and all that it calls make is longer than what came in: it says more and counts as full. Else prove '..UptoSaid'. A law counts once. -/
mutual
def uptoBulk {H : Type} : DataW H → Nat
  | .lit (.string bytes) => bytes.length + 1
  | .lit _ => 1
  | .nil => 1
  | .ptr d => uptoBulk d + 1
  | .slice elems spare => uptoBulkAll elems + uptoBulkAll spare + 1
  | .agg parts => uptoBulkAll parts + 1
  | .iface _ d => uptoBulk d + 1
  | .map entries => uptoBulkEntries entries + 1
  | .held _ => 1
def uptoBulkAll {H : Type} : List (DataW H) → Nat
  | [] => 0
  | d :: r => uptoBulk d + uptoBulkAll r
def uptoBulkEntries {H : Type} : List (Lit × DataW H) → Nat
  | [] => 0
  | x :: r => uptoBulkEntry x + uptoBulkEntries r
def uptoBulkEntry {H : Type} : Lit × DataW H → Nat
  | (.string bytes, d) => bytes.length + uptoBulk d + 1
  | (_, d) => uptoBulk d + 1
 end
def uptoSmall : (H : Type) → List (DataW H) → Bool := fun _ ds => decide (uptoBulkAll ds ≤ 1048576)
def OpenSpec.upto (s : _root_.Go.ChangeSpec) : _root_.Go.OpenSpec := { _root_.Go.OpenSpec.ofChange s with cond := some uptoSmall }

/-- 'laws.FnSames', WHERE WHAT IT READS IS OF BULK AT MOST 1048576: true; the input reads as it did. -/
def fnSamesUptoRow : OpenClaim := { program := "ytadoadomogceiaa", sum := "b407d65cf2b356fb2e118d0d63ce012f805709f9d89c67ddabdaa330a2e46159", func := "loop.example/g00464/laws.FnSames", spec := "fnSames", unfollowed := true, recurses := true, apart := false, narrowed := true }
def FnSamesUptoSaid : Prop := fnSamesUptoRow.holds Try.pinned (OpenSpec.upto fnSamesSpec)

/-- 'laws.FnExactSameJob', WHERE WHAT IT READS IS OF BULK AT MOST 1048576: true; the input reads as it did. -/
def fnExactSameJobUptoRow : OpenClaim := { program := "ytadoadomogceiaa", sum := "b407d65cf2b356fb2e118d0d63ce012f805709f9d89c67ddabdaa330a2e46159", func := "loop.example/g00464/laws.FnExactSameJob", spec := "fnExactSameJob", unfollowed := true, recurses := true, apart := false, narrowed := true }
def FnExactSameJobUptoSaid : Prop := fnExactSameJobUptoRow.holds Try.pinned (OpenSpec.upto fnExactSameJobSpec)

/-- 'laws.FnExactLoad', WHERE WHAT IT READS IS OF BULK AT MOST 1048576: true; the input reads as it did. -/
def fnExactLoadUptoRow : OpenClaim := { program := "ytadoadomogceiaa", sum := "b407d65cf2b356fb2e118d0d63ce012f805709f9d89c67ddabdaa330a2e46159", func := "loop.example/g00464/laws.FnExactLoad", spec := "fnExactLoad", inPlace := ["slices.overlaps[loop.example/g00464/impl.Doc]"], unfollowed := true, recurses := true, apart := false, narrowed := true }
def FnExactLoadUptoSaid : Prop := fnExactLoadUptoRow.holds Try.pinned (OpenSpec.upto fnExactLoadSpec)

/-- 'laws.FnExactDocsNow', WHERE WHAT IT READS IS OF BULK AT MOST 1048576: true; the input reads as it did. -/
def fnExactDocsNowUptoRow : OpenClaim := { program := "ytadoadomogceiaa", sum := "b407d65cf2b356fb2e118d0d63ce012f805709f9d89c67ddabdaa330a2e46159", func := "loop.example/g00464/laws.FnExactDocsNow", spec := "fnExactDocsNow", inPlace := ["slices.overlaps[loop.example/g00464/impl.Doc]"], unfollowed := true, recurses := true, apart := false, narrowed := true }
def FnExactDocsNowUptoSaid : Prop := fnExactDocsNowUptoRow.holds Try.pinned (OpenSpec.upto fnExactDocsNowSpec)

/-- 'laws.FnDisks', WHERE WHAT IT READS IS OF BULK AT MOST 1048576: true; the input reads as it did. -/
def fnDisksUptoRow : OpenClaim := { program := "ytadoadomogceiaa", sum := "b407d65cf2b356fb2e118d0d63ce012f805709f9d89c67ddabdaa330a2e46159", func := "loop.example/g00464/laws.FnDisks", spec := "fnDisks", inPlace := ["slices.overlaps[loop.example/g00464/impl.Doc]"], unfollowed := true, recurses := true, apart := false, narrowed := true }
def FnDisksUptoSaid : Prop := fnDisksUptoRow.holds Try.pinned (OpenSpec.upto fnDisksSpec)

/-- 'laws.FnExactSettle', WHERE WHAT IT READS IS OF BULK AT MOST 1048576: true; the input reads as it did. -/
def fnExactSettleUptoRow : OpenClaim := { program := "ytadoadomogceiaa", sum := "b407d65cf2b356fb2e118d0d63ce012f805709f9d89c67ddabdaa330a2e46159", func := "loop.example/g00464/laws.FnExactSettle", spec := "fnExactSettle", inPlace := ["slices.overlaps[loop.example/g00464/impl.Doc]"], unfollowed := true, recurses := true, apart := false, narrowed := true }
def FnExactSettleUptoSaid : Prop := fnExactSettleUptoRow.holds Try.pinned (OpenSpec.upto fnExactSettleSpec)

/-- 'laws.FnExactCrash', WHERE WHAT IT READS IS OF BULK AT MOST 1048576: true; the input reads as it did. -/
def fnExactCrashUptoRow : OpenClaim := { program := "ytadoadomogceiaa", sum := "b407d65cf2b356fb2e118d0d63ce012f805709f9d89c67ddabdaa330a2e46159", func := "loop.example/g00464/laws.FnExactCrash", spec := "fnExactCrash", inPlace := ["slices.overlaps[loop.example/g00464/impl.Doc]"], unfollowed := true, recurses := true, apart := false, narrowed := true }
def FnExactCrashUptoSaid : Prop := fnExactCrashUptoRow.holds Try.pinned (OpenSpec.upto fnExactCrashSpec)

/-- 'laws.FnExactSave', WHERE WHAT IT READS IS OF BULK AT MOST 1048576: true; the input reads as it did. -/
def fnExactSaveUptoRow : OpenClaim := { program := "ytadoadomogceiaa", sum := "b407d65cf2b356fb2e118d0d63ce012f805709f9d89c67ddabdaa330a2e46159", func := "loop.example/g00464/laws.FnExactSave", spec := "fnExactSave", inPlace := ["slices.overlaps[loop.example/g00464/impl.Doc]"], unfollowed := true, recurses := true, apart := false, narrowed := true }
def FnExactSaveUptoSaid : Prop := fnExactSaveUptoRow.holds Try.pinned (OpenSpec.upto fnExactSaveSpec)

/-- 'laws.FnExactCounted', WHERE WHAT IT READS IS OF BULK AT MOST 1048576: true; the input reads as it did. -/
def fnExactCountedUptoRow : OpenClaim := { program := "ytadoadomogceiaa", sum := "b407d65cf2b356fb2e118d0d63ce012f805709f9d89c67ddabdaa330a2e46159", func := "loop.example/g00464/laws.FnExactCounted", spec := "fnExactCounted", apart := false, narrowed := true }
def FnExactCountedUptoSaid : Prop := fnExactCountedUptoRow.holds Try.pinned (OpenSpec.upto fnExactCountedSpec)

/-- 'laws.FnExactHowOf', WHERE WHAT IT READS IS OF BULK AT MOST 1048576: true; the input reads as it did. -/
def fnExactHowOfUptoRow : OpenClaim := { program := "ytadoadomogceiaa", sum := "b407d65cf2b356fb2e118d0d63ce012f805709f9d89c67ddabdaa330a2e46159", func := "loop.example/g00464/laws.FnExactHowOf", spec := "fnExactHowOf", apart := false, narrowed := true }
def FnExactHowOfUptoSaid : Prop := fnExactHowOfUptoRow.holds Try.pinned (OpenSpec.upto fnExactHowOfSpec)

end Rows
end Go.Proofs.Ytadoadomogceiaa
