/-
  No cell of these rows narrows 'for every input' (looked for: loops, veiled, ifaces, maps, wideKeys, modest, calm, conditions, laid).
  DERIVED. THE GIVEN ROWS OF THIS SEAT. 6 by the template 'for every input the law returns true; each argument reads behind the call as it read before'; 0 by the template 'total and deterministic' (their statements: YtlajojcobadieaaTotals.lean).
  GIVEN WITH THE SEED: the statements are not yours to turn. If you find one false, say at which input.
  Laid BY PROGRAM, IN A SANDBOX (cutbox-rows.mjs): the forced cells as the released guide's own fill.sh prints them over the translation 291eb35ed5813466… (all of the seat's roots in one cut). By AI agents, Wed Nov 11 2026. No macro, syntax, notation, axiom, sorry.
-/
import Derived.Test.YtlajojcobadieaaChecked
import GoSem.Claim
import GoSem.ClaimJoined
import GoSem.ClaimMapViews
import Derived.JoinedTies
import Derived.KernelRfl
namespace Go.Proofs.Ytlajojcobadieaa
/- THE CELL 'sum', in the pinned program and in every row, IS THE sha256 OF THE DUMP (.gsa) THAT YtlajojcobadieaaProg.lean LOADS. Nothing in Lean hashes anything: it is a label: what it is worth is what the hold of that sum in a sandbox is worth. -/
noncomputable def Try.pinned : Pinned := { name := "ytlajojcobadieaa", sum := "291eb35ed5813466c531552341ed84cd8494d22a07968cb9fa9e6f625833ae0e", checked := Try.checked }
namespace Rows
def none {H : Type} : Left H := { results := [], args := [] }

/-- 'laws.FnExactHowText': WHATEVER THE INPUT: true; the input reads as it did. -/
def fnExactHowTextSpec : ChangeSpec := { name := "fnExactHowText", fn := fun _ => fun
  | [d] => { results := [.lit (.bool true)], args := [d] }
  | _ => none }
def fnExactHowTextRow : OpenClaim := { program := "ytlajojcobadieaa", sum := "291eb35ed5813466c531552341ed84cd8494d22a07968cb9fa9e6f625833ae0e", func := "loop.example/g00464/laws.FnExactHowText", spec := "fnExactHowText", apart := false }
def FnExactHowTextSaid : Prop := fnExactHowTextRow.holds Try.pinned (OpenSpec.ofChange fnExactHowTextSpec)

/-- ITS FALSE NEIGHBOUR: 'it returns false'. Refute it at one input. -/
def fnExactHowTextWrong : ChangeSpec := { name := "fnExactHowText", fn := fun _ => fun
  | [d] => { results := [.lit (.bool false)], args := [d] }
  | _ => none }
def FnExactHowTextWrongFalsely : Prop := fnExactHowTextRow.holds Try.pinned (OpenSpec.ofChange fnExactHowTextWrong)

/-- 'laws.FnExactSameMarks': WHATEVER THE INPUT: true; the input reads as it did. -/
def fnExactSameMarksSpec : ChangeSpec := { name := "fnExactSameMarks", fn := fun _ => fun
  | [d1, d2] => { results := [.lit (.bool true)], args := [d1, d2] }
  | _ => none }
def fnExactSameMarksRow : OpenClaim := { program := "ytlajojcobadieaa", sum := "291eb35ed5813466c531552341ed84cd8494d22a07968cb9fa9e6f625833ae0e", func := "loop.example/g00464/laws.FnExactSameMarks", spec := "fnExactSameMarks", unfollowed := true, recurses := true, apart := false }
def FnExactSameMarksSaid : Prop := fnExactSameMarksRow.holds Try.pinned (OpenSpec.ofChange fnExactSameMarksSpec)

/-- ITS FALSE NEIGHBOUR: 'it returns false'. Refute it at one input. -/
def fnExactSameMarksWrong : ChangeSpec := { name := "fnExactSameMarks", fn := fun _ => fun
  | [d1, d2] => { results := [.lit (.bool false)], args := [d1, d2] }
  | _ => none }
def FnExactSameMarksWrongFalsely : Prop := fnExactSameMarksRow.holds Try.pinned (OpenSpec.ofChange fnExactSameMarksWrong)

/-- 'laws.FnExactCacheOk': WHATEVER THE INPUT: true; the input reads as it did. -/
def fnExactCacheOkSpec : ChangeSpec := { name := "fnExactCacheOk", fn := fun _ => fun
  | [d] => { results := [.lit (.bool true)], args := [d] }
  | _ => none }
def fnExactCacheOkRow : OpenClaim := { program := "ytlajojcobadieaa", sum := "291eb35ed5813466c531552341ed84cd8494d22a07968cb9fa9e6f625833ae0e", func := "loop.example/g00464/laws.FnExactCacheOk", spec := "fnExactCacheOk", unfollowed := true, recurses := true, apart := false }
def FnExactCacheOkSaid : Prop := fnExactCacheOkRow.holds Try.pinned (OpenSpec.ofChange fnExactCacheOkSpec)

/-- ITS FALSE NEIGHBOUR: 'it returns false'. Refute it at one input. -/
def fnExactCacheOkWrong : ChangeSpec := { name := "fnExactCacheOk", fn := fun _ => fun
  | [d] => { results := [.lit (.bool false)], args := [d] }
  | _ => none }
def FnExactCacheOkWrongFalsely : Prop := fnExactCacheOkRow.holds Try.pinned (OpenSpec.ofChange fnExactCacheOkWrong)

/-- 'laws.FnExactDamage': WHATEVER THE INPUT: true; the input reads as it did. -/
def fnExactDamageSpec : ChangeSpec := { name := "fnExactDamage", fn := fun _ => fun
  | [d1, d2, d3, d4] => { results := [.lit (.bool true)], args := [d1, d2, d3, d4] }
  | _ => none }
def fnExactDamageRow : OpenClaim := { program := "ytlajojcobadieaa", sum := "291eb35ed5813466c531552341ed84cd8494d22a07968cb9fa9e6f625833ae0e", func := "loop.example/g00464/laws.FnExactDamage", spec := "fnExactDamage", apart := false }
def FnExactDamageSaid : Prop := fnExactDamageRow.holds Try.pinned (OpenSpec.ofChange fnExactDamageSpec)

/-- ITS FALSE NEIGHBOUR: 'it returns false'. Refute it at one input. -/
def fnExactDamageWrong : ChangeSpec := { name := "fnExactDamage", fn := fun _ => fun
  | [d1, d2, d3, d4] => { results := [.lit (.bool false)], args := [d1, d2, d3, d4] }
  | _ => none }
def FnExactDamageWrongFalsely : Prop := fnExactDamageRow.holds Try.pinned (OpenSpec.ofChange fnExactDamageWrong)

/-- 'laws.FnExactSameMades': WHATEVER THE INPUT: true; the input reads as it did. -/
def fnExactSameMadesSpec : ChangeSpec := { name := "fnExactSameMades", fn := fun _ => fun
  | [d1, d2] => { results := [.lit (.bool true)], args := [d1, d2] }
  | _ => none }
def fnExactSameMadesRow : OpenClaim := { program := "ytlajojcobadieaa", sum := "291eb35ed5813466c531552341ed84cd8494d22a07968cb9fa9e6f625833ae0e", func := "loop.example/g00464/laws.FnExactSameMades", spec := "fnExactSameMades", unfollowed := true, recurses := true, apart := false }
def FnExactSameMadesSaid : Prop := fnExactSameMadesRow.holds Try.pinned (OpenSpec.ofChange fnExactSameMadesSpec)

/-- ITS FALSE NEIGHBOUR: 'it returns false'. Refute it at one input. -/
def fnExactSameMadesWrong : ChangeSpec := { name := "fnExactSameMades", fn := fun _ => fun
  | [d1, d2] => { results := [.lit (.bool false)], args := [d1, d2] }
  | _ => none }
def FnExactSameMadesWrongFalsely : Prop := fnExactSameMadesRow.holds Try.pinned (OpenSpec.ofChange fnExactSameMadesWrong)

/-- 'laws.FnExactDiskOk': WHATEVER THE INPUT: true; the input reads as it did. -/
def fnExactDiskOkSpec : ChangeSpec := { name := "fnExactDiskOk", fn := fun _ => fun
  | [d] => { results := [.lit (.bool true)], args := [d] }
  | _ => none }
def fnExactDiskOkRow : OpenClaim := { program := "ytlajojcobadieaa", sum := "291eb35ed5813466c531552341ed84cd8494d22a07968cb9fa9e6f625833ae0e", func := "loop.example/g00464/laws.FnExactDiskOk", spec := "fnExactDiskOk", apart := false }
def FnExactDiskOkSaid : Prop := fnExactDiskOkRow.holds Try.pinned (OpenSpec.ofChange fnExactDiskOkSpec)

/-- ITS FALSE NEIGHBOUR: 'it returns false'. Refute it at one input. -/
def fnExactDiskOkWrong : ChangeSpec := { name := "fnExactDiskOk", fn := fun _ => fun
  | [d] => { results := [.lit (.bool false)], args := [d] }
  | _ => none }
def FnExactDiskOkWrongFalsely : Prop := fnExactDiskOkRow.holds Try.pinned (OpenSpec.ofChange fnExactDiskOkWrong)

/- THE SECOND FORM. 'bulk': how many values and letters a reading holds, each counted each time it is reached (what is shared counts as often as it is met; a slice's spare places count too). A statement '..UptoSaid' is the law's where the arguments, and the package variables that the reading takes, are together of bulk at most 1048576: NARROWER than '..Said'. Prove '..Said' where nothing that the law and all that it calls make is longer than what came in: it says more and counts as full. Else prove '..UptoSaid'. A law counts once. -/
mutual
def uptoBulk {H : Type} : DataW H → Nat
  | .lit (.string bytes) => bytes.length + 1
  | .lit _ => 1
  | .nil => 1
  | .ptr d => uptoBulk d + 1
  | .slice elems spare => uptoBulkAll elems + uptoBulkAll spare + 1
  | .agg parts => uptoBulkAll parts + 1
  | .iface _ d => uptoBulk d + 1
  | .map entries => uptoBulkEntries entries + 1
  | .held _ => 1
def uptoBulkAll {H : Type} : List (DataW H) → Nat
  | [] => 0
  | d :: r => uptoBulk d + uptoBulkAll r
def uptoBulkEntries {H : Type} : List (Lit × DataW H) → Nat
  | [] => 0
  | x :: r => uptoBulkEntry x + uptoBulkEntries r
def uptoBulkEntry {H : Type} : Lit × DataW H → Nat
  | (.string bytes, d) => bytes.length + uptoBulk d + 1
  | (_, d) => uptoBulk d + 1
 end
def uptoSmall : (H : Type) → List (DataW H) → Bool := fun _ ds => decide (uptoBulkAll ds ≤ 1048576)
def OpenSpec.upto (s : _root_.Go.ChangeSpec) : _root_.Go.OpenSpec := { _root_.Go.OpenSpec.ofChange s with cond := some uptoSmall }

/-- 'laws.FnExactHowText', WHERE WHAT IT READS IS OF BULK AT MOST 1048576: true; the input reads as it did. -/
def fnExactHowTextUptoRow : OpenClaim := { program := "ytlajojcobadieaa", sum := "291eb35ed5813466c531552341ed84cd8494d22a07968cb9fa9e6f625833ae0e", func := "loop.example/g00464/laws.FnExactHowText", spec := "fnExactHowText", apart := false, narrowed := true }
def FnExactHowTextUptoSaid : Prop := fnExactHowTextUptoRow.holds Try.pinned (OpenSpec.upto fnExactHowTextSpec)

/-- 'laws.FnExactSameMarks', WHERE WHAT IT READS IS OF BULK AT MOST 1048576: true; the input reads as it did. -/
def fnExactSameMarksUptoRow : OpenClaim := { program := "ytlajojcobadieaa", sum := "291eb35ed5813466c531552341ed84cd8494d22a07968cb9fa9e6f625833ae0e", func := "loop.example/g00464/laws.FnExactSameMarks", spec := "fnExactSameMarks", unfollowed := true, recurses := true, apart := false, narrowed := true }
def FnExactSameMarksUptoSaid : Prop := fnExactSameMarksUptoRow.holds Try.pinned (OpenSpec.upto fnExactSameMarksSpec)

/-- 'laws.FnExactCacheOk', WHERE WHAT IT READS IS OF BULK AT MOST 1048576: true; the input reads as it did. -/
def fnExactCacheOkUptoRow : OpenClaim := { program := "ytlajojcobadieaa", sum := "291eb35ed5813466c531552341ed84cd8494d22a07968cb9fa9e6f625833ae0e", func := "loop.example/g00464/laws.FnExactCacheOk", spec := "fnExactCacheOk", unfollowed := true, recurses := true, apart := false, narrowed := true }
def FnExactCacheOkUptoSaid : Prop := fnExactCacheOkUptoRow.holds Try.pinned (OpenSpec.upto fnExactCacheOkSpec)

/-- 'laws.FnExactDamage', WHERE WHAT IT READS IS OF BULK AT MOST 1048576: true; the input reads as it did. -/
def fnExactDamageUptoRow : OpenClaim := { program := "ytlajojcobadieaa", sum := "291eb35ed5813466c531552341ed84cd8494d22a07968cb9fa9e6f625833ae0e", func := "loop.example/g00464/laws.FnExactDamage", spec := "fnExactDamage", apart := false, narrowed := true }
def FnExactDamageUptoSaid : Prop := fnExactDamageUptoRow.holds Try.pinned (OpenSpec.upto fnExactDamageSpec)

/-- 'laws.FnExactSameMades', WHERE WHAT IT READS IS OF BULK AT MOST 1048576: true; the input reads as it did. -/
def fnExactSameMadesUptoRow : OpenClaim := { program := "ytlajojcobadieaa", sum := "291eb35ed5813466c531552341ed84cd8494d22a07968cb9fa9e6f625833ae0e", func := "loop.example/g00464/laws.FnExactSameMades", spec := "fnExactSameMades", unfollowed := true, recurses := true, apart := false, narrowed := true }
def FnExactSameMadesUptoSaid : Prop := fnExactSameMadesUptoRow.holds Try.pinned (OpenSpec.upto fnExactSameMadesSpec)

/-- 'laws.FnExactDiskOk', WHERE WHAT IT READS IS OF BULK AT MOST 1048576: true; the input reads as it did. -/
def fnExactDiskOkUptoRow : OpenClaim := { program := "ytlajojcobadieaa", sum := "291eb35ed5813466c531552341ed84cd8494d22a07968cb9fa9e6f625833ae0e", func := "loop.example/g00464/laws.FnExactDiskOk", spec := "fnExactDiskOk", apart := false, narrowed := true }
def FnExactDiskOkUptoSaid : Prop := fnExactDiskOkUptoRow.holds Try.pinned (OpenSpec.upto fnExactDiskOkSpec)

end Rows
end Go.Proofs.Ytlajojcobadieaa
