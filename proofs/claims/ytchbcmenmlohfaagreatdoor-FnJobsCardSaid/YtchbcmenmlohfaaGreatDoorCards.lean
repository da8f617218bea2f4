/-
  DERIVED. GIVEN WITH THE SEED: THE CARDS: each row of YtchbcmenmlohfaaGreatDoorRows.lean that lists a variable, with what it lists TIED to the program's text (the seventh form; the later family's looks); each row that meets fmt, with fmt's text TOLD by the authors' own Lean function (tested against real Go, not proved from fmt's source: count such statements apart). THE CARD IS WHAT COUNTS. Prove the row's statement (the work); the ties are given (YtchbcmenmlohfaaGreatDoorTie.lean); close each card by the builder's one call (the guide's Derived/Test/ToyasCard.lean, 'card_holds'). Laid BY PROGRAM, IN A SANDBOX (cutbox-door.mjs). By AI agents, Wed Nov 11 2026. No macro, syntax, notation, axiom, sorry.
-/
import Derived.Test.YtchbcmenmlohfaaGreatDoorRows
import GoSem.ClaimSeven
namespace Go.Proofs.YtchbcmenmlohfaaGreatDoor
namespace Rows

/-- THE TIED CARD OF 'laws.FnJobs'. -/
def fnJobsCard : Claim7 := { stood := { row := fnJobsRow, standIns := [], harness := (true, "b7f7487a3a8d910760121d6987b6f92bf93ffe6358ba67f15340e434728858f1"), looks := false }, kinds := [], alts := [], laidByText := true, laidKinds := [.data, .pinned], laidTests := true, laidLooks := .later }
def FnJobsCardSaid : Prop := Claim7.holds Tryz.pinned (.plain (OpenSpec.ofChange fnJobsSpec)) fnJobsCard

/-- THE SECOND FORM's CARD OF 'laws.FnJobs'. -/
def fnJobsUptoCard : Claim7 := { stood := { row := fnJobsUptoRow, standIns := [], harness := (true, "b7f7487a3a8d910760121d6987b6f92bf93ffe6358ba67f15340e434728858f1"), looks := false }, kinds := [], alts := [], laidByText := true, laidKinds := [.data, .pinned], laidTests := true, laidLooks := .later }
def FnJobsUptoCardSaid : Prop := Claim7.holds Tryz.pinned (.plain (OpenSpec.upto fnJobsSpec)) fnJobsUptoCard
end Rows
end Go.Proofs.YtchbcmenmlohfaaGreatDoor
