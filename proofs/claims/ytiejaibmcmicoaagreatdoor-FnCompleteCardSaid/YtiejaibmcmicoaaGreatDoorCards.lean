/-
  DERIVED. GIVEN WITH THE SEED: THE CARDS: each row of YtiejaibmcmicoaaGreatDoorRows.lean that lists a variable, with what it lists TIED to the program's text (the seventh form; the later family's looks); each row that meets fmt, with fmt's text TOLD by the authors' own Lean function (tested against real Go, not proved from fmt's source: count such statements apart). THE CARD IS WHAT COUNTS. Prove the row's statement (the work); the ties are given (YtiejaibmcmicoaaGreatDoorTie.lean); close each card by the builder's one call (the guide's Derived/Test/ToyasCard.lean, 'card_holds'). Laid BY PROGRAM, IN A SANDBOX (cutbox-door.mjs). By AI agents, Wed Nov 11 2026. No macro, syntax, notation, axiom, sorry.
-/
import Derived.Test.YtiejaibmcmicoaaGreatDoorRows
import GoSem.ClaimSeven
namespace Go.Proofs.YtiejaibmcmicoaaGreatDoor
namespace Rows

/-- THE TIED CARD OF 'laws.FnSolved'. -/
def fnSolvedCard : Claim7 := { stood := { row := fnSolvedRow, standIns := [], harness := (true, "affc97d387ed6cea19be095d33782c5f47b312072af68736e833836b375dea08"), looks := false }, kinds := [], alts := [], laidByText := true, laidKinds := [.data, .data, .data, .data, .pinned], laidTests := true, laidLooks := .later }
def FnSolvedCardSaid : Prop := Claim7.holds Tryz.pinned (.plain (OpenSpec.ofChange fnSolvedSpec)) fnSolvedCard

/-- THE TIED CARD OF 'laws.FnNewest'. -/
def fnNewestCard : Claim7 := { stood := { row := fnNewestRow, standIns := [], harness := (true, "affc97d387ed6cea19be095d33782c5f47b312072af68736e833836b375dea08"), looks := false }, kinds := [], alts := [], laidByText := true, laidKinds := [.data, .data, .data, .data, .pinned], laidTests := true, laidLooks := .later }
def FnNewestCardSaid : Prop := Claim7.holds Tryz.pinned (.plain (OpenSpec.ofChange fnNewestSpec)) fnNewestCard

/-- THE TIED CARD OF 'laws.FnComplete'. -/
def fnCompleteCard : Claim7 := { stood := { row := fnCompleteRow, standIns := [], harness := (true, "affc97d387ed6cea19be095d33782c5f47b312072af68736e833836b375dea08"), looks := false }, kinds := [], alts := [], laidByText := true, laidKinds := [.data, .data, .data, .data, .pinned], laidTests := true, laidLooks := .later }
def FnCompleteCardSaid : Prop := Claim7.holds Tryz.pinned (.plain (OpenSpec.ofChange fnCompleteSpec)) fnCompleteCard

/-- THE SECOND FORM's CARD OF 'laws.FnSolved'. -/
def fnSolvedUptoCard : Claim7 := { stood := { row := fnSolvedUptoRow, standIns := [], harness := (true, "affc97d387ed6cea19be095d33782c5f47b312072af68736e833836b375dea08"), looks := false }, kinds := [], alts := [], laidByText := true, laidKinds := [.data, .data, .data, .data, .pinned], laidTests := true, laidLooks := .later }
def FnSolvedUptoCardSaid : Prop := Claim7.holds Tryz.pinned (.plain (OpenSpec.upto fnSolvedSpec)) fnSolvedUptoCard

/-- THE SECOND FORM's CARD OF 'laws.FnNewest'. -/
def fnNewestUptoCard : Claim7 := { stood := { row := fnNewestUptoRow, standIns := [], harness := (true, "affc97d387ed6cea19be095d33782c5f47b312072af68736e833836b375dea08"), looks := false }, kinds := [], alts := [], laidByText := true, laidKinds := [.data, .data, .data, .data, .pinned], laidTests := true, laidLooks := .later }
def FnNewestUptoCardSaid : Prop := Claim7.holds Tryz.pinned (.plain (OpenSpec.upto fnNewestSpec)) fnNewestUptoCard

/-- THE SECOND FORM's CARD OF 'laws.FnComplete'. -/
def fnCompleteUptoCard : Claim7 := { stood := { row := fnCompleteUptoRow, standIns := [], harness := (true, "affc97d387ed6cea19be095d33782c5f47b312072af68736e833836b375dea08"), looks := false }, kinds := [], alts := [], laidByText := true, laidKinds := [.data, .data, .data, .data, .pinned], laidTests := true, laidLooks := .later }
def FnCompleteUptoCardSaid : Prop := Claim7.holds Tryz.pinned (.plain (OpenSpec.upto fnCompleteSpec)) fnCompleteUptoCard
end Rows
end Go.Proofs.YtiejaibmcmicoaaGreatDoor
