/-
  DERIVED. GIVEN WITH THE SEED: THE CARDS: each row of YtaknfalbmblagaaDoorRows.lean that lists a variable, with what it lists TIED to the program's text (the seventh form; the later family's looks); each row that meets fmt, with fmt's text TOLD by the authors' own Lean function (tested against real Go, not proved from fmt's source: count such statements apart). THE CARD IS WHAT COUNTS. Prove the row's statement (the work); the ties are given (YtaknfalbmblagaaDoorTie.lean); close each card by the builder's one call (the guide's Derived/Test/ToyasCard.lean, 'card_holds'). Laid BY PROGRAM, IN A SANDBOX (cutbox-door.mjs). By AI agents, Wed Nov 11 2026. No macro, syntax, notation, axiom, sorry.
-/
import Derived.Test.YtaknfalbmblagaaDoorRows
import GoSem.ClaimSeven
namespace Go.Proofs.YtaknfalbmblagaaDoor
namespace Rows

/-- THE TIED CARD OF 'laws.FnExactCacheGet'. -/
def fnExactCacheGetCard : Claim7 := { stood := { row := fnExactCacheGetRow, standIns := [], harness := (true, "c26a31f5a2947f5720cc2a8439f27c277665755f6af3a9a26d6f478dc04eb940"), looks := false }, kinds := [], alts := [], laidByText := true, laidKinds := [.data, .data, .data, .data, .pinned], laidTests := true, laidLooks := .later }
def FnExactCacheGetCardSaid : Prop := Claim7.holds Tryd.pinned (.plain (OpenSpec.ofChange fnExactCacheGetSpec)) fnExactCacheGetCard

/-- THE SECOND FORM's CARD OF 'laws.FnExactCacheGet'. -/
def fnExactCacheGetUptoCard : Claim7 := { stood := { row := fnExactCacheGetUptoRow, standIns := [], harness := (true, "c26a31f5a2947f5720cc2a8439f27c277665755f6af3a9a26d6f478dc04eb940"), looks := false }, kinds := [], alts := [], laidByText := true, laidKinds := [.data, .data, .data, .data, .pinned], laidTests := true, laidLooks := .later }
def FnExactCacheGetUptoCardSaid : Prop := Claim7.holds Tryd.pinned (.plain (OpenSpec.upto fnExactCacheGetSpec)) fnExactCacheGetUptoCard
end Rows
end Go.Proofs.YtaknfalbmblagaaDoor
