/-
  DERIVED. GIVEN WITH THE SEED: THE CARDS: each row of YtaknfalbmblagaaGreatDoorRows.lean that lists a variable, with what it lists TIED to the program's text (the seventh form; the later family's looks); each row that meets fmt, with fmt's text TOLD by the authors' own Lean function (tested against real Go, not proved from fmt's source: count such statements apart). THE CARD IS WHAT COUNTS. Prove the row's statement (the work); the ties are given (YtaknfalbmblagaaGreatDoorTie.lean); close each card by the builder's one call (the guide's Derived/Test/ToyasCard.lean, 'card_holds'). Laid BY PROGRAM, IN A SANDBOX (cutbox-door.mjs). By AI agents, Wed Nov 11 2026. No macro, syntax, notation, axiom, sorry.
-/
import Derived.Test.YtaknfalbmblagaaGreatDoorRows
import GoSem.ClaimSeven
namespace Go.Proofs.YtaknfalbmblagaaGreatDoor
namespace Rows

/-- THE TIED CARD OF 'laws.FnCachesBent'. -/
def fnCachesBentCard : Claim7 := { stood := { row := fnCachesBentRow, standIns := [], harness := (true, "9b3d98d60ff598965ed2f72bfd78a90166d0c4433bcdf3fd5bbd03adc8d0dd37"), looks := false }, kinds := [], alts := [], laidByText := true, laidKinds := [.data, .data, .data, .data, .pinned], laidTests := true, laidLooks := .later }
def FnCachesBentCardSaid : Prop := Claim7.holds Tryz.pinned (.plain (OpenSpec.ofChange fnCachesBentSpec)) fnCachesBentCard

/-- THE TIED CARD OF 'laws.FnCaches'. -/
def fnCachesCard : Claim7 := { stood := { row := fnCachesRow, standIns := [], harness := (true, "9b3d98d60ff598965ed2f72bfd78a90166d0c4433bcdf3fd5bbd03adc8d0dd37"), looks := false }, kinds := [], alts := [], laidByText := true, laidKinds := [.data, .data, .data, .data, .pinned], laidTests := true, laidLooks := .later }
def FnCachesCardSaid : Prop := Claim7.holds Tryz.pinned (.plain (OpenSpec.ofChange fnCachesSpec)) fnCachesCard

/-- THE TIED CARD OF 'laws.FnDamaged'. -/
def fnDamagedCard : Claim7 := { stood := { row := fnDamagedRow, standIns := [], harness := (true, "9b3d98d60ff598965ed2f72bfd78a90166d0c4433bcdf3fd5bbd03adc8d0dd37"), looks := false }, kinds := [], alts := [], laidByText := true, laidKinds := [.data, .data, .data, .data, .pinned], laidTests := true, laidLooks := .later }
def FnDamagedCardSaid : Prop := Claim7.holds Tryz.pinned (.plain (OpenSpec.ofChange fnDamagedSpec)) fnDamagedCard

/-- THE TIED CARD OF 'laws.FnExactCachePut'. -/
def fnExactCachePutCard : Claim7 := { stood := { row := fnExactCachePutRow, standIns := [], harness := (true, "9b3d98d60ff598965ed2f72bfd78a90166d0c4433bcdf3fd5bbd03adc8d0dd37"), looks := false }, kinds := [], alts := [], laidByText := true, laidKinds := [.data, .data, .data, .data, .pinned], laidTests := true, laidLooks := .later }
def FnExactCachePutCardSaid : Prop := Claim7.holds Tryz.pinned (.plain (OpenSpec.ofChange fnExactCachePutSpec)) fnExactCachePutCard

/-- THE SECOND FORM's CARD OF 'laws.FnCachesBent'. -/
def fnCachesBentUptoCard : Claim7 := { stood := { row := fnCachesBentUptoRow, standIns := [], harness := (true, "9b3d98d60ff598965ed2f72bfd78a90166d0c4433bcdf3fd5bbd03adc8d0dd37"), looks := false }, kinds := [], alts := [], laidByText := true, laidKinds := [.data, .data, .data, .data, .pinned], laidTests := true, laidLooks := .later }
def FnCachesBentUptoCardSaid : Prop := Claim7.holds Tryz.pinned (.plain (OpenSpec.upto fnCachesBentSpec)) fnCachesBentUptoCard

/-- THE SECOND FORM's CARD OF 'laws.FnCaches'. -/
def fnCachesUptoCard : Claim7 := { stood := { row := fnCachesUptoRow, standIns := [], harness := (true, "9b3d98d60ff598965ed2f72bfd78a90166d0c4433bcdf3fd5bbd03adc8d0dd37"), looks := false }, kinds := [], alts := [], laidByText := true, laidKinds := [.data, .data, .data, .data, .pinned], laidTests := true, laidLooks := .later }
def FnCachesUptoCardSaid : Prop := Claim7.holds Tryz.pinned (.plain (OpenSpec.upto fnCachesSpec)) fnCachesUptoCard

/-- THE SECOND FORM's CARD OF 'laws.FnDamaged'. -/
def fnDamagedUptoCard : Claim7 := { stood := { row := fnDamagedUptoRow, standIns := [], harness := (true, "9b3d98d60ff598965ed2f72bfd78a90166d0c4433bcdf3fd5bbd03adc8d0dd37"), looks := false }, kinds := [], alts := [], laidByText := true, laidKinds := [.data, .data, .data, .data, .pinned], laidTests := true, laidLooks := .later }
def FnDamagedUptoCardSaid : Prop := Claim7.holds Tryz.pinned (.plain (OpenSpec.upto fnDamagedSpec)) fnDamagedUptoCard

/-- THE SECOND FORM's CARD OF 'laws.FnExactCachePut'. -/
def fnExactCachePutUptoCard : Claim7 := { stood := { row := fnExactCachePutUptoRow, standIns := [], harness := (true, "9b3d98d60ff598965ed2f72bfd78a90166d0c4433bcdf3fd5bbd03adc8d0dd37"), looks := false }, kinds := [], alts := [], laidByText := true, laidKinds := [.data, .data, .data, .data, .pinned], laidTests := true, laidLooks := .later }
def FnExactCachePutUptoCardSaid : Prop := Claim7.holds Tryz.pinned (.plain (OpenSpec.upto fnExactCachePutSpec)) fnExactCachePutUptoCard
end Rows
end Go.Proofs.YtaknfalbmblagaaGreatDoor
