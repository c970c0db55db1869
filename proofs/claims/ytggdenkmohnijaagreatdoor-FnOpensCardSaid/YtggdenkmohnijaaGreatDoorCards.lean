/-
  DERIVED. GIVEN WITH THE SEED: THE CARDS: each row of YtggdenkmohnijaaGreatDoorRows.lean that lists a variable, with what it lists TIED to the program's text (the seventh form; the later family's looks); each row that meets fmt, with fmt's text TOLD by the authors' own Lean function (tested against real Go, not proved from fmt's source: count such statements apart). THE CARD IS WHAT COUNTS. Prove the row's statement (the work); the ties are given (YtggdenkmohnijaaGreatDoorTie.lean); close each card by the builder's one call (the guide's Derived/Test/ToyasCard.lean, 'card_holds'). Laid BY PROGRAM, IN A SANDBOX (cutbox-door.mjs). By AI agents, Wed Nov 11 2026. No macro, syntax, notation, axiom, sorry.
-/
import Derived.Test.YtggdenkmohnijaaGreatDoorRows
import GoSem.ClaimSeven
namespace Go.Proofs.YtggdenkmohnijaaGreatDoor
namespace Rows

/-- THE TIED CARD OF 'laws.FnTights'. -/
def fnTightsCard : Claim7 := { stood := { row := fnTightsRow, standIns := [], harness := (true, "d50889fc55059246d37b372214d3140fbe210b66950fdb0baa964f207bff2eb9"), looks := false }, kinds := [], alts := [], laidByText := true, laidKinds := [.data, .data, .data, .data, .pinned], laidTests := true, laidLooks := .later }
def FnTightsCardSaid : Prop := Claim7.holds Tryz.pinned (.plain (OpenSpec.ofChange fnTightsSpec)) fnTightsCard

/-- THE TIED CARD OF 'laws.FnNames'. -/
def fnNamesCard : Claim7 := { stood := { row := fnNamesRow, standIns := [], harness := (true, "d50889fc55059246d37b372214d3140fbe210b66950fdb0baa964f207bff2eb9"), looks := false }, kinds := [], alts := [], laidByText := true, laidKinds := [.data, .data, .data, .data, .pinned], laidTests := true, laidLooks := .later }
def FnNamesCardSaid : Prop := Claim7.holds Tryz.pinned (.plain (OpenSpec.ofChange fnNamesSpec)) fnNamesCard

/-- THE TIED CARD OF 'laws.FnWhole'. -/
def fnWholeCard : Claim7 := { stood := { row := fnWholeRow, standIns := [], harness := (true, "d50889fc55059246d37b372214d3140fbe210b66950fdb0baa964f207bff2eb9"), looks := false }, kinds := [], alts := [], laidByText := true, laidKinds := [.data, .data, .data, .data, .pinned], laidTests := true, laidLooks := .later }
def FnWholeCardSaid : Prop := Claim7.holds Tryz.pinned (.plain (OpenSpec.ofChange fnWholeSpec)) fnWholeCard

/-- THE TIED CARD OF 'laws.FnOpens'. -/
def fnOpensCard : Claim7 := { stood := { row := fnOpensRow, standIns := [], harness := (true, "d50889fc55059246d37b372214d3140fbe210b66950fdb0baa964f207bff2eb9"), looks := false }, kinds := [], alts := [], laidByText := true, laidKinds := [.data, .data, .data, .data, .pinned], laidTests := true, laidLooks := .later }
def FnOpensCardSaid : Prop := Claim7.holds Tryz.pinned (.plain (OpenSpec.ofChange fnOpensSpec)) fnOpensCard

/-- THE TIED CARD OF 'laws.FnTightBent'. -/
def fnTightBentCard : Claim7 := { stood := { row := fnTightBentRow, standIns := [], harness := (true, "d50889fc55059246d37b372214d3140fbe210b66950fdb0baa964f207bff2eb9"), looks := false }, kinds := [], alts := [], laidByText := true, laidKinds := [.data, .data, .data, .data, .pinned], laidTests := true, laidLooks := .later }
def FnTightBentCardSaid : Prop := Claim7.holds Tryz.pinned (.plain (OpenSpec.ofChange fnTightBentSpec)) fnTightBentCard

/-- THE TIED CARD OF 'laws.FnPackedBent'. -/
def fnPackedBentCard : Claim7 := { stood := { row := fnPackedBentRow, standIns := [], harness := (true, "d50889fc55059246d37b372214d3140fbe210b66950fdb0baa964f207bff2eb9"), looks := false }, kinds := [], alts := [], laidByText := true, laidKinds := [.data, .data, .data, .data, .pinned], laidTests := true, laidLooks := .later }
def FnPackedBentCardSaid : Prop := Claim7.holds Tryz.pinned (.plain (OpenSpec.ofChange fnPackedBentSpec)) fnPackedBentCard

/-- THE SECOND FORM's CARD OF 'laws.FnTights'. -/
def fnTightsUptoCard : Claim7 := { stood := { row := fnTightsUptoRow, standIns := [], harness := (true, "d50889fc55059246d37b372214d3140fbe210b66950fdb0baa964f207bff2eb9"), looks := false }, kinds := [], alts := [], laidByText := true, laidKinds := [.data, .data, .data, .data, .pinned], laidTests := true, laidLooks := .later }
def FnTightsUptoCardSaid : Prop := Claim7.holds Tryz.pinned (.plain (OpenSpec.upto fnTightsSpec)) fnTightsUptoCard

/-- THE SECOND FORM's CARD OF 'laws.FnNames'. -/
def fnNamesUptoCard : Claim7 := { stood := { row := fnNamesUptoRow, standIns := [], harness := (true, "d50889fc55059246d37b372214d3140fbe210b66950fdb0baa964f207bff2eb9"), looks := false }, kinds := [], alts := [], laidByText := true, laidKinds := [.data, .data, .data, .data, .pinned], laidTests := true, laidLooks := .later }
def FnNamesUptoCardSaid : Prop := Claim7.holds Tryz.pinned (.plain (OpenSpec.upto fnNamesSpec)) fnNamesUptoCard

/-- THE SECOND FORM's CARD OF 'laws.FnWhole'. -/
def fnWholeUptoCard : Claim7 := { stood := { row := fnWholeUptoRow, standIns := [], harness := (true, "d50889fc55059246d37b372214d3140fbe210b66950fdb0baa964f207bff2eb9"), looks := false }, kinds := [], alts := [], laidByText := true, laidKinds := [.data, .data, .data, .data, .pinned], laidTests := true, laidLooks := .later }
def FnWholeUptoCardSaid : Prop := Claim7.holds Tryz.pinned (.plain (OpenSpec.upto fnWholeSpec)) fnWholeUptoCard

/-- THE SECOND FORM's CARD OF 'laws.FnOpens'. -/
def fnOpensUptoCard : Claim7 := { stood := { row := fnOpensUptoRow, standIns := [], harness := (true, "d50889fc55059246d37b372214d3140fbe210b66950fdb0baa964f207bff2eb9"), looks := false }, kinds := [], alts := [], laidByText := true, laidKinds := [.data, .data, .data, .data, .pinned], laidTests := true, laidLooks := .later }
def FnOpensUptoCardSaid : Prop := Claim7.holds Tryz.pinned (.plain (OpenSpec.upto fnOpensSpec)) fnOpensUptoCard

/-- THE SECOND FORM's CARD OF 'laws.FnTightBent'. -/
def fnTightBentUptoCard : Claim7 := { stood := { row := fnTightBentUptoRow, standIns := [], harness := (true, "d50889fc55059246d37b372214d3140fbe210b66950fdb0baa964f207bff2eb9"), looks := false }, kinds := [], alts := [], laidByText := true, laidKinds := [.data, .data, .data, .data, .pinned], laidTests := true, laidLooks := .later }
def FnTightBentUptoCardSaid : Prop := Claim7.holds Tryz.pinned (.plain (OpenSpec.upto fnTightBentSpec)) fnTightBentUptoCard

/-- THE SECOND FORM's CARD OF 'laws.FnPackedBent'. -/
def fnPackedBentUptoCard : Claim7 := { stood := { row := fnPackedBentUptoRow, standIns := [], harness := (true, "d50889fc55059246d37b372214d3140fbe210b66950fdb0baa964f207bff2eb9"), looks := false }, kinds := [], alts := [], laidByText := true, laidKinds := [.data, .data, .data, .data, .pinned], laidTests := true, laidLooks := .later }
def FnPackedBentUptoCardSaid : Prop := Claim7.holds Tryz.pinned (.plain (OpenSpec.upto fnPackedBentSpec)) fnPackedBentUptoCard
end Rows
end Go.Proofs.YtggdenkmohnijaaGreatDoor
