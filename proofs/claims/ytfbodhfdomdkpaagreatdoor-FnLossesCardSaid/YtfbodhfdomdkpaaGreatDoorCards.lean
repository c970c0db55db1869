/-
  DERIVED. GIVEN WITH THE SEED: THE CARDS: each row of YtfbodhfdomdkpaaGreatDoorRows.lean that lists a variable, with what it lists TIED to the program's text (the seventh form; the later family's looks); each row that meets fmt, with fmt's text TOLD by the authors' own Lean function (tested against real Go, not proved from fmt's source: count such statements apart). THE CARD IS WHAT COUNTS. Prove the row's statement (the work); the ties are given (YtfbodhfdomdkpaaGreatDoorTie.lean); close each card by the builder's one call (the guide's Derived/Test/ToyasCard.lean, 'card_holds'). Laid BY PROGRAM, IN A SANDBOX (cutbox-door.mjs). By AI agents, Wed Nov 11 2026. No macro, syntax, notation, axiom, sorry.
-/
import Derived.Test.YtfbodhfdomdkpaaGreatDoorRows
import GoSem.ClaimSeven
namespace Go.Proofs.YtfbodhfdomdkpaaGreatDoor
namespace Rows

/-- THE TIED CARD OF 'laws.FnLosses'. -/
def fnLossesCard : Claim7 := { stood := { row := fnLossesRow, standIns := [], harness := (true, "106ac68d2cbe0d3281b630b76373097945ff2f911ba4fda2267282e2806b0f2d"), looks := false }, kinds := [], alts := [], laidByText := true, laidKinds := [.data, .data, .data], laidTests := true, laidLooks := .later }
def FnLossesCardSaid : Prop := Claim7.holds Tryz.pinned (.plain (OpenSpec.ofChange fnLossesSpec)) fnLossesCard

/-- THE TIED CARD OF 'laws.FnNames'. -/
def fnNamesCard : Claim7 := { stood := { row := fnNamesRow, standIns := [], harness := (true, "106ac68d2cbe0d3281b630b76373097945ff2f911ba4fda2267282e2806b0f2d"), looks := false }, kinds := [], alts := [], laidByText := true, laidKinds := [.data, .data, .data, .data, .pinned], laidTests := true, laidLooks := .later }
def FnNamesCardSaid : Prop := Claim7.holds Tryz.pinned (.plain (OpenSpec.ofChange fnNamesSpec)) fnNamesCard

/-- THE TIED CARD OF 'laws.FnPackeds'. -/
def fnPackedsCard : Claim7 := { stood := { row := fnPackedsRow, standIns := [], harness := (true, "106ac68d2cbe0d3281b630b76373097945ff2f911ba4fda2267282e2806b0f2d"), looks := false }, kinds := [], alts := [], laidByText := true, laidKinds := [.data, .data, .data, .data, .pinned], laidTests := true, laidLooks := .later }
def FnPackedsCardSaid : Prop := Claim7.holds Tryz.pinned (.plain (OpenSpec.ofChange fnPackedsSpec)) fnPackedsCard

/-- THE TIED CARD OF 'laws.FnTights'. -/
def fnTightsCard : Claim7 := { stood := { row := fnTightsRow, standIns := [], harness := (true, "106ac68d2cbe0d3281b630b76373097945ff2f911ba4fda2267282e2806b0f2d"), looks := false }, kinds := [], alts := [], laidByText := true, laidKinds := [.data, .data, .data, .data, .pinned], laidTests := true, laidLooks := .later }
def FnTightsCardSaid : Prop := Claim7.holds Tryz.pinned (.plain (OpenSpec.ofChange fnTightsSpec)) fnTightsCard

/-- THE TIED CARD OF 'laws.FnWhole'. -/
def fnWholeCard : Claim7 := { stood := { row := fnWholeRow, standIns := [], harness := (true, "106ac68d2cbe0d3281b630b76373097945ff2f911ba4fda2267282e2806b0f2d"), looks := false }, kinds := [], alts := [], laidByText := true, laidKinds := [.data, .data, .data, .data, .pinned], laidTests := true, laidLooks := .later }
def FnWholeCardSaid : Prop := Claim7.holds Tryz.pinned (.plain (OpenSpec.ofChange fnWholeSpec)) fnWholeCard

/-- THE SECOND FORM's CARD OF 'laws.FnLosses'. -/
def fnLossesUptoCard : Claim7 := { stood := { row := fnLossesUptoRow, standIns := [], harness := (true, "106ac68d2cbe0d3281b630b76373097945ff2f911ba4fda2267282e2806b0f2d"), looks := false }, kinds := [], alts := [], laidByText := true, laidKinds := [.data, .data, .data], laidTests := true, laidLooks := .later }
def FnLossesUptoCardSaid : Prop := Claim7.holds Tryz.pinned (.plain (OpenSpec.upto fnLossesSpec)) fnLossesUptoCard

/-- THE SECOND FORM's CARD OF 'laws.FnNames'. -/
def fnNamesUptoCard : Claim7 := { stood := { row := fnNamesUptoRow, standIns := [], harness := (true, "106ac68d2cbe0d3281b630b76373097945ff2f911ba4fda2267282e2806b0f2d"), looks := false }, kinds := [], alts := [], laidByText := true, laidKinds := [.data, .data, .data, .data, .pinned], laidTests := true, laidLooks := .later }
def FnNamesUptoCardSaid : Prop := Claim7.holds Tryz.pinned (.plain (OpenSpec.upto fnNamesSpec)) fnNamesUptoCard

/-- THE SECOND FORM's CARD OF 'laws.FnPackeds'. -/
def fnPackedsUptoCard : Claim7 := { stood := { row := fnPackedsUptoRow, standIns := [], harness := (true, "106ac68d2cbe0d3281b630b76373097945ff2f911ba4fda2267282e2806b0f2d"), looks := false }, kinds := [], alts := [], laidByText := true, laidKinds := [.data, .data, .data, .data, .pinned], laidTests := true, laidLooks := .later }
def FnPackedsUptoCardSaid : Prop := Claim7.holds Tryz.pinned (.plain (OpenSpec.upto fnPackedsSpec)) fnPackedsUptoCard

/-- THE SECOND FORM's CARD OF 'laws.FnTights'. -/
def fnTightsUptoCard : Claim7 := { stood := { row := fnTightsUptoRow, standIns := [], harness := (true, "106ac68d2cbe0d3281b630b76373097945ff2f911ba4fda2267282e2806b0f2d"), looks := false }, kinds := [], alts := [], laidByText := true, laidKinds := [.data, .data, .data, .data, .pinned], laidTests := true, laidLooks := .later }
def FnTightsUptoCardSaid : Prop := Claim7.holds Tryz.pinned (.plain (OpenSpec.upto fnTightsSpec)) fnTightsUptoCard

/-- THE SECOND FORM's CARD OF 'laws.FnWhole'. -/
def fnWholeUptoCard : Claim7 := { stood := { row := fnWholeUptoRow, standIns := [], harness := (true, "106ac68d2cbe0d3281b630b76373097945ff2f911ba4fda2267282e2806b0f2d"), looks := false }, kinds := [], alts := [], laidByText := true, laidKinds := [.data, .data, .data, .data, .pinned], laidTests := true, laidLooks := .later }
def FnWholeUptoCardSaid : Prop := Claim7.holds Tryz.pinned (.plain (OpenSpec.upto fnWholeSpec)) fnWholeUptoCard
end Rows
end Go.Proofs.YtfbodhfdomdkpaaGreatDoor
