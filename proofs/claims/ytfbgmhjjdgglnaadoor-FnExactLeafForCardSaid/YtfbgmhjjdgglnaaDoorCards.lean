/-
  DERIVED. GIVEN WITH THE SEED: THE CARDS: each row of YtfbgmhjjdgglnaaDoorRows.lean that lists a variable, with what it lists TIED to the program's text (the seventh form; the later family's looks); each row that meets fmt, with fmt's text TOLD by the authors' own Lean function (tested against real Go, not proved from fmt's source: count such statements apart). THE CARD IS WHAT COUNTS. Prove the row's statement (the work); the ties are given (YtfbgmhjjdgglnaaDoorTie.lean); close each card by the builder's one call (the guide's Derived/Test/ToyasCard.lean, 'card_holds'). Laid BY PROGRAM, IN A SANDBOX (cutbox-door.mjs). By AI agents, Wed Nov 11 2026. No macro, syntax, notation, axiom, sorry.
-/
import Derived.Test.YtfbgmhjjdgglnaaDoorRows
import GoSem.ClaimSeven
namespace Go.Proofs.YtfbgmhjjdgglnaaDoor
namespace Rows

/-- THE TIED CARD OF 'laws.FnExactLossText'. -/
def fnExactLossTextCard : Claim7 := { stood := { row := fnExactLossTextRow, standIns := [], harness := (true, "c7c9361f477ec667e49f63321f579e21d9f91f06761a8683f78ecd7f3e27228b"), looks := false }, kinds := [], alts := [], laidByText := true, laidKinds := [.data, .data, .data], laidTests := true, laidLooks := .later }
def FnExactLossTextCardSaid : Prop := Claim7.holds Tryd.pinned (.plain (OpenSpec.ofChange fnExactLossTextSpec)) fnExactLossTextCard

/-- THE TIED CARD OF 'laws.FnExactFitsPlain'. -/
def fnExactFitsPlainCard : Claim7 := { stood := { row := fnExactFitsPlainRow, standIns := [], harness := (true, "c7c9361f477ec667e49f63321f579e21d9f91f06761a8683f78ecd7f3e27228b"), looks := false }, kinds := [], alts := [], laidByText := true, laidKinds := [.data, .data, .data, .data, .pinned], laidTests := true, laidLooks := .later }
def FnExactFitsPlainCardSaid : Prop := Claim7.holds Tryd.pinned (.plain (OpenSpec.ofChange fnExactFitsPlainSpec)) fnExactFitsPlainCard

/-- THE TIED CARD OF 'laws.FnExactHalved'. -/
def fnExactHalvedCard : Claim7 := { stood := { row := fnExactHalvedRow, standIns := [], harness := (true, "c7c9361f477ec667e49f63321f579e21d9f91f06761a8683f78ecd7f3e27228b"), looks := false }, kinds := [], alts := [], laidByText := true, laidKinds := [.data, .data, .data], laidTests := true, laidLooks := .later }
def FnExactHalvedCardSaid : Prop := Claim7.holds Tryd.pinned (.plain (OpenSpec.ofChange fnExactHalvedSpec)) fnExactHalvedCard

/-- THE TIED CARD OF 'laws.FnExactLeafFor'. -/
def fnExactLeafForCard : Claim7 := { stood := { row := fnExactLeafForRow, standIns := [], harness := (true, "c7c9361f477ec667e49f63321f579e21d9f91f06761a8683f78ecd7f3e27228b"), looks := false }, kinds := [], alts := [], laidByText := true, laidKinds := [.data, .data, .data], laidTests := true, laidLooks := .later }
def FnExactLeafForCardSaid : Prop := Claim7.holds Tryd.pinned (.plain (OpenSpec.ofChange fnExactLeafForSpec)) fnExactLeafForCard

/-- THE TIED CARD OF 'laws.FnExactWritePlain'. -/
def fnExactWritePlainCard : Claim7 := { stood := { row := fnExactWritePlainRow, standIns := [], harness := (true, "c7c9361f477ec667e49f63321f579e21d9f91f06761a8683f78ecd7f3e27228b"), looks := false }, kinds := [], alts := [], laidByText := true, laidKinds := [.data, .data, .data, .data, .pinned], laidTests := true, laidLooks := .later }
def FnExactWritePlainCardSaid : Prop := Claim7.holds Tryd.pinned (.plain (OpenSpec.ofChange fnExactWritePlainSpec)) fnExactWritePlainCard

/-- THE SECOND FORM's CARD OF 'laws.FnExactLossText'. -/
def fnExactLossTextUptoCard : Claim7 := { stood := { row := fnExactLossTextUptoRow, standIns := [], harness := (true, "c7c9361f477ec667e49f63321f579e21d9f91f06761a8683f78ecd7f3e27228b"), looks := false }, kinds := [], alts := [], laidByText := true, laidKinds := [.data, .data, .data], laidTests := true, laidLooks := .later }
def FnExactLossTextUptoCardSaid : Prop := Claim7.holds Tryd.pinned (.plain (OpenSpec.upto fnExactLossTextSpec)) fnExactLossTextUptoCard

/-- THE SECOND FORM's CARD OF 'laws.FnExactFitsPlain'. -/
def fnExactFitsPlainUptoCard : Claim7 := { stood := { row := fnExactFitsPlainUptoRow, standIns := [], harness := (true, "c7c9361f477ec667e49f63321f579e21d9f91f06761a8683f78ecd7f3e27228b"), looks := false }, kinds := [], alts := [], laidByText := true, laidKinds := [.data, .data, .data, .data, .pinned], laidTests := true, laidLooks := .later }
def FnExactFitsPlainUptoCardSaid : Prop := Claim7.holds Tryd.pinned (.plain (OpenSpec.upto fnExactFitsPlainSpec)) fnExactFitsPlainUptoCard

/-- THE SECOND FORM's CARD OF 'laws.FnExactHalved'. -/
def fnExactHalvedUptoCard : Claim7 := { stood := { row := fnExactHalvedUptoRow, standIns := [], harness := (true, "c7c9361f477ec667e49f63321f579e21d9f91f06761a8683f78ecd7f3e27228b"), looks := false }, kinds := [], alts := [], laidByText := true, laidKinds := [.data, .data, .data], laidTests := true, laidLooks := .later }
def FnExactHalvedUptoCardSaid : Prop := Claim7.holds Tryd.pinned (.plain (OpenSpec.upto fnExactHalvedSpec)) fnExactHalvedUptoCard

/-- THE SECOND FORM's CARD OF 'laws.FnExactLeafFor'. -/
def fnExactLeafForUptoCard : Claim7 := { stood := { row := fnExactLeafForUptoRow, standIns := [], harness := (true, "c7c9361f477ec667e49f63321f579e21d9f91f06761a8683f78ecd7f3e27228b"), looks := false }, kinds := [], alts := [], laidByText := true, laidKinds := [.data, .data, .data], laidTests := true, laidLooks := .later }
def FnExactLeafForUptoCardSaid : Prop := Claim7.holds Tryd.pinned (.plain (OpenSpec.upto fnExactLeafForSpec)) fnExactLeafForUptoCard

/-- THE SECOND FORM's CARD OF 'laws.FnExactWritePlain'. -/
def fnExactWritePlainUptoCard : Claim7 := { stood := { row := fnExactWritePlainUptoRow, standIns := [], harness := (true, "c7c9361f477ec667e49f63321f579e21d9f91f06761a8683f78ecd7f3e27228b"), looks := false }, kinds := [], alts := [], laidByText := true, laidKinds := [.data, .data, .data, .data, .pinned], laidTests := true, laidLooks := .later }
def FnExactWritePlainUptoCardSaid : Prop := Claim7.holds Tryd.pinned (.plain (OpenSpec.upto fnExactWritePlainSpec)) fnExactWritePlainUptoCard
end Rows
end Go.Proofs.YtfbgmhjjdgglnaaDoor
