/-
  DERIVED. GIVEN WITH THE SEED: THE CARDS: each row of YtghaenkacjgdnaaDoorRows.lean that lists a variable, with what it lists TIED to the program's text (the seventh form; the later family's looks); each row that meets fmt, with fmt's text TOLD by the authors' own Lean function (tested against real Go, not proved from fmt's source: count such statements apart). THE CARD IS WHAT COUNTS. Prove the row's statement (the work); the ties are given (YtghaenkacjgdnaaDoorTie.lean); close each card by the builder's one call (the guide's Derived/Test/ToyasCard.lean, 'card_holds'). Laid BY PROGRAM, IN A SANDBOX (cutbox-door.mjs). By AI agents, Wed Nov 11 2026. No macro, syntax, notation, axiom, sorry.
-/
import Derived.Test.YtghaenkacjgdnaaDoorRows
import GoSem.ClaimSeven
namespace Go.Proofs.YtghaenkacjgdnaaDoor
namespace Rows

/-- THE TIED CARD OF 'anvillaw20.PolyAts'. -/
def polyAtsCard : Claim7 := { stood := { row := polyAtsRow, standIns := [], harness := (true, "0b3db51f56632db0e64ebb4b9410468aaba651fae411ad9e86fc03fde47fa615"), looks := false }, kinds := [], alts := [], laidByText := true, laidKinds := [.data, .pinned], laidTests := true, laidLooks := .later }
def PolyAtsCardSaid : Prop := Claim7.holds Tryd.pinned (.plain (OpenSpec.ofChange polyAtsSpec)) polyAtsCard

/-- THE TIED CARD OF 'anvillaw20.PolyRing'. -/
def polyRingCard : Claim7 := { stood := { row := polyRingRow, standIns := [], harness := (true, "0b3db51f56632db0e64ebb4b9410468aaba651fae411ad9e86fc03fde47fa615"), looks := false }, kinds := [], alts := [], laidByText := true, laidKinds := [.data, .pinned], laidTests := true, laidLooks := .later }
def PolyRingCardSaid : Prop := Claim7.holds Tryd.pinned (.plain (OpenSpec.ofChange polyRingSpec)) polyRingCard

/-- THE TIED CARD OF 'anvillaw20.PolyReckons'. -/
def polyReckonsCard : Claim7 := { stood := { row := polyReckonsRow, standIns := [], harness := (true, "0b3db51f56632db0e64ebb4b9410468aaba651fae411ad9e86fc03fde47fa615"), looks := false }, kinds := [], alts := [], laidByText := true, laidKinds := [.data, .pinned], laidTests := true, laidLooks := .later }
def PolyReckonsCardSaid : Prop := Claim7.holds Tryd.pinned (.plain (OpenSpec.ofChange polyReckonsSpec)) polyReckonsCard

/-- THE TIED CARD OF 'anvillaw20.PolyValues'. -/
def polyValuesCard : Claim7 := { stood := { row := polyValuesRow, standIns := [], harness := (true, "0b3db51f56632db0e64ebb4b9410468aaba651fae411ad9e86fc03fde47fa615"), looks := false }, kinds := [], alts := [], laidByText := true, laidKinds := [.data, .pinned], laidTests := true, laidLooks := .later }
def PolyValuesCardSaid : Prop := Claim7.holds Tryd.pinned (.plain (OpenSpec.ofChange polyValuesSpec)) polyValuesCard

/-- THE TIED CARD OF 'anvillaw20.PolyTexts'. -/
def polyTextsCard : Claim7 := { stood := { row := polyTextsRow, standIns := [], harness := (true, "0b3db51f56632db0e64ebb4b9410468aaba651fae411ad9e86fc03fde47fa615"), looks := false }, kinds := [], alts := [], laidByText := true, laidKinds := [.data, .pinned], laidTests := true, laidLooks := .later }
def PolyTextsCardSaid : Prop := Claim7.holds Tryd.pinned (.plain (OpenSpec.ofChange polyTextsSpec)) polyTextsCard

/-- THE TIED CARD OF 'anvillaw20.PolyBack'. -/
def polyBackCard : Claim7 := { stood := { row := polyBackRow, standIns := [], harness := (true, "0b3db51f56632db0e64ebb4b9410468aaba651fae411ad9e86fc03fde47fa615"), looks := false }, kinds := [], alts := [], laidByText := true, laidKinds := [.data, .pinned], laidTests := true, laidLooks := .later }
def PolyBackCardSaid : Prop := Claim7.holds Tryd.pinned (.plain (OpenSpec.ofChange polyBackSpec)) polyBackCard

/-- THE TIED CARD OF 'anvillaw20.PolyKnown'. -/
def polyKnownCard : Claim7 := { stood := { row := polyKnownRow, standIns := [], harness := (true, "0b3db51f56632db0e64ebb4b9410468aaba651fae411ad9e86fc03fde47fa615"), looks := false }, kinds := [], alts := [], laidByText := true, laidKinds := [.data, .pinned], laidTests := true, laidLooks := .later }
def PolyKnownCardSaid : Prop := Claim7.holds Tryd.pinned (.plain (OpenSpec.ofChange polyKnownSpec)) polyKnownCard

/-- THE SECOND FORM's CARD OF 'anvillaw20.PolyAts'. -/
def polyAtsUptoCard : Claim7 := { stood := { row := polyAtsUptoRow, standIns := [], harness := (true, "0b3db51f56632db0e64ebb4b9410468aaba651fae411ad9e86fc03fde47fa615"), looks := false }, kinds := [], alts := [], laidByText := true, laidKinds := [.data, .pinned], laidTests := true, laidLooks := .later }
def PolyAtsUptoCardSaid : Prop := Claim7.holds Tryd.pinned (.plain (OpenSpec.upto polyAtsSpec)) polyAtsUptoCard

/-- THE SECOND FORM's CARD OF 'anvillaw20.PolyRing'. -/
def polyRingUptoCard : Claim7 := { stood := { row := polyRingUptoRow, standIns := [], harness := (true, "0b3db51f56632db0e64ebb4b9410468aaba651fae411ad9e86fc03fde47fa615"), looks := false }, kinds := [], alts := [], laidByText := true, laidKinds := [.data, .pinned], laidTests := true, laidLooks := .later }
def PolyRingUptoCardSaid : Prop := Claim7.holds Tryd.pinned (.plain (OpenSpec.upto polyRingSpec)) polyRingUptoCard

/-- THE SECOND FORM's CARD OF 'anvillaw20.PolyReckons'. -/
def polyReckonsUptoCard : Claim7 := { stood := { row := polyReckonsUptoRow, standIns := [], harness := (true, "0b3db51f56632db0e64ebb4b9410468aaba651fae411ad9e86fc03fde47fa615"), looks := false }, kinds := [], alts := [], laidByText := true, laidKinds := [.data, .pinned], laidTests := true, laidLooks := .later }
def PolyReckonsUptoCardSaid : Prop := Claim7.holds Tryd.pinned (.plain (OpenSpec.upto polyReckonsSpec)) polyReckonsUptoCard

/-- THE SECOND FORM's CARD OF 'anvillaw20.PolyValues'. -/
def polyValuesUptoCard : Claim7 := { stood := { row := polyValuesUptoRow, standIns := [], harness := (true, "0b3db51f56632db0e64ebb4b9410468aaba651fae411ad9e86fc03fde47fa615"), looks := false }, kinds := [], alts := [], laidByText := true, laidKinds := [.data, .pinned], laidTests := true, laidLooks := .later }
def PolyValuesUptoCardSaid : Prop := Claim7.holds Tryd.pinned (.plain (OpenSpec.upto polyValuesSpec)) polyValuesUptoCard

/-- THE SECOND FORM's CARD OF 'anvillaw20.PolyTexts'. -/
def polyTextsUptoCard : Claim7 := { stood := { row := polyTextsUptoRow, standIns := [], harness := (true, "0b3db51f56632db0e64ebb4b9410468aaba651fae411ad9e86fc03fde47fa615"), looks := false }, kinds := [], alts := [], laidByText := true, laidKinds := [.data, .pinned], laidTests := true, laidLooks := .later }
def PolyTextsUptoCardSaid : Prop := Claim7.holds Tryd.pinned (.plain (OpenSpec.upto polyTextsSpec)) polyTextsUptoCard

/-- THE SECOND FORM's CARD OF 'anvillaw20.PolyBack'. -/
def polyBackUptoCard : Claim7 := { stood := { row := polyBackUptoRow, standIns := [], harness := (true, "0b3db51f56632db0e64ebb4b9410468aaba651fae411ad9e86fc03fde47fa615"), looks := false }, kinds := [], alts := [], laidByText := true, laidKinds := [.data, .pinned], laidTests := true, laidLooks := .later }
def PolyBackUptoCardSaid : Prop := Claim7.holds Tryd.pinned (.plain (OpenSpec.upto polyBackSpec)) polyBackUptoCard

/-- THE SECOND FORM's CARD OF 'anvillaw20.PolyKnown'. -/
def polyKnownUptoCard : Claim7 := { stood := { row := polyKnownUptoRow, standIns := [], harness := (true, "0b3db51f56632db0e64ebb4b9410468aaba651fae411ad9e86fc03fde47fa615"), looks := false }, kinds := [], alts := [], laidByText := true, laidKinds := [.data, .pinned], laidTests := true, laidLooks := .later }
def PolyKnownUptoCardSaid : Prop := Claim7.holds Tryd.pinned (.plain (OpenSpec.upto polyKnownSpec)) polyKnownUptoCard
end Rows
end Go.Proofs.YtghaenkacjgdnaaDoor
