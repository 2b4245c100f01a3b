/-
  DERIVED. GIVEN WITH THE SEED: THE CARDS: each row of YtgopcdagnicekaaGreatDoorRows.lean that lists a variable, with what it lists TIED to the program's text (the seventh form; the later family's looks); each row that meets fmt, with fmt's text TOLD by the authors' own Lean function (tested against real Go, not proved from fmt's source: count such statements apart). THE CARD IS WHAT COUNTS. Prove the row's statement (the work); the ties are given (YtgopcdagnicekaaGreatDoorTie.lean); close each card by the builder's one call (the guide's Derived/Test/ToyasCard.lean, 'card_holds'). Laid BY PROGRAM, IN A SANDBOX (cutbox-door.mjs). By AI agents, Wed Nov 11 2026. No macro, syntax, notation, axiom, sorry.
-/
import Derived.Test.YtgopcdagnicekaaGreatDoorRows
import GoSem.ClaimSeven
namespace Go.Proofs.YtgopcdagnicekaaGreatDoor
namespace Rows

/-- THE TIED CARD OF 'anviltop.TopProduct'. -/
def topProductCard : Claim7 := { stood := { row := topProductRow, standIns := [], harness := (true, "082a274b4cda6f578c9ee563b97f013b51c21485686ec1a57ab32503dc438175"), looks := false }, kinds := [], alts := [], laidByText := true, laidKinds := [.data, .data], laidTests := true, laidLooks := .later }
def TopProductCardSaid : Prop := Claim7.holds Tryz.pinned (.plain (OpenSpec.ofChange topProductSpec)) topProductCard

/-- THE TIED CARD OF 'anviltop.TopNumbers'. -/
def topNumbersCard : Claim7 := { stood := { row := topNumbersRow, standIns := [], harness := (true, "082a274b4cda6f578c9ee563b97f013b51c21485686ec1a57ab32503dc438175"), looks := false }, kinds := [], alts := [], laidByText := true, laidKinds := [.data, .data], laidTests := true, laidLooks := .later }
def TopNumbersCardSaid : Prop := Claim7.holds Tryz.pinned (.plain (OpenSpec.ofChange topNumbersSpec)) topNumbersCard

/-- THE TIED CARD OF 'anviltop.TopRefused'. -/
def topRefusedCard : Claim7 := { stood := { row := topRefusedRow, standIns := [], harness := (true, "082a274b4cda6f578c9ee563b97f013b51c21485686ec1a57ab32503dc438175"), looks := false }, kinds := [], alts := [], laidByText := true, laidKinds := [.data, .data], laidTests := true, laidLooks := .later }
def TopRefusedCardSaid : Prop := Claim7.holds Tryz.pinned (.plain (OpenSpec.ofChange topRefusedSpec)) topRefusedCard

/-- THE SECOND FORM's CARD OF 'anviltop.TopProduct'. -/
def topProductUptoCard : Claim7 := { stood := { row := topProductUptoRow, standIns := [], harness := (true, "082a274b4cda6f578c9ee563b97f013b51c21485686ec1a57ab32503dc438175"), looks := false }, kinds := [], alts := [], laidByText := true, laidKinds := [.data, .data], laidTests := true, laidLooks := .later }
def TopProductUptoCardSaid : Prop := Claim7.holds Tryz.pinned (.plain (OpenSpec.upto topProductSpec)) topProductUptoCard

/-- THE SECOND FORM's CARD OF 'anviltop.TopNumbers'. -/
def topNumbersUptoCard : Claim7 := { stood := { row := topNumbersUptoRow, standIns := [], harness := (true, "082a274b4cda6f578c9ee563b97f013b51c21485686ec1a57ab32503dc438175"), looks := false }, kinds := [], alts := [], laidByText := true, laidKinds := [.data, .data], laidTests := true, laidLooks := .later }
def TopNumbersUptoCardSaid : Prop := Claim7.holds Tryz.pinned (.plain (OpenSpec.upto topNumbersSpec)) topNumbersUptoCard

/-- THE SECOND FORM's CARD OF 'anviltop.TopRefused'. -/
def topRefusedUptoCard : Claim7 := { stood := { row := topRefusedUptoRow, standIns := [], harness := (true, "082a274b4cda6f578c9ee563b97f013b51c21485686ec1a57ab32503dc438175"), looks := false }, kinds := [], alts := [], laidByText := true, laidKinds := [.data, .data], laidTests := true, laidLooks := .later }
def TopRefusedUptoCardSaid : Prop := Claim7.holds Tryz.pinned (.plain (OpenSpec.upto topRefusedSpec)) topRefusedUptoCard
end Rows
end Go.Proofs.YtgopcdagnicekaaGreatDoor
