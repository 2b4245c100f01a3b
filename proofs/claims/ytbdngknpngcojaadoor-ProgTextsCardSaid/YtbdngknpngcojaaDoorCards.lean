/-
  DERIVED. GIVEN WITH THE SEED: THE CARDS: each row of YtbdngknpngcojaaDoorRows.lean that lists a variable, with what it lists TIED to the program's text (the seventh form; the later family's looks); each row that meets fmt, with fmt's text TOLD by the authors' own Lean function (tested against real Go, not proved from fmt's source: count such statements apart). THE CARD IS WHAT COUNTS. Prove the row's statement (the work); the ties are given (YtbdngknpngcojaaDoorTie.lean); close each card by the builder's one call (the guide's Derived/Test/ToyasCard.lean, 'card_holds'). Laid BY PROGRAM, IN A SANDBOX (cutbox-door.mjs). By AI agents, Wed Nov 11 2026. No macro, syntax, notation, axiom, sorry.
-/
import Derived.Test.YtbdngknpngcojaaDoorRows
import GoSem.ClaimSeven
namespace Go.Proofs.YtbdngknpngcojaaDoor
namespace Rows

/-- THE TIED CARD OF 'anvillaw08.ProgChecks'. -/
def progChecksCard : Claim7 := { stood := { row := progChecksRow, standIns := [], harness := (true, "afc0b4b1be8a62ed2daff47e9d28f3c7c786f5149617642f7b55761741f85d7a"), looks := true }, kinds := [], alts := [], laidByText := true, laidKinds := [.data, .data, .data], laidTests := true, laidLooks := .later }
def ProgChecksCardSaid : Prop := Claim7.holds Tryd.pinned (.plain (OpenSpec.ofChange progChecksSpec)) progChecksCard

/-- THE TIED CARD OF 'anvillaw08.ProgBack'. -/
def progBackCard : Claim7 := { stood := { row := progBackRow, standIns := [], harness := (true, "afc0b4b1be8a62ed2daff47e9d28f3c7c786f5149617642f7b55761741f85d7a"), looks := true }, kinds := [], alts := [], laidByText := true, laidKinds := [.data, .data, .data], laidTests := true, laidLooks := .later }
def ProgBackCardSaid : Prop := Claim7.holds Tryd.pinned (.plain (OpenSpec.ofChange progBackSpec)) progBackCard

/-- THE TIED CARD OF 'anvillaw08.ProgCopies'. -/
def progCopiesCard : Claim7 := { stood := { row := progCopiesRow, standIns := [], harness := (true, "afc0b4b1be8a62ed2daff47e9d28f3c7c786f5149617642f7b55761741f85d7a"), looks := true }, kinds := [], alts := [], laidByText := true, laidKinds := [.data, .data, .data], laidTests := true, laidLooks := .later }
def ProgCopiesCardSaid : Prop := Claim7.holds Tryd.pinned (.plain (OpenSpec.ofChange progCopiesSpec)) progCopiesCard

/-- THE TIED CARD OF 'anvillaw08.ProgJoins'. -/
def progJoinsCard : Claim7 := { stood := { row := progJoinsRow, standIns := [], harness := (true, "afc0b4b1be8a62ed2daff47e9d28f3c7c786f5149617642f7b55761741f85d7a"), looks := true }, kinds := [], alts := [], laidByText := true, laidKinds := [.data, .data, .data], laidTests := true, laidLooks := .later }
def ProgJoinsCardSaid : Prop := Claim7.holds Tryd.pinned (.plain (OpenSpec.ofChange progJoinsSpec)) progJoinsCard

/-- THE TIED CARD OF 'anvillaw08.ProgNeeds'. -/
def progNeedsCard : Claim7 := { stood := { row := progNeedsRow, standIns := [], harness := (true, "afc0b4b1be8a62ed2daff47e9d28f3c7c786f5149617642f7b55761741f85d7a"), looks := true }, kinds := [], alts := [], laidByText := true, laidKinds := [.data, .data, .data], laidTests := true, laidLooks := .later }
def ProgNeedsCardSaid : Prop := Claim7.holds Tryd.pinned (.plain (OpenSpec.ofChange progNeedsSpec)) progNeedsCard

/-- THE TIED CARD OF 'anvillaw08.ProgTexts'. -/
def progTextsCard : Claim7 := { stood := { row := progTextsRow, standIns := [], harness := (true, "afc0b4b1be8a62ed2daff47e9d28f3c7c786f5149617642f7b55761741f85d7a"), looks := true }, kinds := [], alts := [], laidByText := true, laidKinds := [.data, .data, .data, .data, .sentinel, .sentinel, .pinned], laidTests := true, laidLooks := .later }
def ProgTextsCardSaid : Prop := Claim7.holds Tryd.pinned (.plain (OpenSpec.ofChange progTextsSpec)) progTextsCard

/-- THE TIED CARD OF 'anvillaw08.ProgNames'. -/
def progNamesCard : Claim7 := { stood := { row := progNamesRow, standIns := [], harness := (true, "afc0b4b1be8a62ed2daff47e9d28f3c7c786f5149617642f7b55761741f85d7a"), looks := true }, kinds := [], alts := [], laidByText := true, laidKinds := [.data, .data, .data, .data, .sentinel, .sentinel, .pinned], laidTests := true, laidLooks := .later }
def ProgNamesCardSaid : Prop := Claim7.holds Tryd.pinned (.plain (OpenSpec.ofChange progNamesSpec)) progNamesCard

/-- THE SECOND FORM's CARD OF 'anvillaw08.ProgChecks'. -/
def progChecksUptoCard : Claim7 := { stood := { row := progChecksUptoRow, standIns := [], harness := (true, "afc0b4b1be8a62ed2daff47e9d28f3c7c786f5149617642f7b55761741f85d7a"), looks := true }, kinds := [], alts := [], laidByText := true, laidKinds := [.data, .data, .data], laidTests := true, laidLooks := .later }
def ProgChecksUptoCardSaid : Prop := Claim7.holds Tryd.pinned (.plain (OpenSpec.upto progChecksSpec)) progChecksUptoCard

/-- THE SECOND FORM's CARD OF 'anvillaw08.ProgBack'. -/
def progBackUptoCard : Claim7 := { stood := { row := progBackUptoRow, standIns := [], harness := (true, "afc0b4b1be8a62ed2daff47e9d28f3c7c786f5149617642f7b55761741f85d7a"), looks := true }, kinds := [], alts := [], laidByText := true, laidKinds := [.data, .data, .data], laidTests := true, laidLooks := .later }
def ProgBackUptoCardSaid : Prop := Claim7.holds Tryd.pinned (.plain (OpenSpec.upto progBackSpec)) progBackUptoCard

/-- THE SECOND FORM's CARD OF 'anvillaw08.ProgCopies'. -/
def progCopiesUptoCard : Claim7 := { stood := { row := progCopiesUptoRow, standIns := [], harness := (true, "afc0b4b1be8a62ed2daff47e9d28f3c7c786f5149617642f7b55761741f85d7a"), looks := true }, kinds := [], alts := [], laidByText := true, laidKinds := [.data, .data, .data], laidTests := true, laidLooks := .later }
def ProgCopiesUptoCardSaid : Prop := Claim7.holds Tryd.pinned (.plain (OpenSpec.upto progCopiesSpec)) progCopiesUptoCard

/-- THE SECOND FORM's CARD OF 'anvillaw08.ProgJoins'. -/
def progJoinsUptoCard : Claim7 := { stood := { row := progJoinsUptoRow, standIns := [], harness := (true, "afc0b4b1be8a62ed2daff47e9d28f3c7c786f5149617642f7b55761741f85d7a"), looks := true }, kinds := [], alts := [], laidByText := true, laidKinds := [.data, .data, .data], laidTests := true, laidLooks := .later }
def ProgJoinsUptoCardSaid : Prop := Claim7.holds Tryd.pinned (.plain (OpenSpec.upto progJoinsSpec)) progJoinsUptoCard

/-- THE SECOND FORM's CARD OF 'anvillaw08.ProgNeeds'. -/
def progNeedsUptoCard : Claim7 := { stood := { row := progNeedsUptoRow, standIns := [], harness := (true, "afc0b4b1be8a62ed2daff47e9d28f3c7c786f5149617642f7b55761741f85d7a"), looks := true }, kinds := [], alts := [], laidByText := true, laidKinds := [.data, .data, .data], laidTests := true, laidLooks := .later }
def ProgNeedsUptoCardSaid : Prop := Claim7.holds Tryd.pinned (.plain (OpenSpec.upto progNeedsSpec)) progNeedsUptoCard

/-- THE SECOND FORM's CARD OF 'anvillaw08.ProgTexts'. -/
def progTextsUptoCard : Claim7 := { stood := { row := progTextsUptoRow, standIns := [], harness := (true, "afc0b4b1be8a62ed2daff47e9d28f3c7c786f5149617642f7b55761741f85d7a"), looks := true }, kinds := [], alts := [], laidByText := true, laidKinds := [.data, .data, .data, .data, .sentinel, .sentinel, .pinned], laidTests := true, laidLooks := .later }
def ProgTextsUptoCardSaid : Prop := Claim7.holds Tryd.pinned (.plain (OpenSpec.upto progTextsSpec)) progTextsUptoCard

/-- THE SECOND FORM's CARD OF 'anvillaw08.ProgNames'. -/
def progNamesUptoCard : Claim7 := { stood := { row := progNamesUptoRow, standIns := [], harness := (true, "afc0b4b1be8a62ed2daff47e9d28f3c7c786f5149617642f7b55761741f85d7a"), looks := true }, kinds := [], alts := [], laidByText := true, laidKinds := [.data, .data, .data, .data, .sentinel, .sentinel, .pinned], laidTests := true, laidLooks := .later }
def ProgNamesUptoCardSaid : Prop := Claim7.holds Tryd.pinned (.plain (OpenSpec.upto progNamesSpec)) progNamesUptoCard
end Rows
end Go.Proofs.YtbdngknpngcojaaDoor
