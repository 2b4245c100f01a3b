/-
  DERIVED. GIVEN WITH THE SEED: THE CARDS: each row of YtoojllfijfjmoaaDoorRows.lean that lists a variable, with what it lists TIED to the program's text (the seventh form; the later family's looks); each row that meets fmt, with fmt's text TOLD by the authors' own Lean function (tested against real Go, not proved from fmt's source: count such statements apart). THE CARD IS WHAT COUNTS. Prove the row's statement (the work); the ties are given (YtoojllfijfjmoaaDoorTie.lean); close each card by the builder's one call (the guide's Derived/Test/ToyasCard.lean, 'card_holds'). Laid BY PROGRAM, IN A SANDBOX (cutbox-door.mjs). By AI agents, Wed Nov 11 2026. No macro, syntax, notation, axiom, sorry.
-/
import Derived.Test.YtoojllfijfjmoaaDoorRows
import GoSem.ClaimSeven
namespace Go.Proofs.YtoojllfijfjmoaaDoor
namespace Rows

/-- THE TIED CARD OF 'anvillaw21.SplitParts'. -/
def splitPartsCard : Claim7 := { stood := { row := splitPartsRow, standIns := [], harness := (true, "5e385303498581aba1ca61a0d13d264f9f5786eae4a44f212876f6eafcf0324f"), looks := false }, kinds := [], alts := [], laidByText := true, laidKinds := [.data, .pinned], laidTests := true, laidLooks := .later }
def SplitPartsCardSaid : Prop := Claim7.holds Tryd.pinned (.plain (OpenSpec.ofChange splitPartsSpec)) splitPartsCard

/-- THE TIED CARD OF 'anvillaw21.SplitJoins'. -/
def splitJoinsCard : Claim7 := { stood := { row := splitJoinsRow, standIns := [], harness := (true, "5e385303498581aba1ca61a0d13d264f9f5786eae4a44f212876f6eafcf0324f"), looks := false }, kinds := [], alts := [], laidByText := true, laidKinds := [.data, .pinned], laidTests := true, laidLooks := .later }
def SplitJoinsCardSaid : Prop := Claim7.holds Tryd.pinned (.plain (OpenSpec.ofChange splitJoinsSpec)) splitJoinsCard

/-- THE TIED CARD OF 'anvillaw21.SplitShort'. -/
def splitShortCard : Claim7 := { stood := { row := splitShortRow, standIns := [], harness := (true, "5e385303498581aba1ca61a0d13d264f9f5786eae4a44f212876f6eafcf0324f"), looks := false }, kinds := [], alts := [], laidByText := true, laidKinds := [.data, .pinned], laidTests := true, laidLooks := .later }
def SplitShortCardSaid : Prop := Claim7.holds Tryd.pinned (.plain (OpenSpec.ofChange splitShortSpec)) splitShortCard

/-- THE TIED CARD OF 'anvillaw21.SplitKnown'. -/
def splitKnownCard : Claim7 := { stood := { row := splitKnownRow, standIns := [], harness := (true, "5e385303498581aba1ca61a0d13d264f9f5786eae4a44f212876f6eafcf0324f"), looks := false }, kinds := [], alts := [], laidByText := true, laidKinds := [.data, .pinned], laidTests := true, laidLooks := .later }
def SplitKnownCardSaid : Prop := Claim7.holds Tryd.pinned (.plain (OpenSpec.ofChange splitKnownSpec)) splitKnownCard

/-- THE TIED CARD OF 'anvillaw21.SplitLevels'. -/
def splitLevelsCard : Claim7 := { stood := { row := splitLevelsRow, standIns := [], harness := (true, "5e385303498581aba1ca61a0d13d264f9f5786eae4a44f212876f6eafcf0324f"), looks := false }, kinds := [], alts := [], laidByText := true, laidKinds := [.data, .pinned], laidTests := true, laidLooks := .later }
def SplitLevelsCardSaid : Prop := Claim7.holds Tryd.pinned (.plain (OpenSpec.ofChange splitLevelsSpec)) splitLevelsCard

/-- THE TIED CARD OF 'anvillaw21.SplitEnds'. -/
def splitEndsCard : Claim7 := { stood := { row := splitEndsRow, standIns := [], harness := (true, "5e385303498581aba1ca61a0d13d264f9f5786eae4a44f212876f6eafcf0324f"), looks := false }, kinds := [], alts := [], laidByText := true, laidKinds := [.data, .pinned], laidTests := true, laidLooks := .later }
def SplitEndsCardSaid : Prop := Claim7.holds Tryd.pinned (.plain (OpenSpec.ofChange splitEndsSpec)) splitEndsCard

/-- THE TIED CARD OF 'anvillaw21.SplitLaid'. -/
def splitLaidCard : Claim7 := { stood := { row := splitLaidRow, standIns := [], harness := (true, "5e385303498581aba1ca61a0d13d264f9f5786eae4a44f212876f6eafcf0324f"), looks := false }, kinds := [], alts := [], laidByText := true, laidKinds := [.data, .pinned], laidTests := true, laidLooks := .later }
def SplitLaidCardSaid : Prop := Claim7.holds Tryd.pinned (.plain (OpenSpec.ofChange splitLaidSpec)) splitLaidCard

/-- THE SECOND FORM's CARD OF 'anvillaw21.SplitParts'. -/
def splitPartsUptoCard : Claim7 := { stood := { row := splitPartsUptoRow, standIns := [], harness := (true, "5e385303498581aba1ca61a0d13d264f9f5786eae4a44f212876f6eafcf0324f"), looks := false }, kinds := [], alts := [], laidByText := true, laidKinds := [.data, .pinned], laidTests := true, laidLooks := .later }
def SplitPartsUptoCardSaid : Prop := Claim7.holds Tryd.pinned (.plain (OpenSpec.upto splitPartsSpec)) splitPartsUptoCard

/-- THE SECOND FORM's CARD OF 'anvillaw21.SplitJoins'. -/
def splitJoinsUptoCard : Claim7 := { stood := { row := splitJoinsUptoRow, standIns := [], harness := (true, "5e385303498581aba1ca61a0d13d264f9f5786eae4a44f212876f6eafcf0324f"), looks := false }, kinds := [], alts := [], laidByText := true, laidKinds := [.data, .pinned], laidTests := true, laidLooks := .later }
def SplitJoinsUptoCardSaid : Prop := Claim7.holds Tryd.pinned (.plain (OpenSpec.upto splitJoinsSpec)) splitJoinsUptoCard

/-- THE SECOND FORM's CARD OF 'anvillaw21.SplitShort'. -/
def splitShortUptoCard : Claim7 := { stood := { row := splitShortUptoRow, standIns := [], harness := (true, "5e385303498581aba1ca61a0d13d264f9f5786eae4a44f212876f6eafcf0324f"), looks := false }, kinds := [], alts := [], laidByText := true, laidKinds := [.data, .pinned], laidTests := true, laidLooks := .later }
def SplitShortUptoCardSaid : Prop := Claim7.holds Tryd.pinned (.plain (OpenSpec.upto splitShortSpec)) splitShortUptoCard

/-- THE SECOND FORM's CARD OF 'anvillaw21.SplitKnown'. -/
def splitKnownUptoCard : Claim7 := { stood := { row := splitKnownUptoRow, standIns := [], harness := (true, "5e385303498581aba1ca61a0d13d264f9f5786eae4a44f212876f6eafcf0324f"), looks := false }, kinds := [], alts := [], laidByText := true, laidKinds := [.data, .pinned], laidTests := true, laidLooks := .later }
def SplitKnownUptoCardSaid : Prop := Claim7.holds Tryd.pinned (.plain (OpenSpec.upto splitKnownSpec)) splitKnownUptoCard

/-- THE SECOND FORM's CARD OF 'anvillaw21.SplitLevels'. -/
def splitLevelsUptoCard : Claim7 := { stood := { row := splitLevelsUptoRow, standIns := [], harness := (true, "5e385303498581aba1ca61a0d13d264f9f5786eae4a44f212876f6eafcf0324f"), looks := false }, kinds := [], alts := [], laidByText := true, laidKinds := [.data, .pinned], laidTests := true, laidLooks := .later }
def SplitLevelsUptoCardSaid : Prop := Claim7.holds Tryd.pinned (.plain (OpenSpec.upto splitLevelsSpec)) splitLevelsUptoCard

/-- THE SECOND FORM's CARD OF 'anvillaw21.SplitEnds'. -/
def splitEndsUptoCard : Claim7 := { stood := { row := splitEndsUptoRow, standIns := [], harness := (true, "5e385303498581aba1ca61a0d13d264f9f5786eae4a44f212876f6eafcf0324f"), looks := false }, kinds := [], alts := [], laidByText := true, laidKinds := [.data, .pinned], laidTests := true, laidLooks := .later }
def SplitEndsUptoCardSaid : Prop := Claim7.holds Tryd.pinned (.plain (OpenSpec.upto splitEndsSpec)) splitEndsUptoCard

/-- THE SECOND FORM's CARD OF 'anvillaw21.SplitLaid'. -/
def splitLaidUptoCard : Claim7 := { stood := { row := splitLaidUptoRow, standIns := [], harness := (true, "5e385303498581aba1ca61a0d13d264f9f5786eae4a44f212876f6eafcf0324f"), looks := false }, kinds := [], alts := [], laidByText := true, laidKinds := [.data, .pinned], laidTests := true, laidLooks := .later }
def SplitLaidUptoCardSaid : Prop := Claim7.holds Tryd.pinned (.plain (OpenSpec.upto splitLaidSpec)) splitLaidUptoCard
end Rows
end Go.Proofs.YtoojllfijfjmoaaDoor
