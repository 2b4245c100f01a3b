/-
  DERIVED. GIVEN WITH THE SEED: THE CARDS: each row of YtegglooojlheoaaGreatDoorRows.lean that lists a variable, with what it lists TIED to the program's text (the seventh form; the later family's looks); each row that meets fmt, with fmt's text TOLD by the authors' own Lean function (tested against real Go, not proved from fmt's source: count such statements apart). THE CARD IS WHAT COUNTS. Prove the row's statement (the work); the ties are given (YtegglooojlheoaaGreatDoorTie.lean); close each card by the builder's one call (the guide's Derived/Test/ToyasCard.lean, 'card_holds'). Laid BY PROGRAM, IN A SANDBOX (cutbox-door.mjs). By AI agents, Wed Nov 11 2026. No macro, syntax, notation, axiom, sorry.
-/
import Derived.Test.YtegglooojlheoaaGreatDoorRows
import GoSem.ClaimSeven
namespace Go.Proofs.YtegglooojlheoaaGreatDoor
namespace Rows

/-- THE TIED CARD OF 'anvillaw03.RatioMakes'. -/
def ratioMakesCard : Claim7 := { stood := { row := ratioMakesRow, standIns := [], harness := (true, "248c35b4481c3121d248fae74032b250d9ca3ab1f8d91110af8d0ea093e4da5a"), looks := false }, kinds := [], alts := [], laidByText := true, laidKinds := [.data, .pinned], laidTests := true, laidLooks := .later }
def RatioMakesCardSaid : Prop := Claim7.holds Tryz.pinned (.plain (OpenSpec.ofChange ratioMakesSpec)) ratioMakesCard

/-- THE TIED CARD OF 'anvillaw03.RatioReckons'. -/
def ratioReckonsCard : Claim7 := { stood := { row := ratioReckonsRow, standIns := [], harness := (true, "248c35b4481c3121d248fae74032b250d9ca3ab1f8d91110af8d0ea093e4da5a"), looks := false }, kinds := [], alts := [], laidByText := true, laidKinds := [.data, .pinned], laidTests := true, laidLooks := .later }
def RatioReckonsCardSaid : Prop := Claim7.holds Tryz.pinned (.plain (OpenSpec.ofChange ratioReckonsSpec)) ratioReckonsCard

/-- THE SECOND FORM's CARD OF 'anvillaw03.RatioMakes'. -/
def ratioMakesUptoCard : Claim7 := { stood := { row := ratioMakesUptoRow, standIns := [], harness := (true, "248c35b4481c3121d248fae74032b250d9ca3ab1f8d91110af8d0ea093e4da5a"), looks := false }, kinds := [], alts := [], laidByText := true, laidKinds := [.data, .pinned], laidTests := true, laidLooks := .later }
def RatioMakesUptoCardSaid : Prop := Claim7.holds Tryz.pinned (.plain (OpenSpec.upto ratioMakesSpec)) ratioMakesUptoCard

/-- THE SECOND FORM's CARD OF 'anvillaw03.RatioReckons'. -/
def ratioReckonsUptoCard : Claim7 := { stood := { row := ratioReckonsUptoRow, standIns := [], harness := (true, "248c35b4481c3121d248fae74032b250d9ca3ab1f8d91110af8d0ea093e4da5a"), looks := false }, kinds := [], alts := [], laidByText := true, laidKinds := [.data, .pinned], laidTests := true, laidLooks := .later }
def RatioReckonsUptoCardSaid : Prop := Claim7.holds Tryz.pinned (.plain (OpenSpec.upto ratioReckonsSpec)) ratioReckonsUptoCard
end Rows
end Go.Proofs.YtegglooojlheoaaGreatDoor
