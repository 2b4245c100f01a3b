/-
  NARROWER THAN 'FOR EVERY INPUT', by the rows' own cells (each row's printed sentence says how): RowSums: laid · RowMakes: laid · RowHolds: laid · RowNames: laid · RowTexts: laid · RowReads: laid · RatioField: laid · RatioOrder: laid · RatioMany: laid · RowDivides: laid · RowModule: laid · RatioBack: laid · RatioKnown: laid.
  DERIVED. THE GIVEN ROWS OF THIS SEAT. 13 by the template 'for every input the law returns true; each argument reads behind the call as it read before'; 0 by the template 'total and deterministic' (their statements: YtegglooojlheoaaDoorTotals.lean).
  GIVEN WITH THE SEED: the statements are not yours to turn. If you find one false, say at which input.
  Laid BY PROGRAM, IN A SANDBOX (cutbox-rows.mjs): the forced cells as the released guide's own fill.sh prints them over the translation 14beab9e4faf4359… (all of the seat's roots in one cut). By AI agents, Wed Nov 11 2026. No macro, syntax, notation, axiom, sorry.
-/
import Derived.Test.YtegglooojlheoaaDoorChecked
import GoSem.PinnedTables
import GoSem.Claim
import GoSem.ClaimJoined
import GoSem.ClaimMapViews
import Derived.JoinedTies
import Derived.KernelRfl
namespace Go.Proofs.YtegglooojlheoaaDoor
/- THE CELL 'sum', in the pinned program and in every row, IS THE sha256 OF THE DUMP (.gsa) THAT YtegglooojlheoaaDoorProg.lean LOADS. Nothing in Lean hashes anything: it is a label: what it is worth is what the hold of that sum in a sandbox is worth. -/
noncomputable def Tryd.pinned : Pinned := { name := "ytegglooojlheoaadoor", sum := "14beab9e4faf43591c6b1184f4d492dc18c3c2a6b9a51b0c873fc7e322903320", checked := Tryd.checked }
namespace Rows
def none {H : Type} : Left H := { results := [], args := [] }

/- WHAT THE LISTED PACKAGE-LEVEL VARIABLES READ AS WHEN THE CALL BEGINS. Each datum BY PROGRAM (the guide's laid-datum.mjs) off the statement by which the dump's own 'gosem.cut.vars' lays the variable. In a bare row this is a premise. The card (YtegglooojlheoaaDoorCards.lean) ties it to the program's text. -/
def laid_unicode_utf8_acceptRanges {H : Type} : DataW H := .agg [.agg [.lit (.int .u8 128), .lit (.int .u8 191)], .agg [.lit (.int .u8 160), .lit (.int .u8 191)], .agg [.lit (.int .u8 128), .lit (.int .u8 159)], .agg [.lit (.int .u8 144), .lit (.int .u8 191)], .agg [.lit (.int .u8 128), .lit (.int .u8 143)], .agg [.lit (.int .u8 0), .lit (.int .u8 0)], .agg [.lit (.int .u8 0), .lit (.int .u8 0)], .agg [.lit (.int .u8 0), .lit (.int .u8 0)], .agg [.lit (.int .u8 0), .lit (.int .u8 0)], .agg [.lit (.int .u8 0), .lit (.int .u8 0)], .agg [.lit (.int .u8 0), .lit (.int .u8 0)], .agg [.lit (.int .u8 0), .lit (.int .u8 0)], .agg [.lit (.int .u8 0), .lit (.int .u8 0)], .agg [.lit (.int .u8 0), .lit (.int .u8 0)], .agg [.lit (.int .u8 0), .lit (.int .u8 0)], .agg [.lit (.int .u8 0), .lit (.int .u8 0)]]
/-- One of Go's own tables, pinned by name: the form's constant. -/
def laid_unicode_utf8_first : DataW Unit := Go.Pinned.utf8First

/-- 'anvillaw04.RowSums': WHATEVER THE INPUT: true; the input reads as it did. -/
def rowSumsSpec : ChangeSpec := { name := "rowSums", fn := fun _ => fun
  | [d] => { results := [.lit (.bool true)], args := [d] }
  | _ => none }
def rowSumsRow : OpenClaim := { program := "ytegglooojlheoaadoor", sum := "14beab9e4faf43591c6b1184f4d492dc18c3c2a6b9a51b0c873fc7e322903320", func := "anvil/anvillaw04.RowSums", spec := "rowSums", inPlace := ["internal/bytealg.IndexByteString", "internal/bytealg.IndexString", "internal/abi.NoEscape", "internal/bytealg.MakeNoZero"], unfollowed := true, recurses := true, named := ["unicode/utf8.first", "unicode/utf8.acceptRanges", "internal/bytealg.MaxLen"], apart := false, laid := [("unicode/utf8.acceptRanges", laid_unicode_utf8_acceptRanges), ("unicode/utf8.first", laid_unicode_utf8_first)] }
def RowSumsSaid : Prop := rowSumsRow.holds Tryd.pinned (OpenSpec.ofChange rowSumsSpec)

/-- ITS FALSE NEIGHBOUR: 'it returns false'. Refute it at one input. -/
def rowSumsWrong : ChangeSpec := { name := "rowSums", fn := fun _ => fun
  | [d] => { results := [.lit (.bool false)], args := [d] }
  | _ => none }
def RowSumsWrongFalsely : Prop := rowSumsRow.holds Tryd.pinned (OpenSpec.ofChange rowSumsWrong)

/-- 'anvillaw04.RowMakes': WHATEVER THE INPUT: true; the input reads as it did. -/
def rowMakesSpec : ChangeSpec := { name := "rowMakes", fn := fun _ => fun
  | [d1, d2, d3] => { results := [.lit (.bool true)], args := [d1, d2, d3] }
  | _ => none }
def rowMakesRow : OpenClaim := { program := "ytegglooojlheoaadoor", sum := "14beab9e4faf43591c6b1184f4d492dc18c3c2a6b9a51b0c873fc7e322903320", func := "anvil/anvillaw04.RowMakes", spec := "rowMakes", inPlace := ["internal/bytealg.IndexByteString", "internal/bytealg.IndexString", "internal/abi.NoEscape", "internal/bytealg.MakeNoZero"], unfollowed := true, recurses := true, named := ["unicode/utf8.first", "unicode/utf8.acceptRanges", "internal/bytealg.MaxLen"], apart := false, laid := [("unicode/utf8.acceptRanges", laid_unicode_utf8_acceptRanges), ("unicode/utf8.first", laid_unicode_utf8_first)] }
def RowMakesSaid : Prop := rowMakesRow.holds Tryd.pinned (OpenSpec.ofChange rowMakesSpec)

/-- ITS FALSE NEIGHBOUR: 'it returns false'. Refute it at one input. -/
def rowMakesWrong : ChangeSpec := { name := "rowMakes", fn := fun _ => fun
  | [d1, d2, d3] => { results := [.lit (.bool false)], args := [d1, d2, d3] }
  | _ => none }
def RowMakesWrongFalsely : Prop := rowMakesRow.holds Tryd.pinned (OpenSpec.ofChange rowMakesWrong)

/-- 'anvillaw04.RowHolds': WHATEVER THE INPUT: true; the input reads as it did. -/
def rowHoldsSpec : ChangeSpec := { name := "rowHolds", fn := fun _ => fun
  | [d1, d2] => { results := [.lit (.bool true)], args := [d1, d2] }
  | _ => none }
def rowHoldsRow : OpenClaim := { program := "ytegglooojlheoaadoor", sum := "14beab9e4faf43591c6b1184f4d492dc18c3c2a6b9a51b0c873fc7e322903320", func := "anvil/anvillaw04.RowHolds", spec := "rowHolds", inPlace := ["internal/bytealg.IndexByteString", "internal/bytealg.IndexString", "internal/abi.NoEscape", "internal/bytealg.MakeNoZero"], unfollowed := true, recurses := true, named := ["unicode/utf8.first", "unicode/utf8.acceptRanges", "internal/bytealg.MaxLen"], apart := false, laid := [("unicode/utf8.acceptRanges", laid_unicode_utf8_acceptRanges), ("unicode/utf8.first", laid_unicode_utf8_first)] }
def RowHoldsSaid : Prop := rowHoldsRow.holds Tryd.pinned (OpenSpec.ofChange rowHoldsSpec)

/-- ITS FALSE NEIGHBOUR: 'it returns false'. Refute it at one input. -/
def rowHoldsWrong : ChangeSpec := { name := "rowHolds", fn := fun _ => fun
  | [d1, d2] => { results := [.lit (.bool false)], args := [d1, d2] }
  | _ => none }
def RowHoldsWrongFalsely : Prop := rowHoldsRow.holds Tryd.pinned (OpenSpec.ofChange rowHoldsWrong)

/-- 'anvillaw04.RowNames': WHATEVER THE INPUT: true; the input reads as it did. -/
def rowNamesSpec : ChangeSpec := { name := "rowNames", fn := fun _ => fun
  | [] => { results := [.lit (.bool true)], args := [] }
  | _ => none }
def rowNamesRow : OpenClaim := { program := "ytegglooojlheoaadoor", sum := "14beab9e4faf43591c6b1184f4d492dc18c3c2a6b9a51b0c873fc7e322903320", func := "anvil/anvillaw04.RowNames", spec := "rowNames", inPlace := ["internal/bytealg.IndexByteString", "internal/bytealg.IndexString", "internal/abi.NoEscape", "internal/bytealg.MakeNoZero"], unfollowed := true, recurses := true, named := ["unicode/utf8.first", "unicode/utf8.acceptRanges", "internal/bytealg.MaxLen"], apart := false, laid := [("unicode/utf8.acceptRanges", laid_unicode_utf8_acceptRanges), ("unicode/utf8.first", laid_unicode_utf8_first)] }
def RowNamesSaid : Prop := rowNamesRow.holds Tryd.pinned (OpenSpec.ofChange rowNamesSpec)

/-- ITS FALSE NEIGHBOUR: 'it returns false'. Refute it at one input. -/
def rowNamesWrong : ChangeSpec := { name := "rowNames", fn := fun _ => fun
  | [] => { results := [.lit (.bool false)], args := [] }
  | _ => none }
def RowNamesWrongFalsely : Prop := rowNamesRow.holds Tryd.pinned (OpenSpec.ofChange rowNamesWrong)

/-- 'anvillaw04.RowTexts': WHATEVER THE INPUT: true; the input reads as it did. -/
def rowTextsSpec : ChangeSpec := { name := "rowTexts", fn := fun _ => fun
  | [d] => { results := [.lit (.bool true)], args := [d] }
  | _ => none }
def rowTextsRow : OpenClaim := { program := "ytegglooojlheoaadoor", sum := "14beab9e4faf43591c6b1184f4d492dc18c3c2a6b9a51b0c873fc7e322903320", func := "anvil/anvillaw04.RowTexts", spec := "rowTexts", inPlace := ["internal/bytealg.IndexByteString", "internal/bytealg.IndexString", "internal/abi.NoEscape", "internal/bytealg.MakeNoZero"], unfollowed := true, recurses := true, named := ["unicode/utf8.first", "unicode/utf8.acceptRanges", "internal/bytealg.MaxLen"], apart := false, laid := [("unicode/utf8.acceptRanges", laid_unicode_utf8_acceptRanges), ("unicode/utf8.first", laid_unicode_utf8_first)] }
def RowTextsSaid : Prop := rowTextsRow.holds Tryd.pinned (OpenSpec.ofChange rowTextsSpec)

/-- ITS FALSE NEIGHBOUR: 'it returns false'. Refute it at one input. -/
def rowTextsWrong : ChangeSpec := { name := "rowTexts", fn := fun _ => fun
  | [d] => { results := [.lit (.bool false)], args := [d] }
  | _ => none }
def RowTextsWrongFalsely : Prop := rowTextsRow.holds Tryd.pinned (OpenSpec.ofChange rowTextsWrong)

/-- 'anvillaw04.RowReads': WHATEVER THE INPUT: true; the input reads as it did. -/
def rowReadsSpec : ChangeSpec := { name := "rowReads", fn := fun _ => fun
  | [d] => { results := [.lit (.bool true)], args := [d] }
  | _ => none }
def rowReadsRow : OpenClaim := { program := "ytegglooojlheoaadoor", sum := "14beab9e4faf43591c6b1184f4d492dc18c3c2a6b9a51b0c873fc7e322903320", func := "anvil/anvillaw04.RowReads", spec := "rowReads", inPlace := ["internal/bytealg.IndexByteString", "internal/bytealg.IndexString", "internal/abi.NoEscape", "internal/bytealg.MakeNoZero"], unfollowed := true, recurses := true, named := ["unicode/utf8.first", "unicode/utf8.acceptRanges", "internal/bytealg.MaxLen"], apart := false, laid := [("unicode/utf8.acceptRanges", laid_unicode_utf8_acceptRanges), ("unicode/utf8.first", laid_unicode_utf8_first)] }
def RowReadsSaid : Prop := rowReadsRow.holds Tryd.pinned (OpenSpec.ofChange rowReadsSpec)

/-- ITS FALSE NEIGHBOUR: 'it returns false'. Refute it at one input. -/
def rowReadsWrong : ChangeSpec := { name := "rowReads", fn := fun _ => fun
  | [d] => { results := [.lit (.bool false)], args := [d] }
  | _ => none }
def RowReadsWrongFalsely : Prop := rowReadsRow.holds Tryd.pinned (OpenSpec.ofChange rowReadsWrong)

/-- 'anvillaw03.RatioField': WHATEVER THE INPUT: true; the input reads as it did. -/
def ratioFieldSpec : ChangeSpec := { name := "ratioField", fn := fun _ => fun
  | [d1, d2, d3] => { results := [.lit (.bool true)], args := [d1, d2, d3] }
  | _ => none }
def ratioFieldRow : OpenClaim := { program := "ytegglooojlheoaadoor", sum := "14beab9e4faf43591c6b1184f4d492dc18c3c2a6b9a51b0c873fc7e322903320", func := "anvil/anvillaw03.RatioField", spec := "ratioField", inPlace := ["internal/bytealg.IndexByteString", "internal/bytealg.IndexString", "internal/abi.NoEscape"], unfollowed := true, recurses := true, named := ["unicode/utf8.first", "unicode/utf8.acceptRanges", "internal/bytealg.MaxLen"], apart := false, laid := [("unicode/utf8.acceptRanges", laid_unicode_utf8_acceptRanges), ("unicode/utf8.first", laid_unicode_utf8_first)] }
def RatioFieldSaid : Prop := ratioFieldRow.holds Tryd.pinned (OpenSpec.ofChange ratioFieldSpec)

/-- ITS FALSE NEIGHBOUR: 'it returns false'. Refute it at one input. -/
def ratioFieldWrong : ChangeSpec := { name := "ratioField", fn := fun _ => fun
  | [d1, d2, d3] => { results := [.lit (.bool false)], args := [d1, d2, d3] }
  | _ => none }
def RatioFieldWrongFalsely : Prop := ratioFieldRow.holds Tryd.pinned (OpenSpec.ofChange ratioFieldWrong)

/-- 'anvillaw03.RatioOrder': WHATEVER THE INPUT: true; the input reads as it did. -/
def ratioOrderSpec : ChangeSpec := { name := "ratioOrder", fn := fun _ => fun
  | [d1, d2, d3] => { results := [.lit (.bool true)], args := [d1, d2, d3] }
  | _ => none }
def ratioOrderRow : OpenClaim := { program := "ytegglooojlheoaadoor", sum := "14beab9e4faf43591c6b1184f4d492dc18c3c2a6b9a51b0c873fc7e322903320", func := "anvil/anvillaw03.RatioOrder", spec := "ratioOrder", inPlace := ["internal/bytealg.IndexByteString", "internal/bytealg.IndexString", "internal/abi.NoEscape"], unfollowed := true, recurses := true, named := ["unicode/utf8.first", "unicode/utf8.acceptRanges", "internal/bytealg.MaxLen"], apart := false, laid := [("unicode/utf8.acceptRanges", laid_unicode_utf8_acceptRanges), ("unicode/utf8.first", laid_unicode_utf8_first)] }
def RatioOrderSaid : Prop := ratioOrderRow.holds Tryd.pinned (OpenSpec.ofChange ratioOrderSpec)

/-- ITS FALSE NEIGHBOUR: 'it returns false'. Refute it at one input. -/
def ratioOrderWrong : ChangeSpec := { name := "ratioOrder", fn := fun _ => fun
  | [d1, d2, d3] => { results := [.lit (.bool false)], args := [d1, d2, d3] }
  | _ => none }
def RatioOrderWrongFalsely : Prop := ratioOrderRow.holds Tryd.pinned (OpenSpec.ofChange ratioOrderWrong)

/-- 'anvillaw03.RatioMany': WHATEVER THE INPUT: true; the input reads as it did. -/
def ratioManySpec : ChangeSpec := { name := "ratioMany", fn := fun _ => fun
  | [d] => { results := [.lit (.bool true)], args := [d] }
  | _ => none }
def ratioManyRow : OpenClaim := { program := "ytegglooojlheoaadoor", sum := "14beab9e4faf43591c6b1184f4d492dc18c3c2a6b9a51b0c873fc7e322903320", func := "anvil/anvillaw03.RatioMany", spec := "ratioMany", inPlace := ["internal/bytealg.IndexByteString", "internal/bytealg.IndexString", "internal/abi.NoEscape"], unfollowed := true, recurses := true, named := ["unicode/utf8.first", "unicode/utf8.acceptRanges", "internal/bytealg.MaxLen"], apart := false, laid := [("unicode/utf8.acceptRanges", laid_unicode_utf8_acceptRanges), ("unicode/utf8.first", laid_unicode_utf8_first)] }
def RatioManySaid : Prop := ratioManyRow.holds Tryd.pinned (OpenSpec.ofChange ratioManySpec)

/-- ITS FALSE NEIGHBOUR: 'it returns false'. Refute it at one input. -/
def ratioManyWrong : ChangeSpec := { name := "ratioMany", fn := fun _ => fun
  | [d] => { results := [.lit (.bool false)], args := [d] }
  | _ => none }
def RatioManyWrongFalsely : Prop := ratioManyRow.holds Tryd.pinned (OpenSpec.ofChange ratioManyWrong)

/-- 'anvillaw04.RowDivides': WHATEVER THE INPUT: true; the input reads as it did. -/
def rowDividesSpec : ChangeSpec := { name := "rowDivides", fn := fun _ => fun
  | [d1, d2] => { results := [.lit (.bool true)], args := [d1, d2] }
  | _ => none }
def rowDividesRow : OpenClaim := { program := "ytegglooojlheoaadoor", sum := "14beab9e4faf43591c6b1184f4d492dc18c3c2a6b9a51b0c873fc7e322903320", func := "anvil/anvillaw04.RowDivides", spec := "rowDivides", inPlace := ["internal/bytealg.IndexByteString", "internal/bytealg.IndexString", "internal/abi.NoEscape", "internal/bytealg.MakeNoZero"], unfollowed := true, recurses := true, named := ["unicode/utf8.first", "unicode/utf8.acceptRanges", "internal/bytealg.MaxLen"], apart := false, laid := [("unicode/utf8.acceptRanges", laid_unicode_utf8_acceptRanges), ("unicode/utf8.first", laid_unicode_utf8_first)] }
def RowDividesSaid : Prop := rowDividesRow.holds Tryd.pinned (OpenSpec.ofChange rowDividesSpec)

/-- ITS FALSE NEIGHBOUR: 'it returns false'. Refute it at one input. -/
def rowDividesWrong : ChangeSpec := { name := "rowDivides", fn := fun _ => fun
  | [d1, d2] => { results := [.lit (.bool false)], args := [d1, d2] }
  | _ => none }
def RowDividesWrongFalsely : Prop := rowDividesRow.holds Tryd.pinned (OpenSpec.ofChange rowDividesWrong)

/-- 'anvillaw04.RowModule': WHATEVER THE INPUT: true; the input reads as it did. -/
def rowModuleSpec : ChangeSpec := { name := "rowModule", fn := fun _ => fun
  | [d] => { results := [.lit (.bool true)], args := [d] }
  | _ => none }
def rowModuleRow : OpenClaim := { program := "ytegglooojlheoaadoor", sum := "14beab9e4faf43591c6b1184f4d492dc18c3c2a6b9a51b0c873fc7e322903320", func := "anvil/anvillaw04.RowModule", spec := "rowModule", inPlace := ["internal/bytealg.IndexByteString", "internal/bytealg.IndexString", "internal/abi.NoEscape", "internal/bytealg.MakeNoZero"], unfollowed := true, recurses := true, named := ["unicode/utf8.first", "unicode/utf8.acceptRanges", "internal/bytealg.MaxLen"], apart := false, laid := [("unicode/utf8.acceptRanges", laid_unicode_utf8_acceptRanges), ("unicode/utf8.first", laid_unicode_utf8_first)] }
def RowModuleSaid : Prop := rowModuleRow.holds Tryd.pinned (OpenSpec.ofChange rowModuleSpec)

/-- ITS FALSE NEIGHBOUR: 'it returns false'. Refute it at one input. -/
def rowModuleWrong : ChangeSpec := { name := "rowModule", fn := fun _ => fun
  | [d] => { results := [.lit (.bool false)], args := [d] }
  | _ => none }
def RowModuleWrongFalsely : Prop := rowModuleRow.holds Tryd.pinned (OpenSpec.ofChange rowModuleWrong)

/-- 'anvillaw03.RatioBack': WHATEVER THE INPUT: true; the input reads as it did. -/
def ratioBackSpec : ChangeSpec := { name := "ratioBack", fn := fun _ => fun
  | [d1, d2, d3] => { results := [.lit (.bool true)], args := [d1, d2, d3] }
  | _ => none }
def ratioBackRow : OpenClaim := { program := "ytegglooojlheoaadoor", sum := "14beab9e4faf43591c6b1184f4d492dc18c3c2a6b9a51b0c873fc7e322903320", func := "anvil/anvillaw03.RatioBack", spec := "ratioBack", inPlace := ["internal/bytealg.IndexByteString", "internal/bytealg.IndexString", "internal/abi.NoEscape"], unfollowed := true, recurses := true, named := ["unicode/utf8.first", "unicode/utf8.acceptRanges", "internal/bytealg.MaxLen"], apart := false, laid := [("unicode/utf8.acceptRanges", laid_unicode_utf8_acceptRanges), ("unicode/utf8.first", laid_unicode_utf8_first)] }
def RatioBackSaid : Prop := ratioBackRow.holds Tryd.pinned (OpenSpec.ofChange ratioBackSpec)

/-- ITS FALSE NEIGHBOUR: 'it returns false'. Refute it at one input. -/
def ratioBackWrong : ChangeSpec := { name := "ratioBack", fn := fun _ => fun
  | [d1, d2, d3] => { results := [.lit (.bool false)], args := [d1, d2, d3] }
  | _ => none }
def RatioBackWrongFalsely : Prop := ratioBackRow.holds Tryd.pinned (OpenSpec.ofChange ratioBackWrong)

/-- 'anvillaw03.RatioKnown': WHATEVER THE INPUT: true; the input reads as it did. -/
def ratioKnownSpec : ChangeSpec := { name := "ratioKnown", fn := fun _ => fun
  | [] => { results := [.lit (.bool true)], args := [] }
  | _ => none }
def ratioKnownRow : OpenClaim := { program := "ytegglooojlheoaadoor", sum := "14beab9e4faf43591c6b1184f4d492dc18c3c2a6b9a51b0c873fc7e322903320", func := "anvil/anvillaw03.RatioKnown", spec := "ratioKnown", inPlace := ["internal/bytealg.IndexByteString", "internal/bytealg.IndexString", "internal/abi.NoEscape"], unfollowed := true, recurses := true, named := ["unicode/utf8.first", "unicode/utf8.acceptRanges", "internal/bytealg.MaxLen"], apart := false, laid := [("unicode/utf8.acceptRanges", laid_unicode_utf8_acceptRanges), ("unicode/utf8.first", laid_unicode_utf8_first)] }
def RatioKnownSaid : Prop := ratioKnownRow.holds Tryd.pinned (OpenSpec.ofChange ratioKnownSpec)

/-- ITS FALSE NEIGHBOUR: 'it returns false'. Refute it at one input. -/
def ratioKnownWrong : ChangeSpec := { name := "ratioKnown", fn := fun _ => fun
  | [] => { results := [.lit (.bool false)], args := [] }
  | _ => none }
def RatioKnownWrongFalsely : Prop := ratioKnownRow.holds Tryd.pinned (OpenSpec.ofChange ratioKnownWrong)

/- THE SECOND FORM. 'bulk': how many values and letters a reading holds, each counted each time it is reached (what is shared counts as often as it is met; a slice's spare places count too). A statement '..UptoSaid' is the law's where the arguments, and the package variables that the reading takes, are together of bulk at most 1048576: NARROWER than '..Said'. Prove '..Said' where nothing that the law and all that it calls make is longer than what came in: it says more and counts as full. Else prove '..UptoSaid'. A law counts once. -/
mutual
def uptoBulk {H : Type} : DataW H → Nat
  | .lit (.string bytes) => bytes.length + 1
  | .lit _ => 1
  | .nil => 1
  | .ptr d => uptoBulk d + 1
  | .slice elems spare => uptoBulkAll elems + uptoBulkAll spare + 1
  | .agg parts => uptoBulkAll parts + 1
  | .iface _ d => uptoBulk d + 1
  | .map entries => uptoBulkEntries entries + 1
  | .held _ => 1
def uptoBulkAll {H : Type} : List (DataW H) → Nat
  | [] => 0
  | d :: r => uptoBulk d + uptoBulkAll r
def uptoBulkEntries {H : Type} : List (Lit × DataW H) → Nat
  | [] => 0
  | x :: r => uptoBulkEntry x + uptoBulkEntries r
def uptoBulkEntry {H : Type} : Lit × DataW H → Nat
  | (.string bytes, d) => bytes.length + uptoBulk d + 1
  | (_, d) => uptoBulk d + 1
 end
def uptoSmall : (H : Type) → List (DataW H) → Bool := fun _ ds => decide (uptoBulkAll ds ≤ 1048576)
def OpenSpec.upto (s : _root_.Go.ChangeSpec) : _root_.Go.OpenSpec := { _root_.Go.OpenSpec.ofChange s with cond := some uptoSmall }

/-- 'anvillaw04.RowSums', WHERE WHAT IT READS IS OF BULK AT MOST 1048576: true; the input reads as it did. -/
def rowSumsUptoRow : OpenClaim := { program := "ytegglooojlheoaadoor", sum := "14beab9e4faf43591c6b1184f4d492dc18c3c2a6b9a51b0c873fc7e322903320", func := "anvil/anvillaw04.RowSums", spec := "rowSums", inPlace := ["internal/bytealg.IndexByteString", "internal/bytealg.IndexString", "internal/abi.NoEscape", "internal/bytealg.MakeNoZero"], unfollowed := true, recurses := true, named := ["unicode/utf8.first", "unicode/utf8.acceptRanges", "internal/bytealg.MaxLen"], apart := false, laid := [("unicode/utf8.acceptRanges", laid_unicode_utf8_acceptRanges), ("unicode/utf8.first", laid_unicode_utf8_first)], narrowed := true }
def RowSumsUptoSaid : Prop := rowSumsUptoRow.holds Tryd.pinned (OpenSpec.upto rowSumsSpec)

/-- 'anvillaw04.RowMakes', WHERE WHAT IT READS IS OF BULK AT MOST 1048576: true; the input reads as it did. -/
def rowMakesUptoRow : OpenClaim := { program := "ytegglooojlheoaadoor", sum := "14beab9e4faf43591c6b1184f4d492dc18c3c2a6b9a51b0c873fc7e322903320", func := "anvil/anvillaw04.RowMakes", spec := "rowMakes", inPlace := ["internal/bytealg.IndexByteString", "internal/bytealg.IndexString", "internal/abi.NoEscape", "internal/bytealg.MakeNoZero"], unfollowed := true, recurses := true, named := ["unicode/utf8.first", "unicode/utf8.acceptRanges", "internal/bytealg.MaxLen"], apart := false, laid := [("unicode/utf8.acceptRanges", laid_unicode_utf8_acceptRanges), ("unicode/utf8.first", laid_unicode_utf8_first)], narrowed := true }
def RowMakesUptoSaid : Prop := rowMakesUptoRow.holds Tryd.pinned (OpenSpec.upto rowMakesSpec)

/-- 'anvillaw04.RowHolds', WHERE WHAT IT READS IS OF BULK AT MOST 1048576: true; the input reads as it did. -/
def rowHoldsUptoRow : OpenClaim := { program := "ytegglooojlheoaadoor", sum := "14beab9e4faf43591c6b1184f4d492dc18c3c2a6b9a51b0c873fc7e322903320", func := "anvil/anvillaw04.RowHolds", spec := "rowHolds", inPlace := ["internal/bytealg.IndexByteString", "internal/bytealg.IndexString", "internal/abi.NoEscape", "internal/bytealg.MakeNoZero"], unfollowed := true, recurses := true, named := ["unicode/utf8.first", "unicode/utf8.acceptRanges", "internal/bytealg.MaxLen"], apart := false, laid := [("unicode/utf8.acceptRanges", laid_unicode_utf8_acceptRanges), ("unicode/utf8.first", laid_unicode_utf8_first)], narrowed := true }
def RowHoldsUptoSaid : Prop := rowHoldsUptoRow.holds Tryd.pinned (OpenSpec.upto rowHoldsSpec)

/-- 'anvillaw04.RowNames', WHERE WHAT IT READS IS OF BULK AT MOST 1048576: true; the input reads as it did. -/
def rowNamesUptoRow : OpenClaim := { program := "ytegglooojlheoaadoor", sum := "14beab9e4faf43591c6b1184f4d492dc18c3c2a6b9a51b0c873fc7e322903320", func := "anvil/anvillaw04.RowNames", spec := "rowNames", inPlace := ["internal/bytealg.IndexByteString", "internal/bytealg.IndexString", "internal/abi.NoEscape", "internal/bytealg.MakeNoZero"], unfollowed := true, recurses := true, named := ["unicode/utf8.first", "unicode/utf8.acceptRanges", "internal/bytealg.MaxLen"], apart := false, laid := [("unicode/utf8.acceptRanges", laid_unicode_utf8_acceptRanges), ("unicode/utf8.first", laid_unicode_utf8_first)], narrowed := true }
def RowNamesUptoSaid : Prop := rowNamesUptoRow.holds Tryd.pinned (OpenSpec.upto rowNamesSpec)

/-- 'anvillaw04.RowTexts', WHERE WHAT IT READS IS OF BULK AT MOST 1048576: true; the input reads as it did. -/
def rowTextsUptoRow : OpenClaim := { program := "ytegglooojlheoaadoor", sum := "14beab9e4faf43591c6b1184f4d492dc18c3c2a6b9a51b0c873fc7e322903320", func := "anvil/anvillaw04.RowTexts", spec := "rowTexts", inPlace := ["internal/bytealg.IndexByteString", "internal/bytealg.IndexString", "internal/abi.NoEscape", "internal/bytealg.MakeNoZero"], unfollowed := true, recurses := true, named := ["unicode/utf8.first", "unicode/utf8.acceptRanges", "internal/bytealg.MaxLen"], apart := false, laid := [("unicode/utf8.acceptRanges", laid_unicode_utf8_acceptRanges), ("unicode/utf8.first", laid_unicode_utf8_first)], narrowed := true }
def RowTextsUptoSaid : Prop := rowTextsUptoRow.holds Tryd.pinned (OpenSpec.upto rowTextsSpec)

/-- 'anvillaw04.RowReads', WHERE WHAT IT READS IS OF BULK AT MOST 1048576: true; the input reads as it did. -/
def rowReadsUptoRow : OpenClaim := { program := "ytegglooojlheoaadoor", sum := "14beab9e4faf43591c6b1184f4d492dc18c3c2a6b9a51b0c873fc7e322903320", func := "anvil/anvillaw04.RowReads", spec := "rowReads", inPlace := ["internal/bytealg.IndexByteString", "internal/bytealg.IndexString", "internal/abi.NoEscape", "internal/bytealg.MakeNoZero"], unfollowed := true, recurses := true, named := ["unicode/utf8.first", "unicode/utf8.acceptRanges", "internal/bytealg.MaxLen"], apart := false, laid := [("unicode/utf8.acceptRanges", laid_unicode_utf8_acceptRanges), ("unicode/utf8.first", laid_unicode_utf8_first)], narrowed := true }
def RowReadsUptoSaid : Prop := rowReadsUptoRow.holds Tryd.pinned (OpenSpec.upto rowReadsSpec)

/-- 'anvillaw03.RatioField', WHERE WHAT IT READS IS OF BULK AT MOST 1048576: true; the input reads as it did. -/
def ratioFieldUptoRow : OpenClaim := { program := "ytegglooojlheoaadoor", sum := "14beab9e4faf43591c6b1184f4d492dc18c3c2a6b9a51b0c873fc7e322903320", func := "anvil/anvillaw03.RatioField", spec := "ratioField", inPlace := ["internal/bytealg.IndexByteString", "internal/bytealg.IndexString", "internal/abi.NoEscape"], unfollowed := true, recurses := true, named := ["unicode/utf8.first", "unicode/utf8.acceptRanges", "internal/bytealg.MaxLen"], apart := false, laid := [("unicode/utf8.acceptRanges", laid_unicode_utf8_acceptRanges), ("unicode/utf8.first", laid_unicode_utf8_first)], narrowed := true }
def RatioFieldUptoSaid : Prop := ratioFieldUptoRow.holds Tryd.pinned (OpenSpec.upto ratioFieldSpec)

/-- 'anvillaw03.RatioOrder', WHERE WHAT IT READS IS OF BULK AT MOST 1048576: true; the input reads as it did. -/
def ratioOrderUptoRow : OpenClaim := { program := "ytegglooojlheoaadoor", sum := "14beab9e4faf43591c6b1184f4d492dc18c3c2a6b9a51b0c873fc7e322903320", func := "anvil/anvillaw03.RatioOrder", spec := "ratioOrder", inPlace := ["internal/bytealg.IndexByteString", "internal/bytealg.IndexString", "internal/abi.NoEscape"], unfollowed := true, recurses := true, named := ["unicode/utf8.first", "unicode/utf8.acceptRanges", "internal/bytealg.MaxLen"], apart := false, laid := [("unicode/utf8.acceptRanges", laid_unicode_utf8_acceptRanges), ("unicode/utf8.first", laid_unicode_utf8_first)], narrowed := true }
def RatioOrderUptoSaid : Prop := ratioOrderUptoRow.holds Tryd.pinned (OpenSpec.upto ratioOrderSpec)

/-- 'anvillaw03.RatioMany', WHERE WHAT IT READS IS OF BULK AT MOST 1048576: true; the input reads as it did. -/
def ratioManyUptoRow : OpenClaim := { program := "ytegglooojlheoaadoor", sum := "14beab9e4faf43591c6b1184f4d492dc18c3c2a6b9a51b0c873fc7e322903320", func := "anvil/anvillaw03.RatioMany", spec := "ratioMany", inPlace := ["internal/bytealg.IndexByteString", "internal/bytealg.IndexString", "internal/abi.NoEscape"], unfollowed := true, recurses := true, named := ["unicode/utf8.first", "unicode/utf8.acceptRanges", "internal/bytealg.MaxLen"], apart := false, laid := [("unicode/utf8.acceptRanges", laid_unicode_utf8_acceptRanges), ("unicode/utf8.first", laid_unicode_utf8_first)], narrowed := true }
def RatioManyUptoSaid : Prop := ratioManyUptoRow.holds Tryd.pinned (OpenSpec.upto ratioManySpec)

/-- 'anvillaw04.RowDivides', WHERE WHAT IT READS IS OF BULK AT MOST 1048576: true; the input reads as it did. -/
def rowDividesUptoRow : OpenClaim := { program := "ytegglooojlheoaadoor", sum := "14beab9e4faf43591c6b1184f4d492dc18c3c2a6b9a51b0c873fc7e322903320", func := "anvil/anvillaw04.RowDivides", spec := "rowDivides", inPlace := ["internal/bytealg.IndexByteString", "internal/bytealg.IndexString", "internal/abi.NoEscape", "internal/bytealg.MakeNoZero"], unfollowed := true, recurses := true, named := ["unicode/utf8.first", "unicode/utf8.acceptRanges", "internal/bytealg.MaxLen"], apart := false, laid := [("unicode/utf8.acceptRanges", laid_unicode_utf8_acceptRanges), ("unicode/utf8.first", laid_unicode_utf8_first)], narrowed := true }
def RowDividesUptoSaid : Prop := rowDividesUptoRow.holds Tryd.pinned (OpenSpec.upto rowDividesSpec)

/-- 'anvillaw04.RowModule', WHERE WHAT IT READS IS OF BULK AT MOST 1048576: true; the input reads as it did. -/
def rowModuleUptoRow : OpenClaim := { program := "ytegglooojlheoaadoor", sum := "14beab9e4faf43591c6b1184f4d492dc18c3c2a6b9a51b0c873fc7e322903320", func := "anvil/anvillaw04.RowModule", spec := "rowModule", inPlace := ["internal/bytealg.IndexByteString", "internal/bytealg.IndexString", "internal/abi.NoEscape", "internal/bytealg.MakeNoZero"], unfollowed := true, recurses := true, named := ["unicode/utf8.first", "unicode/utf8.acceptRanges", "internal/bytealg.MaxLen"], apart := false, laid := [("unicode/utf8.acceptRanges", laid_unicode_utf8_acceptRanges), ("unicode/utf8.first", laid_unicode_utf8_first)], narrowed := true }
def RowModuleUptoSaid : Prop := rowModuleUptoRow.holds Tryd.pinned (OpenSpec.upto rowModuleSpec)

/-- 'anvillaw03.RatioBack', WHERE WHAT IT READS IS OF BULK AT MOST 1048576: true; the input reads as it did. -/
def ratioBackUptoRow : OpenClaim := { program := "ytegglooojlheoaadoor", sum := "14beab9e4faf43591c6b1184f4d492dc18c3c2a6b9a51b0c873fc7e322903320", func := "anvil/anvillaw03.RatioBack", spec := "ratioBack", inPlace := ["internal/bytealg.IndexByteString", "internal/bytealg.IndexString", "internal/abi.NoEscape"], unfollowed := true, recurses := true, named := ["unicode/utf8.first", "unicode/utf8.acceptRanges", "internal/bytealg.MaxLen"], apart := false, laid := [("unicode/utf8.acceptRanges", laid_unicode_utf8_acceptRanges), ("unicode/utf8.first", laid_unicode_utf8_first)], narrowed := true }
def RatioBackUptoSaid : Prop := ratioBackUptoRow.holds Tryd.pinned (OpenSpec.upto ratioBackSpec)

/-- 'anvillaw03.RatioKnown', WHERE WHAT IT READS IS OF BULK AT MOST 1048576: true; the input reads as it did. -/
def ratioKnownUptoRow : OpenClaim := { program := "ytegglooojlheoaadoor", sum := "14beab9e4faf43591c6b1184f4d492dc18c3c2a6b9a51b0c873fc7e322903320", func := "anvil/anvillaw03.RatioKnown", spec := "ratioKnown", inPlace := ["internal/bytealg.IndexByteString", "internal/bytealg.IndexString", "internal/abi.NoEscape"], unfollowed := true, recurses := true, named := ["unicode/utf8.first", "unicode/utf8.acceptRanges", "internal/bytealg.MaxLen"], apart := false, laid := [("unicode/utf8.acceptRanges", laid_unicode_utf8_acceptRanges), ("unicode/utf8.first", laid_unicode_utf8_first)], narrowed := true }
def RatioKnownUptoSaid : Prop := ratioKnownUptoRow.holds Tryd.pinned (OpenSpec.upto ratioKnownSpec)

end Rows
end Go.Proofs.YtegglooojlheoaaDoor
