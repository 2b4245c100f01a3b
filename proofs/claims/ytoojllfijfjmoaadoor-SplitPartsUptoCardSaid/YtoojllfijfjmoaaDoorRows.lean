/-
  NARROWER THAN 'FOR EVERY INPUT', by the rows' own cells (each row's printed sentence says how): SplitParts: laid · SplitJoins: laid · SplitShort: laid · SplitKnown: laid · SplitLevels: laid · SplitEnds: laid · SplitLaid: laid.
  DERIVED. THE GIVEN ROWS OF THIS SEAT. 7 by the template 'for every input the law returns true; each argument reads behind the call as it read before'; 0 by the template 'total and deterministic' (their statements: YtoojllfijfjmoaaDoorTotals.lean).
  GIVEN WITH THE SEED: the statements are not yours to turn. If you find one false, say at which input.
  Laid BY PROGRAM, IN A SANDBOX (cutbox-rows.mjs): the forced cells as the released guide's own fill.sh prints them over the translation 717589a45cf8df11… (all of the seat's roots in one cut). By AI agents, Wed Nov 11 2026. No macro, syntax, notation, axiom, sorry.
-/
import Derived.Test.YtoojllfijfjmoaaDoorChecked
import GoSem.PinnedTables
import GoSem.Claim
import GoSem.ClaimJoined
import GoSem.ClaimMapViews
import Derived.JoinedTies
import Derived.KernelRfl
namespace Go.Proofs.YtoojllfijfjmoaaDoor
/- THE CELL 'sum', in the pinned program and in every row, IS THE sha256 OF THE DUMP (.gsa) THAT YtoojllfijfjmoaaDoorProg.lean LOADS. Nothing in Lean hashes anything: it is a label: what it is worth is what the hold of that sum in a sandbox is worth. -/
noncomputable def Tryd.pinned : Pinned := { name := "ytoojllfijfjmoaadoor", sum := "717589a45cf8df11ab9f2c2f330b9369cd79018c16321781188581a77a2d44c5", checked := Tryd.checked }
namespace Rows
def none {H : Type} : Left H := { results := [], args := [] }

/- WHAT THE LISTED PACKAGE-LEVEL VARIABLES READ AS WHEN THE CALL BEGINS. Each datum BY PROGRAM (the guide's laid-datum.mjs) off the statement by which the dump's own 'gosem.cut.vars' lays the variable. In a bare row this is a premise. The card (YtoojllfijfjmoaaDoorCards.lean) ties it to the program's text. -/
def laid_unicode_utf8_acceptRanges {H : Type} : DataW H := .agg [.agg [.lit (.int .u8 128), .lit (.int .u8 191)], .agg [.lit (.int .u8 160), .lit (.int .u8 191)], .agg [.lit (.int .u8 128), .lit (.int .u8 159)], .agg [.lit (.int .u8 144), .lit (.int .u8 191)], .agg [.lit (.int .u8 128), .lit (.int .u8 143)], .agg [.lit (.int .u8 0), .lit (.int .u8 0)], .agg [.lit (.int .u8 0), .lit (.int .u8 0)], .agg [.lit (.int .u8 0), .lit (.int .u8 0)], .agg [.lit (.int .u8 0), .lit (.int .u8 0)], .agg [.lit (.int .u8 0), .lit (.int .u8 0)], .agg [.lit (.int .u8 0), .lit (.int .u8 0)], .agg [.lit (.int .u8 0), .lit (.int .u8 0)], .agg [.lit (.int .u8 0), .lit (.int .u8 0)], .agg [.lit (.int .u8 0), .lit (.int .u8 0)], .agg [.lit (.int .u8 0), .lit (.int .u8 0)], .agg [.lit (.int .u8 0), .lit (.int .u8 0)]]
/-- One of Go's own tables, pinned by name: the form's constant. -/
def laid_unicode_utf8_first : DataW Unit := Go.Pinned.utf8First

/-- 'anvillaw21.SplitParts': WHATEVER THE INPUT: true; the input reads as it did. -/
def splitPartsSpec : ChangeSpec := { name := "splitParts", fn := fun _ => fun
  | [d1, d2, d3] => { results := [.lit (.bool true)], args := [d1, d2, d3] }
  | _ => none }
def splitPartsRow : OpenClaim := { program := "ytoojllfijfjmoaadoor", sum := "717589a45cf8df11ab9f2c2f330b9369cd79018c16321781188581a77a2d44c5", func := "anvil/anvillaw21.SplitParts", spec := "splitParts", inPlace := ["internal/bytealg.IndexByteString", "internal/bytealg.IndexString", "internal/abi.NoEscape"], unfollowed := true, recurses := true, named := ["unicode/utf8.first", "unicode/utf8.acceptRanges", "internal/bytealg.MaxLen"], apart := false, laid := [("unicode/utf8.acceptRanges", laid_unicode_utf8_acceptRanges), ("unicode/utf8.first", laid_unicode_utf8_first)] }
def SplitPartsSaid : Prop := splitPartsRow.holds Tryd.pinned (OpenSpec.ofChange splitPartsSpec)

/-- ITS FALSE NEIGHBOUR: 'it returns false'. Refute it at one input. -/
def splitPartsWrong : ChangeSpec := { name := "splitParts", fn := fun _ => fun
  | [d1, d2, d3] => { results := [.lit (.bool false)], args := [d1, d2, d3] }
  | _ => none }
def SplitPartsWrongFalsely : Prop := splitPartsRow.holds Tryd.pinned (OpenSpec.ofChange splitPartsWrong)

/-- 'anvillaw21.SplitJoins': WHATEVER THE INPUT: true; the input reads as it did. -/
def splitJoinsSpec : ChangeSpec := { name := "splitJoins", fn := fun _ => fun
  | [d1, d2, d3] => { results := [.lit (.bool true)], args := [d1, d2, d3] }
  | _ => none }
def splitJoinsRow : OpenClaim := { program := "ytoojllfijfjmoaadoor", sum := "717589a45cf8df11ab9f2c2f330b9369cd79018c16321781188581a77a2d44c5", func := "anvil/anvillaw21.SplitJoins", spec := "splitJoins", inPlace := ["internal/bytealg.IndexByteString", "internal/bytealg.IndexString", "internal/abi.NoEscape"], unfollowed := true, recurses := true, named := ["unicode/utf8.first", "unicode/utf8.acceptRanges", "internal/bytealg.MaxLen"], apart := false, laid := [("unicode/utf8.acceptRanges", laid_unicode_utf8_acceptRanges), ("unicode/utf8.first", laid_unicode_utf8_first)] }
def SplitJoinsSaid : Prop := splitJoinsRow.holds Tryd.pinned (OpenSpec.ofChange splitJoinsSpec)

/-- ITS FALSE NEIGHBOUR: 'it returns false'. Refute it at one input. -/
def splitJoinsWrong : ChangeSpec := { name := "splitJoins", fn := fun _ => fun
  | [d1, d2, d3] => { results := [.lit (.bool false)], args := [d1, d2, d3] }
  | _ => none }
def SplitJoinsWrongFalsely : Prop := splitJoinsRow.holds Tryd.pinned (OpenSpec.ofChange splitJoinsWrong)

/-- 'anvillaw21.SplitShort': WHATEVER THE INPUT: true; the input reads as it did. -/
def splitShortSpec : ChangeSpec := { name := "splitShort", fn := fun _ => fun
  | [d1, d2, d3, d4] => { results := [.lit (.bool true)], args := [d1, d2, d3, d4] }
  | _ => none }
def splitShortRow : OpenClaim := { program := "ytoojllfijfjmoaadoor", sum := "717589a45cf8df11ab9f2c2f330b9369cd79018c16321781188581a77a2d44c5", func := "anvil/anvillaw21.SplitShort", spec := "splitShort", inPlace := ["internal/bytealg.IndexByteString", "internal/bytealg.IndexString", "internal/abi.NoEscape"], unfollowed := true, recurses := true, named := ["unicode/utf8.first", "unicode/utf8.acceptRanges", "internal/bytealg.MaxLen"], apart := false, laid := [("unicode/utf8.acceptRanges", laid_unicode_utf8_acceptRanges), ("unicode/utf8.first", laid_unicode_utf8_first)] }
def SplitShortSaid : Prop := splitShortRow.holds Tryd.pinned (OpenSpec.ofChange splitShortSpec)

/-- ITS FALSE NEIGHBOUR: 'it returns false'. Refute it at one input. -/
def splitShortWrong : ChangeSpec := { name := "splitShort", fn := fun _ => fun
  | [d1, d2, d3, d4] => { results := [.lit (.bool false)], args := [d1, d2, d3, d4] }
  | _ => none }
def SplitShortWrongFalsely : Prop := splitShortRow.holds Tryd.pinned (OpenSpec.ofChange splitShortWrong)

/-- 'anvillaw21.SplitKnown': WHATEVER THE INPUT: true; the input reads as it did. -/
def splitKnownSpec : ChangeSpec := { name := "splitKnown", fn := fun _ => fun
  | [] => { results := [.lit (.bool true)], args := [] }
  | _ => none }
def splitKnownRow : OpenClaim := { program := "ytoojllfijfjmoaadoor", sum := "717589a45cf8df11ab9f2c2f330b9369cd79018c16321781188581a77a2d44c5", func := "anvil/anvillaw21.SplitKnown", spec := "splitKnown", inPlace := ["internal/bytealg.IndexByteString", "internal/bytealg.IndexString", "internal/abi.NoEscape"], unfollowed := true, recurses := true, named := ["unicode/utf8.first", "unicode/utf8.acceptRanges", "internal/bytealg.MaxLen"], apart := false, laid := [("unicode/utf8.acceptRanges", laid_unicode_utf8_acceptRanges), ("unicode/utf8.first", laid_unicode_utf8_first)] }
def SplitKnownSaid : Prop := splitKnownRow.holds Tryd.pinned (OpenSpec.ofChange splitKnownSpec)

/-- ITS FALSE NEIGHBOUR: 'it returns false'. Refute it at one input. -/
def splitKnownWrong : ChangeSpec := { name := "splitKnown", fn := fun _ => fun
  | [] => { results := [.lit (.bool false)], args := [] }
  | _ => none }
def SplitKnownWrongFalsely : Prop := splitKnownRow.holds Tryd.pinned (OpenSpec.ofChange splitKnownWrong)

/-- 'anvillaw21.SplitLevels': WHATEVER THE INPUT: true; the input reads as it did. -/
def splitLevelsSpec : ChangeSpec := { name := "splitLevels", fn := fun _ => fun
  | [d1, d2, d3, d4, d5] => { results := [.lit (.bool true)], args := [d1, d2, d3, d4, d5] }
  | _ => none }
def splitLevelsRow : OpenClaim := { program := "ytoojllfijfjmoaadoor", sum := "717589a45cf8df11ab9f2c2f330b9369cd79018c16321781188581a77a2d44c5", func := "anvil/anvillaw21.SplitLevels", spec := "splitLevels", inPlace := ["internal/bytealg.IndexByteString", "internal/bytealg.IndexString", "internal/abi.NoEscape"], unfollowed := true, recurses := true, named := ["unicode/utf8.first", "unicode/utf8.acceptRanges", "internal/bytealg.MaxLen"], apart := false, laid := [("unicode/utf8.acceptRanges", laid_unicode_utf8_acceptRanges), ("unicode/utf8.first", laid_unicode_utf8_first)] }
def SplitLevelsSaid : Prop := splitLevelsRow.holds Tryd.pinned (OpenSpec.ofChange splitLevelsSpec)

/-- ITS FALSE NEIGHBOUR: 'it returns false'. Refute it at one input. -/
def splitLevelsWrong : ChangeSpec := { name := "splitLevels", fn := fun _ => fun
  | [d1, d2, d3, d4, d5] => { results := [.lit (.bool false)], args := [d1, d2, d3, d4, d5] }
  | _ => none }
def SplitLevelsWrongFalsely : Prop := splitLevelsRow.holds Tryd.pinned (OpenSpec.ofChange splitLevelsWrong)

/-- 'anvillaw21.SplitEnds': WHATEVER THE INPUT: true; the input reads as it did. -/
def splitEndsSpec : ChangeSpec := { name := "splitEnds", fn := fun _ => fun
  | [d1, d2, d3, d4, d5, d6] => { results := [.lit (.bool true)], args := [d1, d2, d3, d4, d5, d6] }
  | _ => none }
def splitEndsRow : OpenClaim := { program := "ytoojllfijfjmoaadoor", sum := "717589a45cf8df11ab9f2c2f330b9369cd79018c16321781188581a77a2d44c5", func := "anvil/anvillaw21.SplitEnds", spec := "splitEnds", inPlace := ["internal/bytealg.IndexByteString", "internal/bytealg.IndexString", "internal/abi.NoEscape"], unfollowed := true, recurses := true, named := ["unicode/utf8.first", "unicode/utf8.acceptRanges", "internal/bytealg.MaxLen"], apart := false, laid := [("unicode/utf8.acceptRanges", laid_unicode_utf8_acceptRanges), ("unicode/utf8.first", laid_unicode_utf8_first)] }
def SplitEndsSaid : Prop := splitEndsRow.holds Tryd.pinned (OpenSpec.ofChange splitEndsSpec)

/-- ITS FALSE NEIGHBOUR: 'it returns false'. Refute it at one input. -/
def splitEndsWrong : ChangeSpec := { name := "splitEnds", fn := fun _ => fun
  | [d1, d2, d3, d4, d5, d6] => { results := [.lit (.bool false)], args := [d1, d2, d3, d4, d5, d6] }
  | _ => none }
def SplitEndsWrongFalsely : Prop := splitEndsRow.holds Tryd.pinned (OpenSpec.ofChange splitEndsWrong)

/-- 'anvillaw21.SplitLaid': WHATEVER THE INPUT: true; the input reads as it did. -/
def splitLaidSpec : ChangeSpec := { name := "splitLaid", fn := fun _ => fun
  | [d1, d2, d3, d4] => { results := [.lit (.bool true)], args := [d1, d2, d3, d4] }
  | _ => none }
def splitLaidRow : OpenClaim := { program := "ytoojllfijfjmoaadoor", sum := "717589a45cf8df11ab9f2c2f330b9369cd79018c16321781188581a77a2d44c5", func := "anvil/anvillaw21.SplitLaid", spec := "splitLaid", inPlace := ["internal/bytealg.IndexByteString", "internal/bytealg.IndexString", "internal/abi.NoEscape"], unfollowed := true, recurses := true, named := ["unicode/utf8.first", "unicode/utf8.acceptRanges", "internal/bytealg.MaxLen"], apart := false, laid := [("unicode/utf8.acceptRanges", laid_unicode_utf8_acceptRanges), ("unicode/utf8.first", laid_unicode_utf8_first)] }
def SplitLaidSaid : Prop := splitLaidRow.holds Tryd.pinned (OpenSpec.ofChange splitLaidSpec)

/-- ITS FALSE NEIGHBOUR: 'it returns false'. Refute it at one input. -/
def splitLaidWrong : ChangeSpec := { name := "splitLaid", fn := fun _ => fun
  | [d1, d2, d3, d4] => { results := [.lit (.bool false)], args := [d1, d2, d3, d4] }
  | _ => none }
def SplitLaidWrongFalsely : Prop := splitLaidRow.holds Tryd.pinned (OpenSpec.ofChange splitLaidWrong)

/- THE SECOND FORM. 'bulk': how many values and letters a reading holds, each counted each time it is reached (what is shared counts as often as it is met; a slice's spare places count too). A statement '..UptoSaid' is the law's where the arguments, and the package variables that the reading takes, are together of bulk at most 1048576: NARROWER than '..Said'. Prove '..Said' where nothing that the law and all that it calls make is longer than what came in: it says more and counts as full. Else prove '..UptoSaid'. A law counts once. -/
mutual
def uptoBulk {H : Type} : DataW H → Nat
  | .lit (.string bytes) => bytes.length + 1
  | .lit _ => 1
  | .nil => 1
  | .ptr d => uptoBulk d + 1
  | .slice elems spare => uptoBulkAll elems + uptoBulkAll spare + 1
  | .agg parts => uptoBulkAll parts + 1
  | .iface _ d => uptoBulk d + 1
  | .map entries => uptoBulkEntries entries + 1
  | .held _ => 1
def uptoBulkAll {H : Type} : List (DataW H) → Nat
  | [] => 0
  | d :: r => uptoBulk d + uptoBulkAll r
def uptoBulkEntries {H : Type} : List (Lit × DataW H) → Nat
  | [] => 0
  | x :: r => uptoBulkEntry x + uptoBulkEntries r
def uptoBulkEntry {H : Type} : Lit × DataW H → Nat
  | (.string bytes, d) => bytes.length + uptoBulk d + 1
  | (_, d) => uptoBulk d + 1
 end
def uptoSmall : (H : Type) → List (DataW H) → Bool := fun _ ds => decide (uptoBulkAll ds ≤ 1048576)
def OpenSpec.upto (s : _root_.Go.ChangeSpec) : _root_.Go.OpenSpec := { _root_.Go.OpenSpec.ofChange s with cond := some uptoSmall }

/-- 'anvillaw21.SplitParts', WHERE WHAT IT READS IS OF BULK AT MOST 1048576: true; the input reads as it did. -/
def splitPartsUptoRow : OpenClaim := { program := "ytoojllfijfjmoaadoor", sum := "717589a45cf8df11ab9f2c2f330b9369cd79018c16321781188581a77a2d44c5", func := "anvil/anvillaw21.SplitParts", spec := "splitParts", inPlace := ["internal/bytealg.IndexByteString", "internal/bytealg.IndexString", "internal/abi.NoEscape"], unfollowed := true, recurses := true, named := ["unicode/utf8.first", "unicode/utf8.acceptRanges", "internal/bytealg.MaxLen"], apart := false, laid := [("unicode/utf8.acceptRanges", laid_unicode_utf8_acceptRanges), ("unicode/utf8.first", laid_unicode_utf8_first)], narrowed := true }
def SplitPartsUptoSaid : Prop := splitPartsUptoRow.holds Tryd.pinned (OpenSpec.upto splitPartsSpec)

/-- 'anvillaw21.SplitJoins', WHERE WHAT IT READS IS OF BULK AT MOST 1048576: true; the input reads as it did. -/
def splitJoinsUptoRow : OpenClaim := { program := "ytoojllfijfjmoaadoor", sum := "717589a45cf8df11ab9f2c2f330b9369cd79018c16321781188581a77a2d44c5", func := "anvil/anvillaw21.SplitJoins", spec := "splitJoins", inPlace := ["internal/bytealg.IndexByteString", "internal/bytealg.IndexString", "internal/abi.NoEscape"], unfollowed := true, recurses := true, named := ["unicode/utf8.first", "unicode/utf8.acceptRanges", "internal/bytealg.MaxLen"], apart := false, laid := [("unicode/utf8.acceptRanges", laid_unicode_utf8_acceptRanges), ("unicode/utf8.first", laid_unicode_utf8_first)], narrowed := true }
def SplitJoinsUptoSaid : Prop := splitJoinsUptoRow.holds Tryd.pinned (OpenSpec.upto splitJoinsSpec)

/-- 'anvillaw21.SplitShort', WHERE WHAT IT READS IS OF BULK AT MOST 1048576: true; the input reads as it did. -/
def splitShortUptoRow : OpenClaim := { program := "ytoojllfijfjmoaadoor", sum := "717589a45cf8df11ab9f2c2f330b9369cd79018c16321781188581a77a2d44c5", func := "anvil/anvillaw21.SplitShort", spec := "splitShort", inPlace := ["internal/bytealg.IndexByteString", "internal/bytealg.IndexString", "internal/abi.NoEscape"], unfollowed := true, recurses := true, named := ["unicode/utf8.first", "unicode/utf8.acceptRanges", "internal/bytealg.MaxLen"], apart := false, laid := [("unicode/utf8.acceptRanges", laid_unicode_utf8_acceptRanges), ("unicode/utf8.first", laid_unicode_utf8_first)], narrowed := true }
def SplitShortUptoSaid : Prop := splitShortUptoRow.holds Tryd.pinned (OpenSpec.upto splitShortSpec)

/-- 'anvillaw21.SplitKnown', WHERE WHAT IT READS IS OF BULK AT MOST 1048576: true; the input reads as it did. -/
def splitKnownUptoRow : OpenClaim := { program := "ytoojllfijfjmoaadoor", sum := "717589a45cf8df11ab9f2c2f330b9369cd79018c16321781188581a77a2d44c5", func := "anvil/anvillaw21.SplitKnown", spec := "splitKnown", inPlace := ["internal/bytealg.IndexByteString", "internal/bytealg.IndexString", "internal/abi.NoEscape"], unfollowed := true, recurses := true, named := ["unicode/utf8.first", "unicode/utf8.acceptRanges", "internal/bytealg.MaxLen"], apart := false, laid := [("unicode/utf8.acceptRanges", laid_unicode_utf8_acceptRanges), ("unicode/utf8.first", laid_unicode_utf8_first)], narrowed := true }
def SplitKnownUptoSaid : Prop := splitKnownUptoRow.holds Tryd.pinned (OpenSpec.upto splitKnownSpec)

/-- 'anvillaw21.SplitLevels', WHERE WHAT IT READS IS OF BULK AT MOST 1048576: true; the input reads as it did. -/
def splitLevelsUptoRow : OpenClaim := { program := "ytoojllfijfjmoaadoor", sum := "717589a45cf8df11ab9f2c2f330b9369cd79018c16321781188581a77a2d44c5", func := "anvil/anvillaw21.SplitLevels", spec := "splitLevels", inPlace := ["internal/bytealg.IndexByteString", "internal/bytealg.IndexString", "internal/abi.NoEscape"], unfollowed := true, recurses := true, named := ["unicode/utf8.first", "unicode/utf8.acceptRanges", "internal/bytealg.MaxLen"], apart := false, laid := [("unicode/utf8.acceptRanges", laid_unicode_utf8_acceptRanges), ("unicode/utf8.first", laid_unicode_utf8_first)], narrowed := true }
def SplitLevelsUptoSaid : Prop := splitLevelsUptoRow.holds Tryd.pinned (OpenSpec.upto splitLevelsSpec)

/-- 'anvillaw21.SplitEnds', WHERE WHAT IT READS IS OF BULK AT MOST 1048576: true; the input reads as it did. -/
def splitEndsUptoRow : OpenClaim := { program := "ytoojllfijfjmoaadoor", sum := "717589a45cf8df11ab9f2c2f330b9369cd79018c16321781188581a77a2d44c5", func := "anvil/anvillaw21.SplitEnds", spec := "splitEnds", inPlace := ["internal/bytealg.IndexByteString", "internal/bytealg.IndexString", "internal/abi.NoEscape"], unfollowed := true, recurses := true, named := ["unicode/utf8.first", "unicode/utf8.acceptRanges", "internal/bytealg.MaxLen"], apart := false, laid := [("unicode/utf8.acceptRanges", laid_unicode_utf8_acceptRanges), ("unicode/utf8.first", laid_unicode_utf8_first)], narrowed := true }
def SplitEndsUptoSaid : Prop := splitEndsUptoRow.holds Tryd.pinned (OpenSpec.upto splitEndsSpec)

/-- 'anvillaw21.SplitLaid', WHERE WHAT IT READS IS OF BULK AT MOST 1048576: true; the input reads as it did. -/
def splitLaidUptoRow : OpenClaim := { program := "ytoojllfijfjmoaadoor", sum := "717589a45cf8df11ab9f2c2f330b9369cd79018c16321781188581a77a2d44c5", func := "anvil/anvillaw21.SplitLaid", spec := "splitLaid", inPlace := ["internal/bytealg.IndexByteString", "internal/bytealg.IndexString", "internal/abi.NoEscape"], unfollowed := true, recurses := true, named := ["unicode/utf8.first", "unicode/utf8.acceptRanges", "internal/bytealg.MaxLen"], apart := false, laid := [("unicode/utf8.acceptRanges", laid_unicode_utf8_acceptRanges), ("unicode/utf8.first", laid_unicode_utf8_first)], narrowed := true }
def SplitLaidUptoSaid : Prop := splitLaidUptoRow.holds Tryd.pinned (OpenSpec.upto splitLaidSpec)

end Rows
end Go.Proofs.YtoojllfijfjmoaaDoor
