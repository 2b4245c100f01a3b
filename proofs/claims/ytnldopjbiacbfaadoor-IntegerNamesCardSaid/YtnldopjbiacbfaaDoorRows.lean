/-
  NARROWER THAN 'FOR EVERY INPUT', by the rows' own cells (each row's printed sentence says how): IntegerTwos: laid · LimbWhole: laid · IntegerTexts: laid · LimbDivisor: laid · IntegerReads: laid · LimbGcds: laid · LimbRing: laid · LimbDivides: laid · LimbProducts: laid · LimbShifts: laid · LimbBack: laid · LimbTexts: laid · LimbKnown: laid · IntegerNames: laid.
  DERIVED. THE GIVEN ROWS OF THIS SEAT. 14 by the template 'for every input the law returns true; each argument reads behind the call as it read before'; 0 by the template 'total and deterministic' (their statements: YtnldopjbiacbfaaDoorTotals.lean).
  GIVEN WITH THE SEED: the statements are not yours to turn. If you find one false, say at which input.
  Laid BY PROGRAM, IN A SANDBOX (cutbox-rows.mjs): the forced cells as the released guide's own fill.sh prints them over the translation 830e115428ef6df2… (all of the seat's roots in one cut). By AI agents, Wed Nov 11 2026. No macro, syntax, notation, axiom, sorry.
-/
import Derived.Test.YtnldopjbiacbfaaDoorChecked
import GoSem.PinnedTables
import GoSem.Claim
import GoSem.ClaimJoined
import GoSem.ClaimMapViews
import Derived.JoinedTies
import Derived.KernelRfl
namespace Go.Proofs.YtnldopjbiacbfaaDoor
/- THE CELL 'sum', in the pinned program and in every row, IS THE sha256 OF THE DUMP (.gsa) THAT YtnldopjbiacbfaaDoorProg.lean LOADS. Nothing in Lean hashes anything: it is a label: what it is worth is what the hold of that sum in a sandbox is worth. -/
noncomputable def Tryd.pinned : Pinned := { name := "ytnldopjbiacbfaadoor", sum := "830e115428ef6df2bd48f1fe0be4e8abe2b40a054facd57c8eb410fc653294e2", checked := Tryd.checked }
namespace Rows
def none {H : Type} : Left H := { results := [], args := [] }

/- WHAT THE LISTED PACKAGE-LEVEL VARIABLES READ AS WHEN THE CALL BEGINS. Each datum BY PROGRAM (the guide's laid-datum.mjs) off the statement by which the dump's own 'gosem.cut.vars' lays the variable. In a bare row this is a premise. The card (YtnldopjbiacbfaaDoorCards.lean) ties it to the program's text. -/
def laid_math_bits_deBruijn32tab {H : Type} : DataW H := .agg [.lit (.int .u8 0), .lit (.int .u8 1), .lit (.int .u8 28), .lit (.int .u8 2), .lit (.int .u8 29), .lit (.int .u8 14), .lit (.int .u8 24), .lit (.int .u8 3), .lit (.int .u8 30), .lit (.int .u8 22), .lit (.int .u8 20), .lit (.int .u8 15), .lit (.int .u8 25), .lit (.int .u8 17), .lit (.int .u8 4), .lit (.int .u8 8), .lit (.int .u8 31), .lit (.int .u8 27), .lit (.int .u8 13), .lit (.int .u8 23), .lit (.int .u8 21), .lit (.int .u8 19), .lit (.int .u8 16), .lit (.int .u8 7), .lit (.int .u8 26), .lit (.int .u8 12), .lit (.int .u8 18), .lit (.int .u8 6), .lit (.int .u8 11), .lit (.int .u8 5), .lit (.int .u8 10), .lit (.int .u8 9)]
def laid_unicode_utf8_acceptRanges {H : Type} : DataW H := .agg [.agg [.lit (.int .u8 128), .lit (.int .u8 191)], .agg [.lit (.int .u8 160), .lit (.int .u8 191)], .agg [.lit (.int .u8 128), .lit (.int .u8 159)], .agg [.lit (.int .u8 144), .lit (.int .u8 191)], .agg [.lit (.int .u8 128), .lit (.int .u8 143)], .agg [.lit (.int .u8 0), .lit (.int .u8 0)], .agg [.lit (.int .u8 0), .lit (.int .u8 0)], .agg [.lit (.int .u8 0), .lit (.int .u8 0)], .agg [.lit (.int .u8 0), .lit (.int .u8 0)], .agg [.lit (.int .u8 0), .lit (.int .u8 0)], .agg [.lit (.int .u8 0), .lit (.int .u8 0)], .agg [.lit (.int .u8 0), .lit (.int .u8 0)], .agg [.lit (.int .u8 0), .lit (.int .u8 0)], .agg [.lit (.int .u8 0), .lit (.int .u8 0)], .agg [.lit (.int .u8 0), .lit (.int .u8 0)], .agg [.lit (.int .u8 0), .lit (.int .u8 0)]]
/-- One of Go's own tables, pinned by name: the form's constant. -/
def laid_unicode_utf8_first : DataW Unit := Go.Pinned.utf8First

/-- 'anvillaw02.IntegerTwos': WHATEVER THE INPUT: true; the input reads as it did. -/
def integerTwosSpec : ChangeSpec := { name := "integerTwos", fn := fun _ => fun
  | [d1, d2] => { results := [.lit (.bool true)], args := [d1, d2] }
  | _ => none }
def integerTwosRow : OpenClaim := { program := "ytnldopjbiacbfaadoor", sum := "830e115428ef6df2bd48f1fe0be4e8abe2b40a054facd57c8eb410fc653294e2", func := "anvil/anvillaw02.IntegerTwos", spec := "integerTwos", named := ["math/bits.deBruijn32tab"], apart := false, laid := [("math/bits.deBruijn32tab", laid_math_bits_deBruijn32tab)] }
def IntegerTwosSaid : Prop := integerTwosRow.holds Tryd.pinned (OpenSpec.ofChange integerTwosSpec)

/-- ITS FALSE NEIGHBOUR: 'it returns false'. Refute it at one input. -/
def integerTwosWrong : ChangeSpec := { name := "integerTwos", fn := fun _ => fun
  | [d1, d2] => { results := [.lit (.bool false)], args := [d1, d2] }
  | _ => none }
def IntegerTwosWrongFalsely : Prop := integerTwosRow.holds Tryd.pinned (OpenSpec.ofChange integerTwosWrong)

/-- 'anvillaw01.LimbWhole': WHATEVER THE INPUT: true; the input reads as it did. -/
def limbWholeSpec : ChangeSpec := { name := "limbWhole", fn := fun _ => fun
  | [d1, d2, d3] => { results := [.lit (.bool true)], args := [d1, d2, d3] }
  | _ => none }
def limbWholeRow : OpenClaim := { program := "ytnldopjbiacbfaadoor", sum := "830e115428ef6df2bd48f1fe0be4e8abe2b40a054facd57c8eb410fc653294e2", func := "anvil/anvillaw01.LimbWhole", spec := "limbWhole", inPlace := ["internal/bytealg.IndexByteString", "internal/bytealg.IndexString", "internal/abi.NoEscape"], named := ["unicode/utf8.first", "unicode/utf8.acceptRanges", "internal/bytealg.MaxLen"], apart := false, laid := [("unicode/utf8.acceptRanges", laid_unicode_utf8_acceptRanges), ("unicode/utf8.first", laid_unicode_utf8_first)] }
def LimbWholeSaid : Prop := limbWholeRow.holds Tryd.pinned (OpenSpec.ofChange limbWholeSpec)

/-- ITS FALSE NEIGHBOUR: 'it returns false'. Refute it at one input. -/
def limbWholeWrong : ChangeSpec := { name := "limbWhole", fn := fun _ => fun
  | [d1, d2, d3] => { results := [.lit (.bool false)], args := [d1, d2, d3] }
  | _ => none }
def LimbWholeWrongFalsely : Prop := limbWholeRow.holds Tryd.pinned (OpenSpec.ofChange limbWholeWrong)

/-- 'anvillaw02.IntegerTexts': WHATEVER THE INPUT: true; the input reads as it did. -/
def integerTextsSpec : ChangeSpec := { name := "integerTexts", fn := fun _ => fun
  | [d] => { results := [.lit (.bool true)], args := [d] }
  | _ => none }
def integerTextsRow : OpenClaim := { program := "ytnldopjbiacbfaadoor", sum := "830e115428ef6df2bd48f1fe0be4e8abe2b40a054facd57c8eb410fc653294e2", func := "anvil/anvillaw02.IntegerTexts", spec := "integerTexts", inPlace := ["internal/bytealg.IndexByteString", "internal/bytealg.IndexString", "internal/abi.NoEscape"], unfollowed := true, recurses := true, named := ["unicode/utf8.first", "unicode/utf8.acceptRanges", "internal/bytealg.MaxLen"], apart := false, laid := [("unicode/utf8.acceptRanges", laid_unicode_utf8_acceptRanges), ("unicode/utf8.first", laid_unicode_utf8_first)] }
def IntegerTextsSaid : Prop := integerTextsRow.holds Tryd.pinned (OpenSpec.ofChange integerTextsSpec)

/-- ITS FALSE NEIGHBOUR: 'it returns false'. Refute it at one input. -/
def integerTextsWrong : ChangeSpec := { name := "integerTexts", fn := fun _ => fun
  | [d] => { results := [.lit (.bool false)], args := [d] }
  | _ => none }
def IntegerTextsWrongFalsely : Prop := integerTextsRow.holds Tryd.pinned (OpenSpec.ofChange integerTextsWrong)

/-- 'anvillaw01.LimbDivisor': WHATEVER THE INPUT: true; the input reads as it did. -/
def limbDivisorSpec : ChangeSpec := { name := "limbDivisor", fn := fun _ => fun
  | [d1, d2, d3] => { results := [.lit (.bool true)], args := [d1, d2, d3] }
  | _ => none }
def limbDivisorRow : OpenClaim := { program := "ytnldopjbiacbfaadoor", sum := "830e115428ef6df2bd48f1fe0be4e8abe2b40a054facd57c8eb410fc653294e2", func := "anvil/anvillaw01.LimbDivisor", spec := "limbDivisor", inPlace := ["internal/bytealg.IndexByteString", "internal/bytealg.IndexString", "internal/abi.NoEscape"], named := ["unicode/utf8.first", "unicode/utf8.acceptRanges", "internal/bytealg.MaxLen"], apart := false, laid := [("unicode/utf8.acceptRanges", laid_unicode_utf8_acceptRanges), ("unicode/utf8.first", laid_unicode_utf8_first)] }
def LimbDivisorSaid : Prop := limbDivisorRow.holds Tryd.pinned (OpenSpec.ofChange limbDivisorSpec)

/-- ITS FALSE NEIGHBOUR: 'it returns false'. Refute it at one input. -/
def limbDivisorWrong : ChangeSpec := { name := "limbDivisor", fn := fun _ => fun
  | [d1, d2, d3] => { results := [.lit (.bool false)], args := [d1, d2, d3] }
  | _ => none }
def LimbDivisorWrongFalsely : Prop := limbDivisorRow.holds Tryd.pinned (OpenSpec.ofChange limbDivisorWrong)

/-- 'anvillaw02.IntegerReads': WHATEVER THE INPUT: true; the input reads as it did. -/
def integerReadsSpec : ChangeSpec := { name := "integerReads", fn := fun _ => fun
  | [d] => { results := [.lit (.bool true)], args := [d] }
  | _ => none }
def integerReadsRow : OpenClaim := { program := "ytnldopjbiacbfaadoor", sum := "830e115428ef6df2bd48f1fe0be4e8abe2b40a054facd57c8eb410fc653294e2", func := "anvil/anvillaw02.IntegerReads", spec := "integerReads", inPlace := ["internal/bytealg.IndexByteString", "internal/bytealg.IndexString", "internal/abi.NoEscape"], unfollowed := true, recurses := true, named := ["unicode/utf8.first", "unicode/utf8.acceptRanges", "internal/bytealg.MaxLen"], apart := false, laid := [("unicode/utf8.acceptRanges", laid_unicode_utf8_acceptRanges), ("unicode/utf8.first", laid_unicode_utf8_first)] }
def IntegerReadsSaid : Prop := integerReadsRow.holds Tryd.pinned (OpenSpec.ofChange integerReadsSpec)

/-- ITS FALSE NEIGHBOUR: 'it returns false'. Refute it at one input. -/
def integerReadsWrong : ChangeSpec := { name := "integerReads", fn := fun _ => fun
  | [d] => { results := [.lit (.bool false)], args := [d] }
  | _ => none }
def IntegerReadsWrongFalsely : Prop := integerReadsRow.holds Tryd.pinned (OpenSpec.ofChange integerReadsWrong)

/-- 'anvillaw01.LimbGcds': WHATEVER THE INPUT: true; the input reads as it did. -/
def limbGcdsSpec : ChangeSpec := { name := "limbGcds", fn := fun _ => fun
  | [d1, d2] => { results := [.lit (.bool true)], args := [d1, d2] }
  | _ => none }
def limbGcdsRow : OpenClaim := { program := "ytnldopjbiacbfaadoor", sum := "830e115428ef6df2bd48f1fe0be4e8abe2b40a054facd57c8eb410fc653294e2", func := "anvil/anvillaw01.LimbGcds", spec := "limbGcds", inPlace := ["internal/bytealg.IndexByteString", "internal/bytealg.IndexString", "internal/abi.NoEscape"], named := ["unicode/utf8.first", "unicode/utf8.acceptRanges", "internal/bytealg.MaxLen"], apart := false, laid := [("unicode/utf8.acceptRanges", laid_unicode_utf8_acceptRanges), ("unicode/utf8.first", laid_unicode_utf8_first)] }
def LimbGcdsSaid : Prop := limbGcdsRow.holds Tryd.pinned (OpenSpec.ofChange limbGcdsSpec)

/-- ITS FALSE NEIGHBOUR: 'it returns false'. Refute it at one input. -/
def limbGcdsWrong : ChangeSpec := { name := "limbGcds", fn := fun _ => fun
  | [d1, d2] => { results := [.lit (.bool false)], args := [d1, d2] }
  | _ => none }
def LimbGcdsWrongFalsely : Prop := limbGcdsRow.holds Tryd.pinned (OpenSpec.ofChange limbGcdsWrong)

/-- 'anvillaw01.LimbRing': WHATEVER THE INPUT: true; the input reads as it did. -/
def limbRingSpec : ChangeSpec := { name := "limbRing", fn := fun _ => fun
  | [d1, d2, d3] => { results := [.lit (.bool true)], args := [d1, d2, d3] }
  | _ => none }
def limbRingRow : OpenClaim := { program := "ytnldopjbiacbfaadoor", sum := "830e115428ef6df2bd48f1fe0be4e8abe2b40a054facd57c8eb410fc653294e2", func := "anvil/anvillaw01.LimbRing", spec := "limbRing", inPlace := ["internal/bytealg.IndexByteString", "internal/bytealg.IndexString", "internal/abi.NoEscape"], named := ["unicode/utf8.first", "unicode/utf8.acceptRanges", "internal/bytealg.MaxLen"], apart := false, laid := [("unicode/utf8.acceptRanges", laid_unicode_utf8_acceptRanges), ("unicode/utf8.first", laid_unicode_utf8_first)] }
def LimbRingSaid : Prop := limbRingRow.holds Tryd.pinned (OpenSpec.ofChange limbRingSpec)

/-- ITS FALSE NEIGHBOUR: 'it returns false'. Refute it at one input. -/
def limbRingWrong : ChangeSpec := { name := "limbRing", fn := fun _ => fun
  | [d1, d2, d3] => { results := [.lit (.bool false)], args := [d1, d2, d3] }
  | _ => none }
def LimbRingWrongFalsely : Prop := limbRingRow.holds Tryd.pinned (OpenSpec.ofChange limbRingWrong)

/-- 'anvillaw01.LimbDivides': WHATEVER THE INPUT: true; the input reads as it did. -/
def limbDividesSpec : ChangeSpec := { name := "limbDivides", fn := fun _ => fun
  | [d1, d2, d3] => { results := [.lit (.bool true)], args := [d1, d2, d3] }
  | _ => none }
def limbDividesRow : OpenClaim := { program := "ytnldopjbiacbfaadoor", sum := "830e115428ef6df2bd48f1fe0be4e8abe2b40a054facd57c8eb410fc653294e2", func := "anvil/anvillaw01.LimbDivides", spec := "limbDivides", inPlace := ["internal/bytealg.IndexByteString", "internal/bytealg.IndexString", "internal/abi.NoEscape"], unfollowed := true, recurses := true, named := ["unicode/utf8.first", "unicode/utf8.acceptRanges", "internal/bytealg.MaxLen"], apart := false, laid := [("unicode/utf8.acceptRanges", laid_unicode_utf8_acceptRanges), ("unicode/utf8.first", laid_unicode_utf8_first)] }
def LimbDividesSaid : Prop := limbDividesRow.holds Tryd.pinned (OpenSpec.ofChange limbDividesSpec)

/-- ITS FALSE NEIGHBOUR: 'it returns false'. Refute it at one input. -/
def limbDividesWrong : ChangeSpec := { name := "limbDivides", fn := fun _ => fun
  | [d1, d2, d3] => { results := [.lit (.bool false)], args := [d1, d2, d3] }
  | _ => none }
def LimbDividesWrongFalsely : Prop := limbDividesRow.holds Tryd.pinned (OpenSpec.ofChange limbDividesWrong)

/-- 'anvillaw01.LimbProducts': WHATEVER THE INPUT: true; the input reads as it did. -/
def limbProductsSpec : ChangeSpec := { name := "limbProducts", fn := fun _ => fun
  | [d1, d2, d3] => { results := [.lit (.bool true)], args := [d1, d2, d3] }
  | _ => none }
def limbProductsRow : OpenClaim := { program := "ytnldopjbiacbfaadoor", sum := "830e115428ef6df2bd48f1fe0be4e8abe2b40a054facd57c8eb410fc653294e2", func := "anvil/anvillaw01.LimbProducts", spec := "limbProducts", inPlace := ["internal/bytealg.IndexByteString", "internal/bytealg.IndexString", "internal/abi.NoEscape"], unfollowed := true, recurses := true, named := ["unicode/utf8.first", "unicode/utf8.acceptRanges", "internal/bytealg.MaxLen"], apart := false, laid := [("unicode/utf8.acceptRanges", laid_unicode_utf8_acceptRanges), ("unicode/utf8.first", laid_unicode_utf8_first)] }
def LimbProductsSaid : Prop := limbProductsRow.holds Tryd.pinned (OpenSpec.ofChange limbProductsSpec)

/-- ITS FALSE NEIGHBOUR: 'it returns false'. Refute it at one input. -/
def limbProductsWrong : ChangeSpec := { name := "limbProducts", fn := fun _ => fun
  | [d1, d2, d3] => { results := [.lit (.bool false)], args := [d1, d2, d3] }
  | _ => none }
def LimbProductsWrongFalsely : Prop := limbProductsRow.holds Tryd.pinned (OpenSpec.ofChange limbProductsWrong)

/-- 'anvillaw01.LimbShifts': WHATEVER THE INPUT: true; the input reads as it did. -/
def limbShiftsSpec : ChangeSpec := { name := "limbShifts", fn := fun _ => fun
  | [d1, d2] => { results := [.lit (.bool true)], args := [d1, d2] }
  | _ => none }
def limbShiftsRow : OpenClaim := { program := "ytnldopjbiacbfaadoor", sum := "830e115428ef6df2bd48f1fe0be4e8abe2b40a054facd57c8eb410fc653294e2", func := "anvil/anvillaw01.LimbShifts", spec := "limbShifts", inPlace := ["internal/bytealg.IndexByteString", "internal/bytealg.IndexString", "internal/abi.NoEscape"], unfollowed := true, recurses := true, named := ["unicode/utf8.first", "unicode/utf8.acceptRanges", "math/bits.deBruijn32tab", "internal/bytealg.MaxLen"], apart := false, laid := [("math/bits.deBruijn32tab", laid_math_bits_deBruijn32tab), ("unicode/utf8.acceptRanges", laid_unicode_utf8_acceptRanges), ("unicode/utf8.first", laid_unicode_utf8_first)] }
def LimbShiftsSaid : Prop := limbShiftsRow.holds Tryd.pinned (OpenSpec.ofChange limbShiftsSpec)

/-- ITS FALSE NEIGHBOUR: 'it returns false'. Refute it at one input. -/
def limbShiftsWrong : ChangeSpec := { name := "limbShifts", fn := fun _ => fun
  | [d1, d2] => { results := [.lit (.bool false)], args := [d1, d2] }
  | _ => none }
def LimbShiftsWrongFalsely : Prop := limbShiftsRow.holds Tryd.pinned (OpenSpec.ofChange limbShiftsWrong)

/-- 'anvillaw01.LimbBack': WHATEVER THE INPUT: true; the input reads as it did. -/
def limbBackSpec : ChangeSpec := { name := "limbBack", fn := fun _ => fun
  | [d1, d2, d3] => { results := [.lit (.bool true)], args := [d1, d2, d3] }
  | _ => none }
def limbBackRow : OpenClaim := { program := "ytnldopjbiacbfaadoor", sum := "830e115428ef6df2bd48f1fe0be4e8abe2b40a054facd57c8eb410fc653294e2", func := "anvil/anvillaw01.LimbBack", spec := "limbBack", inPlace := ["internal/bytealg.IndexByteString", "internal/bytealg.IndexString", "internal/abi.NoEscape"], named := ["unicode/utf8.first", "unicode/utf8.acceptRanges", "math/bits.deBruijn32tab", "internal/bytealg.MaxLen"], apart := false, laid := [("math/bits.deBruijn32tab", laid_math_bits_deBruijn32tab), ("unicode/utf8.acceptRanges", laid_unicode_utf8_acceptRanges), ("unicode/utf8.first", laid_unicode_utf8_first)] }
def LimbBackSaid : Prop := limbBackRow.holds Tryd.pinned (OpenSpec.ofChange limbBackSpec)

/-- ITS FALSE NEIGHBOUR: 'it returns false'. Refute it at one input. -/
def limbBackWrong : ChangeSpec := { name := "limbBack", fn := fun _ => fun
  | [d1, d2, d3] => { results := [.lit (.bool false)], args := [d1, d2, d3] }
  | _ => none }
def LimbBackWrongFalsely : Prop := limbBackRow.holds Tryd.pinned (OpenSpec.ofChange limbBackWrong)

/-- 'anvillaw01.LimbTexts': WHATEVER THE INPUT: true; the input reads as it did. -/
def limbTextsSpec : ChangeSpec := { name := "limbTexts", fn := fun _ => fun
  | [d1, d2, d3] => { results := [.lit (.bool true)], args := [d1, d2, d3] }
  | _ => none }
def limbTextsRow : OpenClaim := { program := "ytnldopjbiacbfaadoor", sum := "830e115428ef6df2bd48f1fe0be4e8abe2b40a054facd57c8eb410fc653294e2", func := "anvil/anvillaw01.LimbTexts", spec := "limbTexts", inPlace := ["internal/bytealg.IndexByteString", "internal/bytealg.IndexString", "internal/abi.NoEscape"], unfollowed := true, recurses := true, named := ["unicode/utf8.first", "unicode/utf8.acceptRanges", "internal/bytealg.MaxLen"], apart := false, laid := [("unicode/utf8.acceptRanges", laid_unicode_utf8_acceptRanges), ("unicode/utf8.first", laid_unicode_utf8_first)] }
def LimbTextsSaid : Prop := limbTextsRow.holds Tryd.pinned (OpenSpec.ofChange limbTextsSpec)

/-- ITS FALSE NEIGHBOUR: 'it returns false'. Refute it at one input. -/
def limbTextsWrong : ChangeSpec := { name := "limbTexts", fn := fun _ => fun
  | [d1, d2, d3] => { results := [.lit (.bool false)], args := [d1, d2, d3] }
  | _ => none }
def LimbTextsWrongFalsely : Prop := limbTextsRow.holds Tryd.pinned (OpenSpec.ofChange limbTextsWrong)

/-- 'anvillaw01.LimbKnown': WHATEVER THE INPUT: true; the input reads as it did. -/
def limbKnownSpec : ChangeSpec := { name := "limbKnown", fn := fun _ => fun
  | [] => { results := [.lit (.bool true)], args := [] }
  | _ => none }
def limbKnownRow : OpenClaim := { program := "ytnldopjbiacbfaadoor", sum := "830e115428ef6df2bd48f1fe0be4e8abe2b40a054facd57c8eb410fc653294e2", func := "anvil/anvillaw01.LimbKnown", spec := "limbKnown", inPlace := ["internal/bytealg.IndexByteString", "internal/bytealg.IndexString", "internal/abi.NoEscape"], named := ["unicode/utf8.first", "unicode/utf8.acceptRanges", "math/bits.deBruijn32tab", "internal/bytealg.MaxLen"], apart := false, laid := [("math/bits.deBruijn32tab", laid_math_bits_deBruijn32tab), ("unicode/utf8.acceptRanges", laid_unicode_utf8_acceptRanges), ("unicode/utf8.first", laid_unicode_utf8_first)] }
def LimbKnownSaid : Prop := limbKnownRow.holds Tryd.pinned (OpenSpec.ofChange limbKnownSpec)

/-- ITS FALSE NEIGHBOUR: 'it returns false'. Refute it at one input. -/
def limbKnownWrong : ChangeSpec := { name := "limbKnown", fn := fun _ => fun
  | [] => { results := [.lit (.bool false)], args := [] }
  | _ => none }
def LimbKnownWrongFalsely : Prop := limbKnownRow.holds Tryd.pinned (OpenSpec.ofChange limbKnownWrong)

/-- 'anvillaw02.IntegerNames': WHATEVER THE INPUT: true; the input reads as it did. -/
def integerNamesSpec : ChangeSpec := { name := "integerNames", fn := fun _ => fun
  | [] => { results := [.lit (.bool true)], args := [] }
  | _ => none }
def integerNamesRow : OpenClaim := { program := "ytnldopjbiacbfaadoor", sum := "830e115428ef6df2bd48f1fe0be4e8abe2b40a054facd57c8eb410fc653294e2", func := "anvil/anvillaw02.IntegerNames", spec := "integerNames", inPlace := ["internal/bytealg.IndexByteString", "internal/bytealg.IndexString", "internal/abi.NoEscape"], unfollowed := true, recurses := true, named := ["unicode/utf8.first", "unicode/utf8.acceptRanges", "math/bits.deBruijn32tab", "internal/bytealg.MaxLen"], apart := false, laid := [("math/bits.deBruijn32tab", laid_math_bits_deBruijn32tab), ("unicode/utf8.acceptRanges", laid_unicode_utf8_acceptRanges), ("unicode/utf8.first", laid_unicode_utf8_first)] }
def IntegerNamesSaid : Prop := integerNamesRow.holds Tryd.pinned (OpenSpec.ofChange integerNamesSpec)

/-- ITS FALSE NEIGHBOUR: 'it returns false'. Refute it at one input. -/
def integerNamesWrong : ChangeSpec := { name := "integerNames", fn := fun _ => fun
  | [] => { results := [.lit (.bool false)], args := [] }
  | _ => none }
def IntegerNamesWrongFalsely : Prop := integerNamesRow.holds Tryd.pinned (OpenSpec.ofChange integerNamesWrong)

/- THE SECOND FORM. 'bulk': how many values and letters a reading holds, each counted each time it is reached (what is shared counts as often as it is met; a slice's spare places count too). A statement '..UptoSaid' is the law's where the arguments, and the package variables that the reading takes, are together of bulk at most 1048576: NARROWER than '..Said'. Prove '..Said' where nothing that the law and all that it calls make is longer than what came in: it says more and counts as full. Else prove '..UptoSaid'. A law counts once. -/
mutual
def uptoBulk {H : Type} : DataW H → Nat
  | .lit (.string bytes) => bytes.length + 1
  | .lit _ => 1
  | .nil => 1
  | .ptr d => uptoBulk d + 1
  | .slice elems spare => uptoBulkAll elems + uptoBulkAll spare + 1
  | .agg parts => uptoBulkAll parts + 1
  | .iface _ d => uptoBulk d + 1
  | .map entries => uptoBulkEntries entries + 1
  | .held _ => 1
def uptoBulkAll {H : Type} : List (DataW H) → Nat
  | [] => 0
  | d :: r => uptoBulk d + uptoBulkAll r
def uptoBulkEntries {H : Type} : List (Lit × DataW H) → Nat
  | [] => 0
  | x :: r => uptoBulkEntry x + uptoBulkEntries r
def uptoBulkEntry {H : Type} : Lit × DataW H → Nat
  | (.string bytes, d) => bytes.length + uptoBulk d + 1
  | (_, d) => uptoBulk d + 1
 end
def uptoSmall : (H : Type) → List (DataW H) → Bool := fun _ ds => decide (uptoBulkAll ds ≤ 1048576)
def OpenSpec.upto (s : _root_.Go.ChangeSpec) : _root_.Go.OpenSpec := { _root_.Go.OpenSpec.ofChange s with cond := some uptoSmall }

/-- 'anvillaw02.IntegerTwos', WHERE WHAT IT READS IS OF BULK AT MOST 1048576: true; the input reads as it did. -/
def integerTwosUptoRow : OpenClaim := { program := "ytnldopjbiacbfaadoor", sum := "830e115428ef6df2bd48f1fe0be4e8abe2b40a054facd57c8eb410fc653294e2", func := "anvil/anvillaw02.IntegerTwos", spec := "integerTwos", named := ["math/bits.deBruijn32tab"], apart := false, laid := [("math/bits.deBruijn32tab", laid_math_bits_deBruijn32tab)], narrowed := true }
def IntegerTwosUptoSaid : Prop := integerTwosUptoRow.holds Tryd.pinned (OpenSpec.upto integerTwosSpec)

/-- 'anvillaw01.LimbWhole', WHERE WHAT IT READS IS OF BULK AT MOST 1048576: true; the input reads as it did. -/
def limbWholeUptoRow : OpenClaim := { program := "ytnldopjbiacbfaadoor", sum := "830e115428ef6df2bd48f1fe0be4e8abe2b40a054facd57c8eb410fc653294e2", func := "anvil/anvillaw01.LimbWhole", spec := "limbWhole", inPlace := ["internal/bytealg.IndexByteString", "internal/bytealg.IndexString", "internal/abi.NoEscape"], named := ["unicode/utf8.first", "unicode/utf8.acceptRanges", "internal/bytealg.MaxLen"], apart := false, laid := [("unicode/utf8.acceptRanges", laid_unicode_utf8_acceptRanges), ("unicode/utf8.first", laid_unicode_utf8_first)], narrowed := true }
def LimbWholeUptoSaid : Prop := limbWholeUptoRow.holds Tryd.pinned (OpenSpec.upto limbWholeSpec)

/-- 'anvillaw02.IntegerTexts', WHERE WHAT IT READS IS OF BULK AT MOST 1048576: true; the input reads as it did. -/
def integerTextsUptoRow : OpenClaim := { program := "ytnldopjbiacbfaadoor", sum := "830e115428ef6df2bd48f1fe0be4e8abe2b40a054facd57c8eb410fc653294e2", func := "anvil/anvillaw02.IntegerTexts", spec := "integerTexts", inPlace := ["internal/bytealg.IndexByteString", "internal/bytealg.IndexString", "internal/abi.NoEscape"], unfollowed := true, recurses := true, named := ["unicode/utf8.first", "unicode/utf8.acceptRanges", "internal/bytealg.MaxLen"], apart := false, laid := [("unicode/utf8.acceptRanges", laid_unicode_utf8_acceptRanges), ("unicode/utf8.first", laid_unicode_utf8_first)], narrowed := true }
def IntegerTextsUptoSaid : Prop := integerTextsUptoRow.holds Tryd.pinned (OpenSpec.upto integerTextsSpec)

/-- 'anvillaw01.LimbDivisor', WHERE WHAT IT READS IS OF BULK AT MOST 1048576: true; the input reads as it did. -/
def limbDivisorUptoRow : OpenClaim := { program := "ytnldopjbiacbfaadoor", sum := "830e115428ef6df2bd48f1fe0be4e8abe2b40a054facd57c8eb410fc653294e2", func := "anvil/anvillaw01.LimbDivisor", spec := "limbDivisor", inPlace := ["internal/bytealg.IndexByteString", "internal/bytealg.IndexString", "internal/abi.NoEscape"], named := ["unicode/utf8.first", "unicode/utf8.acceptRanges", "internal/bytealg.MaxLen"], apart := false, laid := [("unicode/utf8.acceptRanges", laid_unicode_utf8_acceptRanges), ("unicode/utf8.first", laid_unicode_utf8_first)], narrowed := true }
def LimbDivisorUptoSaid : Prop := limbDivisorUptoRow.holds Tryd.pinned (OpenSpec.upto limbDivisorSpec)

/-- 'anvillaw02.IntegerReads', WHERE WHAT IT READS IS OF BULK AT MOST 1048576: true; the input reads as it did. -/
def integerReadsUptoRow : OpenClaim := { program := "ytnldopjbiacbfaadoor", sum := "830e115428ef6df2bd48f1fe0be4e8abe2b40a054facd57c8eb410fc653294e2", func := "anvil/anvillaw02.IntegerReads", spec := "integerReads", inPlace := ["internal/bytealg.IndexByteString", "internal/bytealg.IndexString", "internal/abi.NoEscape"], unfollowed := true, recurses := true, named := ["unicode/utf8.first", "unicode/utf8.acceptRanges", "internal/bytealg.MaxLen"], apart := false, laid := [("unicode/utf8.acceptRanges", laid_unicode_utf8_acceptRanges), ("unicode/utf8.first", laid_unicode_utf8_first)], narrowed := true }
def IntegerReadsUptoSaid : Prop := integerReadsUptoRow.holds Tryd.pinned (OpenSpec.upto integerReadsSpec)

/-- 'anvillaw01.LimbGcds', WHERE WHAT IT READS IS OF BULK AT MOST 1048576: true; the input reads as it did. -/
def limbGcdsUptoRow : OpenClaim := { program := "ytnldopjbiacbfaadoor", sum := "830e115428ef6df2bd48f1fe0be4e8abe2b40a054facd57c8eb410fc653294e2", func := "anvil/anvillaw01.LimbGcds", spec := "limbGcds", inPlace := ["internal/bytealg.IndexByteString", "internal/bytealg.IndexString", "internal/abi.NoEscape"], named := ["unicode/utf8.first", "unicode/utf8.acceptRanges", "internal/bytealg.MaxLen"], apart := false, laid := [("unicode/utf8.acceptRanges", laid_unicode_utf8_acceptRanges), ("unicode/utf8.first", laid_unicode_utf8_first)], narrowed := true }
def LimbGcdsUptoSaid : Prop := limbGcdsUptoRow.holds Tryd.pinned (OpenSpec.upto limbGcdsSpec)

/-- 'anvillaw01.LimbRing', WHERE WHAT IT READS IS OF BULK AT MOST 1048576: true; the input reads as it did. -/
def limbRingUptoRow : OpenClaim := { program := "ytnldopjbiacbfaadoor", sum := "830e115428ef6df2bd48f1fe0be4e8abe2b40a054facd57c8eb410fc653294e2", func := "anvil/anvillaw01.LimbRing", spec := "limbRing", inPlace := ["internal/bytealg.IndexByteString", "internal/bytealg.IndexString", "internal/abi.NoEscape"], named := ["unicode/utf8.first", "unicode/utf8.acceptRanges", "internal/bytealg.MaxLen"], apart := false, laid := [("unicode/utf8.acceptRanges", laid_unicode_utf8_acceptRanges), ("unicode/utf8.first", laid_unicode_utf8_first)], narrowed := true }
def LimbRingUptoSaid : Prop := limbRingUptoRow.holds Tryd.pinned (OpenSpec.upto limbRingSpec)

/-- 'anvillaw01.LimbDivides', WHERE WHAT IT READS IS OF BULK AT MOST 1048576: true; the input reads as it did. -/
def limbDividesUptoRow : OpenClaim := { program := "ytnldopjbiacbfaadoor", sum := "830e115428ef6df2bd48f1fe0be4e8abe2b40a054facd57c8eb410fc653294e2", func := "anvil/anvillaw01.LimbDivides", spec := "limbDivides", inPlace := ["internal/bytealg.IndexByteString", "internal/bytealg.IndexString", "internal/abi.NoEscape"], unfollowed := true, recurses := true, named := ["unicode/utf8.first", "unicode/utf8.acceptRanges", "internal/bytealg.MaxLen"], apart := false, laid := [("unicode/utf8.acceptRanges", laid_unicode_utf8_acceptRanges), ("unicode/utf8.first", laid_unicode_utf8_first)], narrowed := true }
def LimbDividesUptoSaid : Prop := limbDividesUptoRow.holds Tryd.pinned (OpenSpec.upto limbDividesSpec)

/-- 'anvillaw01.LimbProducts', WHERE WHAT IT READS IS OF BULK AT MOST 1048576: true; the input reads as it did. -/
def limbProductsUptoRow : OpenClaim := { program := "ytnldopjbiacbfaadoor", sum := "830e115428ef6df2bd48f1fe0be4e8abe2b40a054facd57c8eb410fc653294e2", func := "anvil/anvillaw01.LimbProducts", spec := "limbProducts", inPlace := ["internal/bytealg.IndexByteString", "internal/bytealg.IndexString", "internal/abi.NoEscape"], unfollowed := true, recurses := true, named := ["unicode/utf8.first", "unicode/utf8.acceptRanges", "internal/bytealg.MaxLen"], apart := false, laid := [("unicode/utf8.acceptRanges", laid_unicode_utf8_acceptRanges), ("unicode/utf8.first", laid_unicode_utf8_first)], narrowed := true }
def LimbProductsUptoSaid : Prop := limbProductsUptoRow.holds Tryd.pinned (OpenSpec.upto limbProductsSpec)

/-- 'anvillaw01.LimbShifts', WHERE WHAT IT READS IS OF BULK AT MOST 1048576: true; the input reads as it did. -/
def limbShiftsUptoRow : OpenClaim := { program := "ytnldopjbiacbfaadoor", sum := "830e115428ef6df2bd48f1fe0be4e8abe2b40a054facd57c8eb410fc653294e2", func := "anvil/anvillaw01.LimbShifts", spec := "limbShifts", inPlace := ["internal/bytealg.IndexByteString", "internal/bytealg.IndexString", "internal/abi.NoEscape"], unfollowed := true, recurses := true, named := ["unicode/utf8.first", "unicode/utf8.acceptRanges", "math/bits.deBruijn32tab", "internal/bytealg.MaxLen"], apart := false, laid := [("math/bits.deBruijn32tab", laid_math_bits_deBruijn32tab), ("unicode/utf8.acceptRanges", laid_unicode_utf8_acceptRanges), ("unicode/utf8.first", laid_unicode_utf8_first)], narrowed := true }
def LimbShiftsUptoSaid : Prop := limbShiftsUptoRow.holds Tryd.pinned (OpenSpec.upto limbShiftsSpec)

/-- 'anvillaw01.LimbBack', WHERE WHAT IT READS IS OF BULK AT MOST 1048576: true; the input reads as it did. -/
def limbBackUptoRow : OpenClaim := { program := "ytnldopjbiacbfaadoor", sum := "830e115428ef6df2bd48f1fe0be4e8abe2b40a054facd57c8eb410fc653294e2", func := "anvil/anvillaw01.LimbBack", spec := "limbBack", inPlace := ["internal/bytealg.IndexByteString", "internal/bytealg.IndexString", "internal/abi.NoEscape"], named := ["unicode/utf8.first", "unicode/utf8.acceptRanges", "math/bits.deBruijn32tab", "internal/bytealg.MaxLen"], apart := false, laid := [("math/bits.deBruijn32tab", laid_math_bits_deBruijn32tab), ("unicode/utf8.acceptRanges", laid_unicode_utf8_acceptRanges), ("unicode/utf8.first", laid_unicode_utf8_first)], narrowed := true }
def LimbBackUptoSaid : Prop := limbBackUptoRow.holds Tryd.pinned (OpenSpec.upto limbBackSpec)

/-- 'anvillaw01.LimbTexts', WHERE WHAT IT READS IS OF BULK AT MOST 1048576: true; the input reads as it did. -/
def limbTextsUptoRow : OpenClaim := { program := "ytnldopjbiacbfaadoor", sum := "830e115428ef6df2bd48f1fe0be4e8abe2b40a054facd57c8eb410fc653294e2", func := "anvil/anvillaw01.LimbTexts", spec := "limbTexts", inPlace := ["internal/bytealg.IndexByteString", "internal/bytealg.IndexString", "internal/abi.NoEscape"], unfollowed := true, recurses := true, named := ["unicode/utf8.first", "unicode/utf8.acceptRanges", "internal/bytealg.MaxLen"], apart := false, laid := [("unicode/utf8.acceptRanges", laid_unicode_utf8_acceptRanges), ("unicode/utf8.first", laid_unicode_utf8_first)], narrowed := true }
def LimbTextsUptoSaid : Prop := limbTextsUptoRow.holds Tryd.pinned (OpenSpec.upto limbTextsSpec)

/-- 'anvillaw01.LimbKnown', WHERE WHAT IT READS IS OF BULK AT MOST 1048576: true; the input reads as it did. -/
def limbKnownUptoRow : OpenClaim := { program := "ytnldopjbiacbfaadoor", sum := "830e115428ef6df2bd48f1fe0be4e8abe2b40a054facd57c8eb410fc653294e2", func := "anvil/anvillaw01.LimbKnown", spec := "limbKnown", inPlace := ["internal/bytealg.IndexByteString", "internal/bytealg.IndexString", "internal/abi.NoEscape"], named := ["unicode/utf8.first", "unicode/utf8.acceptRanges", "math/bits.deBruijn32tab", "internal/bytealg.MaxLen"], apart := false, laid := [("math/bits.deBruijn32tab", laid_math_bits_deBruijn32tab), ("unicode/utf8.acceptRanges", laid_unicode_utf8_acceptRanges), ("unicode/utf8.first", laid_unicode_utf8_first)], narrowed := true }
def LimbKnownUptoSaid : Prop := limbKnownUptoRow.holds Tryd.pinned (OpenSpec.upto limbKnownSpec)

/-- 'anvillaw02.IntegerNames', WHERE WHAT IT READS IS OF BULK AT MOST 1048576: true; the input reads as it did. -/
def integerNamesUptoRow : OpenClaim := { program := "ytnldopjbiacbfaadoor", sum := "830e115428ef6df2bd48f1fe0be4e8abe2b40a054facd57c8eb410fc653294e2", func := "anvil/anvillaw02.IntegerNames", spec := "integerNames", inPlace := ["internal/bytealg.IndexByteString", "internal/bytealg.IndexString", "internal/abi.NoEscape"], unfollowed := true, recurses := true, named := ["unicode/utf8.first", "unicode/utf8.acceptRanges", "math/bits.deBruijn32tab", "internal/bytealg.MaxLen"], apart := false, laid := [("math/bits.deBruijn32tab", laid_math_bits_deBruijn32tab), ("unicode/utf8.acceptRanges", laid_unicode_utf8_acceptRanges), ("unicode/utf8.first", laid_unicode_utf8_first)], narrowed := true }
def IntegerNamesUptoSaid : Prop := integerNamesUptoRow.holds Tryd.pinned (OpenSpec.upto integerNamesSpec)

end Rows
end Go.Proofs.YtnldopjbiacbfaaDoor
