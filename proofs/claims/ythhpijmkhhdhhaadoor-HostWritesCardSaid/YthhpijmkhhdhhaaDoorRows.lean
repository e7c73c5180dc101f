/-
  NARROWER THAN 'FOR EVERY INPUT', by the rows' own cells (each row's printed sentence says how): NumeralReads: laid · NumeralTexts: laid · NumeralSums: laid · PathKinds: laid · PathDots: laid · PathCuts: laid · EventsRead: laid · EventsWrite: laid · EventsCount: laid · HostKinds: laid · HostUnder: laid · HostReads: laid · HostWrites: laid.
  DERIVED. THE GIVEN ROWS OF THIS SEAT. 13 by the template 'for every input the law returns true; each argument reads behind the call as it read before'; 0 by the template 'total and deterministic' (their statements: YthhpijmkhhdhhaaDoorTotals.lean).
  GIVEN WITH THE SEED: the statements are not yours to turn. If you find one false, say at which input.
  Laid BY PROGRAM, IN A SANDBOX (cutbox-rows.mjs): the forced cells as the released guide's own fill.sh prints them over the translation 9f0915027c44549a… (all of the seat's roots in one cut). By AI agents, Wed Nov 11 2026. No macro, syntax, notation, axiom, sorry.
-/
import Derived.Test.YthhpijmkhhdhhaaDoorChecked
import GoSem.PinnedTables
import GoSem.Claim
import GoSem.ClaimJoined
import GoSem.ClaimMapViews
import Derived.JoinedTies
import Derived.KernelRfl
namespace Go.Proofs.YthhpijmkhhdhhaaDoor
/- THE CELL 'sum', in the pinned program and in every row, IS THE sha256 OF THE DUMP (.gsa) THAT YthhpijmkhhdhhaaDoorProg.lean LOADS. Nothing in Lean hashes anything: it is a label: what it is worth is what the hold of that sum in a sandbox is worth. -/
noncomputable def Tryd.pinned : Pinned := { name := "ythhpijmkhhdhhaadoor", sum := "9f0915027c44549af4fb7383bb35d08797f92c7ec0400e13f9c3c5e83fc9394d", checked := Tryd.checked }
namespace Rows
def none {H : Type} : Left H := { results := [], args := [] }

/- WHAT THE LISTED PACKAGE-LEVEL VARIABLES READ AS WHEN THE CALL BEGINS. Each datum BY PROGRAM (the guide's laid-datum.mjs) off the statement by which the dump's own 'gosem.cut.vars' lays the variable. In a bare row this is a premise. The card (YthhpijmkhhdhhaaDoorCards.lean) ties it to the program's text. -/
def laid_math_bits_deBruijn32tab {H : Type} : DataW H := .agg [.lit (.int .u8 0), .lit (.int .u8 1), .lit (.int .u8 28), .lit (.int .u8 2), .lit (.int .u8 29), .lit (.int .u8 14), .lit (.int .u8 24), .lit (.int .u8 3), .lit (.int .u8 30), .lit (.int .u8 22), .lit (.int .u8 20), .lit (.int .u8 15), .lit (.int .u8 25), .lit (.int .u8 17), .lit (.int .u8 4), .lit (.int .u8 8), .lit (.int .u8 31), .lit (.int .u8 27), .lit (.int .u8 13), .lit (.int .u8 23), .lit (.int .u8 21), .lit (.int .u8 19), .lit (.int .u8 16), .lit (.int .u8 7), .lit (.int .u8 26), .lit (.int .u8 12), .lit (.int .u8 18), .lit (.int .u8 6), .lit (.int .u8 11), .lit (.int .u8 5), .lit (.int .u8 10), .lit (.int .u8 9)]
def laid_math_bits_deBruijn64tab {H : Type} : DataW H := .agg [.lit (.int .u8 0), .lit (.int .u8 1), .lit (.int .u8 56), .lit (.int .u8 2), .lit (.int .u8 57), .lit (.int .u8 49), .lit (.int .u8 28), .lit (.int .u8 3), .lit (.int .u8 61), .lit (.int .u8 58), .lit (.int .u8 42), .lit (.int .u8 50), .lit (.int .u8 38), .lit (.int .u8 29), .lit (.int .u8 17), .lit (.int .u8 4), .lit (.int .u8 62), .lit (.int .u8 47), .lit (.int .u8 59), .lit (.int .u8 36), .lit (.int .u8 45), .lit (.int .u8 43), .lit (.int .u8 51), .lit (.int .u8 22), .lit (.int .u8 53), .lit (.int .u8 39), .lit (.int .u8 33), .lit (.int .u8 30), .lit (.int .u8 24), .lit (.int .u8 18), .lit (.int .u8 12), .lit (.int .u8 5), .lit (.int .u8 63), .lit (.int .u8 55), .lit (.int .u8 48), .lit (.int .u8 27), .lit (.int .u8 60), .lit (.int .u8 41), .lit (.int .u8 37), .lit (.int .u8 16), .lit (.int .u8 46), .lit (.int .u8 35), .lit (.int .u8 44), .lit (.int .u8 21), .lit (.int .u8 52), .lit (.int .u8 32), .lit (.int .u8 23), .lit (.int .u8 11), .lit (.int .u8 54), .lit (.int .u8 26), .lit (.int .u8 40), .lit (.int .u8 15), .lit (.int .u8 34), .lit (.int .u8 20), .lit (.int .u8 31), .lit (.int .u8 10), .lit (.int .u8 25), .lit (.int .u8 14), .lit (.int .u8 19), .lit (.int .u8 9), .lit (.int .u8 13), .lit (.int .u8 8), .lit (.int .u8 7), .lit (.int .u8 6)]
def laid_internal_strconv_uint64pow10 {H : Type} : DataW H := .agg [.lit (.int .u64 1), .lit (.int .u64 10), .lit (.int .u64 100), .lit (.int .u64 1000), .lit (.int .u64 10000), .lit (.int .u64 100000), .lit (.int .u64 1000000), .lit (.int .u64 10000000), .lit (.int .u64 100000000), .lit (.int .u64 1000000000), .lit (.int .u64 10000000000), .lit (.int .u64 100000000000), .lit (.int .u64 1000000000000), .lit (.int .u64 10000000000000), .lit (.int .u64 100000000000000), .lit (.int .u64 1000000000000000), .lit (.int .u64 10000000000000000), .lit (.int .u64 100000000000000000), .lit (.int .u64 1000000000000000000), .lit (.int .u64 10000000000000000000)]
def laid_unicode_utf8_acceptRanges {H : Type} : DataW H := .agg [.agg [.lit (.int .u8 128), .lit (.int .u8 191)], .agg [.lit (.int .u8 160), .lit (.int .u8 191)], .agg [.lit (.int .u8 128), .lit (.int .u8 159)], .agg [.lit (.int .u8 144), .lit (.int .u8 191)], .agg [.lit (.int .u8 128), .lit (.int .u8 143)], .agg [.lit (.int .u8 0), .lit (.int .u8 0)], .agg [.lit (.int .u8 0), .lit (.int .u8 0)], .agg [.lit (.int .u8 0), .lit (.int .u8 0)], .agg [.lit (.int .u8 0), .lit (.int .u8 0)], .agg [.lit (.int .u8 0), .lit (.int .u8 0)], .agg [.lit (.int .u8 0), .lit (.int .u8 0)], .agg [.lit (.int .u8 0), .lit (.int .u8 0)], .agg [.lit (.int .u8 0), .lit (.int .u8 0)], .agg [.lit (.int .u8 0), .lit (.int .u8 0)], .agg [.lit (.int .u8 0), .lit (.int .u8 0)], .agg [.lit (.int .u8 0), .lit (.int .u8 0)]]
/-- One of Go's own tables, pinned by name: the form's constant. -/
def laid_unicode_utf8_first : DataW Unit := Go.Pinned.utf8First

/-- 'doorsteplaw03.NumeralReads': WHATEVER THE INPUT: true; the input reads as it did. -/
def numeralReadsSpec : ChangeSpec := { name := "numeralReads", fn := fun _ => fun
  | [d1, d2] => { results := [.lit (.bool true)], args := [d1, d2] }
  | _ => none }
def numeralReadsRow : OpenClaim := { program := "ythhpijmkhhdhhaadoor", sum := "9f0915027c44549af4fb7383bb35d08797f92c7ec0400e13f9c3c5e83fc9394d", func := "doorstep/doorsteplaw03.NumeralReads", spec := "numeralReads", unfollowed := true, recurses := true, named := ["internal/strconv.uint64pow10", "math/bits.deBruijn32tab", "math/bits.deBruijn64tab"], apart := false, laid := [("math/bits.deBruijn32tab", laid_math_bits_deBruijn32tab), ("math/bits.deBruijn64tab", laid_math_bits_deBruijn64tab), ("internal/strconv.uint64pow10", laid_internal_strconv_uint64pow10)] }
def NumeralReadsSaid : Prop := numeralReadsRow.holds Tryd.pinned (OpenSpec.ofChange numeralReadsSpec)

/-- ITS FALSE NEIGHBOUR: 'it returns false'. Refute it at one input. -/
def numeralReadsWrong : ChangeSpec := { name := "numeralReads", fn := fun _ => fun
  | [d1, d2] => { results := [.lit (.bool false)], args := [d1, d2] }
  | _ => none }
def NumeralReadsWrongFalsely : Prop := numeralReadsRow.holds Tryd.pinned (OpenSpec.ofChange numeralReadsWrong)

/-- 'doorsteplaw03.NumeralTexts': WHATEVER THE INPUT: true; the input reads as it did. -/
def numeralTextsSpec : ChangeSpec := { name := "numeralTexts", fn := fun _ => fun
  | [d1, d2] => { results := [.lit (.bool true)], args := [d1, d2] }
  | _ => none }
def numeralTextsRow : OpenClaim := { program := "ythhpijmkhhdhhaadoor", sum := "9f0915027c44549af4fb7383bb35d08797f92c7ec0400e13f9c3c5e83fc9394d", func := "doorstep/doorsteplaw03.NumeralTexts", spec := "numeralTexts", unfollowed := true, recurses := true, named := ["internal/strconv.uint64pow10", "math/bits.deBruijn32tab", "math/bits.deBruijn64tab"], apart := false, laid := [("math/bits.deBruijn32tab", laid_math_bits_deBruijn32tab), ("math/bits.deBruijn64tab", laid_math_bits_deBruijn64tab), ("internal/strconv.uint64pow10", laid_internal_strconv_uint64pow10)] }
def NumeralTextsSaid : Prop := numeralTextsRow.holds Tryd.pinned (OpenSpec.ofChange numeralTextsSpec)

/-- ITS FALSE NEIGHBOUR: 'it returns false'. Refute it at one input. -/
def numeralTextsWrong : ChangeSpec := { name := "numeralTexts", fn := fun _ => fun
  | [d1, d2] => { results := [.lit (.bool false)], args := [d1, d2] }
  | _ => none }
def NumeralTextsWrongFalsely : Prop := numeralTextsRow.holds Tryd.pinned (OpenSpec.ofChange numeralTextsWrong)

/-- 'doorsteplaw03.NumeralSums': WHATEVER THE INPUT: true; the input reads as it did. -/
def numeralSumsSpec : ChangeSpec := { name := "numeralSums", fn := fun _ => fun
  | [d1, d2] => { results := [.lit (.bool true)], args := [d1, d2] }
  | _ => none }
def numeralSumsRow : OpenClaim := { program := "ythhpijmkhhdhhaadoor", sum := "9f0915027c44549af4fb7383bb35d08797f92c7ec0400e13f9c3c5e83fc9394d", func := "doorstep/doorsteplaw03.NumeralSums", spec := "numeralSums", unfollowed := true, recurses := true, named := ["internal/strconv.uint64pow10", "math/bits.deBruijn32tab", "math/bits.deBruijn64tab"], apart := false, laid := [("math/bits.deBruijn32tab", laid_math_bits_deBruijn32tab), ("math/bits.deBruijn64tab", laid_math_bits_deBruijn64tab), ("internal/strconv.uint64pow10", laid_internal_strconv_uint64pow10)] }
def NumeralSumsSaid : Prop := numeralSumsRow.holds Tryd.pinned (OpenSpec.ofChange numeralSumsSpec)

/-- ITS FALSE NEIGHBOUR: 'it returns false'. Refute it at one input. -/
def numeralSumsWrong : ChangeSpec := { name := "numeralSums", fn := fun _ => fun
  | [d1, d2] => { results := [.lit (.bool false)], args := [d1, d2] }
  | _ => none }
def NumeralSumsWrongFalsely : Prop := numeralSumsRow.holds Tryd.pinned (OpenSpec.ofChange numeralSumsWrong)

/-- 'doorsteplaw09.PathKinds': WHATEVER THE INPUT: true; the input reads as it did. -/
def pathKindsSpec : ChangeSpec := { name := "pathKinds", fn := fun _ => fun
  | [d] => { results := [.lit (.bool true)], args := [d] }
  | _ => none }
def pathKindsRow : OpenClaim := { program := "ythhpijmkhhdhhaadoor", sum := "9f0915027c44549af4fb7383bb35d08797f92c7ec0400e13f9c3c5e83fc9394d", func := "doorstep/doorsteplaw09.PathKinds", spec := "pathKinds", inPlace := ["internal/bytealg.IndexByteString", "internal/bytealg.IndexString", "internal/bytealg.CountString", "internal/abi.NoEscape", "internal/bytealg.MakeNoZero"], unfollowed := true, recurses := true, named := ["internal/bytealg.MaxLen", "unicode/utf8.first", "unicode/utf8.acceptRanges"], apart := false, laid := [("unicode/utf8.acceptRanges", laid_unicode_utf8_acceptRanges), ("unicode/utf8.first", laid_unicode_utf8_first)] }
def PathKindsSaid : Prop := pathKindsRow.holds Tryd.pinned (OpenSpec.ofChange pathKindsSpec)

/-- ITS FALSE NEIGHBOUR: 'it returns false'. Refute it at one input. -/
def pathKindsWrong : ChangeSpec := { name := "pathKinds", fn := fun _ => fun
  | [d] => { results := [.lit (.bool false)], args := [d] }
  | _ => none }
def PathKindsWrongFalsely : Prop := pathKindsRow.holds Tryd.pinned (OpenSpec.ofChange pathKindsWrong)

/-- 'doorsteplaw09.PathDots': WHATEVER THE INPUT: true; the input reads as it did. -/
def pathDotsSpec : ChangeSpec := { name := "pathDots", fn := fun _ => fun
  | [d] => { results := [.lit (.bool true)], args := [d] }
  | _ => none }
def pathDotsRow : OpenClaim := { program := "ythhpijmkhhdhhaadoor", sum := "9f0915027c44549af4fb7383bb35d08797f92c7ec0400e13f9c3c5e83fc9394d", func := "doorstep/doorsteplaw09.PathDots", spec := "pathDots", inPlace := ["internal/bytealg.IndexByteString", "internal/bytealg.IndexString", "internal/bytealg.CountString", "internal/abi.NoEscape", "internal/bytealg.MakeNoZero"], unfollowed := true, recurses := true, named := ["internal/bytealg.MaxLen", "unicode/utf8.first", "unicode/utf8.acceptRanges"], apart := false, laid := [("unicode/utf8.acceptRanges", laid_unicode_utf8_acceptRanges), ("unicode/utf8.first", laid_unicode_utf8_first)] }
def PathDotsSaid : Prop := pathDotsRow.holds Tryd.pinned (OpenSpec.ofChange pathDotsSpec)

/-- ITS FALSE NEIGHBOUR: 'it returns false'. Refute it at one input. -/
def pathDotsWrong : ChangeSpec := { name := "pathDots", fn := fun _ => fun
  | [d] => { results := [.lit (.bool false)], args := [d] }
  | _ => none }
def PathDotsWrongFalsely : Prop := pathDotsRow.holds Tryd.pinned (OpenSpec.ofChange pathDotsWrong)

/-- 'doorsteplaw09.PathCuts': WHATEVER THE INPUT: true; the input reads as it did. -/
def pathCutsSpec : ChangeSpec := { name := "pathCuts", fn := fun _ => fun
  | [d] => { results := [.lit (.bool true)], args := [d] }
  | _ => none }
def pathCutsRow : OpenClaim := { program := "ythhpijmkhhdhhaadoor", sum := "9f0915027c44549af4fb7383bb35d08797f92c7ec0400e13f9c3c5e83fc9394d", func := "doorstep/doorsteplaw09.PathCuts", spec := "pathCuts", inPlace := ["internal/bytealg.IndexByteString", "internal/bytealg.IndexString", "internal/bytealg.CountString", "internal/abi.NoEscape", "internal/bytealg.MakeNoZero"], unfollowed := true, recurses := true, named := ["internal/bytealg.MaxLen", "unicode/utf8.first", "unicode/utf8.acceptRanges"], apart := false, laid := [("unicode/utf8.acceptRanges", laid_unicode_utf8_acceptRanges), ("unicode/utf8.first", laid_unicode_utf8_first)] }
def PathCutsSaid : Prop := pathCutsRow.holds Tryd.pinned (OpenSpec.ofChange pathCutsSpec)

/-- ITS FALSE NEIGHBOUR: 'it returns false'. Refute it at one input. -/
def pathCutsWrong : ChangeSpec := { name := "pathCuts", fn := fun _ => fun
  | [d] => { results := [.lit (.bool false)], args := [d] }
  | _ => none }
def PathCutsWrongFalsely : Prop := pathCutsRow.holds Tryd.pinned (OpenSpec.ofChange pathCutsWrong)

/-- 'doorsteplaw45.EventsRead': WHATEVER THE INPUT: true; the input reads as it did. -/
def eventsReadSpec : ChangeSpec := { name := "eventsRead", fn := fun _ => fun
  | [d] => { results := [.lit (.bool true)], args := [d] }
  | _ => none }
def eventsReadRow : OpenClaim := { program := "ythhpijmkhhdhhaadoor", sum := "9f0915027c44549af4fb7383bb35d08797f92c7ec0400e13f9c3c5e83fc9394d", func := "doorstep/doorsteplaw45.EventsRead", spec := "eventsRead", inPlace := ["internal/bytealg.IndexByteString", "internal/bytealg.IndexString"], unfollowed := true, recurses := true, named := ["internal/bytealg.MaxLen", "internal/strconv.uint64pow10", "math/bits.deBruijn32tab", "math/bits.deBruijn64tab"], apart := false, laid := [("math/bits.deBruijn32tab", laid_math_bits_deBruijn32tab), ("math/bits.deBruijn64tab", laid_math_bits_deBruijn64tab), ("internal/strconv.uint64pow10", laid_internal_strconv_uint64pow10)] }
def EventsReadSaid : Prop := eventsReadRow.holds Tryd.pinned (OpenSpec.ofChange eventsReadSpec)

/-- ITS FALSE NEIGHBOUR: 'it returns false'. Refute it at one input. -/
def eventsReadWrong : ChangeSpec := { name := "eventsRead", fn := fun _ => fun
  | [d] => { results := [.lit (.bool false)], args := [d] }
  | _ => none }
def EventsReadWrongFalsely : Prop := eventsReadRow.holds Tryd.pinned (OpenSpec.ofChange eventsReadWrong)

/-- 'doorsteplaw45.EventsWrite': WHATEVER THE INPUT: true; the input reads as it did. -/
def eventsWriteSpec : ChangeSpec := { name := "eventsWrite", fn := fun _ => fun
  | [d] => { results := [.lit (.bool true)], args := [d] }
  | _ => none }
def eventsWriteRow : OpenClaim := { program := "ythhpijmkhhdhhaadoor", sum := "9f0915027c44549af4fb7383bb35d08797f92c7ec0400e13f9c3c5e83fc9394d", func := "doorstep/doorsteplaw45.EventsWrite", spec := "eventsWrite", inPlace := ["internal/bytealg.IndexByteString", "internal/bytealg.IndexString"], unfollowed := true, recurses := true, named := ["internal/bytealg.MaxLen", "internal/strconv.uint64pow10", "math/bits.deBruijn32tab", "math/bits.deBruijn64tab"], apart := false, laid := [("math/bits.deBruijn32tab", laid_math_bits_deBruijn32tab), ("math/bits.deBruijn64tab", laid_math_bits_deBruijn64tab), ("internal/strconv.uint64pow10", laid_internal_strconv_uint64pow10)] }
def EventsWriteSaid : Prop := eventsWriteRow.holds Tryd.pinned (OpenSpec.ofChange eventsWriteSpec)

/-- ITS FALSE NEIGHBOUR: 'it returns false'. Refute it at one input. -/
def eventsWriteWrong : ChangeSpec := { name := "eventsWrite", fn := fun _ => fun
  | [d] => { results := [.lit (.bool false)], args := [d] }
  | _ => none }
def EventsWriteWrongFalsely : Prop := eventsWriteRow.holds Tryd.pinned (OpenSpec.ofChange eventsWriteWrong)

/-- 'doorsteplaw45.EventsCount': WHATEVER THE INPUT: true; the input reads as it did. -/
def eventsCountSpec : ChangeSpec := { name := "eventsCount", fn := fun _ => fun
  | [d] => { results := [.lit (.bool true)], args := [d] }
  | _ => none }
def eventsCountRow : OpenClaim := { program := "ythhpijmkhhdhhaadoor", sum := "9f0915027c44549af4fb7383bb35d08797f92c7ec0400e13f9c3c5e83fc9394d", func := "doorstep/doorsteplaw45.EventsCount", spec := "eventsCount", inPlace := ["internal/bytealg.IndexByteString", "internal/bytealg.IndexString"], unfollowed := true, recurses := true, named := ["internal/bytealg.MaxLen", "internal/strconv.uint64pow10", "math/bits.deBruijn32tab", "math/bits.deBruijn64tab"], apart := false, laid := [("math/bits.deBruijn32tab", laid_math_bits_deBruijn32tab), ("math/bits.deBruijn64tab", laid_math_bits_deBruijn64tab), ("internal/strconv.uint64pow10", laid_internal_strconv_uint64pow10)] }
def EventsCountSaid : Prop := eventsCountRow.holds Tryd.pinned (OpenSpec.ofChange eventsCountSpec)

/-- ITS FALSE NEIGHBOUR: 'it returns false'. Refute it at one input. -/
def eventsCountWrong : ChangeSpec := { name := "eventsCount", fn := fun _ => fun
  | [d] => { results := [.lit (.bool false)], args := [d] }
  | _ => none }
def EventsCountWrongFalsely : Prop := eventsCountRow.holds Tryd.pinned (OpenSpec.ofChange eventsCountWrong)

/-- 'doorsteplaw08.HostKinds': WHATEVER THE INPUT: true; the input reads as it did. -/
def hostKindsSpec : ChangeSpec := { name := "hostKinds", fn := fun _ => fun
  | [d] => { results := [.lit (.bool true)], args := [d] }
  | _ => none }
def hostKindsRow : OpenClaim := { program := "ythhpijmkhhdhhaadoor", sum := "9f0915027c44549af4fb7383bb35d08797f92c7ec0400e13f9c3c5e83fc9394d", func := "doorstep/doorsteplaw08.HostKinds", spec := "hostKinds", inPlace := ["internal/bytealg.IndexByteString", "internal/bytealg.IndexString", "internal/bytealg.CountString"], unfollowed := true, recurses := true, named := ["internal/bytealg.MaxLen", "unicode/utf8.first", "unicode/utf8.acceptRanges", "internal/strconv.uint64pow10", "math/bits.deBruijn32tab", "math/bits.deBruijn64tab"], apart := false, laid := [("math/bits.deBruijn32tab", laid_math_bits_deBruijn32tab), ("math/bits.deBruijn64tab", laid_math_bits_deBruijn64tab), ("internal/strconv.uint64pow10", laid_internal_strconv_uint64pow10), ("unicode/utf8.acceptRanges", laid_unicode_utf8_acceptRanges), ("unicode/utf8.first", laid_unicode_utf8_first)] }
def HostKindsSaid : Prop := hostKindsRow.holds Tryd.pinned (OpenSpec.ofChange hostKindsSpec)

/-- ITS FALSE NEIGHBOUR: 'it returns false'. Refute it at one input. -/
def hostKindsWrong : ChangeSpec := { name := "hostKinds", fn := fun _ => fun
  | [d] => { results := [.lit (.bool false)], args := [d] }
  | _ => none }
def HostKindsWrongFalsely : Prop := hostKindsRow.holds Tryd.pinned (OpenSpec.ofChange hostKindsWrong)

/-- 'doorsteplaw08.HostUnder': WHATEVER THE INPUT: true; the input reads as it did. -/
def hostUnderSpec : ChangeSpec := { name := "hostUnder", fn := fun _ => fun
  | [d1, d2, d3] => { results := [.lit (.bool true)], args := [d1, d2, d3] }
  | _ => none }
def hostUnderRow : OpenClaim := { program := "ythhpijmkhhdhhaadoor", sum := "9f0915027c44549af4fb7383bb35d08797f92c7ec0400e13f9c3c5e83fc9394d", func := "doorstep/doorsteplaw08.HostUnder", spec := "hostUnder", inPlace := ["internal/bytealg.IndexByteString", "internal/bytealg.IndexString", "internal/bytealg.CountString"], unfollowed := true, recurses := true, named := ["internal/bytealg.MaxLen", "unicode/utf8.first", "unicode/utf8.acceptRanges", "internal/strconv.uint64pow10", "math/bits.deBruijn32tab", "math/bits.deBruijn64tab"], apart := false, laid := [("math/bits.deBruijn32tab", laid_math_bits_deBruijn32tab), ("math/bits.deBruijn64tab", laid_math_bits_deBruijn64tab), ("internal/strconv.uint64pow10", laid_internal_strconv_uint64pow10), ("unicode/utf8.acceptRanges", laid_unicode_utf8_acceptRanges), ("unicode/utf8.first", laid_unicode_utf8_first)] }
def HostUnderSaid : Prop := hostUnderRow.holds Tryd.pinned (OpenSpec.ofChange hostUnderSpec)

/-- ITS FALSE NEIGHBOUR: 'it returns false'. Refute it at one input. -/
def hostUnderWrong : ChangeSpec := { name := "hostUnder", fn := fun _ => fun
  | [d1, d2, d3] => { results := [.lit (.bool false)], args := [d1, d2, d3] }
  | _ => none }
def HostUnderWrongFalsely : Prop := hostUnderRow.holds Tryd.pinned (OpenSpec.ofChange hostUnderWrong)

/-- 'doorsteplaw08.HostReads': WHATEVER THE INPUT: true; the input reads as it did. -/
def hostReadsSpec : ChangeSpec := { name := "hostReads", fn := fun _ => fun
  | [d] => { results := [.lit (.bool true)], args := [d] }
  | _ => none }
def hostReadsRow : OpenClaim := { program := "ythhpijmkhhdhhaadoor", sum := "9f0915027c44549af4fb7383bb35d08797f92c7ec0400e13f9c3c5e83fc9394d", func := "doorstep/doorsteplaw08.HostReads", spec := "hostReads", inPlace := ["internal/bytealg.IndexByteString", "internal/bytealg.IndexString", "internal/bytealg.CountString", "internal/abi.NoEscape", "internal/bytealg.MakeNoZero"], unfollowed := true, recurses := true, named := ["internal/bytealg.MaxLen", "unicode/utf8.first", "unicode/utf8.acceptRanges", "internal/strconv.uint64pow10", "math/bits.deBruijn32tab", "math/bits.deBruijn64tab"], apart := false, laid := [("math/bits.deBruijn32tab", laid_math_bits_deBruijn32tab), ("math/bits.deBruijn64tab", laid_math_bits_deBruijn64tab), ("internal/strconv.uint64pow10", laid_internal_strconv_uint64pow10), ("unicode/utf8.acceptRanges", laid_unicode_utf8_acceptRanges), ("unicode/utf8.first", laid_unicode_utf8_first)] }
def HostReadsSaid : Prop := hostReadsRow.holds Tryd.pinned (OpenSpec.ofChange hostReadsSpec)

/-- ITS FALSE NEIGHBOUR: 'it returns false'. Refute it at one input. -/
def hostReadsWrong : ChangeSpec := { name := "hostReads", fn := fun _ => fun
  | [d] => { results := [.lit (.bool false)], args := [d] }
  | _ => none }
def HostReadsWrongFalsely : Prop := hostReadsRow.holds Tryd.pinned (OpenSpec.ofChange hostReadsWrong)

/-- 'doorsteplaw08.HostWrites': WHATEVER THE INPUT: true; the input reads as it did. -/
def hostWritesSpec : ChangeSpec := { name := "hostWrites", fn := fun _ => fun
  | [d] => { results := [.lit (.bool true)], args := [d] }
  | _ => none }
def hostWritesRow : OpenClaim := { program := "ythhpijmkhhdhhaadoor", sum := "9f0915027c44549af4fb7383bb35d08797f92c7ec0400e13f9c3c5e83fc9394d", func := "doorstep/doorsteplaw08.HostWrites", spec := "hostWrites", inPlace := ["internal/bytealg.IndexByteString", "internal/bytealg.IndexString", "internal/bytealg.CountString", "internal/abi.NoEscape", "internal/bytealg.MakeNoZero"], unfollowed := true, recurses := true, named := ["internal/bytealg.MaxLen", "unicode/utf8.first", "unicode/utf8.acceptRanges", "internal/strconv.uint64pow10", "math/bits.deBruijn32tab", "math/bits.deBruijn64tab"], apart := false, laid := [("math/bits.deBruijn32tab", laid_math_bits_deBruijn32tab), ("math/bits.deBruijn64tab", laid_math_bits_deBruijn64tab), ("internal/strconv.uint64pow10", laid_internal_strconv_uint64pow10), ("unicode/utf8.acceptRanges", laid_unicode_utf8_acceptRanges), ("unicode/utf8.first", laid_unicode_utf8_first)] }
def HostWritesSaid : Prop := hostWritesRow.holds Tryd.pinned (OpenSpec.ofChange hostWritesSpec)

/-- ITS FALSE NEIGHBOUR: 'it returns false'. Refute it at one input. -/
def hostWritesWrong : ChangeSpec := { name := "hostWrites", fn := fun _ => fun
  | [d] => { results := [.lit (.bool false)], args := [d] }
  | _ => none }
def HostWritesWrongFalsely : Prop := hostWritesRow.holds Tryd.pinned (OpenSpec.ofChange hostWritesWrong)

/- THE SECOND FORM. 'bulk': how many values and letters a reading holds, each counted each time it is reached (what is shared counts as often as it is met; a slice's spare places count too). A statement '..UptoSaid' is the law's where the arguments, and the package variables that the reading takes, are together of bulk at most 1048576: NARROWER than '..Said'. Prove '..Said' where nothing that the law and all that it calls make is longer than what came in: it says more and counts as full. Else prove '..UptoSaid'. A law counts once. -/
mutual
def uptoBulk {H : Type} : DataW H → Nat
  | .lit (.string bytes) => bytes.length + 1
  | .lit _ => 1
  | .nil => 1
  | .ptr d => uptoBulk d + 1
  | .slice elems spare => uptoBulkAll elems + uptoBulkAll spare + 1
  | .agg parts => uptoBulkAll parts + 1
  | .iface _ d => uptoBulk d + 1
  | .map entries => uptoBulkEntries entries + 1
  | .held _ => 1
def uptoBulkAll {H : Type} : List (DataW H) → Nat
  | [] => 0
  | d :: r => uptoBulk d + uptoBulkAll r
def uptoBulkEntries {H : Type} : List (Lit × DataW H) → Nat
  | [] => 0
  | x :: r => uptoBulkEntry x + uptoBulkEntries r
def uptoBulkEntry {H : Type} : Lit × DataW H → Nat
  | (.string bytes, d) => bytes.length + uptoBulk d + 1
  | (_, d) => uptoBulk d + 1
 end
def uptoSmall : (H : Type) → List (DataW H) → Bool := fun _ ds => decide (uptoBulkAll ds ≤ 1048576)
def OpenSpec.upto (s : _root_.Go.ChangeSpec) : _root_.Go.OpenSpec := { _root_.Go.OpenSpec.ofChange s with cond := some uptoSmall }

/-- 'doorsteplaw03.NumeralReads', WHERE WHAT IT READS IS OF BULK AT MOST 1048576: true; the input reads as it did. -/
def numeralReadsUptoRow : OpenClaim := { program := "ythhpijmkhhdhhaadoor", sum := "9f0915027c44549af4fb7383bb35d08797f92c7ec0400e13f9c3c5e83fc9394d", func := "doorstep/doorsteplaw03.NumeralReads", spec := "numeralReads", unfollowed := true, recurses := true, named := ["internal/strconv.uint64pow10", "math/bits.deBruijn32tab", "math/bits.deBruijn64tab"], apart := false, laid := [("math/bits.deBruijn32tab", laid_math_bits_deBruijn32tab), ("math/bits.deBruijn64tab", laid_math_bits_deBruijn64tab), ("internal/strconv.uint64pow10", laid_internal_strconv_uint64pow10)], narrowed := true }
def NumeralReadsUptoSaid : Prop := numeralReadsUptoRow.holds Tryd.pinned (OpenSpec.upto numeralReadsSpec)

/-- 'doorsteplaw03.NumeralTexts', WHERE WHAT IT READS IS OF BULK AT MOST 1048576: true; the input reads as it did. -/
def numeralTextsUptoRow : OpenClaim := { program := "ythhpijmkhhdhhaadoor", sum := "9f0915027c44549af4fb7383bb35d08797f92c7ec0400e13f9c3c5e83fc9394d", func := "doorstep/doorsteplaw03.NumeralTexts", spec := "numeralTexts", unfollowed := true, recurses := true, named := ["internal/strconv.uint64pow10", "math/bits.deBruijn32tab", "math/bits.deBruijn64tab"], apart := false, laid := [("math/bits.deBruijn32tab", laid_math_bits_deBruijn32tab), ("math/bits.deBruijn64tab", laid_math_bits_deBruijn64tab), ("internal/strconv.uint64pow10", laid_internal_strconv_uint64pow10)], narrowed := true }
def NumeralTextsUptoSaid : Prop := numeralTextsUptoRow.holds Tryd.pinned (OpenSpec.upto numeralTextsSpec)

/-- 'doorsteplaw03.NumeralSums', WHERE WHAT IT READS IS OF BULK AT MOST 1048576: true; the input reads as it did. -/
def numeralSumsUptoRow : OpenClaim := { program := "ythhpijmkhhdhhaadoor", sum := "9f0915027c44549af4fb7383bb35d08797f92c7ec0400e13f9c3c5e83fc9394d", func := "doorstep/doorsteplaw03.NumeralSums", spec := "numeralSums", unfollowed := true, recurses := true, named := ["internal/strconv.uint64pow10", "math/bits.deBruijn32tab", "math/bits.deBruijn64tab"], apart := false, laid := [("math/bits.deBruijn32tab", laid_math_bits_deBruijn32tab), ("math/bits.deBruijn64tab", laid_math_bits_deBruijn64tab), ("internal/strconv.uint64pow10", laid_internal_strconv_uint64pow10)], narrowed := true }
def NumeralSumsUptoSaid : Prop := numeralSumsUptoRow.holds Tryd.pinned (OpenSpec.upto numeralSumsSpec)

/-- 'doorsteplaw09.PathKinds', WHERE WHAT IT READS IS OF BULK AT MOST 1048576: true; the input reads as it did. -/
def pathKindsUptoRow : OpenClaim := { program := "ythhpijmkhhdhhaadoor", sum := "9f0915027c44549af4fb7383bb35d08797f92c7ec0400e13f9c3c5e83fc9394d", func := "doorstep/doorsteplaw09.PathKinds", spec := "pathKinds", inPlace := ["internal/bytealg.IndexByteString", "internal/bytealg.IndexString", "internal/bytealg.CountString", "internal/abi.NoEscape", "internal/bytealg.MakeNoZero"], unfollowed := true, recurses := true, named := ["internal/bytealg.MaxLen", "unicode/utf8.first", "unicode/utf8.acceptRanges"], apart := false, laid := [("unicode/utf8.acceptRanges", laid_unicode_utf8_acceptRanges), ("unicode/utf8.first", laid_unicode_utf8_first)], narrowed := true }
def PathKindsUptoSaid : Prop := pathKindsUptoRow.holds Tryd.pinned (OpenSpec.upto pathKindsSpec)

/-- 'doorsteplaw09.PathDots', WHERE WHAT IT READS IS OF BULK AT MOST 1048576: true; the input reads as it did. -/
def pathDotsUptoRow : OpenClaim := { program := "ythhpijmkhhdhhaadoor", sum := "9f0915027c44549af4fb7383bb35d08797f92c7ec0400e13f9c3c5e83fc9394d", func := "doorstep/doorsteplaw09.PathDots", spec := "pathDots", inPlace := ["internal/bytealg.IndexByteString", "internal/bytealg.IndexString", "internal/bytealg.CountString", "internal/abi.NoEscape", "internal/bytealg.MakeNoZero"], unfollowed := true, recurses := true, named := ["internal/bytealg.MaxLen", "unicode/utf8.first", "unicode/utf8.acceptRanges"], apart := false, laid := [("unicode/utf8.acceptRanges", laid_unicode_utf8_acceptRanges), ("unicode/utf8.first", laid_unicode_utf8_first)], narrowed := true }
def PathDotsUptoSaid : Prop := pathDotsUptoRow.holds Tryd.pinned (OpenSpec.upto pathDotsSpec)

/-- 'doorsteplaw09.PathCuts', WHERE WHAT IT READS IS OF BULK AT MOST 1048576: true; the input reads as it did. -/
def pathCutsUptoRow : OpenClaim := { program := "ythhpijmkhhdhhaadoor", sum := "9f0915027c44549af4fb7383bb35d08797f92c7ec0400e13f9c3c5e83fc9394d", func := "doorstep/doorsteplaw09.PathCuts", spec := "pathCuts", inPlace := ["internal/bytealg.IndexByteString", "internal/bytealg.IndexString", "internal/bytealg.CountString", "internal/abi.NoEscape", "internal/bytealg.MakeNoZero"], unfollowed := true, recurses := true, named := ["internal/bytealg.MaxLen", "unicode/utf8.first", "unicode/utf8.acceptRanges"], apart := false, laid := [("unicode/utf8.acceptRanges", laid_unicode_utf8_acceptRanges), ("unicode/utf8.first", laid_unicode_utf8_first)], narrowed := true }
def PathCutsUptoSaid : Prop := pathCutsUptoRow.holds Tryd.pinned (OpenSpec.upto pathCutsSpec)

/-- 'doorsteplaw45.EventsRead', WHERE WHAT IT READS IS OF BULK AT MOST 1048576: true; the input reads as it did. -/
def eventsReadUptoRow : OpenClaim := { program := "ythhpijmkhhdhhaadoor", sum := "9f0915027c44549af4fb7383bb35d08797f92c7ec0400e13f9c3c5e83fc9394d", func := "doorstep/doorsteplaw45.EventsRead", spec := "eventsRead", inPlace := ["internal/bytealg.IndexByteString", "internal/bytealg.IndexString"], unfollowed := true, recurses := true, named := ["internal/bytealg.MaxLen", "internal/strconv.uint64pow10", "math/bits.deBruijn32tab", "math/bits.deBruijn64tab"], apart := false, laid := [("math/bits.deBruijn32tab", laid_math_bits_deBruijn32tab), ("math/bits.deBruijn64tab", laid_math_bits_deBruijn64tab), ("internal/strconv.uint64pow10", laid_internal_strconv_uint64pow10)], narrowed := true }
def EventsReadUptoSaid : Prop := eventsReadUptoRow.holds Tryd.pinned (OpenSpec.upto eventsReadSpec)

/-- 'doorsteplaw45.EventsWrite', WHERE WHAT IT READS IS OF BULK AT MOST 1048576: true; the input reads as it did. -/
def eventsWriteUptoRow : OpenClaim := { program := "ythhpijmkhhdhhaadoor", sum := "9f0915027c44549af4fb7383bb35d08797f92c7ec0400e13f9c3c5e83fc9394d", func := "doorstep/doorsteplaw45.EventsWrite", spec := "eventsWrite", inPlace := ["internal/bytealg.IndexByteString", "internal/bytealg.IndexString"], unfollowed := true, recurses := true, named := ["internal/bytealg.MaxLen", "internal/strconv.uint64pow10", "math/bits.deBruijn32tab", "math/bits.deBruijn64tab"], apart := false, laid := [("math/bits.deBruijn32tab", laid_math_bits_deBruijn32tab), ("math/bits.deBruijn64tab", laid_math_bits_deBruijn64tab), ("internal/strconv.uint64pow10", laid_internal_strconv_uint64pow10)], narrowed := true }
def EventsWriteUptoSaid : Prop := eventsWriteUptoRow.holds Tryd.pinned (OpenSpec.upto eventsWriteSpec)

/-- 'doorsteplaw45.EventsCount', WHERE WHAT IT READS IS OF BULK AT MOST 1048576: true; the input reads as it did. -/
def eventsCountUptoRow : OpenClaim := { program := "ythhpijmkhhdhhaadoor", sum := "9f0915027c44549af4fb7383bb35d08797f92c7ec0400e13f9c3c5e83fc9394d", func := "doorstep/doorsteplaw45.EventsCount", spec := "eventsCount", inPlace := ["internal/bytealg.IndexByteString", "internal/bytealg.IndexString"], unfollowed := true, recurses := true, named := ["internal/bytealg.MaxLen", "internal/strconv.uint64pow10", "math/bits.deBruijn32tab", "math/bits.deBruijn64tab"], apart := false, laid := [("math/bits.deBruijn32tab", laid_math_bits_deBruijn32tab), ("math/bits.deBruijn64tab", laid_math_bits_deBruijn64tab), ("internal/strconv.uint64pow10", laid_internal_strconv_uint64pow10)], narrowed := true }
def EventsCountUptoSaid : Prop := eventsCountUptoRow.holds Tryd.pinned (OpenSpec.upto eventsCountSpec)

/-- 'doorsteplaw08.HostKinds', WHERE WHAT IT READS IS OF BULK AT MOST 1048576: true; the input reads as it did. -/
def hostKindsUptoRow : OpenClaim := { program := "ythhpijmkhhdhhaadoor", sum := "9f0915027c44549af4fb7383bb35d08797f92c7ec0400e13f9c3c5e83fc9394d", func := "doorstep/doorsteplaw08.HostKinds", spec := "hostKinds", inPlace := ["internal/bytealg.IndexByteString", "internal/bytealg.IndexString", "internal/bytealg.CountString"], unfollowed := true, recurses := true, named := ["internal/bytealg.MaxLen", "unicode/utf8.first", "unicode/utf8.acceptRanges", "internal/strconv.uint64pow10", "math/bits.deBruijn32tab", "math/bits.deBruijn64tab"], apart := false, laid := [("math/bits.deBruijn32tab", laid_math_bits_deBruijn32tab), ("math/bits.deBruijn64tab", laid_math_bits_deBruijn64tab), ("internal/strconv.uint64pow10", laid_internal_strconv_uint64pow10), ("unicode/utf8.acceptRanges", laid_unicode_utf8_acceptRanges), ("unicode/utf8.first", laid_unicode_utf8_first)], narrowed := true }
def HostKindsUptoSaid : Prop := hostKindsUptoRow.holds Tryd.pinned (OpenSpec.upto hostKindsSpec)

/-- 'doorsteplaw08.HostUnder', WHERE WHAT IT READS IS OF BULK AT MOST 1048576: true; the input reads as it did. -/
def hostUnderUptoRow : OpenClaim := { program := "ythhpijmkhhdhhaadoor", sum := "9f0915027c44549af4fb7383bb35d08797f92c7ec0400e13f9c3c5e83fc9394d", func := "doorstep/doorsteplaw08.HostUnder", spec := "hostUnder", inPlace := ["internal/bytealg.IndexByteString", "internal/bytealg.IndexString", "internal/bytealg.CountString"], unfollowed := true, recurses := true, named := ["internal/bytealg.MaxLen", "unicode/utf8.first", "unicode/utf8.acceptRanges", "internal/strconv.uint64pow10", "math/bits.deBruijn32tab", "math/bits.deBruijn64tab"], apart := false, laid := [("math/bits.deBruijn32tab", laid_math_bits_deBruijn32tab), ("math/bits.deBruijn64tab", laid_math_bits_deBruijn64tab), ("internal/strconv.uint64pow10", laid_internal_strconv_uint64pow10), ("unicode/utf8.acceptRanges", laid_unicode_utf8_acceptRanges), ("unicode/utf8.first", laid_unicode_utf8_first)], narrowed := true }
def HostUnderUptoSaid : Prop := hostUnderUptoRow.holds Tryd.pinned (OpenSpec.upto hostUnderSpec)

/-- 'doorsteplaw08.HostReads', WHERE WHAT IT READS IS OF BULK AT MOST 1048576: true; the input reads as it did. -/
def hostReadsUptoRow : OpenClaim := { program := "ythhpijmkhhdhhaadoor", sum := "9f0915027c44549af4fb7383bb35d08797f92c7ec0400e13f9c3c5e83fc9394d", func := "doorstep/doorsteplaw08.HostReads", spec := "hostReads", inPlace := ["internal/bytealg.IndexByteString", "internal/bytealg.IndexString", "internal/bytealg.CountString", "internal/abi.NoEscape", "internal/bytealg.MakeNoZero"], unfollowed := true, recurses := true, named := ["internal/bytealg.MaxLen", "unicode/utf8.first", "unicode/utf8.acceptRanges", "internal/strconv.uint64pow10", "math/bits.deBruijn32tab", "math/bits.deBruijn64tab"], apart := false, laid := [("math/bits.deBruijn32tab", laid_math_bits_deBruijn32tab), ("math/bits.deBruijn64tab", laid_math_bits_deBruijn64tab), ("internal/strconv.uint64pow10", laid_internal_strconv_uint64pow10), ("unicode/utf8.acceptRanges", laid_unicode_utf8_acceptRanges), ("unicode/utf8.first", laid_unicode_utf8_first)], narrowed := true }
def HostReadsUptoSaid : Prop := hostReadsUptoRow.holds Tryd.pinned (OpenSpec.upto hostReadsSpec)

/-- 'doorsteplaw08.HostWrites', WHERE WHAT IT READS IS OF BULK AT MOST 1048576: true; the input reads as it did. -/
def hostWritesUptoRow : OpenClaim := { program := "ythhpijmkhhdhhaadoor", sum := "9f0915027c44549af4fb7383bb35d08797f92c7ec0400e13f9c3c5e83fc9394d", func := "doorstep/doorsteplaw08.HostWrites", spec := "hostWrites", inPlace := ["internal/bytealg.IndexByteString", "internal/bytealg.IndexString", "internal/bytealg.CountString", "internal/abi.NoEscape", "internal/bytealg.MakeNoZero"], unfollowed := true, recurses := true, named := ["internal/bytealg.MaxLen", "unicode/utf8.first", "unicode/utf8.acceptRanges", "internal/strconv.uint64pow10", "math/bits.deBruijn32tab", "math/bits.deBruijn64tab"], apart := false, laid := [("math/bits.deBruijn32tab", laid_math_bits_deBruijn32tab), ("math/bits.deBruijn64tab", laid_math_bits_deBruijn64tab), ("internal/strconv.uint64pow10", laid_internal_strconv_uint64pow10), ("unicode/utf8.acceptRanges", laid_unicode_utf8_acceptRanges), ("unicode/utf8.first", laid_unicode_utf8_first)], narrowed := true }
def HostWritesUptoSaid : Prop := hostWritesUptoRow.holds Tryd.pinned (OpenSpec.upto hostWritesSpec)

end Rows
end Go.Proofs.YthhpijmkhhdhhaaDoor
