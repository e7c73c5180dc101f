/-
  No cell of these rows narrows 'for every input' (looked for: loops, veiled, ifaces, maps, wideKeys, modest, calm, conditions, laid).
  DERIVED. THE GIVEN ROWS OF THIS SEAT. 18 by the template 'for every input the law returns true; each argument reads behind the call as it read before'; 0 by the template 'total and deterministic' (their statements: YthhpijmkhhdhhaaTotals.lean).
  GIVEN WITH THE SEED: the statements are not yours to turn. If you find one false, say at which input.
  Laid BY PROGRAM, IN A SANDBOX (cutbox-rows.mjs): the forced cells as the released guide's own fill.sh prints them over the translation 9df1c8f98f20ef80… (all of the seat's roots in one cut). By AI agents, Wed Nov 11 2026. No macro, syntax, notation, axiom, sorry.
-/
import Derived.Test.YthhpijmkhhdhhaaChecked
import GoSem.Claim
import GoSem.ClaimJoined
import GoSem.ClaimMapViews
import Derived.JoinedTies
import Derived.KernelRfl
namespace Go.Proofs.Ythhpijmkhhdhhaa
/- THE CELL 'sum', in the pinned program and in every row, IS THE sha256 OF THE DUMP (.gsa) THAT YthhpijmkhhdhhaaProg.lean LOADS. Nothing in Lean hashes anything: it is a label: what it is worth is what the hold of that sum in a sandbox is worth. -/
noncomputable def Try.pinned : Pinned := { name := "ythhpijmkhhdhhaa", sum := "9df1c8f98f20ef80a45c83276d2056bd9073f04f0188b91883dfaae8658a280a", checked := Try.checked }
namespace Rows
def none {H : Type} : Left H := { results := [], args := [] }

/-- 'doorsteplaw01.OctetFolds': WHATEVER THE INPUT: true; the input reads as it did. -/
def octetFoldsSpec : ChangeSpec := { name := "octetFolds", fn := fun _ => fun
  | [d1, d2, d3] => { results := [.lit (.bool true)], args := [d1, d2, d3] }
  | _ => none }
def octetFoldsRow : OpenClaim := { program := "ythhpijmkhhdhhaa", sum := "9df1c8f98f20ef80a45c83276d2056bd9073f04f0188b91883dfaae8658a280a", func := "doorstep/doorsteplaw01.OctetFolds", spec := "octetFolds", inPlace := ["internal/bytealg.IndexByteString"], unfollowed := true, recurses := true, apart := false }
def OctetFoldsSaid : Prop := octetFoldsRow.holds Try.pinned (OpenSpec.ofChange octetFoldsSpec)

/-- ITS FALSE NEIGHBOUR: 'it returns false'. Refute it at one input. -/
def octetFoldsWrong : ChangeSpec := { name := "octetFolds", fn := fun _ => fun
  | [d1, d2, d3] => { results := [.lit (.bool false)], args := [d1, d2, d3] }
  | _ => none }
def OctetFoldsWrongFalsely : Prop := octetFoldsRow.holds Try.pinned (OpenSpec.ofChange octetFoldsWrong)

/-- 'doorsteplaw01.OctetAll': WHATEVER THE INPUT: true; the input reads as it did. -/
def octetAllSpec : ChangeSpec := { name := "octetAll", fn := fun _ => fun
  | [d1, d2] => { results := [.lit (.bool true)], args := [d1, d2] }
  | _ => none }
def octetAllRow : OpenClaim := { program := "ythhpijmkhhdhhaa", sum := "9df1c8f98f20ef80a45c83276d2056bd9073f04f0188b91883dfaae8658a280a", func := "doorstep/doorsteplaw01.OctetAll", spec := "octetAll", inPlace := ["internal/bytealg.IndexByteString"], unfollowed := true, recurses := true, apart := false }
def OctetAllSaid : Prop := octetAllRow.holds Try.pinned (OpenSpec.ofChange octetAllSpec)

/-- ITS FALSE NEIGHBOUR: 'it returns false'. Refute it at one input. -/
def octetAllWrong : ChangeSpec := { name := "octetAll", fn := fun _ => fun
  | [d1, d2] => { results := [.lit (.bool false)], args := [d1, d2] }
  | _ => none }
def OctetAllWrongFalsely : Prop := octetAllRow.holds Try.pinned (OpenSpec.ofChange octetAllWrong)

/-- 'doorsteplaw01.OctetClasses': WHATEVER THE INPUT: true; the input reads as it did. -/
def octetClassesSpec : ChangeSpec := { name := "octetClasses", fn := fun _ => fun
  | [d] => { results := [.lit (.bool true)], args := [d] }
  | _ => none }
def octetClassesRow : OpenClaim := { program := "ythhpijmkhhdhhaa", sum := "9df1c8f98f20ef80a45c83276d2056bd9073f04f0188b91883dfaae8658a280a", func := "doorstep/doorsteplaw01.OctetClasses", spec := "octetClasses", inPlace := ["internal/bytealg.IndexByteString"], unfollowed := true, recurses := true, apart := false }
def OctetClassesSaid : Prop := octetClassesRow.holds Try.pinned (OpenSpec.ofChange octetClassesSpec)

/-- ITS FALSE NEIGHBOUR: 'it returns false'. Refute it at one input. -/
def octetClassesWrong : ChangeSpec := { name := "octetClasses", fn := fun _ => fun
  | [d] => { results := [.lit (.bool false)], args := [d] }
  | _ => none }
def OctetClassesWrongFalsely : Prop := octetClassesRow.holds Try.pinned (OpenSpec.ofChange octetClassesWrong)

/-- 'doorsteplaw04.QuillPlays': WHATEVER THE INPUT: true; the input reads as it did. -/
def quillPlaysSpec : ChangeSpec := { name := "quillPlays", fn := fun _ => fun
  | [d1, d2] => { results := [.lit (.bool true)], args := [d1, d2] }
  | _ => none }
def quillPlaysRow : OpenClaim := { program := "ythhpijmkhhdhhaa", sum := "9df1c8f98f20ef80a45c83276d2056bd9073f04f0188b91883dfaae8658a280a", func := "doorstep/doorsteplaw04.QuillPlays", spec := "quillPlays", apart := false }
def QuillPlaysSaid : Prop := quillPlaysRow.holds Try.pinned (OpenSpec.ofChange quillPlaysSpec)

/-- ITS FALSE NEIGHBOUR: 'it returns false'. Refute it at one input. -/
def quillPlaysWrong : ChangeSpec := { name := "quillPlays", fn := fun _ => fun
  | [d1, d2] => { results := [.lit (.bool false)], args := [d1, d2] }
  | _ => none }
def QuillPlaysWrongFalsely : Prop := quillPlaysRow.holds Try.pinned (OpenSpec.ofChange quillPlaysWrong)

/-- 'doorsteplaw04.QuillNone': WHATEVER THE INPUT: true; the input reads as it did. -/
def quillNoneSpec : ChangeSpec := { name := "quillNone", fn := fun _ => fun
  | [d1, d2] => { results := [.lit (.bool true)], args := [d1, d2] }
  | _ => none }
def quillNoneRow : OpenClaim := { program := "ythhpijmkhhdhhaa", sum := "9df1c8f98f20ef80a45c83276d2056bd9073f04f0188b91883dfaae8658a280a", func := "doorstep/doorsteplaw04.QuillNone", spec := "quillNone", apart := false }
def QuillNoneSaid : Prop := quillNoneRow.holds Try.pinned (OpenSpec.ofChange quillNoneSpec)

/-- ITS FALSE NEIGHBOUR: 'it returns false'. Refute it at one input. -/
def quillNoneWrong : ChangeSpec := { name := "quillNone", fn := fun _ => fun
  | [d1, d2] => { results := [.lit (.bool false)], args := [d1, d2] }
  | _ => none }
def QuillNoneWrongFalsely : Prop := quillNoneRow.holds Try.pinned (OpenSpec.ofChange quillNoneWrong)

/-- 'doorsteplaw02.ScanWhile': WHATEVER THE INPUT: true; the input reads as it did. -/
def scanWhileSpec : ChangeSpec := { name := "scanWhile", fn := fun _ => fun
  | [d1, d2] => { results := [.lit (.bool true)], args := [d1, d2] }
  | _ => none }
def scanWhileRow : OpenClaim := { program := "ythhpijmkhhdhhaa", sum := "9df1c8f98f20ef80a45c83276d2056bd9073f04f0188b91883dfaae8658a280a", func := "doorstep/doorsteplaw02.ScanWhile", spec := "scanWhile", inPlace := ["internal/bytealg.IndexByteString"], unfollowed := true, recurses := true, apart := false }
def ScanWhileSaid : Prop := scanWhileRow.holds Try.pinned (OpenSpec.ofChange scanWhileSpec)

/-- ITS FALSE NEIGHBOUR: 'it returns false'. Refute it at one input. -/
def scanWhileWrong : ChangeSpec := { name := "scanWhile", fn := fun _ => fun
  | [d1, d2] => { results := [.lit (.bool false)], args := [d1, d2] }
  | _ => none }
def ScanWhileWrongFalsely : Prop := scanWhileRow.holds Try.pinned (OpenSpec.ofChange scanWhileWrong)

/-- 'doorsteplaw02.ScanPlays': WHATEVER THE INPUT: true; the input reads as it did. -/
def scanPlaysSpec : ChangeSpec := { name := "scanPlays", fn := fun _ => fun
  | [d1, d2] => { results := [.lit (.bool true)], args := [d1, d2] }
  | _ => none }
def scanPlaysRow : OpenClaim := { program := "ythhpijmkhhdhhaa", sum := "9df1c8f98f20ef80a45c83276d2056bd9073f04f0188b91883dfaae8658a280a", func := "doorstep/doorsteplaw02.ScanPlays", spec := "scanPlays", inPlace := ["internal/bytealg.IndexByteString"], unfollowed := true, recurses := true, apart := false }
def ScanPlaysSaid : Prop := scanPlaysRow.holds Try.pinned (OpenSpec.ofChange scanPlaysSpec)

/-- ITS FALSE NEIGHBOUR: 'it returns false'. Refute it at one input. -/
def scanPlaysWrong : ChangeSpec := { name := "scanPlays", fn := fun _ => fun
  | [d1, d2] => { results := [.lit (.bool false)], args := [d1, d2] }
  | _ => none }
def ScanPlaysWrongFalsely : Prop := scanPlaysRow.holds Try.pinned (OpenSpec.ofChange scanPlaysWrong)

/-- 'doorsteplaw02.ScanNone': WHATEVER THE INPUT: true; the input reads as it did. -/
def scanNoneSpec : ChangeSpec := { name := "scanNone", fn := fun _ => fun
  | [d] => { results := [.lit (.bool true)], args := [d] }
  | _ => none }
def scanNoneRow : OpenClaim := { program := "ythhpijmkhhdhhaa", sum := "9df1c8f98f20ef80a45c83276d2056bd9073f04f0188b91883dfaae8658a280a", func := "doorstep/doorsteplaw02.ScanNone", spec := "scanNone", inPlace := ["internal/bytealg.IndexByteString"], unfollowed := true, recurses := true, apart := false }
def ScanNoneSaid : Prop := scanNoneRow.holds Try.pinned (OpenSpec.ofChange scanNoneSpec)

/-- ITS FALSE NEIGHBOUR: 'it returns false'. Refute it at one input. -/
def scanNoneWrong : ChangeSpec := { name := "scanNone", fn := fun _ => fun
  | [d] => { results := [.lit (.bool false)], args := [d] }
  | _ => none }
def ScanNoneWrongFalsely : Prop := scanNoneRow.holds Try.pinned (OpenSpec.ofChange scanNoneWrong)

/-- 'doorsteplaw04.QuillJoins': WHATEVER THE INPUT: true; the input reads as it did. -/
def quillJoinsSpec : ChangeSpec := { name := "quillJoins", fn := fun _ => fun
  | [d1, d2] => { results := [.lit (.bool true)], args := [d1, d2] }
  | _ => none }
def quillJoinsRow : OpenClaim := { program := "ythhpijmkhhdhhaa", sum := "9df1c8f98f20ef80a45c83276d2056bd9073f04f0188b91883dfaae8658a280a", func := "doorstep/doorsteplaw04.QuillJoins", spec := "quillJoins", inPlace := ["internal/abi.NoEscape", "internal/bytealg.MakeNoZero"], apart := false }
def QuillJoinsSaid : Prop := quillJoinsRow.holds Try.pinned (OpenSpec.ofChange quillJoinsSpec)

/-- ITS FALSE NEIGHBOUR: 'it returns false'. Refute it at one input. -/
def quillJoinsWrong : ChangeSpec := { name := "quillJoins", fn := fun _ => fun
  | [d1, d2] => { results := [.lit (.bool false)], args := [d1, d2] }
  | _ => none }
def QuillJoinsWrongFalsely : Prop := quillJoinsRow.holds Try.pinned (OpenSpec.ofChange quillJoinsWrong)

/-- 'doorsteplaw05.QuotedWrites': WHATEVER THE INPUT: true; the input reads as it did. -/
def quotedWritesSpec : ChangeSpec := { name := "quotedWrites", fn := fun _ => fun
  | [d] => { results := [.lit (.bool true)], args := [d] }
  | _ => none }
def quotedWritesRow : OpenClaim := { program := "ythhpijmkhhdhhaa", sum := "9df1c8f98f20ef80a45c83276d2056bd9073f04f0188b91883dfaae8658a280a", func := "doorstep/doorsteplaw05.QuotedWrites", spec := "quotedWrites", inPlace := ["internal/bytealg.IndexByteString"], unfollowed := true, recurses := true, apart := false }
def QuotedWritesSaid : Prop := quotedWritesRow.holds Try.pinned (OpenSpec.ofChange quotedWritesSpec)

/-- ITS FALSE NEIGHBOUR: 'it returns false'. Refute it at one input. -/
def quotedWritesWrong : ChangeSpec := { name := "quotedWrites", fn := fun _ => fun
  | [d] => { results := [.lit (.bool false)], args := [d] }
  | _ => none }
def QuotedWritesWrongFalsely : Prop := quotedWritesRow.holds Try.pinned (OpenSpec.ofChange quotedWritesWrong)

/-- 'doorsteplaw05.QuotedNone': WHATEVER THE INPUT: true; the input reads as it did. -/
def quotedNoneSpec : ChangeSpec := { name := "quotedNone", fn := fun _ => fun
  | [d1, d2] => { results := [.lit (.bool true)], args := [d1, d2] }
  | _ => none }
def quotedNoneRow : OpenClaim := { program := "ythhpijmkhhdhhaa", sum := "9df1c8f98f20ef80a45c83276d2056bd9073f04f0188b91883dfaae8658a280a", func := "doorstep/doorsteplaw05.QuotedNone", spec := "quotedNone", inPlace := ["internal/bytealg.IndexByteString"], unfollowed := true, recurses := true, apart := false }
def QuotedNoneSaid : Prop := quotedNoneRow.holds Try.pinned (OpenSpec.ofChange quotedNoneSpec)

/-- ITS FALSE NEIGHBOUR: 'it returns false'. Refute it at one input. -/
def quotedNoneWrong : ChangeSpec := { name := "quotedNone", fn := fun _ => fun
  | [d1, d2] => { results := [.lit (.bool false)], args := [d1, d2] }
  | _ => none }
def QuotedNoneWrongFalsely : Prop := quotedNoneRow.holds Try.pinned (OpenSpec.ofChange quotedNoneWrong)

/-- 'doorsteplaw05.QuotedReads': WHATEVER THE INPUT: true; the input reads as it did. -/
def quotedReadsSpec : ChangeSpec := { name := "quotedReads", fn := fun _ => fun
  | [d1, d2] => { results := [.lit (.bool true)], args := [d1, d2] }
  | _ => none }
def quotedReadsRow : OpenClaim := { program := "ythhpijmkhhdhhaa", sum := "9df1c8f98f20ef80a45c83276d2056bd9073f04f0188b91883dfaae8658a280a", func := "doorstep/doorsteplaw05.QuotedReads", spec := "quotedReads", inPlace := ["internal/bytealg.IndexByteString"], unfollowed := true, recurses := true, apart := false }
def QuotedReadsSaid : Prop := quotedReadsRow.holds Try.pinned (OpenSpec.ofChange quotedReadsSpec)

/-- ITS FALSE NEIGHBOUR: 'it returns false'. Refute it at one input. -/
def quotedReadsWrong : ChangeSpec := { name := "quotedReads", fn := fun _ => fun
  | [d1, d2] => { results := [.lit (.bool false)], args := [d1, d2] }
  | _ => none }
def QuotedReadsWrongFalsely : Prop := quotedReadsRow.holds Try.pinned (OpenSpec.ofChange quotedReadsWrong)

/-- 'doorsteplaw07.ParamsReads': WHATEVER THE INPUT: true; the input reads as it did. -/
def paramsReadsSpec : ChangeSpec := { name := "paramsReads", fn := fun _ => fun
  | [d] => { results := [.lit (.bool true)], args := [d] }
  | _ => none }
def paramsReadsRow : OpenClaim := { program := "ythhpijmkhhdhhaa", sum := "9df1c8f98f20ef80a45c83276d2056bd9073f04f0188b91883dfaae8658a280a", func := "doorstep/doorsteplaw07.ParamsReads", spec := "paramsReads", inPlace := ["internal/bytealg.IndexByteString", "internal/abi.NoEscape", "internal/bytealg.MakeNoZero"], unfollowed := true, recurses := true, apart := false }
def ParamsReadsSaid : Prop := paramsReadsRow.holds Try.pinned (OpenSpec.ofChange paramsReadsSpec)

/-- ITS FALSE NEIGHBOUR: 'it returns false'. Refute it at one input. -/
def paramsReadsWrong : ChangeSpec := { name := "paramsReads", fn := fun _ => fun
  | [d] => { results := [.lit (.bool false)], args := [d] }
  | _ => none }
def ParamsReadsWrongFalsely : Prop := paramsReadsRow.holds Try.pinned (OpenSpec.ofChange paramsReadsWrong)

/-- 'doorsteplaw07.ParamsWrites': WHATEVER THE INPUT: true; the input reads as it did. -/
def paramsWritesSpec : ChangeSpec := { name := "paramsWrites", fn := fun _ => fun
  | [d] => { results := [.lit (.bool true)], args := [d] }
  | _ => none }
def paramsWritesRow : OpenClaim := { program := "ythhpijmkhhdhhaa", sum := "9df1c8f98f20ef80a45c83276d2056bd9073f04f0188b91883dfaae8658a280a", func := "doorstep/doorsteplaw07.ParamsWrites", spec := "paramsWrites", inPlace := ["internal/bytealg.IndexByteString", "internal/abi.NoEscape", "internal/bytealg.MakeNoZero"], unfollowed := true, recurses := true, apart := false }
def ParamsWritesSaid : Prop := paramsWritesRow.holds Try.pinned (OpenSpec.ofChange paramsWritesSpec)

/-- ITS FALSE NEIGHBOUR: 'it returns false'. Refute it at one input. -/
def paramsWritesWrong : ChangeSpec := { name := "paramsWrites", fn := fun _ => fun
  | [d] => { results := [.lit (.bool false)], args := [d] }
  | _ => none }
def ParamsWritesWrongFalsely : Prop := paramsWritesRow.holds Try.pinned (OpenSpec.ofChange paramsWritesWrong)

/-- 'doorsteplaw07.ParamsSets': WHATEVER THE INPUT: true; the input reads as it did. -/
def paramsSetsSpec : ChangeSpec := { name := "paramsSets", fn := fun _ => fun
  | [d1, d2, d3] => { results := [.lit (.bool true)], args := [d1, d2, d3] }
  | _ => none }
def paramsSetsRow : OpenClaim := { program := "ythhpijmkhhdhhaa", sum := "9df1c8f98f20ef80a45c83276d2056bd9073f04f0188b91883dfaae8658a280a", func := "doorstep/doorsteplaw07.ParamsSets", spec := "paramsSets", inPlace := ["internal/bytealg.IndexByteString", "internal/abi.NoEscape", "internal/bytealg.MakeNoZero"], unfollowed := true, recurses := true, apart := false }
def ParamsSetsSaid : Prop := paramsSetsRow.holds Try.pinned (OpenSpec.ofChange paramsSetsSpec)

/-- ITS FALSE NEIGHBOUR: 'it returns false'. Refute it at one input. -/
def paramsSetsWrong : ChangeSpec := { name := "paramsSets", fn := fun _ => fun
  | [d1, d2, d3] => { results := [.lit (.bool false)], args := [d1, d2, d3] }
  | _ => none }
def ParamsSetsWrongFalsely : Prop := paramsSetsRow.holds Try.pinned (OpenSpec.ofChange paramsSetsWrong)

/-- 'doorsteplaw11.RefSwaps': WHATEVER THE INPUT: true; the input reads as it did. -/
def refSwapsSpec : ChangeSpec := { name := "refSwaps", fn := fun _ => fun
  | [d1, d2] => { results := [.lit (.bool true)], args := [d1, d2] }
  | _ => none }
def refSwapsRow : OpenClaim := { program := "ythhpijmkhhdhhaa", sum := "9df1c8f98f20ef80a45c83276d2056bd9073f04f0188b91883dfaae8658a280a", func := "doorstep/doorsteplaw11.RefSwaps", spec := "refSwaps", inPlace := ["internal/bytealg.IndexByteString", "internal/bytealg.IndexString"], unfollowed := true, recurses := true, named := ["internal/bytealg.MaxLen"], apart := false }
def RefSwapsSaid : Prop := refSwapsRow.holds Try.pinned (OpenSpec.ofChange refSwapsSpec)

/-- ITS FALSE NEIGHBOUR: 'it returns false'. Refute it at one input. -/
def refSwapsWrong : ChangeSpec := { name := "refSwaps", fn := fun _ => fun
  | [d1, d2] => { results := [.lit (.bool false)], args := [d1, d2] }
  | _ => none }
def RefSwapsWrongFalsely : Prop := refSwapsRow.holds Try.pinned (OpenSpec.ofChange refSwapsWrong)

/-- 'doorsteplaw11.RefWrites': WHATEVER THE INPUT: true; the input reads as it did. -/
def refWritesSpec : ChangeSpec := { name := "refWrites", fn := fun _ => fun
  | [d] => { results := [.lit (.bool true)], args := [d] }
  | _ => none }
def refWritesRow : OpenClaim := { program := "ythhpijmkhhdhhaa", sum := "9df1c8f98f20ef80a45c83276d2056bd9073f04f0188b91883dfaae8658a280a", func := "doorstep/doorsteplaw11.RefWrites", spec := "refWrites", inPlace := ["internal/bytealg.IndexByteString", "internal/bytealg.IndexString"], unfollowed := true, recurses := true, named := ["internal/bytealg.MaxLen"], apart := false }
def RefWritesSaid : Prop := refWritesRow.holds Try.pinned (OpenSpec.ofChange refWritesSpec)

/-- ITS FALSE NEIGHBOUR: 'it returns false'. Refute it at one input. -/
def refWritesWrong : ChangeSpec := { name := "refWrites", fn := fun _ => fun
  | [d] => { results := [.lit (.bool false)], args := [d] }
  | _ => none }
def RefWritesWrongFalsely : Prop := refWritesRow.holds Try.pinned (OpenSpec.ofChange refWritesWrong)

/-- 'doorsteplaw11.RefReads': WHATEVER THE INPUT: true; the input reads as it did. -/
def refReadsSpec : ChangeSpec := { name := "refReads", fn := fun _ => fun
  | [d] => { results := [.lit (.bool true)], args := [d] }
  | _ => none }
def refReadsRow : OpenClaim := { program := "ythhpijmkhhdhhaa", sum := "9df1c8f98f20ef80a45c83276d2056bd9073f04f0188b91883dfaae8658a280a", func := "doorstep/doorsteplaw11.RefReads", spec := "refReads", inPlace := ["internal/bytealg.IndexByteString", "internal/bytealg.IndexString"], unfollowed := true, recurses := true, named := ["internal/bytealg.MaxLen"], apart := false }
def RefReadsSaid : Prop := refReadsRow.holds Try.pinned (OpenSpec.ofChange refReadsSpec)

/-- ITS FALSE NEIGHBOUR: 'it returns false'. Refute it at one input. -/
def refReadsWrong : ChangeSpec := { name := "refReads", fn := fun _ => fun
  | [d] => { results := [.lit (.bool false)], args := [d] }
  | _ => none }
def RefReadsWrongFalsely : Prop := refReadsRow.holds Try.pinned (OpenSpec.ofChange refReadsWrong)

/- THE SECOND FORM. 'bulk': how many values and letters a reading holds, each counted each time it is reached (what is shared counts as often as it is met; a slice's spare places count too). A statement '..UptoSaid' is the law's where the arguments, and the package variables that the reading takes, are together of bulk at most 1048576: NARROWER than '..Said'. Prove '..Said' where nothing that the law and all that it calls make is longer than what came in: it says more and counts as full. Else prove '..UptoSaid'. A law counts once. -/
mutual
def uptoBulk {H : Type} : DataW H → Nat
  | .lit (.string bytes) => bytes.length + 1
  | .lit _ => 1
  | .nil => 1
  | .ptr d => uptoBulk d + 1
  | .slice elems spare => uptoBulkAll elems + uptoBulkAll spare + 1
  | .agg parts => uptoBulkAll parts + 1
  | .iface _ d => uptoBulk d + 1
  | .map entries => uptoBulkEntries entries + 1
  | .held _ => 1
def uptoBulkAll {H : Type} : List (DataW H) → Nat
  | [] => 0
  | d :: r => uptoBulk d + uptoBulkAll r
def uptoBulkEntries {H : Type} : List (Lit × DataW H) → Nat
  | [] => 0
  | x :: r => uptoBulkEntry x + uptoBulkEntries r
def uptoBulkEntry {H : Type} : Lit × DataW H → Nat
  | (.string bytes, d) => bytes.length + uptoBulk d + 1
  | (_, d) => uptoBulk d + 1
 end
def uptoSmall : (H : Type) → List (DataW H) → Bool := fun _ ds => decide (uptoBulkAll ds ≤ 1048576)
def OpenSpec.upto (s : _root_.Go.ChangeSpec) : _root_.Go.OpenSpec := { _root_.Go.OpenSpec.ofChange s with cond := some uptoSmall }

/-- 'doorsteplaw01.OctetFolds', WHERE WHAT IT READS IS OF BULK AT MOST 1048576: true; the input reads as it did. -/
def octetFoldsUptoRow : OpenClaim := { program := "ythhpijmkhhdhhaa", sum := "9df1c8f98f20ef80a45c83276d2056bd9073f04f0188b91883dfaae8658a280a", func := "doorstep/doorsteplaw01.OctetFolds", spec := "octetFolds", inPlace := ["internal/bytealg.IndexByteString"], unfollowed := true, recurses := true, apart := false, narrowed := true }
def OctetFoldsUptoSaid : Prop := octetFoldsUptoRow.holds Try.pinned (OpenSpec.upto octetFoldsSpec)

/-- 'doorsteplaw01.OctetAll', WHERE WHAT IT READS IS OF BULK AT MOST 1048576: true; the input reads as it did. -/
def octetAllUptoRow : OpenClaim := { program := "ythhpijmkhhdhhaa", sum := "9df1c8f98f20ef80a45c83276d2056bd9073f04f0188b91883dfaae8658a280a", func := "doorstep/doorsteplaw01.OctetAll", spec := "octetAll", inPlace := ["internal/bytealg.IndexByteString"], unfollowed := true, recurses := true, apart := false, narrowed := true }
def OctetAllUptoSaid : Prop := octetAllUptoRow.holds Try.pinned (OpenSpec.upto octetAllSpec)

/-- 'doorsteplaw01.OctetClasses', WHERE WHAT IT READS IS OF BULK AT MOST 1048576: true; the input reads as it did. -/
def octetClassesUptoRow : OpenClaim := { program := "ythhpijmkhhdhhaa", sum := "9df1c8f98f20ef80a45c83276d2056bd9073f04f0188b91883dfaae8658a280a", func := "doorstep/doorsteplaw01.OctetClasses", spec := "octetClasses", inPlace := ["internal/bytealg.IndexByteString"], unfollowed := true, recurses := true, apart := false, narrowed := true }
def OctetClassesUptoSaid : Prop := octetClassesUptoRow.holds Try.pinned (OpenSpec.upto octetClassesSpec)

/-- 'doorsteplaw04.QuillPlays', WHERE WHAT IT READS IS OF BULK AT MOST 1048576: true; the input reads as it did. -/
def quillPlaysUptoRow : OpenClaim := { program := "ythhpijmkhhdhhaa", sum := "9df1c8f98f20ef80a45c83276d2056bd9073f04f0188b91883dfaae8658a280a", func := "doorstep/doorsteplaw04.QuillPlays", spec := "quillPlays", apart := false, narrowed := true }
def QuillPlaysUptoSaid : Prop := quillPlaysUptoRow.holds Try.pinned (OpenSpec.upto quillPlaysSpec)

/-- 'doorsteplaw04.QuillNone', WHERE WHAT IT READS IS OF BULK AT MOST 1048576: true; the input reads as it did. -/
def quillNoneUptoRow : OpenClaim := { program := "ythhpijmkhhdhhaa", sum := "9df1c8f98f20ef80a45c83276d2056bd9073f04f0188b91883dfaae8658a280a", func := "doorstep/doorsteplaw04.QuillNone", spec := "quillNone", apart := false, narrowed := true }
def QuillNoneUptoSaid : Prop := quillNoneUptoRow.holds Try.pinned (OpenSpec.upto quillNoneSpec)

/-- 'doorsteplaw02.ScanWhile', WHERE WHAT IT READS IS OF BULK AT MOST 1048576: true; the input reads as it did. -/
def scanWhileUptoRow : OpenClaim := { program := "ythhpijmkhhdhhaa", sum := "9df1c8f98f20ef80a45c83276d2056bd9073f04f0188b91883dfaae8658a280a", func := "doorstep/doorsteplaw02.ScanWhile", spec := "scanWhile", inPlace := ["internal/bytealg.IndexByteString"], unfollowed := true, recurses := true, apart := false, narrowed := true }
def ScanWhileUptoSaid : Prop := scanWhileUptoRow.holds Try.pinned (OpenSpec.upto scanWhileSpec)

/-- 'doorsteplaw02.ScanPlays', WHERE WHAT IT READS IS OF BULK AT MOST 1048576: true; the input reads as it did. -/
def scanPlaysUptoRow : OpenClaim := { program := "ythhpijmkhhdhhaa", sum := "9df1c8f98f20ef80a45c83276d2056bd9073f04f0188b91883dfaae8658a280a", func := "doorstep/doorsteplaw02.ScanPlays", spec := "scanPlays", inPlace := ["internal/bytealg.IndexByteString"], unfollowed := true, recurses := true, apart := false, narrowed := true }
def ScanPlaysUptoSaid : Prop := scanPlaysUptoRow.holds Try.pinned (OpenSpec.upto scanPlaysSpec)

/-- 'doorsteplaw02.ScanNone', WHERE WHAT IT READS IS OF BULK AT MOST 1048576: true; the input reads as it did. -/
def scanNoneUptoRow : OpenClaim := { program := "ythhpijmkhhdhhaa", sum := "9df1c8f98f20ef80a45c83276d2056bd9073f04f0188b91883dfaae8658a280a", func := "doorstep/doorsteplaw02.ScanNone", spec := "scanNone", inPlace := ["internal/bytealg.IndexByteString"], unfollowed := true, recurses := true, apart := false, narrowed := true }
def ScanNoneUptoSaid : Prop := scanNoneUptoRow.holds Try.pinned (OpenSpec.upto scanNoneSpec)

/-- 'doorsteplaw04.QuillJoins', WHERE WHAT IT READS IS OF BULK AT MOST 1048576: true; the input reads as it did. -/
def quillJoinsUptoRow : OpenClaim := { program := "ythhpijmkhhdhhaa", sum := "9df1c8f98f20ef80a45c83276d2056bd9073f04f0188b91883dfaae8658a280a", func := "doorstep/doorsteplaw04.QuillJoins", spec := "quillJoins", inPlace := ["internal/abi.NoEscape", "internal/bytealg.MakeNoZero"], apart := false, narrowed := true }
def QuillJoinsUptoSaid : Prop := quillJoinsUptoRow.holds Try.pinned (OpenSpec.upto quillJoinsSpec)

/-- 'doorsteplaw05.QuotedWrites', WHERE WHAT IT READS IS OF BULK AT MOST 1048576: true; the input reads as it did. -/
def quotedWritesUptoRow : OpenClaim := { program := "ythhpijmkhhdhhaa", sum := "9df1c8f98f20ef80a45c83276d2056bd9073f04f0188b91883dfaae8658a280a", func := "doorstep/doorsteplaw05.QuotedWrites", spec := "quotedWrites", inPlace := ["internal/bytealg.IndexByteString"], unfollowed := true, recurses := true, apart := false, narrowed := true }
def QuotedWritesUptoSaid : Prop := quotedWritesUptoRow.holds Try.pinned (OpenSpec.upto quotedWritesSpec)

/-- 'doorsteplaw05.QuotedNone', WHERE WHAT IT READS IS OF BULK AT MOST 1048576: true; the input reads as it did. -/
def quotedNoneUptoRow : OpenClaim := { program := "ythhpijmkhhdhhaa", sum := "9df1c8f98f20ef80a45c83276d2056bd9073f04f0188b91883dfaae8658a280a", func := "doorstep/doorsteplaw05.QuotedNone", spec := "quotedNone", inPlace := ["internal/bytealg.IndexByteString"], unfollowed := true, recurses := true, apart := false, narrowed := true }
def QuotedNoneUptoSaid : Prop := quotedNoneUptoRow.holds Try.pinned (OpenSpec.upto quotedNoneSpec)

/-- 'doorsteplaw05.QuotedReads', WHERE WHAT IT READS IS OF BULK AT MOST 1048576: true; the input reads as it did. -/
def quotedReadsUptoRow : OpenClaim := { program := "ythhpijmkhhdhhaa", sum := "9df1c8f98f20ef80a45c83276d2056bd9073f04f0188b91883dfaae8658a280a", func := "doorstep/doorsteplaw05.QuotedReads", spec := "quotedReads", inPlace := ["internal/bytealg.IndexByteString"], unfollowed := true, recurses := true, apart := false, narrowed := true }
def QuotedReadsUptoSaid : Prop := quotedReadsUptoRow.holds Try.pinned (OpenSpec.upto quotedReadsSpec)

/-- 'doorsteplaw07.ParamsReads', WHERE WHAT IT READS IS OF BULK AT MOST 1048576: true; the input reads as it did. -/
def paramsReadsUptoRow : OpenClaim := { program := "ythhpijmkhhdhhaa", sum := "9df1c8f98f20ef80a45c83276d2056bd9073f04f0188b91883dfaae8658a280a", func := "doorstep/doorsteplaw07.ParamsReads", spec := "paramsReads", inPlace := ["internal/bytealg.IndexByteString", "internal/abi.NoEscape", "internal/bytealg.MakeNoZero"], unfollowed := true, recurses := true, apart := false, narrowed := true }
def ParamsReadsUptoSaid : Prop := paramsReadsUptoRow.holds Try.pinned (OpenSpec.upto paramsReadsSpec)

/-- 'doorsteplaw07.ParamsWrites', WHERE WHAT IT READS IS OF BULK AT MOST 1048576: true; the input reads as it did. -/
def paramsWritesUptoRow : OpenClaim := { program := "ythhpijmkhhdhhaa", sum := "9df1c8f98f20ef80a45c83276d2056bd9073f04f0188b91883dfaae8658a280a", func := "doorstep/doorsteplaw07.ParamsWrites", spec := "paramsWrites", inPlace := ["internal/bytealg.IndexByteString", "internal/abi.NoEscape", "internal/bytealg.MakeNoZero"], unfollowed := true, recurses := true, apart := false, narrowed := true }
def ParamsWritesUptoSaid : Prop := paramsWritesUptoRow.holds Try.pinned (OpenSpec.upto paramsWritesSpec)

/-- 'doorsteplaw07.ParamsSets', WHERE WHAT IT READS IS OF BULK AT MOST 1048576: true; the input reads as it did. -/
def paramsSetsUptoRow : OpenClaim := { program := "ythhpijmkhhdhhaa", sum := "9df1c8f98f20ef80a45c83276d2056bd9073f04f0188b91883dfaae8658a280a", func := "doorstep/doorsteplaw07.ParamsSets", spec := "paramsSets", inPlace := ["internal/bytealg.IndexByteString", "internal/abi.NoEscape", "internal/bytealg.MakeNoZero"], unfollowed := true, recurses := true, apart := false, narrowed := true }
def ParamsSetsUptoSaid : Prop := paramsSetsUptoRow.holds Try.pinned (OpenSpec.upto paramsSetsSpec)

/-- 'doorsteplaw11.RefSwaps', WHERE WHAT IT READS IS OF BULK AT MOST 1048576: true; the input reads as it did. -/
def refSwapsUptoRow : OpenClaim := { program := "ythhpijmkhhdhhaa", sum := "9df1c8f98f20ef80a45c83276d2056bd9073f04f0188b91883dfaae8658a280a", func := "doorstep/doorsteplaw11.RefSwaps", spec := "refSwaps", inPlace := ["internal/bytealg.IndexByteString", "internal/bytealg.IndexString"], unfollowed := true, recurses := true, named := ["internal/bytealg.MaxLen"], apart := false, narrowed := true }
def RefSwapsUptoSaid : Prop := refSwapsUptoRow.holds Try.pinned (OpenSpec.upto refSwapsSpec)

/-- 'doorsteplaw11.RefWrites', WHERE WHAT IT READS IS OF BULK AT MOST 1048576: true; the input reads as it did. -/
def refWritesUptoRow : OpenClaim := { program := "ythhpijmkhhdhhaa", sum := "9df1c8f98f20ef80a45c83276d2056bd9073f04f0188b91883dfaae8658a280a", func := "doorstep/doorsteplaw11.RefWrites", spec := "refWrites", inPlace := ["internal/bytealg.IndexByteString", "internal/bytealg.IndexString"], unfollowed := true, recurses := true, named := ["internal/bytealg.MaxLen"], apart := false, narrowed := true }
def RefWritesUptoSaid : Prop := refWritesUptoRow.holds Try.pinned (OpenSpec.upto refWritesSpec)

/-- 'doorsteplaw11.RefReads', WHERE WHAT IT READS IS OF BULK AT MOST 1048576: true; the input reads as it did. -/
def refReadsUptoRow : OpenClaim := { program := "ythhpijmkhhdhhaa", sum := "9df1c8f98f20ef80a45c83276d2056bd9073f04f0188b91883dfaae8658a280a", func := "doorstep/doorsteplaw11.RefReads", spec := "refReads", inPlace := ["internal/bytealg.IndexByteString", "internal/bytealg.IndexString"], unfollowed := true, recurses := true, named := ["internal/bytealg.MaxLen"], apart := false, narrowed := true }
def RefReadsUptoSaid : Prop := refReadsUptoRow.holds Try.pinned (OpenSpec.upto refReadsSpec)

end Rows
end Go.Proofs.Ythhpijmkhhdhhaa
