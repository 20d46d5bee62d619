/-
  No cell of these rows narrows 'for every input' (looked for: loops, veiled, ifaces, maps, wideKeys, modest, calm, conditions, laid).
  DERIVED. THE GIVEN ROWS OF THIS SEAT. 12 by the template 'for every input the law returns true; each argument reads behind the call as it read before'; 0 by the template 'total and deterministic' (their statements: YtgellbapbphnlaaTotals.lean).
  GIVEN WITH THE SEED: the statements are not yours to turn. If you find one false, say at which input.
  Laid BY PROGRAM, IN A SANDBOX (cutbox-rows.mjs): the forced cells as the released guide's own fill.sh prints them over the translation 7cfc4d69642cdaf6… (all of the seat's roots in one cut). By AI agents, Wed Nov 11 2026. No macro, syntax, notation, axiom, sorry.
-/
import Derived.Test.YtgellbapbphnlaaChecked
import GoSem.Claim
import GoSem.ClaimJoined
import GoSem.ClaimMapViews
import Derived.JoinedTies
import Derived.KernelRfl
namespace Go.Proofs.Ytgellbapbphnlaa
/- THE CELL 'sum', in the pinned program and in every row, IS THE sha256 OF THE DUMP (.gsa) THAT YtgellbapbphnlaaProg.lean LOADS. Nothing in Lean hashes anything: it is a label: what it is worth is what the hold of that sum in a sandbox is worth. -/
noncomputable def Try.pinned : Pinned := { name := "ytgellbapbphnlaa", sum := "7cfc4d69642cdaf68e95718e358b0b277b6a0251bafbad0a809920c9e016e932", checked := Try.checked }
namespace Rows
def none {H : Type} : Left H := { results := [], args := [] }

/-- 'palfreylaw14.WeaveCounters': WHATEVER THE INPUT: true; the input reads as it did. -/
def weaveCountersSpec : ChangeSpec := { name := "weaveCounters", fn := fun _ => fun
  | [d] => { results := [.lit (.bool true)], args := [d] }
  | _ => none }
def weaveCountersRow : OpenClaim := { program := "ytgellbapbphnlaa", sum := "7cfc4d69642cdaf68e95718e358b0b277b6a0251bafbad0a809920c9e016e932", func := "palfrey/palfreylaw14.WeaveCounters", spec := "weaveCounters", inPlace := ["math/bits.Add64"], unfollowed := true, recurses := true, apart := false }
def WeaveCountersSaid : Prop := weaveCountersRow.holds Try.pinned (OpenSpec.ofChange weaveCountersSpec)

/-- ITS FALSE NEIGHBOUR: 'it returns false'. Refute it at one input. -/
def weaveCountersWrong : ChangeSpec := { name := "weaveCounters", fn := fun _ => fun
  | [d] => { results := [.lit (.bool false)], args := [d] }
  | _ => none }
def WeaveCountersWrongFalsely : Prop := weaveCountersRow.holds Try.pinned (OpenSpec.ofChange weaveCountersWrong)

/-- 'palfreylaw14.WeaveBack': WHATEVER THE INPUT: true; the input reads as it did. -/
def weaveBackSpec : ChangeSpec := { name := "weaveBack", fn := fun _ => fun
  | [d] => { results := [.lit (.bool true)], args := [d] }
  | _ => none }
def weaveBackRow : OpenClaim := { program := "ytgellbapbphnlaa", sum := "7cfc4d69642cdaf68e95718e358b0b277b6a0251bafbad0a809920c9e016e932", func := "palfrey/palfreylaw14.WeaveBack", spec := "weaveBack", inPlace := ["math/bits.Add64"], unfollowed := true, recurses := true, apart := false }
def WeaveBackSaid : Prop := weaveBackRow.holds Try.pinned (OpenSpec.ofChange weaveBackSpec)

/-- ITS FALSE NEIGHBOUR: 'it returns false'. Refute it at one input. -/
def weaveBackWrong : ChangeSpec := { name := "weaveBack", fn := fun _ => fun
  | [d] => { results := [.lit (.bool false)], args := [d] }
  | _ => none }
def WeaveBackWrongFalsely : Prop := weaveBackRow.holds Try.pinned (OpenSpec.ofChange weaveBackWrong)

/-- 'palfreylaw14.WeaveSplit': WHATEVER THE INPUT: true; the input reads as it did. -/
def weaveSplitSpec : ChangeSpec := { name := "weaveSplit", fn := fun _ => fun
  | [d1, d2] => { results := [.lit (.bool true)], args := [d1, d2] }
  | _ => none }
def weaveSplitRow : OpenClaim := { program := "ytgellbapbphnlaa", sum := "7cfc4d69642cdaf68e95718e358b0b277b6a0251bafbad0a809920c9e016e932", func := "palfrey/palfreylaw14.WeaveSplit", spec := "weaveSplit", inPlace := ["math/bits.Add64"], unfollowed := true, recurses := true, apart := false }
def WeaveSplitSaid : Prop := weaveSplitRow.holds Try.pinned (OpenSpec.ofChange weaveSplitSpec)

/-- ITS FALSE NEIGHBOUR: 'it returns false'. Refute it at one input. -/
def weaveSplitWrong : ChangeSpec := { name := "weaveSplit", fn := fun _ => fun
  | [d1, d2] => { results := [.lit (.bool false)], args := [d1, d2] }
  | _ => none }
def WeaveSplitWrongFalsely : Prop := weaveSplitRow.holds Try.pinned (OpenSpec.ofChange weaveSplitWrong)

/-- 'palfreylaw14.WeaveStreams': WHATEVER THE INPUT: true; the input reads as it did. -/
def weaveStreamsSpec : ChangeSpec := { name := "weaveStreams", fn := fun _ => fun
  | [d] => { results := [.lit (.bool true)], args := [d] }
  | _ => none }
def weaveStreamsRow : OpenClaim := { program := "ytgellbapbphnlaa", sum := "7cfc4d69642cdaf68e95718e358b0b277b6a0251bafbad0a809920c9e016e932", func := "palfrey/palfreylaw14.WeaveStreams", spec := "weaveStreams", inPlace := ["math/bits.Add64"], unfollowed := true, recurses := true, apart := false }
def WeaveStreamsSaid : Prop := weaveStreamsRow.holds Try.pinned (OpenSpec.ofChange weaveStreamsSpec)

/-- ITS FALSE NEIGHBOUR: 'it returns false'. Refute it at one input. -/
def weaveStreamsWrong : ChangeSpec := { name := "weaveStreams", fn := fun _ => fun
  | [d] => { results := [.lit (.bool false)], args := [d] }
  | _ => none }
def WeaveStreamsWrongFalsely : Prop := weaveStreamsRow.holds Try.pinned (OpenSpec.ofChange weaveStreamsWrong)

/-- 'palfreylaw14.WeaveMates': WHATEVER THE INPUT: true; the input reads as it did. -/
def weaveMatesSpec : ChangeSpec := { name := "weaveMates", fn := fun _ => fun
  | [d1, d2, d3] => { results := [.lit (.bool true)], args := [d1, d2, d3] }
  | _ => none }
def weaveMatesRow : OpenClaim := { program := "ytgellbapbphnlaa", sum := "7cfc4d69642cdaf68e95718e358b0b277b6a0251bafbad0a809920c9e016e932", func := "palfrey/palfreylaw14.WeaveMates", spec := "weaveMates", inPlace := ["math/bits.Add64"], unfollowed := true, recurses := true, apart := false }
def WeaveMatesSaid : Prop := weaveMatesRow.holds Try.pinned (OpenSpec.ofChange weaveMatesSpec)

/-- ITS FALSE NEIGHBOUR: 'it returns false'. Refute it at one input. -/
def weaveMatesWrong : ChangeSpec := { name := "weaveMates", fn := fun _ => fun
  | [d1, d2, d3] => { results := [.lit (.bool false)], args := [d1, d2, d3] }
  | _ => none }
def WeaveMatesWrongFalsely : Prop := weaveMatesRow.holds Try.pinned (OpenSpec.ofChange weaveMatesWrong)

/-- 'palfreylaw10.GcmSeals': WHATEVER THE INPUT: true; the input reads as it did. -/
def gcmSealsSpec : ChangeSpec := { name := "gcmSeals", fn := fun _ => fun
  | [d1, d2] => { results := [.lit (.bool true)], args := [d1, d2] }
  | _ => none }
def gcmSealsRow : OpenClaim := { program := "ytgellbapbphnlaa", sum := "7cfc4d69642cdaf68e95718e358b0b277b6a0251bafbad0a809920c9e016e932", func := "palfrey/palfreylaw10.GcmSeals", spec := "gcmSeals", unfollowed := true, recurses := true, apart := false }
def GcmSealsSaid : Prop := gcmSealsRow.holds Try.pinned (OpenSpec.ofChange gcmSealsSpec)

/-- ITS FALSE NEIGHBOUR: 'it returns false'. Refute it at one input. -/
def gcmSealsWrong : ChangeSpec := { name := "gcmSeals", fn := fun _ => fun
  | [d1, d2] => { results := [.lit (.bool false)], args := [d1, d2] }
  | _ => none }
def GcmSealsWrongFalsely : Prop := gcmSealsRow.holds Try.pinned (OpenSpec.ofChange gcmSealsWrong)

/-- 'palfreylaw10.GcmStream': WHATEVER THE INPUT: true; the input reads as it did. -/
def gcmStreamSpec : ChangeSpec := { name := "gcmStream", fn := fun _ => fun
  | [d1, d2, d3] => { results := [.lit (.bool true)], args := [d1, d2, d3] }
  | _ => none }
def gcmStreamRow : OpenClaim := { program := "ytgellbapbphnlaa", sum := "7cfc4d69642cdaf68e95718e358b0b277b6a0251bafbad0a809920c9e016e932", func := "palfrey/palfreylaw10.GcmStream", spec := "gcmStream", unfollowed := true, recurses := true, apart := false }
def GcmStreamSaid : Prop := gcmStreamRow.holds Try.pinned (OpenSpec.ofChange gcmStreamSpec)

/-- ITS FALSE NEIGHBOUR: 'it returns false'. Refute it at one input. -/
def gcmStreamWrong : ChangeSpec := { name := "gcmStream", fn := fun _ => fun
  | [d1, d2, d3] => { results := [.lit (.bool false)], args := [d1, d2, d3] }
  | _ => none }
def GcmStreamWrongFalsely : Prop := gcmStreamRow.holds Try.pinned (OpenSpec.ofChange gcmStreamWrong)

/-- 'palfreylaw10.GcmOpens': WHATEVER THE INPUT: true; the input reads as it did. -/
def gcmOpensSpec : ChangeSpec := { name := "gcmOpens", fn := fun _ => fun
  | [d1, d2] => { results := [.lit (.bool true)], args := [d1, d2] }
  | _ => none }
def gcmOpensRow : OpenClaim := { program := "ytgellbapbphnlaa", sum := "7cfc4d69642cdaf68e95718e358b0b277b6a0251bafbad0a809920c9e016e932", func := "palfrey/palfreylaw10.GcmOpens", spec := "gcmOpens", unfollowed := true, recurses := true, apart := false }
def GcmOpensSaid : Prop := gcmOpensRow.holds Try.pinned (OpenSpec.ofChange gcmOpensSpec)

/-- ITS FALSE NEIGHBOUR: 'it returns false'. Refute it at one input. -/
def gcmOpensWrong : ChangeSpec := { name := "gcmOpens", fn := fun _ => fun
  | [d1, d2] => { results := [.lit (.bool false)], args := [d1, d2] }
  | _ => none }
def GcmOpensWrongFalsely : Prop := gcmOpensRow.holds Try.pinned (OpenSpec.ofChange gcmOpensWrong)

/-- 'palfreylaw10.GcmBack': WHATEVER THE INPUT: true; the input reads as it did. -/
def gcmBackSpec : ChangeSpec := { name := "gcmBack", fn := fun _ => fun
  | [d1, d2] => { results := [.lit (.bool true)], args := [d1, d2] }
  | _ => none }
def gcmBackRow : OpenClaim := { program := "ytgellbapbphnlaa", sum := "7cfc4d69642cdaf68e95718e358b0b277b6a0251bafbad0a809920c9e016e932", func := "palfrey/palfreylaw10.GcmBack", spec := "gcmBack", unfollowed := true, recurses := true, apart := false }
def GcmBackSaid : Prop := gcmBackRow.holds Try.pinned (OpenSpec.ofChange gcmBackSpec)

/-- ITS FALSE NEIGHBOUR: 'it returns false'. Refute it at one input. -/
def gcmBackWrong : ChangeSpec := { name := "gcmBack", fn := fun _ => fun
  | [d1, d2] => { results := [.lit (.bool false)], args := [d1, d2] }
  | _ => none }
def GcmBackWrongFalsely : Prop := gcmBackRow.holds Try.pinned (OpenSpec.ofChange gcmBackWrong)

/-- 'palfreylaw10.GcmTurned': WHATEVER THE INPUT: true; the input reads as it did. -/
def gcmTurnedSpec : ChangeSpec := { name := "gcmTurned", fn := fun _ => fun
  | [d1, d2, d3] => { results := [.lit (.bool true)], args := [d1, d2, d3] }
  | _ => none }
def gcmTurnedRow : OpenClaim := { program := "ytgellbapbphnlaa", sum := "7cfc4d69642cdaf68e95718e358b0b277b6a0251bafbad0a809920c9e016e932", func := "palfrey/palfreylaw10.GcmTurned", spec := "gcmTurned", unfollowed := true, recurses := true, apart := false }
def GcmTurnedSaid : Prop := gcmTurnedRow.holds Try.pinned (OpenSpec.ofChange gcmTurnedSpec)

/-- ITS FALSE NEIGHBOUR: 'it returns false'. Refute it at one input. -/
def gcmTurnedWrong : ChangeSpec := { name := "gcmTurned", fn := fun _ => fun
  | [d1, d2, d3] => { results := [.lit (.bool false)], args := [d1, d2, d3] }
  | _ => none }
def GcmTurnedWrongFalsely : Prop := gcmTurnedRow.holds Try.pinned (OpenSpec.ofChange gcmTurnedWrong)

/-- 'palfreylaw10.GcmOneBit': WHATEVER THE INPUT: true; the input reads as it did. -/
def gcmOneBitSpec : ChangeSpec := { name := "gcmOneBit", fn := fun _ => fun
  | [d] => { results := [.lit (.bool true)], args := [d] }
  | _ => none }
def gcmOneBitRow : OpenClaim := { program := "ytgellbapbphnlaa", sum := "7cfc4d69642cdaf68e95718e358b0b277b6a0251bafbad0a809920c9e016e932", func := "palfrey/palfreylaw10.GcmOneBit", spec := "gcmOneBit", unfollowed := true, recurses := true, apart := false }
def GcmOneBitSaid : Prop := gcmOneBitRow.holds Try.pinned (OpenSpec.ofChange gcmOneBitSpec)

/-- ITS FALSE NEIGHBOUR: 'it returns false'. Refute it at one input. -/
def gcmOneBitWrong : ChangeSpec := { name := "gcmOneBit", fn := fun _ => fun
  | [d] => { results := [.lit (.bool false)], args := [d] }
  | _ => none }
def GcmOneBitWrongFalsely : Prop := gcmOneBitRow.holds Try.pinned (OpenSpec.ofChange gcmOneBitWrong)

/-- 'palfreylaw10.GcmAad': WHATEVER THE INPUT: true; the input reads as it did. -/
def gcmAadSpec : ChangeSpec := { name := "gcmAad", fn := fun _ => fun
  | [d1, d2, d3] => { results := [.lit (.bool true)], args := [d1, d2, d3] }
  | _ => none }
def gcmAadRow : OpenClaim := { program := "ytgellbapbphnlaa", sum := "7cfc4d69642cdaf68e95718e358b0b277b6a0251bafbad0a809920c9e016e932", func := "palfrey/palfreylaw10.GcmAad", spec := "gcmAad", unfollowed := true, recurses := true, apart := false }
def GcmAadSaid : Prop := gcmAadRow.holds Try.pinned (OpenSpec.ofChange gcmAadSpec)

/-- ITS FALSE NEIGHBOUR: 'it returns false'. Refute it at one input. -/
def gcmAadWrong : ChangeSpec := { name := "gcmAad", fn := fun _ => fun
  | [d1, d2, d3] => { results := [.lit (.bool false)], args := [d1, d2, d3] }
  | _ => none }
def GcmAadWrongFalsely : Prop := gcmAadRow.holds Try.pinned (OpenSpec.ofChange gcmAadWrong)

/- THE SECOND FORM. 'bulk': how many values and letters a reading holds, each counted each time it is reached (what is shared counts as often as it is met; a slice's spare places count too). A statement '..UptoSaid' is the law's where the arguments, and the package variables that the reading takes, are together of bulk at most 1048576: NARROWER than '..Said'. Prove '..Said' where nothing that the law and all that it calls make is longer than what came in: it says more and counts as full. Else prove '..UptoSaid'. A law counts once. -/
mutual
def uptoBulk {H : Type} : DataW H → Nat
  | .lit (.string bytes) => bytes.length + 1
  | .lit _ => 1
  | .nil => 1
  | .ptr d => uptoBulk d + 1
  | .slice elems spare => uptoBulkAll elems + uptoBulkAll spare + 1
  | .agg parts => uptoBulkAll parts + 1
  | .iface _ d => uptoBulk d + 1
  | .map entries => uptoBulkEntries entries + 1
  | .held _ => 1
def uptoBulkAll {H : Type} : List (DataW H) → Nat
  | [] => 0
  | d :: r => uptoBulk d + uptoBulkAll r
def uptoBulkEntries {H : Type} : List (Lit × DataW H) → Nat
  | [] => 0
  | x :: r => uptoBulkEntry x + uptoBulkEntries r
def uptoBulkEntry {H : Type} : Lit × DataW H → Nat
  | (.string bytes, d) => bytes.length + uptoBulk d + 1
  | (_, d) => uptoBulk d + 1
 end
def uptoSmall : (H : Type) → List (DataW H) → Bool := fun _ ds => decide (uptoBulkAll ds ≤ 1048576)
def OpenSpec.upto (s : _root_.Go.ChangeSpec) : _root_.Go.OpenSpec := { _root_.Go.OpenSpec.ofChange s with cond := some uptoSmall }

/-- 'palfreylaw14.WeaveCounters', WHERE WHAT IT READS IS OF BULK AT MOST 1048576: true; the input reads as it did. -/
def weaveCountersUptoRow : OpenClaim := { program := "ytgellbapbphnlaa", sum := "7cfc4d69642cdaf68e95718e358b0b277b6a0251bafbad0a809920c9e016e932", func := "palfrey/palfreylaw14.WeaveCounters", spec := "weaveCounters", inPlace := ["math/bits.Add64"], unfollowed := true, recurses := true, apart := false, narrowed := true }
def WeaveCountersUptoSaid : Prop := weaveCountersUptoRow.holds Try.pinned (OpenSpec.upto weaveCountersSpec)

/-- 'palfreylaw14.WeaveBack', WHERE WHAT IT READS IS OF BULK AT MOST 1048576: true; the input reads as it did. -/
def weaveBackUptoRow : OpenClaim := { program := "ytgellbapbphnlaa", sum := "7cfc4d69642cdaf68e95718e358b0b277b6a0251bafbad0a809920c9e016e932", func := "palfrey/palfreylaw14.WeaveBack", spec := "weaveBack", inPlace := ["math/bits.Add64"], unfollowed := true, recurses := true, apart := false, narrowed := true }
def WeaveBackUptoSaid : Prop := weaveBackUptoRow.holds Try.pinned (OpenSpec.upto weaveBackSpec)

/-- 'palfreylaw14.WeaveSplit', WHERE WHAT IT READS IS OF BULK AT MOST 1048576: true; the input reads as it did. -/
def weaveSplitUptoRow : OpenClaim := { program := "ytgellbapbphnlaa", sum := "7cfc4d69642cdaf68e95718e358b0b277b6a0251bafbad0a809920c9e016e932", func := "palfrey/palfreylaw14.WeaveSplit", spec := "weaveSplit", inPlace := ["math/bits.Add64"], unfollowed := true, recurses := true, apart := false, narrowed := true }
def WeaveSplitUptoSaid : Prop := weaveSplitUptoRow.holds Try.pinned (OpenSpec.upto weaveSplitSpec)

/-- 'palfreylaw14.WeaveStreams', WHERE WHAT IT READS IS OF BULK AT MOST 1048576: true; the input reads as it did. -/
def weaveStreamsUptoRow : OpenClaim := { program := "ytgellbapbphnlaa", sum := "7cfc4d69642cdaf68e95718e358b0b277b6a0251bafbad0a809920c9e016e932", func := "palfrey/palfreylaw14.WeaveStreams", spec := "weaveStreams", inPlace := ["math/bits.Add64"], unfollowed := true, recurses := true, apart := false, narrowed := true }
def WeaveStreamsUptoSaid : Prop := weaveStreamsUptoRow.holds Try.pinned (OpenSpec.upto weaveStreamsSpec)

/-- 'palfreylaw14.WeaveMates', WHERE WHAT IT READS IS OF BULK AT MOST 1048576: true; the input reads as it did. -/
def weaveMatesUptoRow : OpenClaim := { program := "ytgellbapbphnlaa", sum := "7cfc4d69642cdaf68e95718e358b0b277b6a0251bafbad0a809920c9e016e932", func := "palfrey/palfreylaw14.WeaveMates", spec := "weaveMates", inPlace := ["math/bits.Add64"], unfollowed := true, recurses := true, apart := false, narrowed := true }
def WeaveMatesUptoSaid : Prop := weaveMatesUptoRow.holds Try.pinned (OpenSpec.upto weaveMatesSpec)

/-- 'palfreylaw10.GcmSeals', WHERE WHAT IT READS IS OF BULK AT MOST 1048576: true; the input reads as it did. -/
def gcmSealsUptoRow : OpenClaim := { program := "ytgellbapbphnlaa", sum := "7cfc4d69642cdaf68e95718e358b0b277b6a0251bafbad0a809920c9e016e932", func := "palfrey/palfreylaw10.GcmSeals", spec := "gcmSeals", unfollowed := true, recurses := true, apart := false, narrowed := true }
def GcmSealsUptoSaid : Prop := gcmSealsUptoRow.holds Try.pinned (OpenSpec.upto gcmSealsSpec)

/-- 'palfreylaw10.GcmStream', WHERE WHAT IT READS IS OF BULK AT MOST 1048576: true; the input reads as it did. -/
def gcmStreamUptoRow : OpenClaim := { program := "ytgellbapbphnlaa", sum := "7cfc4d69642cdaf68e95718e358b0b277b6a0251bafbad0a809920c9e016e932", func := "palfrey/palfreylaw10.GcmStream", spec := "gcmStream", unfollowed := true, recurses := true, apart := false, narrowed := true }
def GcmStreamUptoSaid : Prop := gcmStreamUptoRow.holds Try.pinned (OpenSpec.upto gcmStreamSpec)

/-- 'palfreylaw10.GcmOpens', WHERE WHAT IT READS IS OF BULK AT MOST 1048576: true; the input reads as it did. -/
def gcmOpensUptoRow : OpenClaim := { program := "ytgellbapbphnlaa", sum := "7cfc4d69642cdaf68e95718e358b0b277b6a0251bafbad0a809920c9e016e932", func := "palfrey/palfreylaw10.GcmOpens", spec := "gcmOpens", unfollowed := true, recurses := true, apart := false, narrowed := true }
def GcmOpensUptoSaid : Prop := gcmOpensUptoRow.holds Try.pinned (OpenSpec.upto gcmOpensSpec)

/-- 'palfreylaw10.GcmBack', WHERE WHAT IT READS IS OF BULK AT MOST 1048576: true; the input reads as it did. -/
def gcmBackUptoRow : OpenClaim := { program := "ytgellbapbphnlaa", sum := "7cfc4d69642cdaf68e95718e358b0b277b6a0251bafbad0a809920c9e016e932", func := "palfrey/palfreylaw10.GcmBack", spec := "gcmBack", unfollowed := true, recurses := true, apart := false, narrowed := true }
def GcmBackUptoSaid : Prop := gcmBackUptoRow.holds Try.pinned (OpenSpec.upto gcmBackSpec)

/-- 'palfreylaw10.GcmTurned', WHERE WHAT IT READS IS OF BULK AT MOST 1048576: true; the input reads as it did. -/
def gcmTurnedUptoRow : OpenClaim := { program := "ytgellbapbphnlaa", sum := "7cfc4d69642cdaf68e95718e358b0b277b6a0251bafbad0a809920c9e016e932", func := "palfrey/palfreylaw10.GcmTurned", spec := "gcmTurned", unfollowed := true, recurses := true, apart := false, narrowed := true }
def GcmTurnedUptoSaid : Prop := gcmTurnedUptoRow.holds Try.pinned (OpenSpec.upto gcmTurnedSpec)

/-- 'palfreylaw10.GcmOneBit', WHERE WHAT IT READS IS OF BULK AT MOST 1048576: true; the input reads as it did. -/
def gcmOneBitUptoRow : OpenClaim := { program := "ytgellbapbphnlaa", sum := "7cfc4d69642cdaf68e95718e358b0b277b6a0251bafbad0a809920c9e016e932", func := "palfrey/palfreylaw10.GcmOneBit", spec := "gcmOneBit", unfollowed := true, recurses := true, apart := false, narrowed := true }
def GcmOneBitUptoSaid : Prop := gcmOneBitUptoRow.holds Try.pinned (OpenSpec.upto gcmOneBitSpec)

/-- 'palfreylaw10.GcmAad', WHERE WHAT IT READS IS OF BULK AT MOST 1048576: true; the input reads as it did. -/
def gcmAadUptoRow : OpenClaim := { program := "ytgellbapbphnlaa", sum := "7cfc4d69642cdaf68e95718e358b0b277b6a0251bafbad0a809920c9e016e932", func := "palfrey/palfreylaw10.GcmAad", spec := "gcmAad", unfollowed := true, recurses := true, apart := false, narrowed := true }
def GcmAadUptoSaid : Prop := gcmAadUptoRow.holds Try.pinned (OpenSpec.upto gcmAadSpec)

end Rows
end Go.Proofs.Ytgellbapbphnlaa
