/-
  No cell of these rows narrows 'for every input' (looked for: loops, veiled, ifaces, maps, wideKeys, modest, calm, conditions, laid).
  DERIVED. THE GIVEN ROWS OF THIS SEAT. 10 by the template 'for every input the law returns true; each argument reads behind the call as it read before'; 0 by the template 'total and deterministic' (their statements: YtlgeebnmonmdaaaTotals.lean).
  GIVEN WITH THE SEED: the statements are not yours to turn. If you find one false, say at which input.
  Laid BY PROGRAM, IN A SANDBOX (cutbox-rows.mjs): the forced cells as the released guide's own fill.sh prints them over the translation 6d34545f57117b2c… (all of the seat's roots in one cut). By AI agents, Wed Nov 11 2026. No macro, syntax, notation, axiom, sorry.
-/
import Derived.Test.YtlgeebnmonmdaaaChecked
import GoSem.Claim
import GoSem.ClaimJoined
import GoSem.ClaimMapViews
import Derived.JoinedTies
import Derived.KernelRfl
namespace Go.Proofs.Ytlgeebnmonmdaaa
/- THE CELL 'sum', in the pinned program and in every row, IS THE sha256 OF THE DUMP (.gsa) THAT YtlgeebnmonmdaaaProg.lean LOADS. Nothing in Lean hashes anything: it is a label: what it is worth is what the hold of that sum in a sandbox is worth. -/
noncomputable def Try.pinned : Pinned := { name := "ytlgeebnmonmdaaa", sum := "6d34545f57117b2cc9f7db4dd22330484d1b36676688a8f039c865784b82d50a", checked := Try.checked }
namespace Rows
def none {H : Type} : Left H := { results := [], args := [] }

/-- 'palfreylaw08.CtrCrypts': WHATEVER THE INPUT: true; the input reads as it did. -/
def ctrCryptsSpec : ChangeSpec := { name := "ctrCrypts", fn := fun _ => fun
  | [d1, d2] => { results := [.lit (.bool true)], args := [d1, d2] }
  | _ => none }
def ctrCryptsRow : OpenClaim := { program := "ytlgeebnmonmdaaa", sum := "6d34545f57117b2cc9f7db4dd22330484d1b36676688a8f039c865784b82d50a", func := "palfrey/palfreylaw08.CtrCrypts", spec := "ctrCrypts", inPlace := ["math/bits.Add64"], unfollowed := true, recurses := true, apart := false }
def CtrCryptsSaid : Prop := ctrCryptsRow.holds Try.pinned (OpenSpec.ofChange ctrCryptsSpec)

/-- ITS FALSE NEIGHBOUR: 'it returns false'. Refute it at one input. -/
def ctrCryptsWrong : ChangeSpec := { name := "ctrCrypts", fn := fun _ => fun
  | [d1, d2] => { results := [.lit (.bool false)], args := [d1, d2] }
  | _ => none }
def CtrCryptsWrongFalsely : Prop := ctrCryptsRow.holds Try.pinned (OpenSpec.ofChange ctrCryptsWrong)

/-- 'palfreylaw08.CtrBack': WHATEVER THE INPUT: true; the input reads as it did. -/
def ctrBackSpec : ChangeSpec := { name := "ctrBack", fn := fun _ => fun
  | [d] => { results := [.lit (.bool true)], args := [d] }
  | _ => none }
def ctrBackRow : OpenClaim := { program := "ytlgeebnmonmdaaa", sum := "6d34545f57117b2cc9f7db4dd22330484d1b36676688a8f039c865784b82d50a", func := "palfrey/palfreylaw08.CtrBack", spec := "ctrBack", inPlace := ["math/bits.Add64"], unfollowed := true, recurses := true, apart := false }
def CtrBackSaid : Prop := ctrBackRow.holds Try.pinned (OpenSpec.ofChange ctrBackSpec)

/-- ITS FALSE NEIGHBOUR: 'it returns false'. Refute it at one input. -/
def ctrBackWrong : ChangeSpec := { name := "ctrBack", fn := fun _ => fun
  | [d] => { results := [.lit (.bool false)], args := [d] }
  | _ => none }
def CtrBackWrongFalsely : Prop := ctrBackRow.holds Try.pinned (OpenSpec.ofChange ctrBackWrong)

/-- 'palfreylaw08.CtrCuts': WHATEVER THE INPUT: true; the input reads as it did. -/
def ctrCutsSpec : ChangeSpec := { name := "ctrCuts", fn := fun _ => fun
  | [d1, d2, d3] => { results := [.lit (.bool true)], args := [d1, d2, d3] }
  | _ => none }
def ctrCutsRow : OpenClaim := { program := "ytlgeebnmonmdaaa", sum := "6d34545f57117b2cc9f7db4dd22330484d1b36676688a8f039c865784b82d50a", func := "palfrey/palfreylaw08.CtrCuts", spec := "ctrCuts", inPlace := ["math/bits.Add64"], unfollowed := true, recurses := true, apart := false }
def CtrCutsSaid : Prop := ctrCutsRow.holds Try.pinned (OpenSpec.ofChange ctrCutsSpec)

/-- ITS FALSE NEIGHBOUR: 'it returns false'. Refute it at one input. -/
def ctrCutsWrong : ChangeSpec := { name := "ctrCuts", fn := fun _ => fun
  | [d1, d2, d3] => { results := [.lit (.bool false)], args := [d1, d2, d3] }
  | _ => none }
def CtrCutsWrongFalsely : Prop := ctrCutsRow.holds Try.pinned (OpenSpec.ofChange ctrCutsWrong)

/-- 'palfreylaw08.CtrParts': WHATEVER THE INPUT: true; the input reads as it did. -/
def ctrPartsSpec : ChangeSpec := { name := "ctrParts", fn := fun _ => fun
  | [d1, d2] => { results := [.lit (.bool true)], args := [d1, d2] }
  | _ => none }
def ctrPartsRow : OpenClaim := { program := "ytlgeebnmonmdaaa", sum := "6d34545f57117b2cc9f7db4dd22330484d1b36676688a8f039c865784b82d50a", func := "palfrey/palfreylaw08.CtrParts", spec := "ctrParts", inPlace := ["math/bits.Add64"], unfollowed := true, recurses := true, apart := false }
def CtrPartsSaid : Prop := ctrPartsRow.holds Try.pinned (OpenSpec.ofChange ctrPartsSpec)

/-- ITS FALSE NEIGHBOUR: 'it returns false'. Refute it at one input. -/
def ctrPartsWrong : ChangeSpec := { name := "ctrParts", fn := fun _ => fun
  | [d1, d2] => { results := [.lit (.bool false)], args := [d1, d2] }
  | _ => none }
def CtrPartsWrongFalsely : Prop := ctrPartsRow.holds Try.pinned (OpenSpec.ofChange ctrPartsWrong)

/-- 'palfreylaw09.CbcOpens': WHATEVER THE INPUT: true; the input reads as it did. -/
def cbcOpensSpec : ChangeSpec := { name := "cbcOpens", fn := fun _ => fun
  | [d1, d2] => { results := [.lit (.bool true)], args := [d1, d2] }
  | _ => none }
def cbcOpensRow : OpenClaim := { program := "ytlgeebnmonmdaaa", sum := "6d34545f57117b2cc9f7db4dd22330484d1b36676688a8f039c865784b82d50a", func := "palfrey/palfreylaw09.CbcOpens", spec := "cbcOpens", inPlace := ["internal/bytealg.MakeNoZero"], unfollowed := true, recurses := true, apart := false }
def CbcOpensSaid : Prop := cbcOpensRow.holds Try.pinned (OpenSpec.ofChange cbcOpensSpec)

/-- ITS FALSE NEIGHBOUR: 'it returns false'. Refute it at one input. -/
def cbcOpensWrong : ChangeSpec := { name := "cbcOpens", fn := fun _ => fun
  | [d1, d2] => { results := [.lit (.bool false)], args := [d1, d2] }
  | _ => none }
def CbcOpensWrongFalsely : Prop := cbcOpensRow.holds Try.pinned (OpenSpec.ofChange cbcOpensWrong)

/-- 'palfreylaw09.CbcShort': WHATEVER THE INPUT: true; the input reads as it did. -/
def cbcShortSpec : ChangeSpec := { name := "cbcShort", fn := fun _ => fun
  | [d1, d2] => { results := [.lit (.bool true)], args := [d1, d2] }
  | _ => none }
def cbcShortRow : OpenClaim := { program := "ytlgeebnmonmdaaa", sum := "6d34545f57117b2cc9f7db4dd22330484d1b36676688a8f039c865784b82d50a", func := "palfrey/palfreylaw09.CbcShort", spec := "cbcShort", inPlace := ["internal/bytealg.MakeNoZero"], unfollowed := true, recurses := true, apart := false }
def CbcShortSaid : Prop := cbcShortRow.holds Try.pinned (OpenSpec.ofChange cbcShortSpec)

/-- ITS FALSE NEIGHBOUR: 'it returns false'. Refute it at one input. -/
def cbcShortWrong : ChangeSpec := { name := "cbcShort", fn := fun _ => fun
  | [d1, d2] => { results := [.lit (.bool false)], args := [d1, d2] }
  | _ => none }
def CbcShortWrongFalsely : Prop := cbcShortRow.holds Try.pinned (OpenSpec.ofChange cbcShortWrong)

/-- 'palfreylaw09.CbcSeals': WHATEVER THE INPUT: true; the input reads as it did. -/
def cbcSealsSpec : ChangeSpec := { name := "cbcSeals", fn := fun _ => fun
  | [d1, d2] => { results := [.lit (.bool true)], args := [d1, d2] }
  | _ => none }
def cbcSealsRow : OpenClaim := { program := "ytlgeebnmonmdaaa", sum := "6d34545f57117b2cc9f7db4dd22330484d1b36676688a8f039c865784b82d50a", func := "palfrey/palfreylaw09.CbcSeals", spec := "cbcSeals", inPlace := ["internal/bytealg.MakeNoZero"], unfollowed := true, recurses := true, apart := false }
def CbcSealsSaid : Prop := cbcSealsRow.holds Try.pinned (OpenSpec.ofChange cbcSealsSpec)

/-- ITS FALSE NEIGHBOUR: 'it returns false'. Refute it at one input. -/
def cbcSealsWrong : ChangeSpec := { name := "cbcSeals", fn := fun _ => fun
  | [d1, d2] => { results := [.lit (.bool false)], args := [d1, d2] }
  | _ => none }
def CbcSealsWrongFalsely : Prop := cbcSealsRow.holds Try.pinned (OpenSpec.ofChange cbcSealsWrong)

/-- 'palfreylaw09.CbcChained': WHATEVER THE INPUT: true; the input reads as it did. -/
def cbcChainedSpec : ChangeSpec := { name := "cbcChained", fn := fun _ => fun
  | [d1, d2, d3] => { results := [.lit (.bool true)], args := [d1, d2, d3] }
  | _ => none }
def cbcChainedRow : OpenClaim := { program := "ytlgeebnmonmdaaa", sum := "6d34545f57117b2cc9f7db4dd22330484d1b36676688a8f039c865784b82d50a", func := "palfrey/palfreylaw09.CbcChained", spec := "cbcChained", inPlace := ["internal/bytealg.MakeNoZero"], unfollowed := true, recurses := true, apart := false }
def CbcChainedSaid : Prop := cbcChainedRow.holds Try.pinned (OpenSpec.ofChange cbcChainedSpec)

/-- ITS FALSE NEIGHBOUR: 'it returns false'. Refute it at one input. -/
def cbcChainedWrong : ChangeSpec := { name := "cbcChained", fn := fun _ => fun
  | [d1, d2, d3] => { results := [.lit (.bool false)], args := [d1, d2, d3] }
  | _ => none }
def CbcChainedWrongFalsely : Prop := cbcChainedRow.holds Try.pinned (OpenSpec.ofChange cbcChainedWrong)

/-- 'palfreylaw09.CbcOne': WHATEVER THE INPUT: true; the input reads as it did. -/
def cbcOneSpec : ChangeSpec := { name := "cbcOne", fn := fun _ => fun
  | [d1, d2] => { results := [.lit (.bool true)], args := [d1, d2] }
  | _ => none }
def cbcOneRow : OpenClaim := { program := "ytlgeebnmonmdaaa", sum := "6d34545f57117b2cc9f7db4dd22330484d1b36676688a8f039c865784b82d50a", func := "palfrey/palfreylaw09.CbcOne", spec := "cbcOne", inPlace := ["internal/bytealg.MakeNoZero"], unfollowed := true, recurses := true, apart := false }
def CbcOneSaid : Prop := cbcOneRow.holds Try.pinned (OpenSpec.ofChange cbcOneSpec)

/-- ITS FALSE NEIGHBOUR: 'it returns false'. Refute it at one input. -/
def cbcOneWrong : ChangeSpec := { name := "cbcOne", fn := fun _ => fun
  | [d1, d2] => { results := [.lit (.bool false)], args := [d1, d2] }
  | _ => none }
def CbcOneWrongFalsely : Prop := cbcOneRow.holds Try.pinned (OpenSpec.ofChange cbcOneWrong)

/-- 'palfreylaw09.CbcBack': WHATEVER THE INPUT: true; the input reads as it did. -/
def cbcBackSpec : ChangeSpec := { name := "cbcBack", fn := fun _ => fun
  | [d1, d2] => { results := [.lit (.bool true)], args := [d1, d2] }
  | _ => none }
def cbcBackRow : OpenClaim := { program := "ytlgeebnmonmdaaa", sum := "6d34545f57117b2cc9f7db4dd22330484d1b36676688a8f039c865784b82d50a", func := "palfrey/palfreylaw09.CbcBack", spec := "cbcBack", inPlace := ["internal/bytealg.MakeNoZero"], unfollowed := true, recurses := true, apart := false }
def CbcBackSaid : Prop := cbcBackRow.holds Try.pinned (OpenSpec.ofChange cbcBackSpec)

/-- ITS FALSE NEIGHBOUR: 'it returns false'. Refute it at one input. -/
def cbcBackWrong : ChangeSpec := { name := "cbcBack", fn := fun _ => fun
  | [d1, d2] => { results := [.lit (.bool false)], args := [d1, d2] }
  | _ => none }
def CbcBackWrongFalsely : Prop := cbcBackRow.holds Try.pinned (OpenSpec.ofChange cbcBackWrong)

/- THE SECOND FORM. 'bulk': how many values and letters a reading holds, each counted each time it is reached (what is shared counts as often as it is met; a slice's spare places count too). A statement '..UptoSaid' is the law's where the arguments, and the package variables that the reading takes, are together of bulk at most 1048576: NARROWER than '..Said'. Prove '..Said' where nothing that the law and all that it calls make is longer than what came in: it says more and counts as full. Else prove '..UptoSaid'. A law counts once. -/
mutual
def uptoBulk {H : Type} : DataW H → Nat
  | .lit (.string bytes) => bytes.length + 1
  | .lit _ => 1
  | .nil => 1
  | .ptr d => uptoBulk d + 1
  | .slice elems spare => uptoBulkAll elems + uptoBulkAll spare + 1
  | .agg parts => uptoBulkAll parts + 1
  | .iface _ d => uptoBulk d + 1
  | .map entries => uptoBulkEntries entries + 1
  | .held _ => 1
def uptoBulkAll {H : Type} : List (DataW H) → Nat
  | [] => 0
  | d :: r => uptoBulk d + uptoBulkAll r
def uptoBulkEntries {H : Type} : List (Lit × DataW H) → Nat
  | [] => 0
  | x :: r => uptoBulkEntry x + uptoBulkEntries r
def uptoBulkEntry {H : Type} : Lit × DataW H → Nat
  | (.string bytes, d) => bytes.length + uptoBulk d + 1
  | (_, d) => uptoBulk d + 1
 end
def uptoSmall : (H : Type) → List (DataW H) → Bool := fun _ ds => decide (uptoBulkAll ds ≤ 1048576)
def OpenSpec.upto (s : _root_.Go.ChangeSpec) : _root_.Go.OpenSpec := { _root_.Go.OpenSpec.ofChange s with cond := some uptoSmall }

/-- 'palfreylaw08.CtrCrypts', WHERE WHAT IT READS IS OF BULK AT MOST 1048576: true; the input reads as it did. -/
def ctrCryptsUptoRow : OpenClaim := { program := "ytlgeebnmonmdaaa", sum := "6d34545f57117b2cc9f7db4dd22330484d1b36676688a8f039c865784b82d50a", func := "palfrey/palfreylaw08.CtrCrypts", spec := "ctrCrypts", inPlace := ["math/bits.Add64"], unfollowed := true, recurses := true, apart := false, narrowed := true }
def CtrCryptsUptoSaid : Prop := ctrCryptsUptoRow.holds Try.pinned (OpenSpec.upto ctrCryptsSpec)

/-- 'palfreylaw08.CtrBack', WHERE WHAT IT READS IS OF BULK AT MOST 1048576: true; the input reads as it did. -/
def ctrBackUptoRow : OpenClaim := { program := "ytlgeebnmonmdaaa", sum := "6d34545f57117b2cc9f7db4dd22330484d1b36676688a8f039c865784b82d50a", func := "palfrey/palfreylaw08.CtrBack", spec := "ctrBack", inPlace := ["math/bits.Add64"], unfollowed := true, recurses := true, apart := false, narrowed := true }
def CtrBackUptoSaid : Prop := ctrBackUptoRow.holds Try.pinned (OpenSpec.upto ctrBackSpec)

/-- 'palfreylaw08.CtrCuts', WHERE WHAT IT READS IS OF BULK AT MOST 1048576: true; the input reads as it did. -/
def ctrCutsUptoRow : OpenClaim := { program := "ytlgeebnmonmdaaa", sum := "6d34545f57117b2cc9f7db4dd22330484d1b36676688a8f039c865784b82d50a", func := "palfrey/palfreylaw08.CtrCuts", spec := "ctrCuts", inPlace := ["math/bits.Add64"], unfollowed := true, recurses := true, apart := false, narrowed := true }
def CtrCutsUptoSaid : Prop := ctrCutsUptoRow.holds Try.pinned (OpenSpec.upto ctrCutsSpec)

/-- 'palfreylaw08.CtrParts', WHERE WHAT IT READS IS OF BULK AT MOST 1048576: true; the input reads as it did. -/
def ctrPartsUptoRow : OpenClaim := { program := "ytlgeebnmonmdaaa", sum := "6d34545f57117b2cc9f7db4dd22330484d1b36676688a8f039c865784b82d50a", func := "palfrey/palfreylaw08.CtrParts", spec := "ctrParts", inPlace := ["math/bits.Add64"], unfollowed := true, recurses := true, apart := false, narrowed := true }
def CtrPartsUptoSaid : Prop := ctrPartsUptoRow.holds Try.pinned (OpenSpec.upto ctrPartsSpec)

/-- 'palfreylaw09.CbcOpens', WHERE WHAT IT READS IS OF BULK AT MOST 1048576: true; the input reads as it did. -/
def cbcOpensUptoRow : OpenClaim := { program := "ytlgeebnmonmdaaa", sum := "6d34545f57117b2cc9f7db4dd22330484d1b36676688a8f039c865784b82d50a", func := "palfrey/palfreylaw09.CbcOpens", spec := "cbcOpens", inPlace := ["internal/bytealg.MakeNoZero"], unfollowed := true, recurses := true, apart := false, narrowed := true }
def CbcOpensUptoSaid : Prop := cbcOpensUptoRow.holds Try.pinned (OpenSpec.upto cbcOpensSpec)

/-- 'palfreylaw09.CbcShort', WHERE WHAT IT READS IS OF BULK AT MOST 1048576: true; the input reads as it did. -/
def cbcShortUptoRow : OpenClaim := { program := "ytlgeebnmonmdaaa", sum := "6d34545f57117b2cc9f7db4dd22330484d1b36676688a8f039c865784b82d50a", func := "palfrey/palfreylaw09.CbcShort", spec := "cbcShort", inPlace := ["internal/bytealg.MakeNoZero"], unfollowed := true, recurses := true, apart := false, narrowed := true }
def CbcShortUptoSaid : Prop := cbcShortUptoRow.holds Try.pinned (OpenSpec.upto cbcShortSpec)

/-- 'palfreylaw09.CbcSeals', WHERE WHAT IT READS IS OF BULK AT MOST 1048576: true; the input reads as it did. -/
def cbcSealsUptoRow : OpenClaim := { program := "ytlgeebnmonmdaaa", sum := "6d34545f57117b2cc9f7db4dd22330484d1b36676688a8f039c865784b82d50a", func := "palfrey/palfreylaw09.CbcSeals", spec := "cbcSeals", inPlace := ["internal/bytealg.MakeNoZero"], unfollowed := true, recurses := true, apart := false, narrowed := true }
def CbcSealsUptoSaid : Prop := cbcSealsUptoRow.holds Try.pinned (OpenSpec.upto cbcSealsSpec)

/-- 'palfreylaw09.CbcChained', WHERE WHAT IT READS IS OF BULK AT MOST 1048576: true; the input reads as it did. -/
def cbcChainedUptoRow : OpenClaim := { program := "ytlgeebnmonmdaaa", sum := "6d34545f57117b2cc9f7db4dd22330484d1b36676688a8f039c865784b82d50a", func := "palfrey/palfreylaw09.CbcChained", spec := "cbcChained", inPlace := ["internal/bytealg.MakeNoZero"], unfollowed := true, recurses := true, apart := false, narrowed := true }
def CbcChainedUptoSaid : Prop := cbcChainedUptoRow.holds Try.pinned (OpenSpec.upto cbcChainedSpec)

/-- 'palfreylaw09.CbcOne', WHERE WHAT IT READS IS OF BULK AT MOST 1048576: true; the input reads as it did. -/
def cbcOneUptoRow : OpenClaim := { program := "ytlgeebnmonmdaaa", sum := "6d34545f57117b2cc9f7db4dd22330484d1b36676688a8f039c865784b82d50a", func := "palfrey/palfreylaw09.CbcOne", spec := "cbcOne", inPlace := ["internal/bytealg.MakeNoZero"], unfollowed := true, recurses := true, apart := false, narrowed := true }
def CbcOneUptoSaid : Prop := cbcOneUptoRow.holds Try.pinned (OpenSpec.upto cbcOneSpec)

/-- 'palfreylaw09.CbcBack', WHERE WHAT IT READS IS OF BULK AT MOST 1048576: true; the input reads as it did. -/
def cbcBackUptoRow : OpenClaim := { program := "ytlgeebnmonmdaaa", sum := "6d34545f57117b2cc9f7db4dd22330484d1b36676688a8f039c865784b82d50a", func := "palfrey/palfreylaw09.CbcBack", spec := "cbcBack", inPlace := ["internal/bytealg.MakeNoZero"], unfollowed := true, recurses := true, apart := false, narrowed := true }
def CbcBackUptoSaid : Prop := cbcBackUptoRow.holds Try.pinned (OpenSpec.upto cbcBackSpec)

end Rows
end Go.Proofs.Ytlgeebnmonmdaaa
