/-
  No cell of these rows narrows 'for every input' (looked for: loops, veiled, ifaces, maps, wideKeys, modest, calm, conditions, laid).
  DERIVED. THE GIVEN ROWS OF THIS SEAT. 11 by the template 'for every input the law returns true; each argument reads behind the call as it read before'; 0 by the template 'total and deterministic' (their statements: YtoffpchabpfhkaaTotals.lean).
  GIVEN WITH THE SEED: the statements are not yours to turn. If you find one false, say at which input.
  Laid BY PROGRAM, IN A SANDBOX (cutbox-rows.mjs): the forced cells as the released guide's own fill.sh prints them over the translation 7605814f8e824fcb… (all of the seat's roots in one cut). By AI agents, Wed Nov 11 2026. No macro, syntax, notation, axiom, sorry.
-/
import Derived.Test.YtoffpchabpfhkaaChecked
import GoSem.Claim
import GoSem.ClaimJoined
import GoSem.ClaimMapViews
import Derived.JoinedTies
import Derived.KernelRfl
namespace Go.Proofs.Ytoffpchabpfhkaa
/- THE CELL 'sum', in the pinned program and in every row, IS THE sha256 OF THE DUMP (.gsa) THAT YtoffpchabpfhkaaProg.lean LOADS. Nothing in Lean hashes anything: it is a label: what it is worth is what the hold of that sum in a sandbox is worth. -/
noncomputable def Try.pinned : Pinned := { name := "ytoffpchabpfhkaa", sum := "7605814f8e824fcba408aff1a503c6f10551cf85e85df974f42792917383cc23", checked := Try.checked }
namespace Rows
def none {H : Type} : Left H := { results := [], args := [] }

/-- 'palfreylaw19.SessTables': WHATEVER THE INPUT: true; the input reads as it did. -/
def sessTablesSpec : ChangeSpec := { name := "sessTables", fn := fun _ => fun
  | [d1, d2] => { results := [.lit (.bool true)], args := [d1, d2] }
  | _ => none }
def sessTablesRow : OpenClaim := { program := "ytoffpchabpfhkaa", sum := "7605814f8e824fcba408aff1a503c6f10551cf85e85df974f42792917383cc23", func := "palfrey/palfreylaw19.SessTables", spec := "sessTables", unfollowed := true, recurses := true, apart := false }
def SessTablesSaid : Prop := sessTablesRow.holds Try.pinned (OpenSpec.ofChange sessTablesSpec)

/-- ITS FALSE NEIGHBOUR: 'it returns false'. Refute it at one input. -/
def sessTablesWrong : ChangeSpec := { name := "sessTables", fn := fun _ => fun
  | [d1, d2] => { results := [.lit (.bool false)], args := [d1, d2] }
  | _ => none }
def SessTablesWrongFalsely : Prop := sessTablesRow.holds Try.pinned (OpenSpec.ofChange sessTablesWrong)

/-- 'palfreylaw19.SessFresh': WHATEVER THE INPUT: true; the input reads as it did. -/
def sessFreshSpec : ChangeSpec := { name := "sessFresh", fn := fun _ => fun
  | [d1, d2] => { results := [.lit (.bool true)], args := [d1, d2] }
  | _ => none }
def sessFreshRow : OpenClaim := { program := "ytoffpchabpfhkaa", sum := "7605814f8e824fcba408aff1a503c6f10551cf85e85df974f42792917383cc23", func := "palfrey/palfreylaw19.SessFresh", spec := "sessFresh", unfollowed := true, recurses := true, apart := false }
def SessFreshSaid : Prop := sessFreshRow.holds Try.pinned (OpenSpec.ofChange sessFreshSpec)

/-- ITS FALSE NEIGHBOUR: 'it returns false'. Refute it at one input. -/
def sessFreshWrong : ChangeSpec := { name := "sessFresh", fn := fun _ => fun
  | [d1, d2] => { results := [.lit (.bool false)], args := [d1, d2] }
  | _ => none }
def SessFreshWrongFalsely : Prop := sessFreshRow.holds Try.pinned (OpenSpec.ofChange sessFreshWrong)

/-- 'palfreylaw19.SessRoom': WHATEVER THE INPUT: true; the input reads as it did. -/
def sessRoomSpec : ChangeSpec := { name := "sessRoom", fn := fun _ => fun
  | [d1, d2] => { results := [.lit (.bool true)], args := [d1, d2] }
  | _ => none }
def sessRoomRow : OpenClaim := { program := "ytoffpchabpfhkaa", sum := "7605814f8e824fcba408aff1a503c6f10551cf85e85df974f42792917383cc23", func := "palfrey/palfreylaw19.SessRoom", spec := "sessRoom", unfollowed := true, recurses := true, apart := false }
def SessRoomSaid : Prop := sessRoomRow.holds Try.pinned (OpenSpec.ofChange sessRoomSpec)

/-- ITS FALSE NEIGHBOUR: 'it returns false'. Refute it at one input. -/
def sessRoomWrong : ChangeSpec := { name := "sessRoom", fn := fun _ => fun
  | [d1, d2] => { results := [.lit (.bool false)], args := [d1, d2] }
  | _ => none }
def SessRoomWrongFalsely : Prop := sessRoomRow.holds Try.pinned (OpenSpec.ofChange sessRoomWrong)

/-- 'palfreylaw09.CbcPads': WHATEVER THE INPUT: true; the input reads as it did. -/
def cbcPadsSpec : ChangeSpec := { name := "cbcPads", fn := fun _ => fun
  | [d1, d2] => { results := [.lit (.bool true)], args := [d1, d2] }
  | _ => none }
def cbcPadsRow : OpenClaim := { program := "ytoffpchabpfhkaa", sum := "7605814f8e824fcba408aff1a503c6f10551cf85e85df974f42792917383cc23", func := "palfrey/palfreylaw09.CbcPads", spec := "cbcPads", inPlace := ["internal/bytealg.MakeNoZero"], apart := false }
def CbcPadsSaid : Prop := cbcPadsRow.holds Try.pinned (OpenSpec.ofChange cbcPadsSpec)

/-- ITS FALSE NEIGHBOUR: 'it returns false'. Refute it at one input. -/
def cbcPadsWrong : ChangeSpec := { name := "cbcPads", fn := fun _ => fun
  | [d1, d2] => { results := [.lit (.bool false)], args := [d1, d2] }
  | _ => none }
def CbcPadsWrongFalsely : Prop := cbcPadsRow.holds Try.pinned (OpenSpec.ofChange cbcPadsWrong)

/-- 'palfreylaw03.AesBlocks': WHATEVER THE INPUT: true; the input reads as it did. -/
def aesBlocksSpec : ChangeSpec := { name := "aesBlocks", fn := fun _ => fun
  | [d1, d2] => { results := [.lit (.bool true)], args := [d1, d2] }
  | _ => none }
def aesBlocksRow : OpenClaim := { program := "ytoffpchabpfhkaa", sum := "7605814f8e824fcba408aff1a503c6f10551cf85e85df974f42792917383cc23", func := "palfrey/palfreylaw03.AesBlocks", spec := "aesBlocks", unfollowed := true, recurses := true, apart := false }
def AesBlocksSaid : Prop := aesBlocksRow.holds Try.pinned (OpenSpec.ofChange aesBlocksSpec)

/-- ITS FALSE NEIGHBOUR: 'it returns false'. Refute it at one input. -/
def aesBlocksWrong : ChangeSpec := { name := "aesBlocks", fn := fun _ => fun
  | [d1, d2] => { results := [.lit (.bool false)], args := [d1, d2] }
  | _ => none }
def AesBlocksWrongFalsely : Prop := aesBlocksRow.holds Try.pinned (OpenSpec.ofChange aesBlocksWrong)

/-- 'palfreylaw03.AesBack': WHATEVER THE INPUT: true; the input reads as it did. -/
def aesBackSpec : ChangeSpec := { name := "aesBack", fn := fun _ => fun
  | [d1, d2, d3] => { results := [.lit (.bool true)], args := [d1, d2, d3] }
  | _ => none }
def aesBackRow : OpenClaim := { program := "ytoffpchabpfhkaa", sum := "7605814f8e824fcba408aff1a503c6f10551cf85e85df974f42792917383cc23", func := "palfrey/palfreylaw03.AesBack", spec := "aesBack", unfollowed := true, recurses := true, apart := false }
def AesBackSaid : Prop := aesBackRow.holds Try.pinned (OpenSpec.ofChange aesBackSpec)

/-- ITS FALSE NEIGHBOUR: 'it returns false'. Refute it at one input. -/
def aesBackWrong : ChangeSpec := { name := "aesBack", fn := fun _ => fun
  | [d1, d2, d3] => { results := [.lit (.bool false)], args := [d1, d2, d3] }
  | _ => none }
def AesBackWrongFalsely : Prop := aesBackRow.holds Try.pinned (OpenSpec.ofChange aesBackWrong)

/-- 'palfreylaw03.AesApart': WHATEVER THE INPUT: true; the input reads as it did. -/
def aesApartSpec : ChangeSpec := { name := "aesApart", fn := fun _ => fun
  | [d1, d2, d3] => { results := [.lit (.bool true)], args := [d1, d2, d3] }
  | _ => none }
def aesApartRow : OpenClaim := { program := "ytoffpchabpfhkaa", sum := "7605814f8e824fcba408aff1a503c6f10551cf85e85df974f42792917383cc23", func := "palfrey/palfreylaw03.AesApart", spec := "aesApart", unfollowed := true, recurses := true, apart := false }
def AesApartSaid : Prop := aesApartRow.holds Try.pinned (OpenSpec.ofChange aesApartSpec)

/-- ITS FALSE NEIGHBOUR: 'it returns false'. Refute it at one input. -/
def aesApartWrong : ChangeSpec := { name := "aesApart", fn := fun _ => fun
  | [d1, d2, d3] => { results := [.lit (.bool false)], args := [d1, d2, d3] }
  | _ => none }
def AesApartWrongFalsely : Prop := aesApartRow.holds Try.pinned (OpenSpec.ofChange aesApartWrong)

/-- 'palfreylaw03.AesRounds': WHATEVER THE INPUT: true; the input reads as it did. -/
def aesRoundsSpec : ChangeSpec := { name := "aesRounds", fn := fun _ => fun
  | [d1, d2] => { results := [.lit (.bool true)], args := [d1, d2] }
  | _ => none }
def aesRoundsRow : OpenClaim := { program := "ytoffpchabpfhkaa", sum := "7605814f8e824fcba408aff1a503c6f10551cf85e85df974f42792917383cc23", func := "palfrey/palfreylaw03.AesRounds", spec := "aesRounds", unfollowed := true, recurses := true, apart := false }
def AesRoundsSaid : Prop := aesRoundsRow.holds Try.pinned (OpenSpec.ofChange aesRoundsSpec)

/-- ITS FALSE NEIGHBOUR: 'it returns false'. Refute it at one input. -/
def aesRoundsWrong : ChangeSpec := { name := "aesRounds", fn := fun _ => fun
  | [d1, d2] => { results := [.lit (.bool false)], args := [d1, d2] }
  | _ => none }
def AesRoundsWrongFalsely : Prop := aesRoundsRow.holds Try.pinned (OpenSpec.ofChange aesRoundsWrong)

/-- 'palfreylaw03.AesSub': WHATEVER THE INPUT: true; the input reads as it did. -/
def aesSubSpec : ChangeSpec := { name := "aesSub", fn := fun _ => fun
  | [d] => { results := [.lit (.bool true)], args := [d] }
  | _ => none }
def aesSubRow : OpenClaim := { program := "ytoffpchabpfhkaa", sum := "7605814f8e824fcba408aff1a503c6f10551cf85e85df974f42792917383cc23", func := "palfrey/palfreylaw03.AesSub", spec := "aesSub", unfollowed := true, recurses := true, apart := false }
def AesSubSaid : Prop := aesSubRow.holds Try.pinned (OpenSpec.ofChange aesSubSpec)

/-- ITS FALSE NEIGHBOUR: 'it returns false'. Refute it at one input. -/
def aesSubWrong : ChangeSpec := { name := "aesSub", fn := fun _ => fun
  | [d] => { results := [.lit (.bool false)], args := [d] }
  | _ => none }
def AesSubWrongFalsely : Prop := aesSubRow.holds Try.pinned (OpenSpec.ofChange aesSubWrong)

/-- 'palfreylaw03.AesBox': WHATEVER THE INPUT: true; the input reads as it did. -/
def aesBoxSpec : ChangeSpec := { name := "aesBox", fn := fun _ => fun
  | [d1, d2] => { results := [.lit (.bool true)], args := [d1, d2] }
  | _ => none }
def aesBoxRow : OpenClaim := { program := "ytoffpchabpfhkaa", sum := "7605814f8e824fcba408aff1a503c6f10551cf85e85df974f42792917383cc23", func := "palfrey/palfreylaw03.AesBox", spec := "aesBox", unfollowed := true, recurses := true, apart := false }
def AesBoxSaid : Prop := aesBoxRow.holds Try.pinned (OpenSpec.ofChange aesBoxSpec)

/-- ITS FALSE NEIGHBOUR: 'it returns false'. Refute it at one input. -/
def aesBoxWrong : ChangeSpec := { name := "aesBox", fn := fun _ => fun
  | [d1, d2] => { results := [.lit (.bool false)], args := [d1, d2] }
  | _ => none }
def AesBoxWrongFalsely : Prop := aesBoxRow.holds Try.pinned (OpenSpec.ofChange aesBoxWrong)

/-- 'palfreylaw03.AesWiped': WHATEVER THE INPUT: true; the input reads as it did. -/
def aesWipedSpec : ChangeSpec := { name := "aesWiped", fn := fun _ => fun
  | [d1, d2] => { results := [.lit (.bool true)], args := [d1, d2] }
  | _ => none }
def aesWipedRow : OpenClaim := { program := "ytoffpchabpfhkaa", sum := "7605814f8e824fcba408aff1a503c6f10551cf85e85df974f42792917383cc23", func := "palfrey/palfreylaw03.AesWiped", spec := "aesWiped", unfollowed := true, recurses := true, apart := false }
def AesWipedSaid : Prop := aesWipedRow.holds Try.pinned (OpenSpec.ofChange aesWipedSpec)

/-- ITS FALSE NEIGHBOUR: 'it returns false'. Refute it at one input. -/
def aesWipedWrong : ChangeSpec := { name := "aesWiped", fn := fun _ => fun
  | [d1, d2] => { results := [.lit (.bool false)], args := [d1, d2] }
  | _ => none }
def AesWipedWrongFalsely : Prop := aesWipedRow.holds Try.pinned (OpenSpec.ofChange aesWipedWrong)

/- THE SECOND FORM. 'bulk': how many values and letters a reading holds, each counted each time it is reached (what is shared counts as often as it is met; a slice's spare places count too). A statement '..UptoSaid' is the law's where the arguments, and the package variables that the reading takes, are together of bulk at most 1048576: NARROWER than '..Said'. Prove '..Said' where nothing that the law and all that it calls make is longer than what came in: it says more and counts as full. Else prove '..UptoSaid'. A law counts once. -/
mutual
def uptoBulk {H : Type} : DataW H → Nat
  | .lit (.string bytes) => bytes.length + 1
  | .lit _ => 1
  | .nil => 1
  | .ptr d => uptoBulk d + 1
  | .slice elems spare => uptoBulkAll elems + uptoBulkAll spare + 1
  | .agg parts => uptoBulkAll parts + 1
  | .iface _ d => uptoBulk d + 1
  | .map entries => uptoBulkEntries entries + 1
  | .held _ => 1
def uptoBulkAll {H : Type} : List (DataW H) → Nat
  | [] => 0
  | d :: r => uptoBulk d + uptoBulkAll r
def uptoBulkEntries {H : Type} : List (Lit × DataW H) → Nat
  | [] => 0
  | x :: r => uptoBulkEntry x + uptoBulkEntries r
def uptoBulkEntry {H : Type} : Lit × DataW H → Nat
  | (.string bytes, d) => bytes.length + uptoBulk d + 1
  | (_, d) => uptoBulk d + 1
 end
def uptoSmall : (H : Type) → List (DataW H) → Bool := fun _ ds => decide (uptoBulkAll ds ≤ 1048576)
def OpenSpec.upto (s : _root_.Go.ChangeSpec) : _root_.Go.OpenSpec := { _root_.Go.OpenSpec.ofChange s with cond := some uptoSmall }

/-- 'palfreylaw19.SessTables', WHERE WHAT IT READS IS OF BULK AT MOST 1048576: true; the input reads as it did. -/
def sessTablesUptoRow : OpenClaim := { program := "ytoffpchabpfhkaa", sum := "7605814f8e824fcba408aff1a503c6f10551cf85e85df974f42792917383cc23", func := "palfrey/palfreylaw19.SessTables", spec := "sessTables", unfollowed := true, recurses := true, apart := false, narrowed := true }
def SessTablesUptoSaid : Prop := sessTablesUptoRow.holds Try.pinned (OpenSpec.upto sessTablesSpec)

/-- 'palfreylaw19.SessFresh', WHERE WHAT IT READS IS OF BULK AT MOST 1048576: true; the input reads as it did. -/
def sessFreshUptoRow : OpenClaim := { program := "ytoffpchabpfhkaa", sum := "7605814f8e824fcba408aff1a503c6f10551cf85e85df974f42792917383cc23", func := "palfrey/palfreylaw19.SessFresh", spec := "sessFresh", unfollowed := true, recurses := true, apart := false, narrowed := true }
def SessFreshUptoSaid : Prop := sessFreshUptoRow.holds Try.pinned (OpenSpec.upto sessFreshSpec)

/-- 'palfreylaw19.SessRoom', WHERE WHAT IT READS IS OF BULK AT MOST 1048576: true; the input reads as it did. -/
def sessRoomUptoRow : OpenClaim := { program := "ytoffpchabpfhkaa", sum := "7605814f8e824fcba408aff1a503c6f10551cf85e85df974f42792917383cc23", func := "palfrey/palfreylaw19.SessRoom", spec := "sessRoom", unfollowed := true, recurses := true, apart := false, narrowed := true }
def SessRoomUptoSaid : Prop := sessRoomUptoRow.holds Try.pinned (OpenSpec.upto sessRoomSpec)

/-- 'palfreylaw09.CbcPads', WHERE WHAT IT READS IS OF BULK AT MOST 1048576: true; the input reads as it did. -/
def cbcPadsUptoRow : OpenClaim := { program := "ytoffpchabpfhkaa", sum := "7605814f8e824fcba408aff1a503c6f10551cf85e85df974f42792917383cc23", func := "palfrey/palfreylaw09.CbcPads", spec := "cbcPads", inPlace := ["internal/bytealg.MakeNoZero"], apart := false, narrowed := true }
def CbcPadsUptoSaid : Prop := cbcPadsUptoRow.holds Try.pinned (OpenSpec.upto cbcPadsSpec)

/-- 'palfreylaw03.AesBlocks', WHERE WHAT IT READS IS OF BULK AT MOST 1048576: true; the input reads as it did. -/
def aesBlocksUptoRow : OpenClaim := { program := "ytoffpchabpfhkaa", sum := "7605814f8e824fcba408aff1a503c6f10551cf85e85df974f42792917383cc23", func := "palfrey/palfreylaw03.AesBlocks", spec := "aesBlocks", unfollowed := true, recurses := true, apart := false, narrowed := true }
def AesBlocksUptoSaid : Prop := aesBlocksUptoRow.holds Try.pinned (OpenSpec.upto aesBlocksSpec)

/-- 'palfreylaw03.AesBack', WHERE WHAT IT READS IS OF BULK AT MOST 1048576: true; the input reads as it did. -/
def aesBackUptoRow : OpenClaim := { program := "ytoffpchabpfhkaa", sum := "7605814f8e824fcba408aff1a503c6f10551cf85e85df974f42792917383cc23", func := "palfrey/palfreylaw03.AesBack", spec := "aesBack", unfollowed := true, recurses := true, apart := false, narrowed := true }
def AesBackUptoSaid : Prop := aesBackUptoRow.holds Try.pinned (OpenSpec.upto aesBackSpec)

/-- 'palfreylaw03.AesApart', WHERE WHAT IT READS IS OF BULK AT MOST 1048576: true; the input reads as it did. -/
def aesApartUptoRow : OpenClaim := { program := "ytoffpchabpfhkaa", sum := "7605814f8e824fcba408aff1a503c6f10551cf85e85df974f42792917383cc23", func := "palfrey/palfreylaw03.AesApart", spec := "aesApart", unfollowed := true, recurses := true, apart := false, narrowed := true }
def AesApartUptoSaid : Prop := aesApartUptoRow.holds Try.pinned (OpenSpec.upto aesApartSpec)

/-- 'palfreylaw03.AesRounds', WHERE WHAT IT READS IS OF BULK AT MOST 1048576: true; the input reads as it did. -/
def aesRoundsUptoRow : OpenClaim := { program := "ytoffpchabpfhkaa", sum := "7605814f8e824fcba408aff1a503c6f10551cf85e85df974f42792917383cc23", func := "palfrey/palfreylaw03.AesRounds", spec := "aesRounds", unfollowed := true, recurses := true, apart := false, narrowed := true }
def AesRoundsUptoSaid : Prop := aesRoundsUptoRow.holds Try.pinned (OpenSpec.upto aesRoundsSpec)

/-- 'palfreylaw03.AesSub', WHERE WHAT IT READS IS OF BULK AT MOST 1048576: true; the input reads as it did. -/
def aesSubUptoRow : OpenClaim := { program := "ytoffpchabpfhkaa", sum := "7605814f8e824fcba408aff1a503c6f10551cf85e85df974f42792917383cc23", func := "palfrey/palfreylaw03.AesSub", spec := "aesSub", unfollowed := true, recurses := true, apart := false, narrowed := true }
def AesSubUptoSaid : Prop := aesSubUptoRow.holds Try.pinned (OpenSpec.upto aesSubSpec)

/-- 'palfreylaw03.AesBox', WHERE WHAT IT READS IS OF BULK AT MOST 1048576: true; the input reads as it did. -/
def aesBoxUptoRow : OpenClaim := { program := "ytoffpchabpfhkaa", sum := "7605814f8e824fcba408aff1a503c6f10551cf85e85df974f42792917383cc23", func := "palfrey/palfreylaw03.AesBox", spec := "aesBox", unfollowed := true, recurses := true, apart := false, narrowed := true }
def AesBoxUptoSaid : Prop := aesBoxUptoRow.holds Try.pinned (OpenSpec.upto aesBoxSpec)

/-- 'palfreylaw03.AesWiped', WHERE WHAT IT READS IS OF BULK AT MOST 1048576: true; the input reads as it did. -/
def aesWipedUptoRow : OpenClaim := { program := "ytoffpchabpfhkaa", sum := "7605814f8e824fcba408aff1a503c6f10551cf85e85df974f42792917383cc23", func := "palfrey/palfreylaw03.AesWiped", spec := "aesWiped", unfollowed := true, recurses := true, apart := false, narrowed := true }
def AesWipedUptoSaid : Prop := aesWipedUptoRow.holds Try.pinned (OpenSpec.upto aesWipedSpec)

end Rows
end Go.Proofs.Ytoffpchabpfhkaa
