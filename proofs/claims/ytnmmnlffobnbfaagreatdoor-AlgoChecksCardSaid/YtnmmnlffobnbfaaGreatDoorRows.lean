/-
  NARROWER THAN 'FOR EVERY INPUT', by the rows' own cells (each row's printed sentence says how): TopHashes: laid · AlgoDoes: laid · AlgoBack: laid · AlgoRoom: laid · AlgoKept: laid · AlgoTurned: laid · AlgoChecks: laid · SessKept: laid · SessOthers: laid.
  DERIVED. THE GIVEN ROWS OF THIS SEAT. 9 by the template 'for every input the law returns true; each argument reads behind the call as it read before'; 0 by the template 'total and deterministic' (their statements: YtnmmnlffobnbfaaGreatDoorTotals.lean).
  GIVEN WITH THE SEED: the statements are not yours to turn. If you find one false, say at which input.
  Laid BY PROGRAM, IN A SANDBOX (cutbox-rows.mjs): the forced cells as the released guide's own fill.sh prints them over the translation 80aecb65b7ce1b4b… (all of the seat's roots in one cut). By AI agents, Wed Nov 11 2026. No macro, syntax, notation, axiom, sorry.
-/
import Derived.Test.YtnmmnlffobnbfaaGreatDoorChecked
import GoSem.Claim
import GoSem.ClaimJoined
import GoSem.ClaimMapViews
import Derived.JoinedTies
import Derived.KernelRfl
namespace Go.Proofs.YtnmmnlffobnbfaaGreatDoor
/- THE CELL 'sum', in the pinned program and in every row, IS THE sha256 OF THE DUMP (.gsa) THAT YtnmmnlffobnbfaaGreatDoorProg.lean LOADS. Nothing in Lean hashes anything: it is a label: what it is worth is what the hold of that sum in a sandbox is worth. -/
noncomputable def Tryz.pinned : Pinned := { name := "ytnmmnlffobnbfaagreatdoor", sum := "80aecb65b7ce1b4b5f97eccbbf270397244657ae4d420698054f1af17800e49a", checked := Tryz.checked }
namespace Rows
def none {H : Type} : Left H := { results := [], args := [] }

/- WHAT THE LISTED PACKAGE-LEVEL VARIABLES READ AS WHEN THE CALL BEGINS. Each datum BY PROGRAM (the guide's laid-datum.mjs) off the statement by which the dump's own 'gosem.cut.vars' lays the variable. In a bare row this is a premise. The card (YtnmmnlffobnbfaaGreatDoorCards.lean) ties it to the program's text. -/
def laid_palfrey_sha_rounds {H : Type} : DataW H := .agg [.lit (.int .u32 1116352408), .lit (.int .u32 1899447441), .lit (.int .u32 3049323471), .lit (.int .u32 3921009573), .lit (.int .u32 961987163), .lit (.int .u32 1508970993), .lit (.int .u32 2453635748), .lit (.int .u32 2870763221), .lit (.int .u32 3624381080), .lit (.int .u32 310598401), .lit (.int .u32 607225278), .lit (.int .u32 1426881987), .lit (.int .u32 1925078388), .lit (.int .u32 2162078206), .lit (.int .u32 2614888103), .lit (.int .u32 3248222580), .lit (.int .u32 3835390401), .lit (.int .u32 4022224774), .lit (.int .u32 264347078), .lit (.int .u32 604807628), .lit (.int .u32 770255983), .lit (.int .u32 1249150122), .lit (.int .u32 1555081692), .lit (.int .u32 1996064986), .lit (.int .u32 2554220882), .lit (.int .u32 2821834349), .lit (.int .u32 2952996808), .lit (.int .u32 3210313671), .lit (.int .u32 3336571891), .lit (.int .u32 3584528711), .lit (.int .u32 113926993), .lit (.int .u32 338241895), .lit (.int .u32 666307205), .lit (.int .u32 773529912), .lit (.int .u32 1294757372), .lit (.int .u32 1396182291), .lit (.int .u32 1695183700), .lit (.int .u32 1986661051), .lit (.int .u32 2177026350), .lit (.int .u32 2456956037), .lit (.int .u32 2730485921), .lit (.int .u32 2820302411), .lit (.int .u32 3259730800), .lit (.int .u32 3345764771), .lit (.int .u32 3516065817), .lit (.int .u32 3600352804), .lit (.int .u32 4094571909), .lit (.int .u32 275423344), .lit (.int .u32 430227734), .lit (.int .u32 506948616), .lit (.int .u32 659060556), .lit (.int .u32 883997877), .lit (.int .u32 958139571), .lit (.int .u32 1322822218), .lit (.int .u32 1537002063), .lit (.int .u32 1747873779), .lit (.int .u32 1955562222), .lit (.int .u32 2024104815), .lit (.int .u32 2227730452), .lit (.int .u32 2361852424), .lit (.int .u32 2428436474), .lit (.int .u32 2756734187), .lit (.int .u32 3204031479), .lit (.int .u32 3329325298)]

/-- 'palfreytop.TopHashes': WHATEVER THE INPUT: true; the input reads as it did. -/
def topHashesSpec : ChangeSpec := { name := "topHashes", fn := fun _ => fun
  | [d] => { results := [.lit (.bool true)], args := [d] }
  | _ => none }
def topHashesRow : OpenClaim := { program := "ytnmmnlffobnbfaagreatdoor", sum := "80aecb65b7ce1b4b5f97eccbbf270397244657ae4d420698054f1af17800e49a", func := "palfrey/palfreytop.TopHashes", spec := "topHashes", inPlace := ["internal/bytealg.MakeNoZero", "math/bits.Add64", "math/bits.Sub64"], unfollowed := true, recurses := true, named := ["palfrey/sha.rounds"], apart := false, laid := [("palfrey/sha.rounds", laid_palfrey_sha_rounds)] }
def TopHashesSaid : Prop := topHashesRow.holds Tryz.pinned (OpenSpec.ofChange topHashesSpec)

/-- ITS FALSE NEIGHBOUR: 'it returns false'. Refute it at one input. -/
def topHashesWrong : ChangeSpec := { name := "topHashes", fn := fun _ => fun
  | [d] => { results := [.lit (.bool false)], args := [d] }
  | _ => none }
def TopHashesWrongFalsely : Prop := topHashesRow.holds Tryz.pinned (OpenSpec.ofChange topHashesWrong)

/-- 'palfreylaw12.AlgoDoes': WHATEVER THE INPUT: true; the input reads as it did. -/
def algoDoesSpec : ChangeSpec := { name := "algoDoes", fn := fun _ => fun
  | [d1, d2] => { results := [.lit (.bool true)], args := [d1, d2] }
  | _ => none }
def algoDoesRow : OpenClaim := { program := "ytnmmnlffobnbfaagreatdoor", sum := "80aecb65b7ce1b4b5f97eccbbf270397244657ae4d420698054f1af17800e49a", func := "palfrey/palfreylaw12.AlgoDoes", spec := "algoDoes", inPlace := ["internal/bytealg.MakeNoZero", "math/bits.Add64", "math/bits.Sub64"], unfollowed := true, recurses := true, named := ["palfrey/sha.rounds"], apart := false, laid := [("palfrey/sha.rounds", laid_palfrey_sha_rounds)] }
def AlgoDoesSaid : Prop := algoDoesRow.holds Tryz.pinned (OpenSpec.ofChange algoDoesSpec)

/-- ITS FALSE NEIGHBOUR: 'it returns false'. Refute it at one input. -/
def algoDoesWrong : ChangeSpec := { name := "algoDoes", fn := fun _ => fun
  | [d1, d2] => { results := [.lit (.bool false)], args := [d1, d2] }
  | _ => none }
def AlgoDoesWrongFalsely : Prop := algoDoesRow.holds Tryz.pinned (OpenSpec.ofChange algoDoesWrong)

/-- 'palfreylaw12.AlgoBack': WHATEVER THE INPUT: true; the input reads as it did. -/
def algoBackSpec : ChangeSpec := { name := "algoBack", fn := fun _ => fun
  | [d1, d2] => { results := [.lit (.bool true)], args := [d1, d2] }
  | _ => none }
def algoBackRow : OpenClaim := { program := "ytnmmnlffobnbfaagreatdoor", sum := "80aecb65b7ce1b4b5f97eccbbf270397244657ae4d420698054f1af17800e49a", func := "palfrey/palfreylaw12.AlgoBack", spec := "algoBack", inPlace := ["internal/bytealg.MakeNoZero", "math/bits.Add64", "math/bits.Sub64"], unfollowed := true, recurses := true, named := ["palfrey/sha.rounds"], apart := false, laid := [("palfrey/sha.rounds", laid_palfrey_sha_rounds)] }
def AlgoBackSaid : Prop := algoBackRow.holds Tryz.pinned (OpenSpec.ofChange algoBackSpec)

/-- ITS FALSE NEIGHBOUR: 'it returns false'. Refute it at one input. -/
def algoBackWrong : ChangeSpec := { name := "algoBack", fn := fun _ => fun
  | [d1, d2] => { results := [.lit (.bool false)], args := [d1, d2] }
  | _ => none }
def AlgoBackWrongFalsely : Prop := algoBackRow.holds Tryz.pinned (OpenSpec.ofChange algoBackWrong)

/-- 'palfreylaw12.AlgoRoom': WHATEVER THE INPUT: true; the input reads as it did. -/
def algoRoomSpec : ChangeSpec := { name := "algoRoom", fn := fun _ => fun
  | [d1, d2] => { results := [.lit (.bool true)], args := [d1, d2] }
  | _ => none }
def algoRoomRow : OpenClaim := { program := "ytnmmnlffobnbfaagreatdoor", sum := "80aecb65b7ce1b4b5f97eccbbf270397244657ae4d420698054f1af17800e49a", func := "palfrey/palfreylaw12.AlgoRoom", spec := "algoRoom", inPlace := ["internal/bytealg.MakeNoZero", "math/bits.Add64", "math/bits.Sub64"], unfollowed := true, recurses := true, named := ["palfrey/sha.rounds"], apart := false, laid := [("palfrey/sha.rounds", laid_palfrey_sha_rounds)] }
def AlgoRoomSaid : Prop := algoRoomRow.holds Tryz.pinned (OpenSpec.ofChange algoRoomSpec)

/-- ITS FALSE NEIGHBOUR: 'it returns false'. Refute it at one input. -/
def algoRoomWrong : ChangeSpec := { name := "algoRoom", fn := fun _ => fun
  | [d1, d2] => { results := [.lit (.bool false)], args := [d1, d2] }
  | _ => none }
def AlgoRoomWrongFalsely : Prop := algoRoomRow.holds Tryz.pinned (OpenSpec.ofChange algoRoomWrong)

/-- 'palfreylaw12.AlgoKept': WHATEVER THE INPUT: true; the input reads as it did. -/
def algoKeptSpec : ChangeSpec := { name := "algoKept", fn := fun _ => fun
  | [d1, d2] => { results := [.lit (.bool true)], args := [d1, d2] }
  | _ => none }
def algoKeptRow : OpenClaim := { program := "ytnmmnlffobnbfaagreatdoor", sum := "80aecb65b7ce1b4b5f97eccbbf270397244657ae4d420698054f1af17800e49a", func := "palfrey/palfreylaw12.AlgoKept", spec := "algoKept", inPlace := ["internal/bytealg.MakeNoZero", "math/bits.Add64", "math/bits.Sub64"], unfollowed := true, recurses := true, named := ["palfrey/sha.rounds"], apart := false, laid := [("palfrey/sha.rounds", laid_palfrey_sha_rounds)] }
def AlgoKeptSaid : Prop := algoKeptRow.holds Tryz.pinned (OpenSpec.ofChange algoKeptSpec)

/-- ITS FALSE NEIGHBOUR: 'it returns false'. Refute it at one input. -/
def algoKeptWrong : ChangeSpec := { name := "algoKept", fn := fun _ => fun
  | [d1, d2] => { results := [.lit (.bool false)], args := [d1, d2] }
  | _ => none }
def AlgoKeptWrongFalsely : Prop := algoKeptRow.holds Tryz.pinned (OpenSpec.ofChange algoKeptWrong)

/-- 'palfreylaw12.AlgoTurned': WHATEVER THE INPUT: true; the input reads as it did. -/
def algoTurnedSpec : ChangeSpec := { name := "algoTurned", fn := fun _ => fun
  | [d] => { results := [.lit (.bool true)], args := [d] }
  | _ => none }
def algoTurnedRow : OpenClaim := { program := "ytnmmnlffobnbfaagreatdoor", sum := "80aecb65b7ce1b4b5f97eccbbf270397244657ae4d420698054f1af17800e49a", func := "palfrey/palfreylaw12.AlgoTurned", spec := "algoTurned", inPlace := ["internal/bytealg.MakeNoZero", "math/bits.Add64", "math/bits.Sub64"], unfollowed := true, recurses := true, named := ["palfrey/sha.rounds"], apart := false, laid := [("palfrey/sha.rounds", laid_palfrey_sha_rounds)] }
def AlgoTurnedSaid : Prop := algoTurnedRow.holds Tryz.pinned (OpenSpec.ofChange algoTurnedSpec)

/-- ITS FALSE NEIGHBOUR: 'it returns false'. Refute it at one input. -/
def algoTurnedWrong : ChangeSpec := { name := "algoTurned", fn := fun _ => fun
  | [d] => { results := [.lit (.bool false)], args := [d] }
  | _ => none }
def AlgoTurnedWrongFalsely : Prop := algoTurnedRow.holds Tryz.pinned (OpenSpec.ofChange algoTurnedWrong)

/-- 'palfreylaw12.AlgoChecks': WHATEVER THE INPUT: true; the input reads as it did. -/
def algoChecksSpec : ChangeSpec := { name := "algoChecks", fn := fun _ => fun
  | [d1, d2] => { results := [.lit (.bool true)], args := [d1, d2] }
  | _ => none }
def algoChecksRow : OpenClaim := { program := "ytnmmnlffobnbfaagreatdoor", sum := "80aecb65b7ce1b4b5f97eccbbf270397244657ae4d420698054f1af17800e49a", func := "palfrey/palfreylaw12.AlgoChecks", spec := "algoChecks", inPlace := ["internal/bytealg.MakeNoZero", "math/bits.Add64", "math/bits.Sub64"], unfollowed := true, recurses := true, named := ["palfrey/sha.rounds"], apart := false, laid := [("palfrey/sha.rounds", laid_palfrey_sha_rounds)] }
def AlgoChecksSaid : Prop := algoChecksRow.holds Tryz.pinned (OpenSpec.ofChange algoChecksSpec)

/-- ITS FALSE NEIGHBOUR: 'it returns false'. Refute it at one input. -/
def algoChecksWrong : ChangeSpec := { name := "algoChecks", fn := fun _ => fun
  | [d1, d2] => { results := [.lit (.bool false)], args := [d1, d2] }
  | _ => none }
def AlgoChecksWrongFalsely : Prop := algoChecksRow.holds Tryz.pinned (OpenSpec.ofChange algoChecksWrong)

/-- 'palfreylaw19.SessKept': WHATEVER THE INPUT: true; the input reads as it did. -/
def sessKeptSpec : ChangeSpec := { name := "sessKept", fn := fun _ => fun
  | [d1, d2] => { results := [.lit (.bool true)], args := [d1, d2] }
  | _ => none }
def sessKeptRow : OpenClaim := { program := "ytnmmnlffobnbfaagreatdoor", sum := "80aecb65b7ce1b4b5f97eccbbf270397244657ae4d420698054f1af17800e49a", func := "palfrey/palfreylaw19.SessKept", spec := "sessKept", inPlace := ["internal/bytealg.MakeNoZero", "math/bits.Add64", "math/bits.Sub64"], unfollowed := true, recurses := true, named := ["palfrey/sha.rounds"], apart := false, laid := [("palfrey/sha.rounds", laid_palfrey_sha_rounds)] }
def SessKeptSaid : Prop := sessKeptRow.holds Tryz.pinned (OpenSpec.ofChange sessKeptSpec)

/-- ITS FALSE NEIGHBOUR: 'it returns false'. Refute it at one input. -/
def sessKeptWrong : ChangeSpec := { name := "sessKept", fn := fun _ => fun
  | [d1, d2] => { results := [.lit (.bool false)], args := [d1, d2] }
  | _ => none }
def SessKeptWrongFalsely : Prop := sessKeptRow.holds Tryz.pinned (OpenSpec.ofChange sessKeptWrong)

/-- 'palfreylaw19.SessOthers': WHATEVER THE INPUT: true; the input reads as it did. -/
def sessOthersSpec : ChangeSpec := { name := "sessOthers", fn := fun _ => fun
  | [d1, d2] => { results := [.lit (.bool true)], args := [d1, d2] }
  | _ => none }
def sessOthersRow : OpenClaim := { program := "ytnmmnlffobnbfaagreatdoor", sum := "80aecb65b7ce1b4b5f97eccbbf270397244657ae4d420698054f1af17800e49a", func := "palfrey/palfreylaw19.SessOthers", spec := "sessOthers", inPlace := ["internal/bytealg.MakeNoZero", "math/bits.Add64", "math/bits.Sub64"], unfollowed := true, recurses := true, named := ["palfrey/sha.rounds"], apart := false, laid := [("palfrey/sha.rounds", laid_palfrey_sha_rounds)] }
def SessOthersSaid : Prop := sessOthersRow.holds Tryz.pinned (OpenSpec.ofChange sessOthersSpec)

/-- ITS FALSE NEIGHBOUR: 'it returns false'. Refute it at one input. -/
def sessOthersWrong : ChangeSpec := { name := "sessOthers", fn := fun _ => fun
  | [d1, d2] => { results := [.lit (.bool false)], args := [d1, d2] }
  | _ => none }
def SessOthersWrongFalsely : Prop := sessOthersRow.holds Tryz.pinned (OpenSpec.ofChange sessOthersWrong)

/- THE SECOND FORM. 'bulk': how many values and letters a reading holds, each counted each time it is reached (what is shared counts as often as it is met; a slice's spare places count too). A statement '..UptoSaid' is the law's where the arguments, and the package variables that the reading takes, are together of bulk at most 1048576: NARROWER than '..Said'. Prove '..Said' where nothing that the law and all that it calls make is longer than what came in: it says more and counts as full. Else prove '..UptoSaid'. A law counts once. -/
mutual
def uptoBulk {H : Type} : DataW H → Nat
  | .lit (.string bytes) => bytes.length + 1
  | .lit _ => 1
  | .nil => 1
  | .ptr d => uptoBulk d + 1
  | .slice elems spare => uptoBulkAll elems + uptoBulkAll spare + 1
  | .agg parts => uptoBulkAll parts + 1
  | .iface _ d => uptoBulk d + 1
  | .map entries => uptoBulkEntries entries + 1
  | .held _ => 1
def uptoBulkAll {H : Type} : List (DataW H) → Nat
  | [] => 0
  | d :: r => uptoBulk d + uptoBulkAll r
def uptoBulkEntries {H : Type} : List (Lit × DataW H) → Nat
  | [] => 0
  | x :: r => uptoBulkEntry x + uptoBulkEntries r
def uptoBulkEntry {H : Type} : Lit × DataW H → Nat
  | (.string bytes, d) => bytes.length + uptoBulk d + 1
  | (_, d) => uptoBulk d + 1
 end
def uptoSmall : (H : Type) → List (DataW H) → Bool := fun _ ds => decide (uptoBulkAll ds ≤ 1048576)
def OpenSpec.upto (s : _root_.Go.ChangeSpec) : _root_.Go.OpenSpec := { _root_.Go.OpenSpec.ofChange s with cond := some uptoSmall }

/-- 'palfreytop.TopHashes', WHERE WHAT IT READS IS OF BULK AT MOST 1048576: true; the input reads as it did. -/
def topHashesUptoRow : OpenClaim := { program := "ytnmmnlffobnbfaagreatdoor", sum := "80aecb65b7ce1b4b5f97eccbbf270397244657ae4d420698054f1af17800e49a", func := "palfrey/palfreytop.TopHashes", spec := "topHashes", inPlace := ["internal/bytealg.MakeNoZero", "math/bits.Add64", "math/bits.Sub64"], unfollowed := true, recurses := true, named := ["palfrey/sha.rounds"], apart := false, laid := [("palfrey/sha.rounds", laid_palfrey_sha_rounds)], narrowed := true }
def TopHashesUptoSaid : Prop := topHashesUptoRow.holds Tryz.pinned (OpenSpec.upto topHashesSpec)

/-- 'palfreylaw12.AlgoDoes', WHERE WHAT IT READS IS OF BULK AT MOST 1048576: true; the input reads as it did. -/
def algoDoesUptoRow : OpenClaim := { program := "ytnmmnlffobnbfaagreatdoor", sum := "80aecb65b7ce1b4b5f97eccbbf270397244657ae4d420698054f1af17800e49a", func := "palfrey/palfreylaw12.AlgoDoes", spec := "algoDoes", inPlace := ["internal/bytealg.MakeNoZero", "math/bits.Add64", "math/bits.Sub64"], unfollowed := true, recurses := true, named := ["palfrey/sha.rounds"], apart := false, laid := [("palfrey/sha.rounds", laid_palfrey_sha_rounds)], narrowed := true }
def AlgoDoesUptoSaid : Prop := algoDoesUptoRow.holds Tryz.pinned (OpenSpec.upto algoDoesSpec)

/-- 'palfreylaw12.AlgoBack', WHERE WHAT IT READS IS OF BULK AT MOST 1048576: true; the input reads as it did. -/
def algoBackUptoRow : OpenClaim := { program := "ytnmmnlffobnbfaagreatdoor", sum := "80aecb65b7ce1b4b5f97eccbbf270397244657ae4d420698054f1af17800e49a", func := "palfrey/palfreylaw12.AlgoBack", spec := "algoBack", inPlace := ["internal/bytealg.MakeNoZero", "math/bits.Add64", "math/bits.Sub64"], unfollowed := true, recurses := true, named := ["palfrey/sha.rounds"], apart := false, laid := [("palfrey/sha.rounds", laid_palfrey_sha_rounds)], narrowed := true }
def AlgoBackUptoSaid : Prop := algoBackUptoRow.holds Tryz.pinned (OpenSpec.upto algoBackSpec)

/-- 'palfreylaw12.AlgoRoom', WHERE WHAT IT READS IS OF BULK AT MOST 1048576: true; the input reads as it did. -/
def algoRoomUptoRow : OpenClaim := { program := "ytnmmnlffobnbfaagreatdoor", sum := "80aecb65b7ce1b4b5f97eccbbf270397244657ae4d420698054f1af17800e49a", func := "palfrey/palfreylaw12.AlgoRoom", spec := "algoRoom", inPlace := ["internal/bytealg.MakeNoZero", "math/bits.Add64", "math/bits.Sub64"], unfollowed := true, recurses := true, named := ["palfrey/sha.rounds"], apart := false, laid := [("palfrey/sha.rounds", laid_palfrey_sha_rounds)], narrowed := true }
def AlgoRoomUptoSaid : Prop := algoRoomUptoRow.holds Tryz.pinned (OpenSpec.upto algoRoomSpec)

/-- 'palfreylaw12.AlgoKept', WHERE WHAT IT READS IS OF BULK AT MOST 1048576: true; the input reads as it did. -/
def algoKeptUptoRow : OpenClaim := { program := "ytnmmnlffobnbfaagreatdoor", sum := "80aecb65b7ce1b4b5f97eccbbf270397244657ae4d420698054f1af17800e49a", func := "palfrey/palfreylaw12.AlgoKept", spec := "algoKept", inPlace := ["internal/bytealg.MakeNoZero", "math/bits.Add64", "math/bits.Sub64"], unfollowed := true, recurses := true, named := ["palfrey/sha.rounds"], apart := false, laid := [("palfrey/sha.rounds", laid_palfrey_sha_rounds)], narrowed := true }
def AlgoKeptUptoSaid : Prop := algoKeptUptoRow.holds Tryz.pinned (OpenSpec.upto algoKeptSpec)

/-- 'palfreylaw12.AlgoTurned', WHERE WHAT IT READS IS OF BULK AT MOST 1048576: true; the input reads as it did. -/
def algoTurnedUptoRow : OpenClaim := { program := "ytnmmnlffobnbfaagreatdoor", sum := "80aecb65b7ce1b4b5f97eccbbf270397244657ae4d420698054f1af17800e49a", func := "palfrey/palfreylaw12.AlgoTurned", spec := "algoTurned", inPlace := ["internal/bytealg.MakeNoZero", "math/bits.Add64", "math/bits.Sub64"], unfollowed := true, recurses := true, named := ["palfrey/sha.rounds"], apart := false, laid := [("palfrey/sha.rounds", laid_palfrey_sha_rounds)], narrowed := true }
def AlgoTurnedUptoSaid : Prop := algoTurnedUptoRow.holds Tryz.pinned (OpenSpec.upto algoTurnedSpec)

/-- 'palfreylaw12.AlgoChecks', WHERE WHAT IT READS IS OF BULK AT MOST 1048576: true; the input reads as it did. -/
def algoChecksUptoRow : OpenClaim := { program := "ytnmmnlffobnbfaagreatdoor", sum := "80aecb65b7ce1b4b5f97eccbbf270397244657ae4d420698054f1af17800e49a", func := "palfrey/palfreylaw12.AlgoChecks", spec := "algoChecks", inPlace := ["internal/bytealg.MakeNoZero", "math/bits.Add64", "math/bits.Sub64"], unfollowed := true, recurses := true, named := ["palfrey/sha.rounds"], apart := false, laid := [("palfrey/sha.rounds", laid_palfrey_sha_rounds)], narrowed := true }
def AlgoChecksUptoSaid : Prop := algoChecksUptoRow.holds Tryz.pinned (OpenSpec.upto algoChecksSpec)

/-- 'palfreylaw19.SessKept', WHERE WHAT IT READS IS OF BULK AT MOST 1048576: true; the input reads as it did. -/
def sessKeptUptoRow : OpenClaim := { program := "ytnmmnlffobnbfaagreatdoor", sum := "80aecb65b7ce1b4b5f97eccbbf270397244657ae4d420698054f1af17800e49a", func := "palfrey/palfreylaw19.SessKept", spec := "sessKept", inPlace := ["internal/bytealg.MakeNoZero", "math/bits.Add64", "math/bits.Sub64"], unfollowed := true, recurses := true, named := ["palfrey/sha.rounds"], apart := false, laid := [("palfrey/sha.rounds", laid_palfrey_sha_rounds)], narrowed := true }
def SessKeptUptoSaid : Prop := sessKeptUptoRow.holds Tryz.pinned (OpenSpec.upto sessKeptSpec)

/-- 'palfreylaw19.SessOthers', WHERE WHAT IT READS IS OF BULK AT MOST 1048576: true; the input reads as it did. -/
def sessOthersUptoRow : OpenClaim := { program := "ytnmmnlffobnbfaagreatdoor", sum := "80aecb65b7ce1b4b5f97eccbbf270397244657ae4d420698054f1af17800e49a", func := "palfrey/palfreylaw19.SessOthers", spec := "sessOthers", inPlace := ["internal/bytealg.MakeNoZero", "math/bits.Add64", "math/bits.Sub64"], unfollowed := true, recurses := true, named := ["palfrey/sha.rounds"], apart := false, laid := [("palfrey/sha.rounds", laid_palfrey_sha_rounds)], narrowed := true }
def SessOthersUptoSaid : Prop := sessOthersUptoRow.holds Tryz.pinned (OpenSpec.upto sessOthersSpec)

end Rows
end Go.Proofs.YtnmmnlffobnbfaaGreatDoor
