/-
  DERIVED. GIVEN WITH THE SEED: THE CARDS: each row of YtnmmnlffobnbfaaGreatDoorRows.lean that lists a variable, with what it lists TIED to the program's text (the seventh form; the later family's looks); each row that meets fmt, with fmt's text TOLD by the authors' own Lean function (tested against real Go, not proved from fmt's source: count such statements apart). THE CARD IS WHAT COUNTS. Prove the row's statement (the work); the ties are given (YtnmmnlffobnbfaaGreatDoorTie.lean); close each card by the builder's one call (the guide's Derived/Test/ToyasCard.lean, 'card_holds'). Laid BY PROGRAM, IN A SANDBOX (cutbox-door.mjs). By AI agents, Wed Nov 11 2026. No macro, syntax, notation, axiom, sorry.
-/
import Derived.Test.YtnmmnlffobnbfaaGreatDoorRows
import GoSem.ClaimSeven
namespace Go.Proofs.YtnmmnlffobnbfaaGreatDoor
namespace Rows

/-- THE TIED CARD OF 'palfreytop.TopHashes'. -/
def topHashesCard : Claim7 := { stood := { row := topHashesRow, standIns := [], harness := (true, "f0299d50edcf2a2e26fe3cdd0a9a654109eddfbcc12a4c5c86ddf5f7c73299a6"), looks := false }, kinds := [], alts := [], laidByText := true, laidKinds := [.data], laidTests := true, laidLooks := .later }
def TopHashesCardSaid : Prop := Claim7.holds Tryz.pinned (.plain (OpenSpec.ofChange topHashesSpec)) topHashesCard

/-- THE TIED CARD OF 'palfreylaw12.AlgoDoes'. -/
def algoDoesCard : Claim7 := { stood := { row := algoDoesRow, standIns := [], harness := (true, "f0299d50edcf2a2e26fe3cdd0a9a654109eddfbcc12a4c5c86ddf5f7c73299a6"), looks := false }, kinds := [], alts := [], laidByText := true, laidKinds := [.data], laidTests := true, laidLooks := .later }
def AlgoDoesCardSaid : Prop := Claim7.holds Tryz.pinned (.plain (OpenSpec.ofChange algoDoesSpec)) algoDoesCard

/-- THE TIED CARD OF 'palfreylaw12.AlgoBack'. -/
def algoBackCard : Claim7 := { stood := { row := algoBackRow, standIns := [], harness := (true, "f0299d50edcf2a2e26fe3cdd0a9a654109eddfbcc12a4c5c86ddf5f7c73299a6"), looks := false }, kinds := [], alts := [], laidByText := true, laidKinds := [.data], laidTests := true, laidLooks := .later }
def AlgoBackCardSaid : Prop := Claim7.holds Tryz.pinned (.plain (OpenSpec.ofChange algoBackSpec)) algoBackCard

/-- THE TIED CARD OF 'palfreylaw12.AlgoRoom'. -/
def algoRoomCard : Claim7 := { stood := { row := algoRoomRow, standIns := [], harness := (true, "f0299d50edcf2a2e26fe3cdd0a9a654109eddfbcc12a4c5c86ddf5f7c73299a6"), looks := false }, kinds := [], alts := [], laidByText := true, laidKinds := [.data], laidTests := true, laidLooks := .later }
def AlgoRoomCardSaid : Prop := Claim7.holds Tryz.pinned (.plain (OpenSpec.ofChange algoRoomSpec)) algoRoomCard

/-- THE TIED CARD OF 'palfreylaw12.AlgoKept'. -/
def algoKeptCard : Claim7 := { stood := { row := algoKeptRow, standIns := [], harness := (true, "f0299d50edcf2a2e26fe3cdd0a9a654109eddfbcc12a4c5c86ddf5f7c73299a6"), looks := false }, kinds := [], alts := [], laidByText := true, laidKinds := [.data], laidTests := true, laidLooks := .later }
def AlgoKeptCardSaid : Prop := Claim7.holds Tryz.pinned (.plain (OpenSpec.ofChange algoKeptSpec)) algoKeptCard

/-- THE TIED CARD OF 'palfreylaw12.AlgoTurned'. -/
def algoTurnedCard : Claim7 := { stood := { row := algoTurnedRow, standIns := [], harness := (true, "f0299d50edcf2a2e26fe3cdd0a9a654109eddfbcc12a4c5c86ddf5f7c73299a6"), looks := false }, kinds := [], alts := [], laidByText := true, laidKinds := [.data], laidTests := true, laidLooks := .later }
def AlgoTurnedCardSaid : Prop := Claim7.holds Tryz.pinned (.plain (OpenSpec.ofChange algoTurnedSpec)) algoTurnedCard

/-- THE TIED CARD OF 'palfreylaw12.AlgoChecks'. -/
def algoChecksCard : Claim7 := { stood := { row := algoChecksRow, standIns := [], harness := (true, "f0299d50edcf2a2e26fe3cdd0a9a654109eddfbcc12a4c5c86ddf5f7c73299a6"), looks := false }, kinds := [], alts := [], laidByText := true, laidKinds := [.data], laidTests := true, laidLooks := .later }
def AlgoChecksCardSaid : Prop := Claim7.holds Tryz.pinned (.plain (OpenSpec.ofChange algoChecksSpec)) algoChecksCard

/-- THE TIED CARD OF 'palfreylaw19.SessKept'. -/
def sessKeptCard : Claim7 := { stood := { row := sessKeptRow, standIns := [], harness := (true, "f0299d50edcf2a2e26fe3cdd0a9a654109eddfbcc12a4c5c86ddf5f7c73299a6"), looks := false }, kinds := [], alts := [], laidByText := true, laidKinds := [.data], laidTests := true, laidLooks := .later }
def SessKeptCardSaid : Prop := Claim7.holds Tryz.pinned (.plain (OpenSpec.ofChange sessKeptSpec)) sessKeptCard

/-- THE TIED CARD OF 'palfreylaw19.SessOthers'. -/
def sessOthersCard : Claim7 := { stood := { row := sessOthersRow, standIns := [], harness := (true, "f0299d50edcf2a2e26fe3cdd0a9a654109eddfbcc12a4c5c86ddf5f7c73299a6"), looks := false }, kinds := [], alts := [], laidByText := true, laidKinds := [.data], laidTests := true, laidLooks := .later }
def SessOthersCardSaid : Prop := Claim7.holds Tryz.pinned (.plain (OpenSpec.ofChange sessOthersSpec)) sessOthersCard

/-- THE SECOND FORM's CARD OF 'palfreytop.TopHashes'. -/
def topHashesUptoCard : Claim7 := { stood := { row := topHashesUptoRow, standIns := [], harness := (true, "f0299d50edcf2a2e26fe3cdd0a9a654109eddfbcc12a4c5c86ddf5f7c73299a6"), looks := false }, kinds := [], alts := [], laidByText := true, laidKinds := [.data], laidTests := true, laidLooks := .later }
def TopHashesUptoCardSaid : Prop := Claim7.holds Tryz.pinned (.plain (OpenSpec.upto topHashesSpec)) topHashesUptoCard

/-- THE SECOND FORM's CARD OF 'palfreylaw12.AlgoDoes'. -/
def algoDoesUptoCard : Claim7 := { stood := { row := algoDoesUptoRow, standIns := [], harness := (true, "f0299d50edcf2a2e26fe3cdd0a9a654109eddfbcc12a4c5c86ddf5f7c73299a6"), looks := false }, kinds := [], alts := [], laidByText := true, laidKinds := [.data], laidTests := true, laidLooks := .later }
def AlgoDoesUptoCardSaid : Prop := Claim7.holds Tryz.pinned (.plain (OpenSpec.upto algoDoesSpec)) algoDoesUptoCard

/-- THE SECOND FORM's CARD OF 'palfreylaw12.AlgoBack'. -/
def algoBackUptoCard : Claim7 := { stood := { row := algoBackUptoRow, standIns := [], harness := (true, "f0299d50edcf2a2e26fe3cdd0a9a654109eddfbcc12a4c5c86ddf5f7c73299a6"), looks := false }, kinds := [], alts := [], laidByText := true, laidKinds := [.data], laidTests := true, laidLooks := .later }
def AlgoBackUptoCardSaid : Prop := Claim7.holds Tryz.pinned (.plain (OpenSpec.upto algoBackSpec)) algoBackUptoCard

/-- THE SECOND FORM's CARD OF 'palfreylaw12.AlgoRoom'. -/
def algoRoomUptoCard : Claim7 := { stood := { row := algoRoomUptoRow, standIns := [], harness := (true, "f0299d50edcf2a2e26fe3cdd0a9a654109eddfbcc12a4c5c86ddf5f7c73299a6"), looks := false }, kinds := [], alts := [], laidByText := true, laidKinds := [.data], laidTests := true, laidLooks := .later }
def AlgoRoomUptoCardSaid : Prop := Claim7.holds Tryz.pinned (.plain (OpenSpec.upto algoRoomSpec)) algoRoomUptoCard

/-- THE SECOND FORM's CARD OF 'palfreylaw12.AlgoKept'. -/
def algoKeptUptoCard : Claim7 := { stood := { row := algoKeptUptoRow, standIns := [], harness := (true, "f0299d50edcf2a2e26fe3cdd0a9a654109eddfbcc12a4c5c86ddf5f7c73299a6"), looks := false }, kinds := [], alts := [], laidByText := true, laidKinds := [.data], laidTests := true, laidLooks := .later }
def AlgoKeptUptoCardSaid : Prop := Claim7.holds Tryz.pinned (.plain (OpenSpec.upto algoKeptSpec)) algoKeptUptoCard

/-- THE SECOND FORM's CARD OF 'palfreylaw12.AlgoTurned'. -/
def algoTurnedUptoCard : Claim7 := { stood := { row := algoTurnedUptoRow, standIns := [], harness := (true, "f0299d50edcf2a2e26fe3cdd0a9a654109eddfbcc12a4c5c86ddf5f7c73299a6"), looks := false }, kinds := [], alts := [], laidByText := true, laidKinds := [.data], laidTests := true, laidLooks := .later }
def AlgoTurnedUptoCardSaid : Prop := Claim7.holds Tryz.pinned (.plain (OpenSpec.upto algoTurnedSpec)) algoTurnedUptoCard

/-- THE SECOND FORM's CARD OF 'palfreylaw12.AlgoChecks'. -/
def algoChecksUptoCard : Claim7 := { stood := { row := algoChecksUptoRow, standIns := [], harness := (true, "f0299d50edcf2a2e26fe3cdd0a9a654109eddfbcc12a4c5c86ddf5f7c73299a6"), looks := false }, kinds := [], alts := [], laidByText := true, laidKinds := [.data], laidTests := true, laidLooks := .later }
def AlgoChecksUptoCardSaid : Prop := Claim7.holds Tryz.pinned (.plain (OpenSpec.upto algoChecksSpec)) algoChecksUptoCard

/-- THE SECOND FORM's CARD OF 'palfreylaw19.SessKept'. -/
def sessKeptUptoCard : Claim7 := { stood := { row := sessKeptUptoRow, standIns := [], harness := (true, "f0299d50edcf2a2e26fe3cdd0a9a654109eddfbcc12a4c5c86ddf5f7c73299a6"), looks := false }, kinds := [], alts := [], laidByText := true, laidKinds := [.data], laidTests := true, laidLooks := .later }
def SessKeptUptoCardSaid : Prop := Claim7.holds Tryz.pinned (.plain (OpenSpec.upto sessKeptSpec)) sessKeptUptoCard

/-- THE SECOND FORM's CARD OF 'palfreylaw19.SessOthers'. -/
def sessOthersUptoCard : Claim7 := { stood := { row := sessOthersUptoRow, standIns := [], harness := (true, "f0299d50edcf2a2e26fe3cdd0a9a654109eddfbcc12a4c5c86ddf5f7c73299a6"), looks := false }, kinds := [], alts := [], laidByText := true, laidKinds := [.data], laidTests := true, laidLooks := .later }
def SessOthersUptoCardSaid : Prop := Claim7.holds Tryz.pinned (.plain (OpenSpec.upto sessOthersSpec)) sessOthersUptoCard
end Rows
end Go.Proofs.YtnmmnlffobnbfaaGreatDoor
