/-
  DERIVED. GIVEN WITH THE SEED: THE CARDS: each row of YtcmmenmjclgjmaaGreatDoorRows.lean that lists a variable, with what it lists TIED to the program's text (the seventh form; the later family's looks); each row that meets fmt, with fmt's text TOLD by the authors' own Lean function (tested against real Go, not proved from fmt's source: count such statements apart). THE CARD IS WHAT COUNTS. Prove the row's statement (the work); the ties are given (YtcmmenmjclgjmaaGreatDoorTie.lean); close each card by the builder's one call (the guide's Derived/Test/ToyasCard.lean, 'card_holds'). Laid BY PROGRAM, IN A SANDBOX (cutbox-door.mjs). By AI agents, Wed Nov 11 2026. No macro, syntax, notation, axiom, sorry.
-/
import Derived.Test.YtcmmenmjclgjmaaGreatDoorRows
import GoSem.ClaimSeven
namespace Go.Proofs.YtcmmenmjclgjmaaGreatDoor
namespace Rows

/-- THE TIED CARD OF 'tackroomkeep.MachinesGood'. -/
def machinesGoodCard : Claim7 := { stood := { row := machinesGoodRow, standIns := [], harness := (true, "4126dc07f6dfd0efcd67df1fb194460702e596f17e11c098b9fd9da1cdd4816e"), looks := false }, kinds := [], alts := [], laidByText := true, laidKinds := [.data, .data, .data], laidTests := true, laidLooks := .later }
def MachinesGoodCardSaid : Prop := Claim7.holds Tryz.pinned (.plain (OpenSpec.ofChange machinesGoodSpec)) machinesGoodCard

/-- THE TIED CARD OF 'tackroomkeep.FencesHold'. -/
def fencesHoldCard : Claim7 := { stood := { row := fencesHoldRow, standIns := [], harness := (true, "4126dc07f6dfd0efcd67df1fb194460702e596f17e11c098b9fd9da1cdd4816e"), looks := false }, kinds := [], alts := [], laidByText := true, laidKinds := [.data, .data, .data], laidTests := true, laidLooks := .later }
def FencesHoldCardSaid : Prop := Claim7.holds Tryz.pinned (.plain (OpenSpec.ofChange fencesHoldSpec)) fencesHoldCard

/-- THE TIED CARD OF 'tackroomkeep.SnapsBack'. -/
def snapsBackCard : Claim7 := { stood := { row := snapsBackRow, standIns := [], harness := (true, "4126dc07f6dfd0efcd67df1fb194460702e596f17e11c098b9fd9da1cdd4816e"), looks := false }, kinds := [], alts := [], laidByText := true, laidKinds := [.data, .data, .data], laidTests := true, laidLooks := .later }
def SnapsBackCardSaid : Prop := Claim7.holds Tryz.pinned (.plain (OpenSpec.ofChange snapsBackSpec)) snapsBackCard

/-- THE TIED CARD OF 'tackroomkeep.ReplicasSame'. -/
def replicasSameCard : Claim7 := { stood := { row := replicasSameRow, standIns := [], harness := (true, "4126dc07f6dfd0efcd67df1fb194460702e596f17e11c098b9fd9da1cdd4816e"), looks := false }, kinds := [], alts := [], laidByText := true, laidKinds := [.data, .data, .data], laidTests := true, laidLooks := .later }
def ReplicasSameCardSaid : Prop := Claim7.holds Tryz.pinned (.plain (OpenSpec.ofChange replicasSameSpec)) replicasSameCard

/-- THE SECOND FORM's CARD OF 'tackroomkeep.MachinesGood'. -/
def machinesGoodUptoCard : Claim7 := { stood := { row := machinesGoodUptoRow, standIns := [], harness := (true, "4126dc07f6dfd0efcd67df1fb194460702e596f17e11c098b9fd9da1cdd4816e"), looks := false }, kinds := [], alts := [], laidByText := true, laidKinds := [.data, .data, .data], laidTests := true, laidLooks := .later }
def MachinesGoodUptoCardSaid : Prop := Claim7.holds Tryz.pinned (.plain (OpenSpec.upto machinesGoodSpec)) machinesGoodUptoCard

/-- THE SECOND FORM's CARD OF 'tackroomkeep.FencesHold'. -/
def fencesHoldUptoCard : Claim7 := { stood := { row := fencesHoldUptoRow, standIns := [], harness := (true, "4126dc07f6dfd0efcd67df1fb194460702e596f17e11c098b9fd9da1cdd4816e"), looks := false }, kinds := [], alts := [], laidByText := true, laidKinds := [.data, .data, .data], laidTests := true, laidLooks := .later }
def FencesHoldUptoCardSaid : Prop := Claim7.holds Tryz.pinned (.plain (OpenSpec.upto fencesHoldSpec)) fencesHoldUptoCard

/-- THE SECOND FORM's CARD OF 'tackroomkeep.SnapsBack'. -/
def snapsBackUptoCard : Claim7 := { stood := { row := snapsBackUptoRow, standIns := [], harness := (true, "4126dc07f6dfd0efcd67df1fb194460702e596f17e11c098b9fd9da1cdd4816e"), looks := false }, kinds := [], alts := [], laidByText := true, laidKinds := [.data, .data, .data], laidTests := true, laidLooks := .later }
def SnapsBackUptoCardSaid : Prop := Claim7.holds Tryz.pinned (.plain (OpenSpec.upto snapsBackSpec)) snapsBackUptoCard

/-- THE SECOND FORM's CARD OF 'tackroomkeep.ReplicasSame'. -/
def replicasSameUptoCard : Claim7 := { stood := { row := replicasSameUptoRow, standIns := [], harness := (true, "4126dc07f6dfd0efcd67df1fb194460702e596f17e11c098b9fd9da1cdd4816e"), looks := false }, kinds := [], alts := [], laidByText := true, laidKinds := [.data, .data, .data], laidTests := true, laidLooks := .later }
def ReplicasSameUptoCardSaid : Prop := Claim7.holds Tryz.pinned (.plain (OpenSpec.upto replicasSameSpec)) replicasSameUptoCard
end Rows
end Go.Proofs.YtcmmenmjclgjmaaGreatDoor
