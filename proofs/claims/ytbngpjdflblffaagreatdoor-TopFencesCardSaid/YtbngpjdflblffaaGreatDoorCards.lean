/-
  DERIVED. GIVEN WITH THE SEED: THE CARDS: each row of YtbngpjdflblffaaGreatDoorRows.lean that lists a variable, with what it lists TIED to the program's text (the seventh form; the later family's looks); each row that meets fmt, with fmt's text TOLD by the authors' own Lean function (tested against real Go, not proved from fmt's source: count such statements apart). THE CARD IS WHAT COUNTS. Prove the row's statement (the work); the ties are given (YtbngpjdflblffaaGreatDoorTie.lean); close each card by the builder's one call (the guide's Derived/Test/ToyasCard.lean, 'card_holds'). Laid BY PROGRAM, IN A SANDBOX (cutbox-door.mjs). By AI agents, Wed Nov 11 2026. No macro, syntax, notation, axiom, sorry.
-/
import Derived.Test.YtbngpjdflblffaaGreatDoorRows
import GoSem.ClaimSeven
namespace Go.Proofs.YtbngpjdflblffaaGreatDoor
namespace Rows

/-- THE TIED CARD OF 'tackroomkeep.SnapsBack'. -/
def snapsBackCard : Claim7 := { stood := { row := snapsBackRow, standIns := [], harness := (true, "52c00148a934c6f0c190f377c2e60e8a627c27a8739ff3b35113fe8fca915170"), looks := false }, kinds := [], alts := [], laidByText := true, laidKinds := [.data, .data, .data], laidTests := true, laidLooks := .later }
def SnapsBackCardSaid : Prop := Claim7.holds Tryz.pinned (.plain (OpenSpec.ofChange snapsBackSpec)) snapsBackCard

/-- THE TIED CARD OF 'tackroomkeep.ReplicasSame'. -/
def replicasSameCard : Claim7 := { stood := { row := replicasSameRow, standIns := [], harness := (true, "52c00148a934c6f0c190f377c2e60e8a627c27a8739ff3b35113fe8fca915170"), looks := false }, kinds := [], alts := [], laidByText := true, laidKinds := [.data, .data, .data], laidTests := true, laidLooks := .later }
def ReplicasSameCardSaid : Prop := Claim7.holds Tryz.pinned (.plain (OpenSpec.ofChange replicasSameSpec)) replicasSameCard

/-- THE TIED CARD OF 'tackroomkeep.ClustersGood'. -/
def clustersGoodCard : Claim7 := { stood := { row := clustersGoodRow, standIns := [], harness := (true, "52c00148a934c6f0c190f377c2e60e8a627c27a8739ff3b35113fe8fca915170"), looks := false }, kinds := [], alts := [], laidByText := true, laidKinds := [.data, .data, .data], laidTests := true, laidLooks := .later }
def ClustersGoodCardSaid : Prop := Claim7.holds Tryz.pinned (.plain (OpenSpec.ofChange clustersGoodSpec)) clustersGoodCard

/-- THE TIED CARD OF 'tackroomtop.TopFences'. -/
def topFencesCard : Claim7 := { stood := { row := topFencesRow, standIns := [], harness := (true, "52c00148a934c6f0c190f377c2e60e8a627c27a8739ff3b35113fe8fca915170"), looks := false }, kinds := [], alts := [], laidByText := true, laidKinds := [.data, .data, .data], laidTests := true, laidLooks := .later }
def TopFencesCardSaid : Prop := Claim7.holds Tryz.pinned (.plain (OpenSpec.ofChange topFencesSpec)) topFencesCard

/-- THE TIED CARD OF 'tackroomtop.TopCrash'. -/
def topCrashCard : Claim7 := { stood := { row := topCrashRow, standIns := [], harness := (true, "52c00148a934c6f0c190f377c2e60e8a627c27a8739ff3b35113fe8fca915170"), looks := false }, kinds := [], alts := [], laidByText := true, laidKinds := [.data, .data, .data], laidTests := true, laidLooks := .later }
def TopCrashCardSaid : Prop := Claim7.holds Tryz.pinned (.plain (OpenSpec.ofChange topCrashSpec)) topCrashCard

/-- THE TIED CARD OF 'tackroomtop.TopStays'. -/
def topStaysCard : Claim7 := { stood := { row := topStaysRow, standIns := [], harness := (true, "52c00148a934c6f0c190f377c2e60e8a627c27a8739ff3b35113fe8fca915170"), looks := false }, kinds := [], alts := [], laidByText := true, laidKinds := [.data, .data, .data], laidTests := true, laidLooks := .later }
def TopStaysCardSaid : Prop := Claim7.holds Tryz.pinned (.plain (OpenSpec.ofChange topStaysSpec)) topStaysCard

/-- THE TIED CARD OF 'tackroomtop.TopTwice'. -/
def topTwiceCard : Claim7 := { stood := { row := topTwiceRow, standIns := [], harness := (true, "52c00148a934c6f0c190f377c2e60e8a627c27a8739ff3b35113fe8fca915170"), looks := false }, kinds := [], alts := [], laidByText := true, laidKinds := [.data, .data, .data], laidTests := true, laidLooks := .later }
def TopTwiceCardSaid : Prop := Claim7.holds Tryz.pinned (.plain (OpenSpec.ofChange topTwiceSpec)) topTwiceCard

/-- THE SECOND FORM's CARD OF 'tackroomkeep.SnapsBack'. -/
def snapsBackUptoCard : Claim7 := { stood := { row := snapsBackUptoRow, standIns := [], harness := (true, "52c00148a934c6f0c190f377c2e60e8a627c27a8739ff3b35113fe8fca915170"), looks := false }, kinds := [], alts := [], laidByText := true, laidKinds := [.data, .data, .data], laidTests := true, laidLooks := .later }
def SnapsBackUptoCardSaid : Prop := Claim7.holds Tryz.pinned (.plain (OpenSpec.upto snapsBackSpec)) snapsBackUptoCard

/-- THE SECOND FORM's CARD OF 'tackroomkeep.ReplicasSame'. -/
def replicasSameUptoCard : Claim7 := { stood := { row := replicasSameUptoRow, standIns := [], harness := (true, "52c00148a934c6f0c190f377c2e60e8a627c27a8739ff3b35113fe8fca915170"), looks := false }, kinds := [], alts := [], laidByText := true, laidKinds := [.data, .data, .data], laidTests := true, laidLooks := .later }
def ReplicasSameUptoCardSaid : Prop := Claim7.holds Tryz.pinned (.plain (OpenSpec.upto replicasSameSpec)) replicasSameUptoCard

/-- THE SECOND FORM's CARD OF 'tackroomkeep.ClustersGood'. -/
def clustersGoodUptoCard : Claim7 := { stood := { row := clustersGoodUptoRow, standIns := [], harness := (true, "52c00148a934c6f0c190f377c2e60e8a627c27a8739ff3b35113fe8fca915170"), looks := false }, kinds := [], alts := [], laidByText := true, laidKinds := [.data, .data, .data], laidTests := true, laidLooks := .later }
def ClustersGoodUptoCardSaid : Prop := Claim7.holds Tryz.pinned (.plain (OpenSpec.upto clustersGoodSpec)) clustersGoodUptoCard

/-- THE SECOND FORM's CARD OF 'tackroomtop.TopFences'. -/
def topFencesUptoCard : Claim7 := { stood := { row := topFencesUptoRow, standIns := [], harness := (true, "52c00148a934c6f0c190f377c2e60e8a627c27a8739ff3b35113fe8fca915170"), looks := false }, kinds := [], alts := [], laidByText := true, laidKinds := [.data, .data, .data], laidTests := true, laidLooks := .later }
def TopFencesUptoCardSaid : Prop := Claim7.holds Tryz.pinned (.plain (OpenSpec.upto topFencesSpec)) topFencesUptoCard

/-- THE SECOND FORM's CARD OF 'tackroomtop.TopCrash'. -/
def topCrashUptoCard : Claim7 := { stood := { row := topCrashUptoRow, standIns := [], harness := (true, "52c00148a934c6f0c190f377c2e60e8a627c27a8739ff3b35113fe8fca915170"), looks := false }, kinds := [], alts := [], laidByText := true, laidKinds := [.data, .data, .data], laidTests := true, laidLooks := .later }
def TopCrashUptoCardSaid : Prop := Claim7.holds Tryz.pinned (.plain (OpenSpec.upto topCrashSpec)) topCrashUptoCard

/-- THE SECOND FORM's CARD OF 'tackroomtop.TopStays'. -/
def topStaysUptoCard : Claim7 := { stood := { row := topStaysUptoRow, standIns := [], harness := (true, "52c00148a934c6f0c190f377c2e60e8a627c27a8739ff3b35113fe8fca915170"), looks := false }, kinds := [], alts := [], laidByText := true, laidKinds := [.data, .data, .data], laidTests := true, laidLooks := .later }
def TopStaysUptoCardSaid : Prop := Claim7.holds Tryz.pinned (.plain (OpenSpec.upto topStaysSpec)) topStaysUptoCard

/-- THE SECOND FORM's CARD OF 'tackroomtop.TopTwice'. -/
def topTwiceUptoCard : Claim7 := { stood := { row := topTwiceUptoRow, standIns := [], harness := (true, "52c00148a934c6f0c190f377c2e60e8a627c27a8739ff3b35113fe8fca915170"), looks := false }, kinds := [], alts := [], laidByText := true, laidKinds := [.data, .data, .data], laidTests := true, laidLooks := .later }
def TopTwiceUptoCardSaid : Prop := Claim7.holds Tryz.pinned (.plain (OpenSpec.upto topTwiceSpec)) topTwiceUptoCard
end Rows
end Go.Proofs.YtbngpjdflblffaaGreatDoor
