/-
  DERIVED. GIVEN WITH THE SEED: THE CARDS: each row of YtphkkkmjkagkbaaDoorRows.lean that lists a variable, with what it lists TIED to the program's text (the seventh form; the later family's looks); each row that meets fmt, with fmt's text TOLD by the authors' own Lean function (tested against real Go, not proved from fmt's source: count such statements apart). THE CARD IS WHAT COUNTS. Prove the row's statement (the work); the ties are given (YtphkkkmjkagkbaaDoorTie.lean); close each card by the builder's one call (the guide's Derived/Test/ToyasCard.lean, 'card_holds'). Laid BY PROGRAM, IN A SANDBOX (cutbox-door.mjs). By AI agents, Wed Nov 11 2026. No macro, syntax, notation, axiom, sorry.
-/
import Derived.Test.YtphkkkmjkagkbaaDoorRows
import GoSem.ClaimSeven
namespace Go.Proofs.YtphkkkmjkagkbaaDoor
namespace Rows

/-- THE TIED CARD OF 'tackroomkeep.CommandsBack'. -/
def commandsBackCard : Claim7 := { stood := { row := commandsBackRow, standIns := [], harness := (true, "e51b1da96ae94cdd0aeb3658f8eee3bba49710d2eef11c5ce5ded5b49be266dd"), looks := false }, kinds := [], alts := [], laidByText := true, laidKinds := [.data, .data, .data], laidTests := true, laidLooks := .later }
def CommandsBackCardSaid : Prop := Claim7.holds Tryd.pinned (.plain (OpenSpec.ofChange commandsBackSpec)) commandsBackCard

/-- THE TIED CARD OF 'tackroomkeep.PairsBack'. -/
def pairsBackCard : Claim7 := { stood := { row := pairsBackRow, standIns := [], harness := (true, "e51b1da96ae94cdd0aeb3658f8eee3bba49710d2eef11c5ce5ded5b49be266dd"), looks := false }, kinds := [], alts := [], laidByText := true, laidKinds := [.data, .data, .data], laidTests := true, laidLooks := .later }
def PairsBackCardSaid : Prop := Claim7.holds Tryd.pinned (.plain (OpenSpec.ofChange pairsBackSpec)) pairsBackCard

/-- THE TIED CARD OF 'tackroomkeep.LogsCut'. -/
def logsCutCard : Claim7 := { stood := { row := logsCutRow, standIns := [], harness := (true, "e51b1da96ae94cdd0aeb3658f8eee3bba49710d2eef11c5ce5ded5b49be266dd"), looks := false }, kinds := [], alts := [], laidByText := true, laidKinds := [.data, .data, .data], laidTests := true, laidLooks := .later }
def LogsCutCardSaid : Prop := Claim7.holds Tryd.pinned (.plain (OpenSpec.ofChange logsCutSpec)) logsCutCard

/-- THE TIED CARD OF 'tackroomkeep.LogsPut'. -/
def logsPutCard : Claim7 := { stood := { row := logsPutRow, standIns := [], harness := (true, "e51b1da96ae94cdd0aeb3658f8eee3bba49710d2eef11c5ce5ded5b49be266dd"), looks := false }, kinds := [], alts := [], laidByText := true, laidKinds := [.data, .data, .data], laidTests := true, laidLooks := .later }
def LogsPutCardSaid : Prop := Claim7.holds Tryd.pinned (.plain (OpenSpec.ofChange logsPutSpec)) logsPutCard

/-- THE TIED CARD OF 'tackroomkeep.CustomersAsk'. -/
def customersAskCard : Claim7 := { stood := { row := customersAskRow, standIns := [], harness := (true, "e51b1da96ae94cdd0aeb3658f8eee3bba49710d2eef11c5ce5ded5b49be266dd"), looks := false }, kinds := [], alts := [], laidByText := true, laidKinds := [.data, .data, .data], laidTests := true, laidLooks := .later }
def CustomersAskCardSaid : Prop := Claim7.holds Tryd.pinned (.plain (OpenSpec.ofChange customersAskSpec)) customersAskCard

/-- THE SECOND FORM's CARD OF 'tackroomkeep.CommandsBack'. -/
def commandsBackUptoCard : Claim7 := { stood := { row := commandsBackUptoRow, standIns := [], harness := (true, "e51b1da96ae94cdd0aeb3658f8eee3bba49710d2eef11c5ce5ded5b49be266dd"), looks := false }, kinds := [], alts := [], laidByText := true, laidKinds := [.data, .data, .data], laidTests := true, laidLooks := .later }
def CommandsBackUptoCardSaid : Prop := Claim7.holds Tryd.pinned (.plain (OpenSpec.upto commandsBackSpec)) commandsBackUptoCard

/-- THE SECOND FORM's CARD OF 'tackroomkeep.PairsBack'. -/
def pairsBackUptoCard : Claim7 := { stood := { row := pairsBackUptoRow, standIns := [], harness := (true, "e51b1da96ae94cdd0aeb3658f8eee3bba49710d2eef11c5ce5ded5b49be266dd"), looks := false }, kinds := [], alts := [], laidByText := true, laidKinds := [.data, .data, .data], laidTests := true, laidLooks := .later }
def PairsBackUptoCardSaid : Prop := Claim7.holds Tryd.pinned (.plain (OpenSpec.upto pairsBackSpec)) pairsBackUptoCard

/-- THE SECOND FORM's CARD OF 'tackroomkeep.LogsCut'. -/
def logsCutUptoCard : Claim7 := { stood := { row := logsCutUptoRow, standIns := [], harness := (true, "e51b1da96ae94cdd0aeb3658f8eee3bba49710d2eef11c5ce5ded5b49be266dd"), looks := false }, kinds := [], alts := [], laidByText := true, laidKinds := [.data, .data, .data], laidTests := true, laidLooks := .later }
def LogsCutUptoCardSaid : Prop := Claim7.holds Tryd.pinned (.plain (OpenSpec.upto logsCutSpec)) logsCutUptoCard

/-- THE SECOND FORM's CARD OF 'tackroomkeep.LogsPut'. -/
def logsPutUptoCard : Claim7 := { stood := { row := logsPutUptoRow, standIns := [], harness := (true, "e51b1da96ae94cdd0aeb3658f8eee3bba49710d2eef11c5ce5ded5b49be266dd"), looks := false }, kinds := [], alts := [], laidByText := true, laidKinds := [.data, .data, .data], laidTests := true, laidLooks := .later }
def LogsPutUptoCardSaid : Prop := Claim7.holds Tryd.pinned (.plain (OpenSpec.upto logsPutSpec)) logsPutUptoCard

/-- THE SECOND FORM's CARD OF 'tackroomkeep.CustomersAsk'. -/
def customersAskUptoCard : Claim7 := { stood := { row := customersAskUptoRow, standIns := [], harness := (true, "e51b1da96ae94cdd0aeb3658f8eee3bba49710d2eef11c5ce5ded5b49be266dd"), looks := false }, kinds := [], alts := [], laidByText := true, laidKinds := [.data, .data, .data], laidTests := true, laidLooks := .later }
def CustomersAskUptoCardSaid : Prop := Claim7.holds Tryd.pinned (.plain (OpenSpec.upto customersAskSpec)) customersAskUptoCard
end Rows
end Go.Proofs.YtphkkkmjkagkbaaDoor
