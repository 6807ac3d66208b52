/-
  No cell of these rows narrows 'for every input' (looked for: loops, veiled, ifaces, maps, wideKeys, modest, calm, conditions, laid).
  DERIVED. THE GIVEN ROWS OF THIS SEAT. 7 by the template 'for every input the law returns true; each argument reads behind the call as it read before'; 0 by the template 'total and deterministic' (their statements: YtcjnnkbliapkgaaTotals.lean).
  GIVEN WITH THE SEED: the statements are not yours to turn. If you find one false, say at which input.
  Laid BY PROGRAM, IN A SANDBOX (cutbox-rows.mjs): the forced cells as the released guide's own fill.sh prints them over the translation 4ace3064318f2d73… (all of the seat's roots in one cut). By AI agents, Wed Nov 11 2026. No macro, syntax, notation, axiom, sorry.
-/
import Derived.Test.YtcjnnkbliapkgaaChecked
import GoSem.Claim
import GoSem.ClaimJoined
import GoSem.ClaimMapViews
import Derived.JoinedTies
import Derived.KernelRfl
namespace Go.Proofs.Ytcjnnkbliapkgaa
/- THE CELL 'sum', in the pinned program and in every row, IS THE sha256 OF THE DUMP (.gsa) THAT YtcjnnkbliapkgaaProg.lean LOADS. Nothing in Lean hashes anything: it is a label: what it is worth is what the hold of that sum in a sandbox is worth. -/
noncomputable def Try.pinned : Pinned := { name := "ytcjnnkbliapkgaa", sum := "4ace3064318f2d73060804980b06edd93ec44162da55cb20a54d6f379fc71f71", checked := Try.checked }
namespace Rows
def none {H : Type} : Left H := { results := [], args := [] }

/-- 'tackroomkeep.NumbersOnce': WHATEVER THE INPUT: true; the input reads as it did. -/
def numbersOnceSpec : ChangeSpec := { name := "numbersOnce", fn := fun _ => fun
  | [d] => { results := [.lit (.bool true)], args := [d] }
  | _ => none }
def numbersOnceRow : OpenClaim := { program := "ytcjnnkbliapkgaa", sum := "4ace3064318f2d73060804980b06edd93ec44162da55cb20a54d6f379fc71f71", func := "tackroom/tackroomkeep.NumbersOnce", spec := "numbersOnce", apart := false }
def NumbersOnceSaid : Prop := numbersOnceRow.holds Try.pinned (OpenSpec.ofChange numbersOnceSpec)

/-- ITS FALSE NEIGHBOUR: 'it returns false'. Refute it at one input. -/
def numbersOnceWrong : ChangeSpec := { name := "numbersOnce", fn := fun _ => fun
  | [d] => { results := [.lit (.bool false)], args := [d] }
  | _ => none }
def NumbersOnceWrongFalsely : Prop := numbersOnceRow.holds Try.pinned (OpenSpec.ofChange numbersOnceWrong)

/-- 'tackroomkeep.NumbersBack': WHATEVER THE INPUT: true; the input reads as it did. -/
def numbersBackSpec : ChangeSpec := { name := "numbersBack", fn := fun _ => fun
  | [d1, d2] => { results := [.lit (.bool true)], args := [d1, d2] }
  | _ => none }
def numbersBackRow : OpenClaim := { program := "ytcjnnkbliapkgaa", sum := "4ace3064318f2d73060804980b06edd93ec44162da55cb20a54d6f379fc71f71", func := "tackroom/tackroomkeep.NumbersBack", spec := "numbersBack", apart := false }
def NumbersBackSaid : Prop := numbersBackRow.holds Try.pinned (OpenSpec.ofChange numbersBackSpec)

/-- ITS FALSE NEIGHBOUR: 'it returns false'. Refute it at one input. -/
def numbersBackWrong : ChangeSpec := { name := "numbersBack", fn := fun _ => fun
  | [d1, d2] => { results := [.lit (.bool false)], args := [d1, d2] }
  | _ => none }
def NumbersBackWrongFalsely : Prop := numbersBackRow.holds Try.pinned (OpenSpec.ofChange numbersBackWrong)

/-- 'tackroomkeep.SessionsEnd': WHATEVER THE INPUT: true; the input reads as it did. -/
def sessionsEndSpec : ChangeSpec := { name := "sessionsEnd", fn := fun _ => fun
  | [d1, d2] => { results := [.lit (.bool true)], args := [d1, d2] }
  | _ => none }
def sessionsEndRow : OpenClaim := { program := "ytcjnnkbliapkgaa", sum := "4ace3064318f2d73060804980b06edd93ec44162da55cb20a54d6f379fc71f71", func := "tackroom/tackroomkeep.SessionsEnd", spec := "sessionsEnd", inPlace := ["slices.overlaps[tackroom/api.Session]"], unfollowed := true, recurses := true, apart := false }
def SessionsEndSaid : Prop := sessionsEndRow.holds Try.pinned (OpenSpec.ofChange sessionsEndSpec)

/-- ITS FALSE NEIGHBOUR: 'it returns false'. Refute it at one input. -/
def sessionsEndWrong : ChangeSpec := { name := "sessionsEnd", fn := fun _ => fun
  | [d1, d2] => { results := [.lit (.bool false)], args := [d1, d2] }
  | _ => none }
def SessionsEndWrongFalsely : Prop := sessionsEndRow.holds Try.pinned (OpenSpec.ofChange sessionsEndWrong)

/-- 'tackroomkeep.CallsOnce': WHATEVER THE INPUT: true; the input reads as it did. -/
def callsOnceSpec : ChangeSpec := { name := "callsOnce", fn := fun _ => fun
  | [d1, d2, d3] => { results := [.lit (.bool true)], args := [d1, d2, d3] }
  | _ => none }
def callsOnceRow : OpenClaim := { program := "ytcjnnkbliapkgaa", sum := "4ace3064318f2d73060804980b06edd93ec44162da55cb20a54d6f379fc71f71", func := "tackroom/tackroomkeep.CallsOnce", spec := "callsOnce", inPlace := ["slices.overlaps[tackroom/api.Session]", "slices.overlaps[tackroom/api.Kept]"], unfollowed := true, recurses := true, apart := false }
def CallsOnceSaid : Prop := callsOnceRow.holds Try.pinned (OpenSpec.ofChange callsOnceSpec)

/-- ITS FALSE NEIGHBOUR: 'it returns false'. Refute it at one input. -/
def callsOnceWrong : ChangeSpec := { name := "callsOnce", fn := fun _ => fun
  | [d1, d2, d3] => { results := [.lit (.bool false)], args := [d1, d2, d3] }
  | _ => none }
def CallsOnceWrongFalsely : Prop := callsOnceRow.holds Try.pinned (OpenSpec.ofChange callsOnceWrong)

/-- 'tackroomkeep.LinesFair': WHATEVER THE INPUT: true; the input reads as it did. -/
def linesFairSpec : ChangeSpec := { name := "linesFair", fn := fun _ => fun
  | [d1, d2] => { results := [.lit (.bool true)], args := [d1, d2] }
  | _ => none }
def linesFairRow : OpenClaim := { program := "ytcjnnkbliapkgaa", sum := "4ace3064318f2d73060804980b06edd93ec44162da55cb20a54d6f379fc71f71", func := "tackroom/tackroomkeep.LinesFair", spec := "linesFair", inPlace := ["internal/bytealg.abigen_runtime_cmpstring", "slices.overlaps[tackroom/api.Lock]"], unfollowed := true, recurses := true, apart := false }
def LinesFairSaid : Prop := linesFairRow.holds Try.pinned (OpenSpec.ofChange linesFairSpec)

/-- ITS FALSE NEIGHBOUR: 'it returns false'. Refute it at one input. -/
def linesFairWrong : ChangeSpec := { name := "linesFair", fn := fun _ => fun
  | [d1, d2] => { results := [.lit (.bool false)], args := [d1, d2] }
  | _ => none }
def LinesFairWrongFalsely : Prop := linesFairRow.holds Try.pinned (OpenSpec.ofChange linesFairWrong)

/-- 'tackroomkeep.GoneAll': WHATEVER THE INPUT: true; the input reads as it did. -/
def goneAllSpec : ChangeSpec := { name := "goneAll", fn := fun _ => fun
  | [d1, d2] => { results := [.lit (.bool true)], args := [d1, d2] }
  | _ => none }
def goneAllRow : OpenClaim := { program := "ytcjnnkbliapkgaa", sum := "4ace3064318f2d73060804980b06edd93ec44162da55cb20a54d6f379fc71f71", func := "tackroom/tackroomkeep.GoneAll", spec := "goneAll", inPlace := ["internal/bytealg.abigen_runtime_cmpstring", "slices.overlaps[tackroom/api.Lock]"], unfollowed := true, recurses := true, apart := false }
def GoneAllSaid : Prop := goneAllRow.holds Try.pinned (OpenSpec.ofChange goneAllSpec)

/-- ITS FALSE NEIGHBOUR: 'it returns false'. Refute it at one input. -/
def goneAllWrong : ChangeSpec := { name := "goneAll", fn := fun _ => fun
  | [d1, d2] => { results := [.lit (.bool false)], args := [d1, d2] }
  | _ => none }
def GoneAllWrongFalsely : Prop := goneAllRow.holds Try.pinned (OpenSpec.ofChange goneAllWrong)

/-- 'tackroomkeep.LocksOne': WHATEVER THE INPUT: true; the input reads as it did. -/
def locksOneSpec : ChangeSpec := { name := "locksOne", fn := fun _ => fun
  | [d1, d2, d3] => { results := [.lit (.bool true)], args := [d1, d2, d3] }
  | _ => none }
def locksOneRow : OpenClaim := { program := "ytcjnnkbliapkgaa", sum := "4ace3064318f2d73060804980b06edd93ec44162da55cb20a54d6f379fc71f71", func := "tackroom/tackroomkeep.LocksOne", spec := "locksOne", inPlace := ["internal/bytealg.abigen_runtime_cmpstring", "slices.overlaps[tackroom/api.Lock]"], unfollowed := true, recurses := true, apart := false }
def LocksOneSaid : Prop := locksOneRow.holds Try.pinned (OpenSpec.ofChange locksOneSpec)

/-- ITS FALSE NEIGHBOUR: 'it returns false'. Refute it at one input. -/
def locksOneWrong : ChangeSpec := { name := "locksOne", fn := fun _ => fun
  | [d1, d2, d3] => { results := [.lit (.bool false)], args := [d1, d2, d3] }
  | _ => none }
def LocksOneWrongFalsely : Prop := locksOneRow.holds Try.pinned (OpenSpec.ofChange locksOneWrong)

/- THE SECOND FORM. 'bulk': how many values and letters a reading holds, each counted each time it is reached (what is shared counts as often as it is met; a slice's spare places count too). A statement '..UptoSaid' is the law's where the arguments, and the package variables that the reading takes, are together of bulk at most 1048576: NARROWER than '..Said'. Prove '..Said' where nothing that the law and all that it calls make is longer than what came in: it says more and counts as full. Else prove '..UptoSaid'. A law counts once. -/
mutual
def uptoBulk {H : Type} : DataW H → Nat
  | .lit (.string bytes) => bytes.length + 1
  | .lit _ => 1
  | .nil => 1
  | .ptr d => uptoBulk d + 1
  | .slice elems spare => uptoBulkAll elems + uptoBulkAll spare + 1
  | .agg parts => uptoBulkAll parts + 1
  | .iface _ d => uptoBulk d + 1
  | .map entries => uptoBulkEntries entries + 1
  | .held _ => 1
def uptoBulkAll {H : Type} : List (DataW H) → Nat
  | [] => 0
  | d :: r => uptoBulk d + uptoBulkAll r
def uptoBulkEntries {H : Type} : List (Lit × DataW H) → Nat
  | [] => 0
  | x :: r => uptoBulkEntry x + uptoBulkEntries r
def uptoBulkEntry {H : Type} : Lit × DataW H → Nat
  | (.string bytes, d) => bytes.length + uptoBulk d + 1
  | (_, d) => uptoBulk d + 1
 end
def uptoSmall : (H : Type) → List (DataW H) → Bool := fun _ ds => decide (uptoBulkAll ds ≤ 1048576)
def OpenSpec.upto (s : _root_.Go.ChangeSpec) : _root_.Go.OpenSpec := { _root_.Go.OpenSpec.ofChange s with cond := some uptoSmall }

/-- 'tackroomkeep.NumbersOnce', WHERE WHAT IT READS IS OF BULK AT MOST 1048576: true; the input reads as it did. -/
def numbersOnceUptoRow : OpenClaim := { program := "ytcjnnkbliapkgaa", sum := "4ace3064318f2d73060804980b06edd93ec44162da55cb20a54d6f379fc71f71", func := "tackroom/tackroomkeep.NumbersOnce", spec := "numbersOnce", apart := false, narrowed := true }
def NumbersOnceUptoSaid : Prop := numbersOnceUptoRow.holds Try.pinned (OpenSpec.upto numbersOnceSpec)

/-- 'tackroomkeep.NumbersBack', WHERE WHAT IT READS IS OF BULK AT MOST 1048576: true; the input reads as it did. -/
def numbersBackUptoRow : OpenClaim := { program := "ytcjnnkbliapkgaa", sum := "4ace3064318f2d73060804980b06edd93ec44162da55cb20a54d6f379fc71f71", func := "tackroom/tackroomkeep.NumbersBack", spec := "numbersBack", apart := false, narrowed := true }
def NumbersBackUptoSaid : Prop := numbersBackUptoRow.holds Try.pinned (OpenSpec.upto numbersBackSpec)

/-- 'tackroomkeep.SessionsEnd', WHERE WHAT IT READS IS OF BULK AT MOST 1048576: true; the input reads as it did. -/
def sessionsEndUptoRow : OpenClaim := { program := "ytcjnnkbliapkgaa", sum := "4ace3064318f2d73060804980b06edd93ec44162da55cb20a54d6f379fc71f71", func := "tackroom/tackroomkeep.SessionsEnd", spec := "sessionsEnd", inPlace := ["slices.overlaps[tackroom/api.Session]"], unfollowed := true, recurses := true, apart := false, narrowed := true }
def SessionsEndUptoSaid : Prop := sessionsEndUptoRow.holds Try.pinned (OpenSpec.upto sessionsEndSpec)

/-- 'tackroomkeep.CallsOnce', WHERE WHAT IT READS IS OF BULK AT MOST 1048576: true; the input reads as it did. -/
def callsOnceUptoRow : OpenClaim := { program := "ytcjnnkbliapkgaa", sum := "4ace3064318f2d73060804980b06edd93ec44162da55cb20a54d6f379fc71f71", func := "tackroom/tackroomkeep.CallsOnce", spec := "callsOnce", inPlace := ["slices.overlaps[tackroom/api.Session]", "slices.overlaps[tackroom/api.Kept]"], unfollowed := true, recurses := true, apart := false, narrowed := true }
def CallsOnceUptoSaid : Prop := callsOnceUptoRow.holds Try.pinned (OpenSpec.upto callsOnceSpec)

/-- 'tackroomkeep.LinesFair', WHERE WHAT IT READS IS OF BULK AT MOST 1048576: true; the input reads as it did. -/
def linesFairUptoRow : OpenClaim := { program := "ytcjnnkbliapkgaa", sum := "4ace3064318f2d73060804980b06edd93ec44162da55cb20a54d6f379fc71f71", func := "tackroom/tackroomkeep.LinesFair", spec := "linesFair", inPlace := ["internal/bytealg.abigen_runtime_cmpstring", "slices.overlaps[tackroom/api.Lock]"], unfollowed := true, recurses := true, apart := false, narrowed := true }
def LinesFairUptoSaid : Prop := linesFairUptoRow.holds Try.pinned (OpenSpec.upto linesFairSpec)

/-- 'tackroomkeep.GoneAll', WHERE WHAT IT READS IS OF BULK AT MOST 1048576: true; the input reads as it did. -/
def goneAllUptoRow : OpenClaim := { program := "ytcjnnkbliapkgaa", sum := "4ace3064318f2d73060804980b06edd93ec44162da55cb20a54d6f379fc71f71", func := "tackroom/tackroomkeep.GoneAll", spec := "goneAll", inPlace := ["internal/bytealg.abigen_runtime_cmpstring", "slices.overlaps[tackroom/api.Lock]"], unfollowed := true, recurses := true, apart := false, narrowed := true }
def GoneAllUptoSaid : Prop := goneAllUptoRow.holds Try.pinned (OpenSpec.upto goneAllSpec)

/-- 'tackroomkeep.LocksOne', WHERE WHAT IT READS IS OF BULK AT MOST 1048576: true; the input reads as it did. -/
def locksOneUptoRow : OpenClaim := { program := "ytcjnnkbliapkgaa", sum := "4ace3064318f2d73060804980b06edd93ec44162da55cb20a54d6f379fc71f71", func := "tackroom/tackroomkeep.LocksOne", spec := "locksOne", inPlace := ["internal/bytealg.abigen_runtime_cmpstring", "slices.overlaps[tackroom/api.Lock]"], unfollowed := true, recurses := true, apart := false, narrowed := true }
def LocksOneUptoSaid : Prop := locksOneUptoRow.holds Try.pinned (OpenSpec.upto locksOneSpec)

end Rows
end Go.Proofs.Ytcjnnkbliapkgaa
