/- Customers in memory. No program in sight. -/
import Derived.Test.YtphkkkmjkagkbaaDoorCustQ
import Derived.Test.YtphkkkmjkagkbaaDoorBox
import Derived.Test.YtphkkkmjkagkbaaDoorOwF
import Derived.Test.YtphkkkmjkagkbaaDoorSearchP
namespace Go.Tk
open Go Go.RowKit
def rWait : Rel WaitD := fun _ cs x _ => cs = [.int .i64 x.seq, .int .i64 x.op.kind, .string ⟨x.op.a.toArray⟩, .string ⟨x.op.b.toArray⟩, .int .i64 x.op.n]
theorem rWait_ok : RelOk rWait 5 := ⟨by rintro w cs x S rfl; rfl, by rintro w cs x S rfl u hu; simp at hu; rcases hu with rfl | rfl | rfl | rfl | rfl <;> rfl, fun h _ => h⟩
theorem rWait_any (w : World) (cs : List Value) (x : WaitD) (S S' : Nat → Prop) (h : rWait w cs x S) : rWait w cs x S' := h
def custCells (c : CustomerD) (v : Value) : List Value := [.int .i64 c.id, .int .i64 c.session, .int .i64 c.next, v]
def valCust (c : CustomerD) (v : Value) : Value := .agg #[.int .i64 c.id, .int .i64 c.session, .int .i64 c.next, v]
/-- A customer that is returned, and what is wrong. -/
def RetCust (w : World) (r : CustomerD × Int) : Ending → World → Prop := fun e w' => ∃ v', e = .returned (.tuple #[valCust r.1 v', .int .i64 r.2]) ∧ SlR 5 rWait w' v' r.1.waits (fun b => w.heap.size ≤ b) ∧ Below w.heap.size w w'
/-- The same, with the slice that the call made. -/
def RetCustO (E : Nat) (w : World) (r : CustomerD × Int) : Ending → World → Prop := fun e w' => ∃ v', e = .returned (.tuple #[valCust r.1 v', .int .i64 r.2]) ∧ OwR E 5 rWait w' v' r.1.waits (fun _ => False) ∧ (∀ g, v'.ownBlock = some g → w.heap.size ≤ g) ∧ Below w.heap.size w w'
theorem OwR.waitRead {E : Nat} {w : World} {v : Value} {l : List WaitD} {S S' : Nat → Prop} (h : OwR E 5 rWait w v l S) (hS : ∀ g, v.ownBlock = .some g → S' g) : SlR 5 rWait w v l S' :=
  (h.forget rWait_any).read rWait_ok (by decide) hS
theorem OwF.waitReadF {E : Nat} {w : World} {v : Value} {l : List WaitD} {S S' : Nat → Prop} (h : OwF E 5 rWait w v l S) (hS : ∀ g, v.ownBlock = .some g → S' g) : SlR 5 rWait w v l S' :=
  (h.forget rWait_any).read rWait_ok hS
theorem waitAt_fIdx (l : List WaitD) (n : Int) : fIdx (fun w => w.seq == n) l = if waitAt l n < l.length then (waitAt l n : Int) else -1 := by
  by_cases h : waitAt l n < l.length
  · rw [if_pos h]
    refine fIdx_at h (List.findIdx_getElem (w := h)) fun j hj hlt => ?_
    have := List.not_of_lt_findIdx hlt
    simpa using this
  · rw [if_neg h]
    refine fIdx_none fun j hj => ?_
    have := List.not_of_lt_findIdx (p := fun w : WaitD => w.seq == n) (xs := l) (i := j) (by unfold waitAt at h; omega)
    simpa using this
end Go.Tk
