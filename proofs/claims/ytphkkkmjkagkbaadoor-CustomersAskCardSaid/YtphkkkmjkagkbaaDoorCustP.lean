/- Package customer as plain functions. No program in sight. -/
import Derived.Test.YtphkkkmjkagkbaaDoorCmdsP
namespace Go.Tk
open Go Go.RowKit

structure WaitD where
  seq : Int
  op : OpD
structure CustomerD where
  id : Int
  session : Int
  next : Int
  waits : List WaitD
structure MailD where
  client : Int
  seq : Int
  reply : ReplyD
def noWait : WaitD := ⟨0, noOp⟩
def noCustomer : CustomerD := ⟨0, 0, 0, []⟩
def custBad (c : CustomerD) (i : Nat) : Prop :=
  (c.waits.getD i noWait).seq < 1 ∨ c.next ≤ (c.waits.getD i noWait).seq ∨ (0 < i ∧ (c.waits.getD i noWait).seq ≤ (c.waits.getD (i - 1) noWait).seq) ∨ (c.waits.getD 0 noWait).seq + 3 < (c.waits.getD i noWait).seq
instance (c : CustomerD) (i : Nat) : Decidable (custBad c i) := by unfold custBad; infer_instance
def custErr (c : CustomerD) (i : Nat) : Int := if custBad c i then 9 else opCheck (c.waits.getD i noWait).op
def custCheck (c : CustomerD) : Int :=
  if c.id < 1 ∨ 9 < c.id ∨ c.session < 0 ∨ 1073741824 < c.session ∨ c.next < 1 ∨ 1048577 < c.next then 2
  else if 4 < c.waits.length ∨ (c.session = 0 ∧ 0 < c.waits.length) then 9
  else firstErr (custErr c) c.waits.length
structure CustOk (c : CustomerD) : Prop where
  id : 1 ≤ c.id ∧ c.id ≤ 9
  session : 0 ≤ c.session ∧ c.session ≤ 1073741824
  next : 1 ≤ c.next ∧ c.next ≤ 1048577
  len : c.waits.length ≤ 4
  away : c.session = 0 → c.waits = []
  all : ∀ i, i < c.waits.length → ¬ custBad c i ∧ OpOk (c.waits.getD i noWait).op
theorem custCheck_ok {c : CustomerD} : custCheck c = 0 ↔ CustOk c := by
  rw [custCheck]
  constructor
  · intro h
    split at h; · cases h
    split at h; · cases h
    rename_i h1 h2
    refine ⟨by omega, by omega, by omega, by omega, fun h0 => ?_, fun i hi => ?_⟩
    · exact List.length_eq_zero_iff.1 (by omega)
    · have := firstErr_zero.1 h i hi
      rw [custErr] at this
      split at this
      · cases this
      · rename_i hb
        exact ⟨hb, opCheck_ok.1 this⟩
  · intro h
    have h1 := h.id; have h2 := h.session; have h3 := h.next; have h4 := h.len
    rw [if_neg (by omega), if_neg]
    · refine firstErr_zero.2 fun i hi => ?_
      rw [custErr, if_neg (h.all i hi).1]
      exact opCheck_ok.2 (h.all i hi).2
    · rintro (h5 | ⟨h5, h6⟩)
      · omega
      · rw [h.away h5] at h6; simp at h6
def custAcked (c : CustomerD) : Int := if 0 < c.waits.length then (c.waits.getD 0 noWait).seq - 1 else c.next - 1
def custNew (id : Int) : CustomerD × Int := if id < 1 ∨ 9 < id then (noCustomer, 2) else (⟨id, 0, 1, []⟩, 0)
def custStart (c : CustomerD) (o : OpD) : CustomerD × Int :=
  if custCheck c ≠ 0 then (noCustomer, custCheck c)
  else if c.session = 0 then (noCustomer, 11)
  else if opCheck o ≠ 0 then (noCustomer, opCheck o)
  else if 1048576 < c.next ∨ custAcked c + 4 < c.next then (noCustomer, 8)
  else (⟨c.id, c.session, c.next + 1, c.waits ++ [⟨c.next, o⟩]⟩, 0)
def custHello (c : CustomerD) : List UInt8 × Int := if custCheck c ≠ 0 then ([], custCheck c) else cmdEncode ⟨1, c.id, 0, 0, 0, noOp⟩
def custRequest (c : CustomerD) (k : Int) : List UInt8 × Int :=
  if custCheck c ≠ 0 then ([], custCheck c)
  else if k < 0 ∨ c.waits.length ≤ k then ([], 6)
  else cmdEncode ⟨2, c.id, c.session, (c.waits.getD k.toNat noWait).seq, custAcked c, (c.waits.getD k.toNat noWait).op⟩
def waitAt (l : List WaitD) (n : Int) : Nat := l.findIdx fun w => w.seq == n
def custHear (c : CustomerD) (m : MailD) : CustomerD × Int :=
  if custCheck c ≠ 0 then (noCustomer, custCheck c)
  else if m.client ≠ c.id then (noCustomer, 6)
  else if m.seq = 0 then
    if 0 < c.session then (noCustomer, 12)
    else if m.reply.code ≠ 0 ∧ m.reply.code ≠ 7 then (c, 0)
    else if m.reply.n < 1 ∨ 1073741824 < m.reply.n then (noCustomer, 2)
    else (⟨c.id, m.reply.n, c.next, c.waits⟩, 0)
  else if c.waits.length ≤ waitAt c.waits m.seq then (noCustomer, 12)
  else if m.reply.code = 11 then (⟨c.id, 0, c.next, []⟩, 0)
  else (⟨c.id, c.session, c.next, c.waits.eraseIdx (waitAt c.waits m.seq)⟩, 0)
/-! The law, plainly. -/
def askWaits (at_ : Int) : Nat → List WaitD
  | 0 => []
  | n + 1 => askWaits at_ n ++ [⟨n + 1, opOf ⟨at_, n, 0, 0⟩⟩]
theorem askWaits_len (a : Int) : ∀ n, (askWaits a n).length = n
  | 0 => rfl
  | n + 1 => by rw [askWaits, List.length_append, askWaits_len a n]; rfl
theorem askWaits_get (a : Int) : ∀ n i, i < n → (askWaits a n).getD i noWait = ⟨i + 1, opOf ⟨a, i, 0, 0⟩⟩
  | 0, i, h => by omega
  | n + 1, i, h => by
    have hl := askWaits_len a n
    rw [askWaits]
    by_cases hi : i < n
    · have := askWaits_get a n i hi
      rw [List.getD, List.getElem?_append_left (by omega)]
      exact this
    · have : i = n := by omega
      subst this
      rw [List.getD, List.getElem?_append_right (by omega), hl]
      simp
theorem ask_ok {id a : Int} (h : 1 ≤ id ∧ id ≤ 9) (n : Nat) (hn : n ≤ 4) : CustOk ⟨id, 5, n + 1, askWaits a n⟩ := by
  refine ⟨h, by simp, by simp only; omega, by simp only [askWaits_len]; omega, by simp, fun i hi => ?_⟩
  simp only [askWaits_len] at hi
  refine ⟨?_, by simp only [askWaits_get a n i hi]; exact opOf_ok _⟩
  simp only [custBad, askWaits_get a n i hi, askWaits_get a n 0 (by omega)]
  rintro (h1 | h1 | ⟨h0, h1⟩ | h1)
  · omega
  · omega
  · rw [askWaits_get a n (i - 1) (by omega)] at h1
    simp only at h1; omega
  · omega
end Go.Tk
