/- The plain functions of package session. -/
import Derived.Test.YtphkkkmjkagkbaaDoorSearchP
namespace Go.Tk
open Go

def keptBad (s : SessionD) (i : Nat) : Prop :=
  (s.replies.getD i noKept).seq ≤ s.acked ∨ s.acked + 4 < (s.replies.getD i noKept).seq ∨ (0 < i ∧ (s.replies.getD i noKept).seq ≤ (s.replies.getD (i - 1) noKept).seq) ∨
  (s.replies.getD i noKept).reply.code < 0 ∨ 15 < (s.replies.getD i noKept).reply.code ∨ (s.replies.getD i noKept).reply.n < 0 ∨ 1073741824 < (s.replies.getD i noKept).reply.n ∨ 12 < (s.replies.getD i noKept).reply.text.length
instance (s : SessionD) (i : Nat) : Decidable (keptBad s i) := by unfold keptBad; infer_instance
def repliesErr (s : SessionD) : Int := firstErr (fun i => if keptBad s i then 1 else 0) s.replies.length
def replies (s : SessionD) : Bool := repliesErr s == 0
theorem replies_false {s : SessionD} {k : Nat} (hk : k < s.replies.length) (h0 : firstErr (fun i => if keptBad s i then 1 else 0) k = 0) (hb : keptBad s k) : replies s = false := by
  have h1 : (fun i => if keptBad s i then (1 : Int) else 0) k = 1 := if_pos hb
  have h2 : firstErr (fun i => if keptBad s i then (1 : Int) else 0) s.replies.length = (fun i => if keptBad s i then (1 : Int) else 0) k := firstErr_eq h0 (fun h => by have := h1.symm.trans h; cases this) _ hk
  rw [replies, repliesErr, h2.trans h1]; rfl
def sessBad (index : Int) (s : SessionD) : Prop :=
  s.client < 1 ∨ 9 < s.client ∨ s.acked < 0 ∨ 1048576 < s.acked ∨ s.id < 1 ∨ s.last < s.id ∨ index < s.last
instance (index : Int) (s : SessionD) : Decidable (sessBad index s) := by unfold sessBad; infer_instance
def sessErr (l : List SessionD) (index : Int) (i : Nat) : Int :=
  if sessBad index (l.getD i noSession) then 2
  else if replies (l.getD i noSession) = false then 4
  else if 0 < i ∧ (l.getD i noSession).client ≤ (l.getD (i - 1) noSession).client then 14
  else 0
def sessCheck (l : List SessionD) (index : Int) : Int :=
  if index < 0 ∨ 1073741824 < index then 2 else if 4 < l.length then 1 else firstErr (sessErr l index) l.length

theorem replies_ok {s : SessionD} (h : replies s = true) : ∀ i, i < s.replies.length → ¬ keptBad s i := by
  have h0 : repliesErr s = 0 := by simpa [replies] using h
  intro i hi hb
  have := firstErr_zero.1 h0 i hi
  rw [if_pos hb] at this; cases this
theorem replies_rise {s : SessionD} (h : replies s = true) : ∀ i, i < s.replies.length → s.acked + 1 + i ≤ (s.replies.getD i noKept).seq
  | 0, hi => by have := replies_ok h 0 hi; unfold keptBad at this; omega
  | i + 1, hi => by
    have h1 := replies_ok h (i + 1) hi
    have h2 := replies_rise h i (by omega)
    unfold keptBad at h1
    rw [Nat.add_sub_cancel] at h1
    omega
theorem replies_len {s : SessionD} (h : replies s = true) : s.replies.length ≤ 4 := by
  rcases Nat.lt_or_ge s.replies.length 5 with h5 | h5
  · omega
  · have h1 := replies_rise h 4 (by omega)
    have h2 := replies_ok h 4 (by omega)
    unfold keptBad at h2
    omega
/-- Sessions that may be. -/
structure SessOk (l : List SessionD) (index : Int) : Prop where
  idx : 0 ≤ index ∧ index ≤ 1073741824
  len : l.length ≤ 4
  bad : ∀ x ∈ l, ¬ sessBad index x
  rep : ∀ x ∈ l, replies x = true
  ord : ∀ i, 0 < i → i < l.length → (l.getD (i - 1) noSession).client < (l.getD i noSession).client
theorem getD_mem {α : Type} (l : List α) (i : Nat) (d : α) (h : i < l.length) : l.getD i d ∈ l := by
  rw [show l.getD i d = l[i] by simp [List.getD, h]]; exact List.getElem_mem h
theorem mem_getD {α : Type} (l : List α) (x : α) (d : α) (h : x ∈ l) : ∃ i, i < l.length ∧ l.getD i d = x := by
  obtain ⟨i, hi, rfl⟩ := List.getElem_of_mem h
  exact ⟨i, hi, by simp [List.getD, hi]⟩
theorem sessCheck_ok {l : List SessionD} {index : Int} : sessCheck l index = 0 ↔ SessOk l index := by
  rw [sessCheck]
  constructor
  · intro h
    split at h
    · cases h
    · split at h
      · cases h
      · have hz := firstErr_zero.1 h
        refine ⟨by omega, by omega, fun x hx => ?_, fun x hx => ?_, fun i h0 hi => ?_⟩
        · obtain ⟨i, hi, rfl⟩ := mem_getD l x noSession hx
          intro hb
          have := hz i hi
          rw [sessErr, if_pos hb] at this; cases this
        · obtain ⟨i, hi, rfl⟩ := mem_getD l x noSession hx
          have := hz i hi
          rw [sessErr] at this
          split at this
          · cases this
          · split at this
            · cases this
            · rename_i h; simpa using h
        · have := hz i hi
          rw [sessErr] at this
          split at this
          · cases this
          · split at this
            · cases this
            · split at this
              · cases this
              · rename_i h; omega
  · intro h
    rw [if_neg (by have := h.idx; omega), if_neg (by have := h.len; omega)]
    refine firstErr_zero.2 fun i hi => ?_
    rw [sessErr, if_neg (h.bad _ (getD_mem l i _ hi)), if_neg (by rw [h.rep _ (getD_mem l i _ hi)]; decide), if_neg (fun hc => by have := h.ord i hc.1 hi; omega)]
def sFind (l : List SessionD) (c : Int) : Nat := bs (fun i => sessCmp (l.getD i noSession) c) l.length
def sThere (l : List SessionD) (c : Int) : Bool := bsFound (fun i => sessCmp (l.getD i noSession) c) l.length
theorem sThere_lt {l : List SessionD} {c : Int} (h : sThere l c = true) : sFind l c < l.length := by
  simp only [sThere, bsFound, Bool.and_eq_true, decide_eq_true_eq] at h; exact h.1
theorem sThere_eq {l : List SessionD} {c : Int} (h : sThere l c = true) : (l.getD (sFind l c) noSession).client = c := by
  simp only [sThere, bsFound, Bool.and_eq_true, beq_iff_eq] at h
  have := h.2
  simp only [sessCmp] at this
  show (l.getD (bs _ _) noSession).client = c
  simp only [sessCmp]
  omega
def join (l : List SessionD) (index client : Int) : List SessionD × ReplyD × Int :=
  if sessCheck l index ≠ 0 then ([], noReply, sessCheck l index)
  else if client < 1 ∨ 9 < client ∨ index = 1073741824 then ([], noReply, 2)
  else if sThere l client = true then (l.set (sFind l client) { l.getD (sFind l client) noSession with last := index + 1 }, ⟨7, (l.getD (sFind l client) noSession).id, []⟩, 0)
  else if l.length = 4 then (l, ⟨8, 0, []⟩, 0)
  else (l.take (sFind l client) ++ ⟨client, index + 1, 0, index + 1, []⟩ :: l.drop (sFind l client), ⟨0, index + 1, []⟩, 0)
def freshP (index : Int) (x : SessionD) : Bool := decide (40 < RowKit.wrap64 (index + 1 - x.last))
def freshL (l : List SessionD) (index : Int) : List SessionD × Int := if sessCheck l index ≠ 0 then ([], sessCheck l index) else (l.filter (fun x => !freshP index x), 0)
end Go.Tk
