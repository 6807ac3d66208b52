/- Package log as plain functions. No program in sight. -/
import Derived.Test.YtphkkkmjkagkbaaDoorCmdQ
import Derived.Test.YtphkkkmjkagkbaaDoorSessP
namespace Go.Tk
open Go Go.RowKit

abbrev Bytes := List UInt8
structure LogD where
  base : Int
  entries : List Bytes
def noLog : LogD := ⟨0, []⟩
def decErr (s : Bytes) : Int := (cmdDecode s).2
def logErr (l : List Bytes) (i : Nat) : Int := decErr (l.getD i [])
def logCheck (l : LogD) : Int :=
  if l.base < 0 ∨ 1073741424 < l.base then 2
  else if 400 < l.entries.length then 1
  else firstErr (logErr l.entries) l.entries.length
structure LogOk (l : LogD) : Prop where
  base : 0 ≤ l.base ∧ l.base ≤ 1073741424
  len : l.entries.length ≤ 400
  all : ∀ s ∈ l.entries, decErr s = 0
theorem logCheck_ok {l : LogD} : logCheck l = 0 ↔ LogOk l := by
  rw [logCheck]
  constructor
  · intro h
    split at h; · cases h
    split at h; · cases h
    refine ⟨by omega, by omega, fun s hs => ?_⟩
    obtain ⟨i, hi, rfl⟩ := mem_getD l.entries s [] hs
    exact firstErr_zero.1 h i hi
  · intro h
    rw [if_neg (by have := h.base; omega), if_neg (by have := h.len; omega)]
    exact firstErr_zero.2 fun i hi => h.all _ (getD_mem l.entries i [] hi)
def logLast (l : LogD) : Int := l.base + l.entries.length
def logAt (l : LogD) (index : Int) : Bytes × Int :=
  if logCheck l ≠ 0 then ([], logCheck l)
  else if index ≤ l.base ∨ logLast l < index then ([], 6)
  else (l.entries.getD (index - l.base - 1).toNat [], 0)
/-- Entries are put one after the other, from place k on. -/
def putGo : List Bytes → Nat → List Bytes → List Bytes × Int
  | [], _, out => (out, 0)
  | s :: r, k, out => if decErr s ≠ 0 then ([], decErr s) else if k < out.length ∧ out.getD k [] = s then putGo r (k + 1) out else putGo r (k + 1) (out.take k ++ [s])
def skipOf (l : LogD) (behind : Int) (more : List Bytes) : Nat := if behind < l.base then min (l.base - behind).toNat more.length else 0
def logPut (l : LogD) (behind : Int) (more : List Bytes) : LogD × Int :=
  if logCheck l ≠ 0 then (noLog, logCheck l)
  else if behind < 0 ∨ 1073741824 < behind then (noLog, 2)
  else if 400 < more.length then (noLog, 1)
  else if logLast l < behind then (noLog, 13)
  else if (putGo (more.drop (skipOf l behind more)) (behind + skipOf l behind more - l.base).toNat l.entries).2 ≠ 0 then (noLog, (putGo (more.drop (skipOf l behind more)) (behind + skipOf l behind more - l.base).toNat l.entries).2)
  else if 400 < (putGo (more.drop (skipOf l behind more)) (behind + skipOf l behind more - l.base).toNat l.entries).1.length then (noLog, 8)
  else (⟨l.base, (putGo (more.drop (skipOf l behind more)) (behind + skipOf l behind more - l.base).toNat l.entries).1⟩, 0)
def logBehind (l : LogD) (index many : Int) : List Bytes × Int :=
  if logCheck l ≠ 0 then ([], logCheck l)
  else if index < l.base ∨ many < 0 then ([], 2)
  else if logLast l ≤ index then ([], 0)
  else ((l.entries.drop (index - l.base).toNat).take many.toNat, 0)
def logCut (l : LogD) (index : Int) : LogD × Int :=
  if logCheck l ≠ 0 then (noLog, logCheck l)
  else if index < l.base ∨ logLast l < index then (noLog, 2)
  else if 1073741424 < index then (noLog, 8)
  else (⟨index, l.entries.drop (index - l.base).toNat⟩, 0)
theorem putGo_spec : ∀ (b : List Bytes) (k : Nat) (out : List Bytes), (∀ s ∈ b, decErr s = 0) → k ≤ out.length →
    ∃ o, putGo b k out = (o, 0) ∧ k + b.length ≤ o.length ∧ o.length ≤ max out.length (k + b.length) ∧ o.take (k + b.length) = out.take k ++ b ∧ ∀ s ∈ o, s ∈ out ∨ s ∈ b
  | [], k, out, _, hk => ⟨out, rfl, by simpa using hk, by omega, by simp, fun s hs => .inl hs⟩
  | s :: r, k, out, hb, hk => by
    have hs := hb s (by simp)
    have hr : ∀ s ∈ r, decErr s = 0 := fun x hx => hb x (by simp [hx])
    rw [putGo, if_neg (by rw [hs]; simp)]
    by_cases hm : k < out.length ∧ out.getD k [] = s
    · rw [if_pos hm]
      obtain ⟨o, h1, h2, h3, h4, h5⟩ := putGo_spec r (k + 1) out hr (by omega)
      refine ⟨o, h1, by simp; omega, by simp; omega, ?_, fun x hx => ?_⟩
      · rw [List.length_cons, show k + (r.length + 1) = k + 1 + r.length by omega, h4, List.take_succ_eq_append_getElem hm.1, List.append_assoc]
        have : out[k] = s := by have h2 := hm.2; simpa [List.getD, hm.1] using h2
        rw [this]; rfl
      · rcases h5 x hx with h | h
        · exact .inl h
        · exact .inr (by simp [h])
    · rw [if_neg hm]
      have hl : (out.take k ++ [s]).length = k + 1 := by simp; omega
      obtain ⟨o, h1, h2, h3, h4, h5⟩ := putGo_spec r (k + 1) (out.take k ++ [s]) hr (by omega)
      refine ⟨o, h1, by simp; omega, by rw [hl] at h3; simp; omega, ?_, fun x hx => ?_⟩
      · rw [List.length_cons, show k + (r.length + 1) = k + 1 + r.length by omega, h4, List.take_of_length_le (by omega), List.append_assoc]; rfl
      · rcases h5 x hx with h | h
        · rcases List.mem_append.1 h with h | h
          · exact .inl (List.mem_of_mem_take h)
          · exact .inr (by simp at h; simp [h])
        · exact .inr (by simp [h])
/-- What is there already stays. -/
theorem putGo_same : ∀ (b : List Bytes) (k : Nat) (out : List Bytes), (∀ s ∈ b, decErr s = 0) → k + b.length ≤ out.length → out.take (k + b.length) = out.take k ++ b → putGo b k out = (out, 0)
  | [], _, _, _, _, _ => rfl
  | s :: r, k, out, hb, hk, he => by
    have hs := hb s (by simp)
    rw [List.length_cons] at hk he
    have hk1 : k < out.length := by omega
    have e1 : out.take (k + 1) = out.take k ++ [s] := by
      have := congrArg (List.take (k + 1)) he
      rw [List.take_take, show min (k + 1) (k + (r.length + 1)) = k + 1 by omega, List.take_append, List.take_take, List.length_take, show min k out.length = k by omega, show min (k + 1) k = k by omega, show k + 1 - k = 1 by omega] at this
      simpa using this
    have hgs : out.getD k [] = s := by
      rw [List.take_succ_eq_append_getElem hk1] at e1
      have := List.append_cancel_left e1
      simp at this
      simp [List.getD, hk1, this]
    rw [putGo, if_neg (by rw [hs]; simp), if_pos ⟨hk1, hgs⟩]
    refine putGo_same r (k + 1) out (fun x hx => hb x (by simp [hx])) (by omega) ?_
    rw [show k + 1 + r.length = k + (r.length + 1) by omega, he, e1, List.append_assoc]; rfl
end Go.Tk
