/- A part of the proof, laid together from: CmdP, CmdQ, LogP, MachP. -/
import Derived.Test.YtkefgapnghnjjaaGreatDoorPa02
import Derived.Test.YtkefgapnghnjjaaGreatDoorPa03
import Derived.Test.YtkefgapnghnjjaaGreatDoorPa04
set_option linter.unusedSimpArgs false
set_option linter.unusedVariables false
namespace Go.Tk
open Go Go.RowKit
def noCommand : CommandD := ⟨0, 0, 0, 0, 0, noOp⟩
def rCommand : Rel CommandD := fun _ cs x _ => cs = [.int .i64 x.kind, .int .i64 x.client, .int .i64 x.session, .int .i64 x.seq, .int .i64 x.acked, .int .i64 x.op.kind, .string ⟨x.op.a.toArray⟩, .string ⟨x.op.b.toArray⟩, .int .i64 x.op.n]
theorem rCommand_ok : RelOk rCommand 9 := ⟨by rintro w cs x S rfl; rfl, by rintro w cs x S rfl u hu; simp at hu; rcases hu with rfl | rfl | rfl | rfl | rfl | rfl | rfl | rfl | rfl <;> rfl, fun h _ => h⟩
def valOp (o : OpD) : Value := .agg #[.int .i64 o.kind, .string ⟨o.a.toArray⟩, .string ⟨o.b.toArray⟩, .int .i64 o.n]
def valCommand (c : CommandD) : Value := .agg #[.int .i64 c.kind, .int .i64 c.client, .int .i64 c.session, .int .i64 c.seq, .int .i64 c.acked, .int .i64 c.op.kind, .string ⟨c.op.a.toArray⟩, .string ⟨c.op.b.toArray⟩, .int .i64 c.op.n]
def opCheck (o : OpD) : Int :=
  if o.kind < 1 ∨ 6 < o.kind then 3
  else if lkName o.a = false ∨ (o.kind ≠ 5 ∧ o.b ≠ []) then 4
  else if 12 < o.b.length then 1
  else if (o.kind = 5 ∧ (o.n < 1 ∨ 1073741824 < o.n)) ∨ (o.kind ≠ 5 ∧ o.n ≠ 0) then 2
  else 0
def cmdCheck (c : CommandD) : Int :=
  if c.kind < 1 ∨ 3 < c.kind then 3
  else if c.client < 1 ∨ 9 < c.client then 2
  else if c.kind ≠ 2 then
    if c.session ≠ 0 ∨ c.seq ≠ 0 ∨ c.acked ≠ 0 ∨ c.op.kind ≠ 0 ∨ c.op.a ≠ [] ∨ c.op.b ≠ [] ∨ c.op.n ≠ 0 then 4 else 0
  else if c.session < 1 ∨ 1073741824 < c.session ∨ c.seq < 1 ∨ 1048576 < c.seq ∨ c.acked < 0 ∨ c.seq ≤ c.acked then 2
  else opCheck c.op
def callBytes (c : CommandD) : List UInt8 :=
  (number c.session).1 ++ ((number c.seq).1 ++ ((number c.acked).1 ++ ((number c.op.kind).1 ++ ((number c.op.n).1 ++ ((text c.op.a).1 ++ (text c.op.b).1)))))
def cmdEncode (c : CommandD) : List UInt8 × Int :=
  if cmdCheck c ≠ 0 then ([], cmdCheck c)
  else ([c.kind.toNat.toUInt8, c.client.toNat.toUInt8] ++ (if c.kind = 2 then callBytes c else []), 0)
def thenNum {α : Type} (s : List UInt8) (fail : Int → α) (k : Int → List UInt8 → α) : α := if (readNumber s).2.2 ≠ 0 then fail (readNumber s).2.2 else k (readNumber s).1 (readNumber s).2.1
def thenText {α : Type} (s : List UInt8) (fail : Int → α) (k : List UInt8 → List UInt8 → α) : α := if (readText s).2.2 ≠ 0 then fail (readText s).2.2 else k (readText s).1 (readText s).2.1
def cmdBody (c : CommandD) (s : List UInt8) : CommandD × List UInt8 × Int :=
  thenNum s (fun e => (noCommand, [], e)) fun x1 s => thenNum s (fun e => (noCommand, [], e)) fun x2 s => thenNum s (fun e => (noCommand, [], e)) fun x3 s =>
  thenNum s (fun e => (noCommand, [], e)) fun x4 s => thenNum s (fun e => (noCommand, [], e)) fun x5 s =>
  thenText s (fun e => (noCommand, [], e)) fun y1 s => thenText s (fun e => (noCommand, [], e)) fun y2 s =>
  (⟨c.kind, c.client, x1, x2, x3, ⟨x4, y1, y2, x5⟩⟩, s, 0)
def cmdLast (c : CommandD) (s : List UInt8) : CommandD × Int := if s ≠ [] then (noCommand, 4) else if cmdCheck c ≠ 0 then (noCommand, cmdCheck c) else (c, 0)
def cmdDecode (s : List UInt8) : CommandD × Int :=
  if 5000 < s.length then (noCommand, 1)
  else if s.length < 2 then (noCommand, 5)
  else if s.getD 0 0 = 2 then
    if (cmdBody ⟨(s.getD 0 0).toNat, (s.getD 1 0).toNat, 0, 0, 0, noOp⟩ (s.drop 2)).2.2 ≠ 0 then (noCommand, (cmdBody ⟨(s.getD 0 0).toNat, (s.getD 1 0).toNat, 0, 0, 0, noOp⟩ (s.drop 2)).2.2)
    else cmdLast (cmdBody ⟨(s.getD 0 0).toNat, (s.getD 1 0).toNat, 0, 0, 0, noOp⟩ (s.drop 2)).1 (cmdBody ⟨(s.getD 0 0).toNat, (s.getD 1 0).toNat, 0, 0, 0, noOp⟩ (s.drop 2)).2.1
  else cmdLast ⟨(s.getD 0 0).toNat, (s.getD 1 0).toNat, 0, 0, 0, noOp⟩ (s.drop 2)
theorem number_back (n : Int) (h0 : 0 ≤ n) (hn : n ≤ 1099511627776) (t : List UInt8) : readNumber ((number n).1 ++ t) = (n, t, 0) := by
  have e : (number n).1 = digs 6 n.toNat := by rw [number, if_neg (by omega)]
  rw [e, readNumber_back _ (by omega)]
  rw [Int.toNat_of_nonneg h0]
theorem thenNum_back {α : Type} (n : Int) (h0 : 0 ≤ n) (hn : n ≤ 1099511627776) (t : List UInt8) (fail : Int → α) (k : Int → List UInt8 → α) : thenNum ((number n).1 ++ t) fail k = k n t := by
  rw [thenNum, number_back n h0 hn]; simp
theorem thenText_back {α : Type} (s t : List UInt8) (h : s.length ≤ 5000) (fail : Int → α) (k : List UInt8 → List UInt8 → α) : thenText ((text s).1 ++ t) fail k = k s t := by
  rw [thenText, readText_back s t h]; simp
structure OpOk (o : OpD) : Prop where
  kind : 1 ≤ o.kind ∧ o.kind ≤ 6
  name : lkName o.a = true
  noB : o.kind ≠ 5 → o.b = []
  size : o.b.length ≤ 12
  n : (o.kind = 5 → 1 ≤ o.n ∧ o.n ≤ 1073741824) ∧ (o.kind ≠ 5 → o.n = 0)
theorem opCheck_ok {o : OpD} : opCheck o = 0 ↔ OpOk o := by
  constructor
  · intro h
    rw [opCheck] at h
    split at h; · cases h
    split at h; · cases h
    split at h; · cases h
    split at h; · cases h
    rename_i h1 h2 h3 h4
    have h2' := not_or.1 h2
    refine ⟨by omega, by simpa using h2'.1, fun hk => ?_, by omega, by omega, by omega⟩
    have := not_and.1 h2'.2 hk
    exact Classical.not_not.1 this
  · rintro ⟨h1, h2, h3, h4, h5, h6⟩
    rw [opCheck, if_neg (by omega), if_neg, if_neg (by omega), if_neg (by omega)]
    rintro (h | ⟨h, h'⟩)
    · rw [h2] at h; cases h
    · exact h' (h3 h)
inductive CmdOk (c : CommandD) : Prop where
  | plain (hk : c.kind = 1 ∨ c.kind = 3) (hc : 1 ≤ c.client ∧ c.client ≤ 9) (h1 : c.session = 0) (h2 : c.seq = 0) (h3 : c.acked = 0) (h4 : c.op = noOp)
  | call (hk : c.kind = 2) (hc : 1 ≤ c.client ∧ c.client ≤ 9) (h1 : 1 ≤ c.session ∧ c.session ≤ 1073741824) (h2 : 1 ≤ c.seq ∧ c.seq ≤ 1048576) (h3 : 0 ≤ c.acked ∧ c.acked < c.seq) (h4 : OpOk c.op)
theorem cmdCheck_ok {c : CommandD} : cmdCheck c = 0 ↔ CmdOk c := by
  constructor
  · intro h
    rw [cmdCheck] at h
    split at h; · cases h
    split at h; · cases h
    split at h
    · split at h; · cases h
      rename_i h1 h2 h3 h4
      simp only [not_or, Classical.not_not] at h4
      obtain ⟨g1, g2, g3, g4, g5, g6, g7⟩ := h4
      refine .plain (by omega) (by omega) g1 g2 g3 ?_
      rcases hc : c.op with ⟨k, a, b, n⟩
      rw [hc] at g4 g5 g6 g7
      simp only at g4 g5 g6 g7
      subst g4 g5 g6 g7; rfl
    · split at h; · cases h
      exact .call (by omega) (by omega) (by omega) (by omega) (by omega) (opCheck_ok.1 h)
  · rintro (⟨hk, hc, h1, h2, h3, h4⟩ | ⟨hk, hc, h1, h2, h3, h4⟩)
    · rw [cmdCheck, if_neg (by omega), if_neg (by omega), if_pos (by omega), if_neg]
      rw [h1, h2, h3, h4]; simp [noOp]
    · rw [cmdCheck, if_neg (by omega), if_neg (by omega), if_neg (by omega), if_neg (by omega)]
      exact opCheck_ok.2 h4
theorem text_len (s : List UInt8) (h : s.length ≤ 5000) : (text s).1.length ≤ s.length + 7 := by
  rw [text, if_neg (by omega)]
  have := number_len s.length
  simp only [List.length_append]; omega
theorem callBytes_len {c : CommandD} (h : OpOk c.op) : (callBytes c).length ≤ 67 := by
  have h1 := number_len c.session
  have h2 := number_len c.seq
  have h3 := number_len c.acked
  have h4 := number_len c.op.kind
  have h5 := number_len c.op.n
  have h6 := (lkName_len h.name).2
  have h7 := text_len c.op.a (by omega)
  have h8 := h.size
  have h9 := text_len c.op.b (by omega)
  simp only [callBytes, List.length_append]
  omega
theorem OpOk.nn {o : OpD} (h : OpOk o) : 0 ≤ o.n ∧ o.n ≤ 1073741824 := by
  have h1 := h.n.1
  have h2 := h.n.2
  by_cases hk : o.kind = 5
  · have := h1 hk; omega
  · have := h2 hk; omega
theorem body_back {c : CommandD} (h : CmdOk c) (hk : c.kind = 2) (t : List UInt8) : cmdBody ⟨c.kind, c.client, 0, 0, 0, noOp⟩ (callBytes c ++ t) = (c, t, 0) := by
  rcases h with ⟨hk', _⟩ | ⟨_, hc, h1, h2, h3, h4⟩
  · omega
  have h5 := h4.nn
  have h6 := h4.kind
  have h7 := (lkName_len h4.name).2
  have h8 := h4.size
  rw [cmdBody, callBytes]
  simp only [List.append_assoc]
  rw [thenNum_back _ (by omega) (by omega), thenNum_back _ (by omega) (by omega), thenNum_back _ (by omega) (by omega), thenNum_back _ (by omega) (by omega), thenNum_back _ (by omega) (by omega),
    thenText_back _ _ (by omega), thenText_back _ _ (by omega)]
end Go.Tk

namespace Go.Tk
open Go Go.RowKit
theorem CmdOk.bounds {c : CommandD} (h : CmdOk c) : (1 ≤ c.kind ∧ c.kind ≤ 3) ∧ 1 ≤ c.client ∧ c.client ≤ 9 := by
  rcases h with ⟨hk, hc, _⟩ | ⟨hk, hc, _⟩ <;> exact ⟨by omega, hc⟩
theorem toUInt8_val (n : Int) (h0 : 0 ≤ n) (h1 : n ≤ 255) : ((n.toNat.toUInt8.toNat : Nat) : Int) = n := by
  have e : n.toNat.toUInt8.toNat = n.toNat := by
    show (UInt8.ofNat n.toNat).toNat = n.toNat
    rw [UInt8.toNat_ofNat']; omega
  rw [e]; omega
def cmdTail (c : CommandD) : List UInt8 := if c.kind = 2 then callBytes c else []
theorem encode_eq {c : CommandD} (h : CmdOk c) : cmdEncode c = (c.kind.toNat.toUInt8 :: c.client.toNat.toUInt8 :: cmdTail c, 0) := by
  rw [cmdEncode, cmdCheck_ok.2 h]; rfl
theorem tail_len {c : CommandD} (h : CmdOk c) : (cmdTail c).length ≤ 67 := by
  rw [cmdTail]
  rcases h with ⟨hk, _⟩ | ⟨hk, _, _, _, _, h4⟩
  · rw [if_neg (by omega)]; simp
  · rw [if_pos hk]; exact callBytes_len h4
theorem kind_two {c : CommandD} (h : CmdOk c) : (c.kind.toNat.toUInt8 = 2) ↔ c.kind = 2 := by
  have hb := h.bounds.1
  constructor
  · intro h2
    have := toUInt8_val c.kind (by omega) (by omega)
    rw [h2] at this
    simpa using this.symm
  · intro h2; rw [h2]; rfl
theorem decode_of {c : CommandD} (h : CmdOk c) (t : List UInt8) (ht : t.length ≤ 100) : cmdDecode (c.kind.toNat.toUInt8 :: c.client.toNat.toUInt8 :: t) =
    if c.kind = 2 then (if (cmdBody ⟨c.kind, c.client, 0, 0, 0, noOp⟩ t).2.2 ≠ 0 then (noCommand, (cmdBody ⟨c.kind, c.client, 0, 0, 0, noOp⟩ t).2.2) else cmdLast (cmdBody ⟨c.kind, c.client, 0, 0, 0, noOp⟩ t).1 (cmdBody ⟨c.kind, c.client, 0, 0, 0, noOp⟩ t).2.1)
    else cmdLast ⟨c.kind, c.client, 0, 0, 0, noOp⟩ t := by
  have hb := h.bounds
  have e0 := toUInt8_val c.kind (by omega) (by omega)
  have e1 := toUInt8_val c.client (by omega) (by omega)
  rw [cmdDecode, if_neg (by simp; omega), if_neg (by simp)]
  simp only [List.getD_cons_zero, List.getD_cons_succ, List.drop_succ_cons, List.drop_zero, e0, e1, kind_two h]
theorem decode_back {c : CommandD} (h : CmdOk c) : cmdDecode (cmdEncode c).1 = (c, 0) := by
  have hl := tail_len h
  rw [encode_eq h, decode_of h _ (by omega)]
  have hc := cmdCheck_ok.2 h
  by_cases hk : c.kind = 2
  · have e := body_back h hk []
    rw [List.append_nil] at e
    rw [if_pos hk, cmdTail, if_pos hk, e]
    simp [cmdLast, hc]
  · rw [if_neg hk, cmdTail, if_neg hk]
    rcases id h with ⟨_, _, h1, h2, h3, h4⟩ | ⟨hk', _⟩
    · have e : (⟨c.kind, c.client, 0, 0, 0, noOp⟩ : CommandD) = c := by
        rcases c with ⟨a, b, d, f, g, o⟩
        simp only at h1 h2 h3 h4
        subst h1 h2 h3 h4; rfl
      rw [e]; simp [cmdLast, hc]
    · exact absurd hk' hk
theorem encode_ok {c : CommandD} (h : CmdOk c) : (cmdEncode c).2 = 0 := by rw [encode_eq h]
end Go.Tk

namespace Go.Tk
open Go Go.RowKit
abbrev Bytes := List UInt8
structure LogD where
  base : Int
  entries : List Bytes
def noLog : LogD := ⟨0, []⟩
def decErr (s : Bytes) : Int := (cmdDecode s).2
def logErr (l : List Bytes) (i : Nat) : Int := decErr (l.getD i [])
def logCheck (l : LogD) : Int :=
  if l.base < 0 ∨ 1073741424 < l.base then 2
  else if 400 < l.entries.length then 1
  else firstErr (logErr l.entries) l.entries.length
structure LogOk (l : LogD) : Prop where
  base : 0 ≤ l.base ∧ l.base ≤ 1073741424
  len : l.entries.length ≤ 400
  all : ∀ s ∈ l.entries, decErr s = 0
theorem logCheck_ok {l : LogD} : logCheck l = 0 ↔ LogOk l := by
  rw [logCheck]
  constructor
  · intro h
    split at h; · cases h
    split at h; · cases h
    refine ⟨by omega, by omega, fun s hs => ?_⟩
    obtain ⟨i, hi, rfl⟩ := mem_getD l.entries s [] hs
    exact firstErr_zero.1 h i hi
  · intro h
    rw [if_neg (by have := h.base; omega), if_neg (by have := h.len; omega)]
    exact firstErr_zero.2 fun i hi => h.all _ (getD_mem l.entries i [] hi)
def logLast (l : LogD) : Int := l.base + l.entries.length
def putGo : List Bytes → Nat → List Bytes → List Bytes × Int
  | [], _, out => (out, 0)
  | s :: r, k, out => if decErr s ≠ 0 then ([], decErr s) else if k < out.length ∧ out.getD k [] = s then putGo r (k + 1) out else putGo r (k + 1) (out.take k ++ [s])
def skipOf (l : LogD) (behind : Int) (more : List Bytes) : Nat := if behind < l.base then min (l.base - behind).toNat more.length else 0
def logPut (l : LogD) (behind : Int) (more : List Bytes) : LogD × Int :=
  if logCheck l ≠ 0 then (noLog, logCheck l)
  else if behind < 0 ∨ 1073741824 < behind then (noLog, 2)
  else if 400 < more.length then (noLog, 1)
  else if logLast l < behind then (noLog, 13)
  else if (putGo (more.drop (skipOf l behind more)) (behind + skipOf l behind more - l.base).toNat l.entries).2 ≠ 0 then (noLog, (putGo (more.drop (skipOf l behind more)) (behind + skipOf l behind more - l.base).toNat l.entries).2)
  else if 400 < (putGo (more.drop (skipOf l behind more)) (behind + skipOf l behind more - l.base).toNat l.entries).1.length then (noLog, 8)
  else (⟨l.base, (putGo (more.drop (skipOf l behind more)) (behind + skipOf l behind more - l.base).toNat l.entries).1⟩, 0)
def logCut (l : LogD) (index : Int) : LogD × Int :=
  if logCheck l ≠ 0 then (noLog, logCheck l)
  else if index < l.base ∨ logLast l < index then (noLog, 2)
  else if 1073741424 < index then (noLog, 8)
  else (⟨index, l.entries.drop (index - l.base).toNat⟩, 0)
theorem putGo_spec : ∀ (b : List Bytes) (k : Nat) (out : List Bytes), (∀ s ∈ b, decErr s = 0) → k ≤ out.length →
    ∃ o, putGo b k out = (o, 0) ∧ k + b.length ≤ o.length ∧ o.length ≤ max out.length (k + b.length) ∧ o.take (k + b.length) = out.take k ++ b ∧ ∀ s ∈ o, s ∈ out ∨ s ∈ b
  | [], k, out, _, hk => ⟨out, rfl, by simpa using hk, by omega, by simp, fun s hs => .inl hs⟩
  | s :: r, k, out, hb, hk => by
    have hs := hb s (by simp)
    have hr : ∀ s ∈ r, decErr s = 0 := fun x hx => hb x (by simp [hx])
    rw [putGo, if_neg (by rw [hs]; simp)]
    by_cases hm : k < out.length ∧ out.getD k [] = s
    · rw [if_pos hm]
      obtain ⟨o, h1, h2, h3, h4, h5⟩ := putGo_spec r (k + 1) out hr (by omega)
      refine ⟨o, h1, by simp; omega, by simp; omega, ?_, fun x hx => ?_⟩
      · rw [List.length_cons, show k + (r.length + 1) = k + 1 + r.length by omega, h4, List.take_succ_eq_append_getElem hm.1, List.append_assoc]
        have : out[k] = s := by have h2 := hm.2; simpa [List.getD, hm.1] using h2
        rw [this]; rfl
      · rcases h5 x hx with h | h
        · exact .inl h
        · exact .inr (by simp [h])
    · rw [if_neg hm]
      have hl : (out.take k ++ [s]).length = k + 1 := by simp; omega
      obtain ⟨o, h1, h2, h3, h4, h5⟩ := putGo_spec r (k + 1) (out.take k ++ [s]) hr (by omega)
      refine ⟨o, h1, by simp; omega, by rw [hl] at h3; simp; omega, ?_, fun x hx => ?_⟩
      · rw [List.length_cons, show k + (r.length + 1) = k + 1 + r.length by omega, h4, List.take_of_length_le (by omega), List.append_assoc]; rfl
      · rcases h5 x hx with h | h
        · rcases List.mem_append.1 h with h | h
          · exact .inl (List.mem_of_mem_take h)
          · exact .inr (by simp at h; simp [h])
        · exact .inr (by simp [h])
end Go.Tk

namespace Go.Tk
open Go Go.RowKit
structure StateD where
  index : Int
  locks : List LockD
  pairs : List PairD
  sessions : List SessionD
def noState : StateD := ⟨0, [], [], []⟩
def maCheck (s : StateD) : Int :=
  if sessCheck s.sessions s.index ≠ 0 then sessCheck s.sessions s.index
  else if lkCheck s.locks ≠ 0 then lkCheck s.locks
  else prCheck s.pairs
structure StOk (s : StateD) : Prop where
  sess : SessOk s.sessions s.index
  lock : LkOk s.locks
  pair : PrOk s.pairs
theorem maCheck_ok {s : StateD} : maCheck s = 0 ↔ StOk s := by
  rw [maCheck]
  constructor
  · intro h
    split at h; · rename_i h1; exact absurd h h1
    split at h; · rename_i h1; exact absurd h h1
    rename_i h1 h2
    exact ⟨sessCheck_ok.1 (by omega), lkCheck_ok.1 (by omega), prCheck_ok.1 h⟩
  · rintro ⟨h1, h2, h3⟩
    rw [if_neg (by simp [sessCheck_ok.2 h1]), if_neg (by simp [lkCheck_ok.2 h2])]
    exact prCheck_ok.2 h3
def maDo (s : StateD) (who : Int) (o : OpD) : StateD × ReplyD :=
  if o.kind = 1 ∨ o.kind = 2 then (⟨s.index, (lkTake s.locks o.a who (decide (o.kind = 2))).1, s.pairs, s.sessions⟩, (lkTake s.locks o.a who (decide (o.kind = 2))).2.1)
  else if o.kind = 3 then (⟨s.index, (lkFree s.locks o.a who).1, s.pairs, s.sessions⟩, (lkFree s.locks o.a who).2.1)
  else if o.kind = 4 then (s, ⟨0, (lWho s.locks o.a).1, []⟩)
  else if o.kind = 6 then (s, (prGet s.pairs o.a).1)
  else if (lWho s.locks o.a).1 ≠ who ∨ (lWho s.locks o.a).2.1 ≠ o.n then (s, ⟨10, (lWho s.locks o.a).1, []⟩)
  else (⟨s.index, s.locks, (prSet s.pairs o.a o.b).1, s.sessions⟩, (prSet s.pairs o.a o.b).2.1)
def hasClient (ses : List SessionD) (c : Int) : Bool := ses.any fun y => y.client == c
def maGone1 (ses : List SessionD) (lk : List LockD) (x : SessionD) : List LockD := if hasClient ses x.client = true then lk else (lkGone lk x.client).1
def maGone (lk : List LockD) (ses was : List SessionD) : List LockD := was.foldl (maGone1 ses) lk
def maFresh (s : StateD) : StateD := ⟨s.index, maGone s.locks (freshL s.sessions s.index).1 s.sessions, s.pairs, (freshL s.sessions s.index).1⟩
def maJoin (s : StateD) (c : Int) : StateD × ReplyD := (⟨s.index, s.locks, s.pairs, (join s.sessions s.index c).1⟩, (join s.sessions s.index c).2.1)
def maLeave (s : StateD) (c : Int) : StateD × ReplyD := (⟨s.index, maGone s.locks (leave s.sessions s.index c).1 s.sessions, s.pairs, (leave s.sessions s.index c).1⟩, (leave s.sessions s.index c).2.1)
def maKeep (t : StateD × ReplyD) (index c q : Int) : StateD × ReplyD := (⟨t.1.index, t.1.locks, t.1.pairs, (keep t.1.sessions index c q t.2).1⟩, t.2)
def maCall (s : StateD) (c : CommandD) : StateD × ReplyD :=
  if (ready s.sessions s.index c.client c.session c.seq c.acked).2.2.1 = true then
    maKeep (maDo ⟨s.index, s.locks, s.pairs, (ready s.sessions s.index c.client c.session c.seq c.acked).1⟩ c.client c.op) (s.index + 1) c.client c.seq
  else (⟨s.index, s.locks, s.pairs, (ready s.sessions s.index c.client c.session c.seq c.acked).1⟩, (ready s.sessions s.index c.client c.session c.seq c.acked).2.1)
def maCmd (s : StateD) (c : CommandD) : StateD × ReplyD := if c.kind = 1 then maJoin s c.client else if c.kind = 3 then maLeave s c.client else maCall s c
def maBump (t : StateD × ReplyD) : StateD × ReplyD × Int := (⟨t.1.index + 1, t.1.locks, t.1.pairs, t.1.sessions⟩, t.2, 0)
def maApply (s : StateD) (entry : Bytes) : StateD × ReplyD × Int :=
  if maCheck s ≠ 0 then (noState, noReply, maCheck s)
  else if s.index = 1073741824 then (noState, noReply, 2)
  else if (cmdDecode entry).2 ≠ 0 then (noState, noReply, (cmdDecode entry).2)
  else maBump (maCmd (maFresh s) (cmdDecode entry).1)
theorem decode_ok {s : Bytes} (h : (cmdDecode s).2 = 0) : CmdOk (cmdDecode s).1 := by
  have key : ∀ c t, (cmdLast c t).2 = 0 → CmdOk (cmdLast c t).1 := fun c t h => by
    rw [cmdLast] at h ⊢
    split at h; · cases h
    split at h; · rename_i h1; exact absurd h h1
    rename_i h1 h2
    rw [if_neg h1, if_neg h2]
    exact cmdCheck_ok.1 (by simpa using h2)
  rw [cmdDecode] at h ⊢
  split at h; · cases h
  split at h; · cases h
  rename_i h1 h2
  rw [if_neg h1, if_neg h2]
  split at h
  · rename_i h3
    rw [if_pos h3]
    split at h; · rename_i h4; exact absurd h h4
    rename_i h4
    rw [if_neg h4]
    exact key _ _ h
  · rename_i h3
    rw [if_neg h3]
    exact key _ _ h
theorem hasClient_iff {ses : List SessionD} {c : Int} : hasClient ses c = true ↔ ∃ x ∈ ses, x.client = c := by
  simp [hasClient]
def Held (lk : List LockD) (ses : List SessionD) : Prop := ∀ k ∈ lk, ∀ c, c ≠ 0 → inLock k c → hasClient ses c = true
theorem maGone_more (ses : List SessionD) : ∀ (was : List SessionD) (lk : List LockD), LkOk lk → (∀ x ∈ was, 1 ≤ x.client ∧ x.client ≤ 9) →
    LkOk (maGone lk ses was) ∧ Newer lk (maGone lk ses was) ∧ ∀ k ∈ maGone lk ses was, ∀ c, c ≠ 0 → inLock k c → (∃ k0 ∈ lk, inLock k0 c) ∧ (hasClient was c = true → hasClient ses c = true)
  | [], lk, h, _ => ⟨h, Newer.refl _, fun k hk c _ hin => ⟨⟨k, hk, hin⟩, fun h => by simp [hasClient] at h⟩⟩
  | x :: was, lk, h, hw => by
    have hx := hw x (by simp)
    obtain ⟨h1, h2, h3⟩ : LkOk (maGone1 ses lk x) ∧ Newer lk (maGone1 ses lk x) ∧ ∀ k ∈ maGone1 ses lk x, ∀ c, c ≠ 0 → inLock k c → (∃ k0 ∈ lk, inLock k0 c) ∧ (x.client = c → hasClient ses c = true) := by
      unfold maGone1
      split
      · rename_i hc
        exact ⟨h, Newer.refl _, fun k hk c _ hin => ⟨⟨k, hk, hin⟩, fun e => by rw [← e]; exact hc⟩⟩
      · obtain ⟨g1, g2⟩ := gone_more (who := x.client) h hx
        refine ⟨(gone_ok h hx).1, g1, fun k hk c hc hin => ?_⟩
        obtain ⟨g3, g4⟩ := g2 k hk c hc hin
        exact ⟨g4, fun e => absurd e.symm g3⟩
    obtain ⟨k1, k2, k3⟩ := maGone_more ses was (maGone1 ses lk x) h1 (fun y hy => hw y (by simp [hy]))
    refine ⟨k1, h2.trans k2, fun k hk c hc hin => ?_⟩
    obtain ⟨⟨k0, hk0, hin0⟩, g2⟩ := k3 k hk c hc hin
    obtain ⟨g3, g4⟩ := h3 k0 hk0 c hc hin0
    refine ⟨g3, fun hh => ?_⟩
    obtain ⟨y, hy, hyc⟩ := hasClient_iff.1 hh
    rcases List.mem_cons.1 hy with rfl | hy
    · exact g4 hyc
    · exact g2 (hasClient_iff.2 ⟨y, hy, hyc⟩)
theorem SessOk.clients {l : List SessionD} {index : Int} (h : SessOk l index) : ∀ x ∈ l, 1 ≤ x.client ∧ x.client ≤ 9 := fun x hx => by
  have := h.bad x hx; unfold sessBad at this; omega
theorem gone_held {lk : List LockD} {ses was : List SessionD} (h : LkOk lk) (hw : ∀ x ∈ was, 1 ≤ x.client ∧ x.client ≤ 9) (hh : Held lk was) : Held (maGone lk ses was) ses := fun k hk c hc hin => by
  obtain ⟨⟨k0, hk0, h0⟩, h1⟩ := (maGone_more ses was lk h hw).2.2 k hk c hc hin
  exact h1 (hh k0 hk0 c hc h0)
theorem Held.mono {lk : List LockD} {a b : List SessionD} (h : Held lk a) (hab : ∀ c, hasClient a c = true → hasClient b c = true) : Held lk b := fun k hk c hc hin => hab c (h k hk c hc hin)
theorem hasClient_map {a b : List SessionD} (h : b.map (·.client) = a.map (·.client)) (c : Int) : hasClient b c = hasClient a c := by
  have e : ∀ l : List SessionD, hasClient l c = (l.map (·.client)).any (· == c) := fun l => by simp [hasClient, List.any_map, Function.comp_def]
  rw [e, e, h]
structure StepTo (s : StateD) (ct : Int → Prop) (s' : StateD) : Prop where
  sess : SessOk s'.sessions (s.index + 1)
  index : s'.index = s.index
  lock : LkOk s'.locks
  pair : PrOk s'.pairs
  newer : Newer s.locks s'.locks
  held : Held s.locks s.sessions → Held s'.locks s'.sessions
theorem fresh_step {s : StateD} (h : StOk s) : StOk (maFresh s) ∧ Newer s.locks (maFresh s).locks ∧ (Held s.locks s.sessions → Held (maFresh s).locks (maFresh s).sessions) := by
  obtain ⟨h1, h2, _⟩ := maGone_more (freshL s.sessions s.index).1 s.sessions s.locks h.lock h.sess.clients
  exact ⟨⟨fresh_ok h.sess, h1, h.pair⟩, h2, fun hh => gone_held h.lock h.sess.clients hh⟩
theorem join_clients {l : List SessionD} {index c : Int} (h : SessOk l index) (hi : index < 1073741824) (hc : 1 ≤ c ∧ c ≤ 9) (x : Int) (hx : hasClient l x = true) : hasClient (join l index c).1 x = true := by
  rw [join, if_neg (by simp [sessCheck_ok.2 h]), if_neg (by omega)]
  split
  · rename_i ht
    have hlt := sThere_lt ht
    rw [getD_at hlt]
    exact (hasClient_map (clients_set (x := { l[sFind l c] with last := index + 1 }) hlt rfl) x).trans hx
  · split
    · exact hx
    · obtain ⟨y, hy, hyx⟩ := hasClient_iff.1 hx
      exact hasClient_iff.2 ⟨y, mem_insert.2 (.inr hy), hyx⟩
theorem join_step {s : StateD} {c : Int} (h : StOk s) (hi : s.index < 1073741824) (hc : 1 ≤ c ∧ c ≤ 9) : StepTo s (fun _ => True) (maJoin s c).1 ∧ ReplyOk (maJoin s c).2 := by
  obtain ⟨h1, h2, h3⟩ := join_ok h.sess hi hc
  exact ⟨⟨h1, rfl, h.lock, h.pair, Newer.refl _, fun hh => hh.mono (join_clients h.sess hi hc)⟩, h3⟩
theorem leave_step {s : StateD} {c : Int} (h : StOk s) (hi : s.index < 1073741824) : StepTo s (fun _ => True) (maLeave s c).1 ∧ ReplyOk (maLeave s c).2 := by
  obtain ⟨h1, h2, h3⟩ := leave_ok (c := c) h.sess hi
  obtain ⟨g1, g2, _⟩ := maGone_more (leave s.sessions s.index c).1 s.sessions s.locks h.lock h.sess.clients
  exact ⟨⟨h1, rfl, g1, h.pair, g2, fun hh => gone_held h.lock h.sess.clients hh⟩, h3⟩
theorem prGet_ok {l : List PairD} (h : PrOk l) (name : List UInt8) : ReplyOk (prGet l name).1 := by
  rw [get_eq h]
  split
  · exact ⟨by simp⟩
  · rename_i ht
    have ht' : pThere l name = true := by simpa using ht
    have hlt := pThere_lt ht'
    rw [getD_at hlt]
    have ho := h.one _ (List.getElem_mem hlt)
    have hv := ho.vers; have hz := ho.size
    exact ⟨by simp only; omega⟩
theorem prSet_reply {l : List PairD} (h : PrOk l) {name value : List UInt8} (hn : lkName name = true) (hv : value.length ≤ 12) : ReplyOk (prSet l name value).2.1 := by
  rw [set_eq h hn hv]
  split
  · split <;> exact ⟨by simp⟩
  · rename_i ht
    have ht' : pThere l name = true := by simpa using ht
    have hlt := pThere_lt ht'
    rw [getD_at hlt]
    have hvv := (h.one _ (List.getElem_mem hlt)).vers
    split
    · exact ⟨by simp⟩
    · exact ⟨by simp; omega⟩
theorem do_step {s : StateD} {who : Int} {o : OpD} (hl : LkOk s.locks) (hp : PrOk s.pairs) (ho : OpOk o) (hw : 1 ≤ who ∧ who ≤ 9) :
    LkOk (maDo s who o).1.locks ∧ PrOk (maDo s who o).1.pairs ∧ (maDo s who o).1.index = s.index ∧ (maDo s who o).1.sessions = s.sessions ∧ Newer s.locks (maDo s who o).1.locks ∧
      (hasClient s.sessions who = true → Held s.locks s.sessions → Held (maDo s who o).1.locks s.sessions) ∧ ReplyOk (maDo s who o).2 ∧
      ((maDo s who o).1.pairs = s.pairs ∨ (o.kind = 5 ∧ lWho (maDo s who o).1.locks o.a = (who, o.n, 0))) := by
  have hwi := who_in hl o.a
  rw [maDo]
  split
  · obtain ⟨h1, h2, h3⟩ := take_more (wt := decide (o.kind = 2)) hl ho.name hw
    refine ⟨(take_ok hl ho.name hw).1, hp, rfl, rfl, h1, fun hc hh k hk c hc0 hin => ?_, h3, .inl rfl⟩
    rcases h2 k hk c hc0 hin with rfl | ⟨k0, hk0, h0⟩
    · exact hc
    · exact hh k0 hk0 c hc0 h0
  · split
    · obtain ⟨h1, h2, h3⟩ := free_more hl ho.name hw
      refine ⟨(free_ok hl ho.name hw).1, hp, rfl, rfl, h1, fun _ hh k hk c hc0 hin => ?_, h3, .inl rfl⟩
      obtain ⟨k0, hk0, h0⟩ := h2 k hk c hc0 hin
      exact hh k0 hk0 c hc0 h0
    · split
      · exact ⟨hl, hp, rfl, rfl, Newer.refl _, fun _ hh => hh, ⟨by simp; omega⟩, .inl rfl⟩
      · split
        · exact ⟨hl, hp, rfl, rfl, Newer.refl _, fun _ hh => hh, prGet_ok hp _, .inl rfl⟩
        · split
          · exact ⟨hl, hp, rfl, rfl, Newer.refl _, fun _ hh => hh, ⟨by simp; omega⟩, .inl rfl⟩
          · rename_i a b c d e
            have hk := ho.kind
            refine ⟨hl, (set_ok hp ho.name ho.size).1, rfl, rfl, Newer.refl _, fun _ hh => hh, prSet_reply hp ho.name ho.size, .inr ⟨by omega, ?_⟩⟩
            have h3 := who_code hl o.a
            have e1 : (lWho s.locks o.a).1 = who := by omega
            have e2 : (lWho s.locks o.a).2.1 = o.n := by omega
            rw [← e1, ← e2, ← h3]
theorem call_step {s : StateD} {c : CommandD} (h : StOk s) (hi : s.index < 1073741824) (hk : c.kind = 2) (hc : CmdOk c) :
    StepTo s (fun _ => True) (maCall s c).1 ∧ ReplyOk (maCall s c).2 ∧ ((maCall s c).1.pairs = s.pairs ∨ (c.op.kind = 5 ∧ lWho (maCall s c).1.locks c.op.a = (c.client, c.op.n, 0))) := by
  rcases hc with ⟨hk', _⟩ | ⟨_, hcl, hse, hsq, hak, hop⟩
  · omega
  obtain ⟨r1, r2, r3, r4⟩ := ready_ok (c := c.client) (ses := c.session) (seq := c.seq) (acked := c.acked) h.sess hi (by omega)
  have rc := ready_clients r2
  rw [maCall]
  split
  · rename_i htd
    obtain ⟨x, hx, hxc, _, _, hx1, hx2, hx3⟩ := r4 htd
    obtain ⟨d1, d2, d3, d4, d5, d6, d7, d8⟩ := do_step (s := ⟨s.index, s.locks, s.pairs, (ready s.sessions s.index c.client c.session c.seq c.acked).1⟩) (who := c.client) h.lock h.pair hop hcl
    generalize hdo : maDo ⟨s.index, s.locks, s.pairs, (ready s.sessions s.index c.client c.session c.seq c.acked).1⟩ c.client c.op = t at *
    obtain ⟨k1, k2⟩ := keep_ok (q := c.seq) (r := t.2) r1 hx hxc hx1 hx2 hx3 d7
    have kc := keep_clients k2
    simp only at d4 d3
    simp only [maKeep, d4]
    refine ⟨⟨k1, d3, d1, d2, d5, fun hh => ?_⟩, d7, d8⟩
    refine Held.mono (d6 (hasClient_iff.2 ⟨x, hx, hxc⟩) (hh.mono fun c hc => by rw [hasClient_map rc]; exact hc)) fun c hc => ?_
    rw [hasClient_map kc]; exact hc
  · exact ⟨⟨r1, rfl, h.lock, h.pair, Newer.refl _, fun hh => hh.mono fun c hc => by rw [hasClient_map rc]; exact hc⟩, r3, .inl rfl⟩
structure ApplyTo (s : StateD) (c : CommandD) (s' : StateD) : Prop where
  ok : StOk s'
  index : s'.index = s.index + 1
  newer : Newer s.locks s'.locks
  held : Held s.locks s.sessions → Held s'.locks s'.sessions
  pairs : s'.pairs = s.pairs ∨ (c.kind = 2 ∧ c.op.kind = 5 ∧ lWho s'.locks c.op.a = (c.client, c.op.n, 0))
theorem apply_eq {s : StateD} {x : Bytes} (h : StOk s) (hi : s.index < 1073741824) (hx : decErr x = 0) : maApply s x = maBump (maCmd (maFresh s) (cmdDecode x).1) := by
  have hx' : (cmdDecode x).2 = 0 := hx
  rw [maApply, if_neg (by simp [maCheck_ok.2 h]), if_neg (by omega), if_neg (by simp [hx'])]
theorem apply_ok {s : StateD} {x : Bytes} (h : StOk s) (hi : s.index < 1073741824) (hx : decErr x = 0) :
    (maApply s x).2.2 = 0 ∧ ApplyTo s (cmdDecode x).1 (maApply s x).1 ∧ ReplyOk (maApply s x).2.1 := by
  rw [apply_eq h hi hx]
  have hc := decode_ok hx
  generalize (cmdDecode x).1 = c at hc ⊢
  obtain ⟨f1, f2, f3⟩ := fresh_step h
  have fi : (maFresh s).index = s.index := rfl
  have fp : (maFresh s).pairs = s.pairs := rfl
  generalize maFresh s = t at *
  have hti : t.index < 1073741824 := by omega
  have hb := hc.bounds
  have key : ∀ r : StateD × ReplyD, StepTo t (fun _ => True) r.1 → ReplyOk r.2 → (r.1.pairs = t.pairs ∨ (c.kind = 2 ∧ c.op.kind = 5 ∧ lWho r.1.locks c.op.a = (c.client, c.op.n, 0))) →
      (maBump r).2.2 = 0 ∧ ApplyTo s c (maBump r).1 ∧ ReplyOk (maBump r).2.1 := fun r h1 h2 h3 => by
    refine ⟨rfl, ⟨⟨?_, h1.lock, h1.pair⟩, ?_, f2.trans h1.newer, fun hh => h1.held (f3 hh), ?_⟩, h2⟩
    · show SessOk r.1.sessions (r.1.index + 1)
      rw [h1.index]; exact h1.sess
    · show r.1.index + 1 = _
      rw [h1.index, fi]
    · rw [← fp]; exact h3
  rw [maCmd]
  split
  · obtain ⟨h1, h2⟩ := join_step f1 hti hb.2
    exact key _ h1 h2 (.inl rfl)
  · split
    · obtain ⟨h1, h2⟩ := leave_step (c := c.client) f1 hti
      exact key _ h1 h2 (.inl rfl)
    · have hk : c.kind = 2 := by omega
      obtain ⟨h1, h2, h3⟩ := call_step f1 hti hk hc
      refine key _ h1 h2 ?_
      rcases h3 with h3 | h3
      · exact .inl h3
      · exact .inr ⟨hk, h3⟩
def appliedGo : List Bytes → StateD → StateD × Bool
  | [], s => (s, true)
  | x :: r, s => if (maApply s x).2.2 ≠ 0 then (noState, false) else appliedGo r (maApply s x).1
def applied (l : List Bytes) : StateD × Bool := appliedGo l noState
theorem noState_ok : StOk noState := by
  refine ⟨SessOk.of (by simp [noState]) (by simp [noState]) (by simp [noState]) (by simp [noState]) (by simp [noState, rising]), lk_nil, ⟨by simp [noState], by simp [noState], by simp [noState, lsorted]⟩⟩
theorem appliedGo_ok : ∀ (l : List Bytes) (s : StateD), StOk s → (∀ x ∈ l, decErr x = 0) → s.index + l.length ≤ 1073741824 → Held s.locks s.sessions →
    ∃ t, appliedGo l s = (t, true) ∧ StOk t ∧ t.index = s.index + l.length ∧ Held t.locks t.sessions
  | [], s, h, _, _, hh => ⟨s, rfl, h, by simp, hh⟩
  | x :: r, s, h, hx, hi, hh => by
    rw [List.length_cons] at hi
    obtain ⟨h1, h2, _⟩ := apply_ok h (by omega) (hx x (by simp))
    obtain ⟨t, t1, t2, t3, t4⟩ := appliedGo_ok r (maApply s x).1 h2.ok (fun y hy => hx y (by simp [hy])) (by have := h2.index; omega) (h2.held hh)
    refine ⟨t, ?_, t2, ?_, t4⟩
    · rw [appliedGo, if_neg (by simp [h1])]; exact t1
    · rw [t3, h2.index, List.length_cons]; omega
theorem applied_ok {l : List Bytes} (h : ∀ x ∈ l, decErr x = 0) (hl : l.length ≤ 1000000) : ∃ t, applied l = (t, true) ∧ StOk t ∧ t.index = l.length ∧ Held t.locks t.sessions := by
  obtain ⟨t, h1, h2, h3, h4⟩ := appliedGo_ok l noState noState_ok h (by simp [noState]; omega) (fun k hk => by simp [noState] at hk)
  exact ⟨t, h1, h2, by simpa [noState] using h3, h4⟩
theorem appliedGo_append : ∀ (a b : List Bytes) (s t : StateD), appliedGo a s = (t, true) → appliedGo (a ++ b) s = appliedGo b t
  | [], b, s, t, h => by simp only [appliedGo, Prod.mk.injEq, and_true] at h; subst h; rfl
  | x :: a, b, s, t, h => by
    rw [appliedGo] at h
    split at h; · cases h
    rename_i h1
    rw [List.cons_append, appliedGo, if_neg h1]
    exact appliedGo_append a b _ t h
end Go.Tk
