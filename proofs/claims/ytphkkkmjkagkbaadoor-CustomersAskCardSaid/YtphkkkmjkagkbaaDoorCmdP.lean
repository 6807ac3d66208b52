/- Commands as plain data, and as bytes. No program in sight. -/
import Derived.Test.YtphkkkmjkagkbaaDoorNumP
import Derived.Test.YtphkkkmjkagkbaaDoorLockP
import Derived.Test.YtphkkkmjkagkbaaDoorSessQ
namespace Go.Tk
open Go Go.RowKit

def noCommand : CommandD := ⟨0, 0, 0, 0, 0, noOp⟩
def rOp : Rel OpD := fun _ cs x _ => cs = [.int .i64 x.kind, .string ⟨x.a.toArray⟩, .string ⟨x.b.toArray⟩, .int .i64 x.n]
def rCommand : Rel CommandD := fun _ cs x _ => cs = [.int .i64 x.kind, .int .i64 x.client, .int .i64 x.session, .int .i64 x.seq, .int .i64 x.acked, .int .i64 x.op.kind, .string ⟨x.op.a.toArray⟩, .string ⟨x.op.b.toArray⟩, .int .i64 x.op.n]
theorem rOp_ok : RelOk rOp 4 := ⟨by rintro w cs x S rfl; rfl, by rintro w cs x S rfl u hu; simp at hu; rcases hu with rfl | rfl | rfl | rfl <;> rfl, fun h _ => h⟩
theorem rCommand_ok : RelOk rCommand 9 := ⟨by rintro w cs x S rfl; rfl, by rintro w cs x S rfl u hu; simp at hu; rcases hu with rfl | rfl | rfl | rfl | rfl | rfl | rfl | rfl | rfl <;> rfl, fun h _ => h⟩
def valOp (o : OpD) : Value := .agg #[.int .i64 o.kind, .string ⟨o.a.toArray⟩, .string ⟨o.b.toArray⟩, .int .i64 o.n]
def valCommand (c : CommandD) : Value := .agg #[.int .i64 c.kind, .int .i64 c.client, .int .i64 c.session, .int .i64 c.seq, .int .i64 c.acked, .int .i64 c.op.kind, .string ⟨c.op.a.toArray⟩, .string ⟨c.op.b.toArray⟩, .int .i64 c.op.n]

/-- May an operation be? -/
def opCheck (o : OpD) : Int :=
  if o.kind < 1 ∨ 6 < o.kind then 3
  else if lkName o.a = false ∨ (o.kind ≠ 5 ∧ o.b ≠ []) then 4
  else if 12 < o.b.length then 1
  else if (o.kind = 5 ∧ (o.n < 1 ∨ 1073741824 < o.n)) ∨ (o.kind ≠ 5 ∧ o.n ≠ 0) then 2
  else 0
/-- May a command be? -/
def cmdCheck (c : CommandD) : Int :=
  if c.kind < 1 ∨ 3 < c.kind then 3
  else if c.client < 1 ∨ 9 < c.client then 2
  else if c.kind ≠ 2 then
    if c.session ≠ 0 ∨ c.seq ≠ 0 ∨ c.acked ≠ 0 ∨ c.op.kind ≠ 0 ∨ c.op.a ≠ [] ∨ c.op.b ≠ [] ∨ c.op.n ≠ 0 then 4 else 0
  else if c.session < 1 ∨ 1073741824 < c.session ∨ c.seq < 1 ∨ 1048576 < c.seq ∨ c.acked < 0 ∨ c.seq ≤ c.acked then 2
  else opCheck c.op
def callBytes (c : CommandD) : List UInt8 :=
  (number c.session).1 ++ ((number c.seq).1 ++ ((number c.acked).1 ++ ((number c.op.kind).1 ++ ((number c.op.n).1 ++ ((text c.op.a).1 ++ (text c.op.b).1)))))
def cmdEncode (c : CommandD) : List UInt8 × Int :=
  if cmdCheck c ≠ 0 then ([], cmdCheck c)
  else ([c.kind.toNat.toUInt8, c.client.toNat.toUInt8] ++ (if c.kind = 2 then callBytes c else []), 0)
/-- A reader of a number, and what comes behind it. -/
def thenNum {α : Type} (s : List UInt8) (fail : Int → α) (k : Int → List UInt8 → α) : α := if (readNumber s).2.2 ≠ 0 then fail (readNumber s).2.2 else k (readNumber s).1 (readNumber s).2.1
def thenText {α : Type} (s : List UInt8) (fail : Int → α) (k : List UInt8 → List UInt8 → α) : α := if (readText s).2.2 ≠ 0 then fail (readText s).2.2 else k (readText s).1 (readText s).2.1
/-- What the bytes of a call say: the command, what is left, what is wrong. -/
def cmdBody (c : CommandD) (s : List UInt8) : CommandD × List UInt8 × Int :=
  thenNum s (fun e => (noCommand, [], e)) fun x1 s => thenNum s (fun e => (noCommand, [], e)) fun x2 s => thenNum s (fun e => (noCommand, [], e)) fun x3 s =>
  thenNum s (fun e => (noCommand, [], e)) fun x4 s => thenNum s (fun e => (noCommand, [], e)) fun x5 s =>
  thenText s (fun e => (noCommand, [], e)) fun y1 s => thenText s (fun e => (noCommand, [], e)) fun y2 s =>
  (⟨c.kind, c.client, x1, x2, x3, ⟨x4, y1, y2, x5⟩⟩, s, 0)
def cmdLast (c : CommandD) (s : List UInt8) : CommandD × Int := if s ≠ [] then (noCommand, 4) else if cmdCheck c ≠ 0 then (noCommand, cmdCheck c) else (c, 0)
def cmdDecode (s : List UInt8) : CommandD × Int :=
  if 5000 < s.length then (noCommand, 1)
  else if s.length < 2 then (noCommand, 5)
  else if s.getD 0 0 = 2 then
    if (cmdBody ⟨(s.getD 0 0).toNat, (s.getD 1 0).toNat, 0, 0, 0, noOp⟩ (s.drop 2)).2.2 ≠ 0 then (noCommand, (cmdBody ⟨(s.getD 0 0).toNat, (s.getD 1 0).toNat, 0, 0, 0, noOp⟩ (s.drop 2)).2.2)
    else cmdLast (cmdBody ⟨(s.getD 0 0).toNat, (s.getD 1 0).toNat, 0, 0, 0, noOp⟩ (s.drop 2)).1 (cmdBody ⟨(s.getD 0 0).toNat, (s.getD 1 0).toNat, 0, 0, 0, noOp⟩ (s.drop 2)).2.1
  else cmdLast ⟨(s.getD 0 0).toNat, (s.getD 1 0).toNat, 0, 0, 0, noOp⟩ (s.drop 2)

/-! What is cut short is too short. -/
theorem rdGo_cut : ∀ (f k m q j : Nat) (pre : List UInt8), pre.length = k → q < 128 ^ (f + 1) → j < (digs f q).length → rdGo (pre ++ (digs f q).take j) (f + 1) k m = (0, [], 5)
  | f, k, m, q, j, pre, hp, hq, hj => by
    subst hp
    by_cases h : q < 128
    · rw [digs_small f q h] at hj ⊢
      have : j = 0 := by simpa using hj
      subst this
      rw [rdGo, if_neg (by simp)]
    · rcases f with _ | f
      · simp at hq; omega
      · rw [digs_big f q (by omega)] at hj ⊢
        rcases j with _ | j
        · rw [rdGo, if_neg (by simp)]
        · rw [List.take_succ_cons, rdGo]
          have hg : ((pre ++ (q % 128 + 128).toUInt8 :: (digs f (q / 128)).take j).getD pre.length 0).toNat = q % 128 + 128 := by simp [List.getD]; omega
          rw [if_pos (by simp), hg, if_pos (by omega)]
          have e := rdGo_cut f (pre.length + 1) (m + (q % 128 + 128) % 128 * 128 ^ pre.length) (q / 128) j (pre ++ [(q % 128 + 128).toUInt8]) (by simp) (by rw [Nat.pow_succ] at hq; omega) (by simpa using hj)
          simpa using e
theorem readNumber_cut (q : Nat) (hq : q ≤ 1099511627776) (j : Nat) (hj : j < (digs 6 q).length) : readNumber ((digs 6 q).take j) = (0, [], 5) := by
  have h := rdGo_cut 5 0 0 q j [] rfl (by omega) (by rwa [digs_fuel 5 q (by omega)] at hj)
  rw [digs_fuel 5 q (by omega)]
  simpa [readNumber] using h
theorem number_cut (n : Int) (h0 : 0 ≤ n) (hn : n ≤ 1099511627776) (j : Nat) (hj : j < (number n).1.length) : readNumber ((number n).1.take j) = (0, [], 5) := by
  have e : (number n).1 = digs 6 n.toNat := by rw [number, if_neg (by omega)]
  rw [e] at hj ⊢
  exact readNumber_cut _ (by omega) _ hj
theorem number_back (n : Int) (h0 : 0 ≤ n) (hn : n ≤ 1099511627776) (t : List UInt8) : readNumber ((number n).1 ++ t) = (n, t, 0) := by
  have e : (number n).1 = digs 6 n.toNat := by rw [number, if_neg (by omega)]
  rw [e, readNumber_back _ (by omega)]
  rw [Int.toNat_of_nonneg h0]
theorem text_cut (s : List UInt8) (h : s.length ≤ 5000) (j : Nat) (hj : j < (text s).1.length) : (readText ((text s).1.take j)).2.2 = 5 := by
  have e : (text s).1 = (number s.length).1 ++ s := by rw [text, if_neg (by omega)]
  rw [e] at hj ⊢
  rw [List.take_append]
  by_cases hj2 : j < (number s.length).1.length
  · rw [show j - (number s.length).1.length = 0 by omega, List.take_zero, List.append_nil, readText, number_cut _ (by omega) (by omega) _ hj2]
    simp
  · rw [List.take_of_length_le (by omega), readText, number_back _ (by omega) (by omega)]
    rw [List.length_append] at hj
    simp
    rw [if_neg (by omega), if_pos (by omega)]
theorem thenNum_back {α : Type} (n : Int) (h0 : 0 ≤ n) (hn : n ≤ 1099511627776) (t : List UInt8) (fail : Int → α) (k : Int → List UInt8 → α) : thenNum ((number n).1 ++ t) fail k = k n t := by
  rw [thenNum, number_back n h0 hn]; simp
theorem thenText_back {α : Type} (s t : List UInt8) (h : s.length ≤ 5000) (fail : Int → α) (k : List UInt8 → List UInt8 → α) : thenText ((text s).1 ++ t) fail k = k s t := by
  rw [thenText, readText_back s t h]; simp
/-- Cut within the number, or behind it. -/
theorem thenNum_cut {α : Type} (n : Int) (h0 : 0 ≤ n) (hn : n ≤ 1099511627776) (t : List UInt8) (j : Nat) (fail : Int → α) (k : Int → List UInt8 → α) (Q : α → Prop)
    (h5 : Q (fail 5)) (hk : ∀ i, j = (number n).1.length + i → Q (k n (t.take i))) : Q (thenNum (((number n).1 ++ t).take j) fail k) := by
  rw [List.take_append]
  by_cases hj : j < (number n).1.length
  · rw [show j - (number n).1.length = 0 by omega, List.take_zero, List.append_nil, thenNum, number_cut n h0 hn _ hj]
    simpa using h5
  · rw [List.take_of_length_le (by omega), thenNum_back n h0 hn]
    exact hk _ (by omega)
theorem thenText_cut {α : Type} (s t : List UInt8) (h : s.length ≤ 5000) (j : Nat) (fail : Int → α) (k : List UInt8 → List UInt8 → α) (Q : α → Prop)
    (h5 : Q (fail 5)) (hk : ∀ i, j = (text s).1.length + i → Q (k s (t.take i))) : Q (thenText (((text s).1 ++ t).take j) fail k) := by
  rw [List.take_append]
  by_cases hj : j < (text s).1.length
  · rw [show j - (text s).1.length = 0 by omega, List.take_zero, List.append_nil, thenText, text_cut s h _ hj]
    simpa using h5
  · rw [List.take_of_length_le (by omega), thenText_back s _ h]
    exact hk _ (by omega)

/-! Commands that may be. -/
structure OpOk (o : OpD) : Prop where
  kind : 1 ≤ o.kind ∧ o.kind ≤ 6
  name : lkName o.a = true
  noB : o.kind ≠ 5 → o.b = []
  size : o.b.length ≤ 12
  n : (o.kind = 5 → 1 ≤ o.n ∧ o.n ≤ 1073741824) ∧ (o.kind ≠ 5 → o.n = 0)
theorem opCheck_ok {o : OpD} : opCheck o = 0 ↔ OpOk o := by
  constructor
  · intro h
    rw [opCheck] at h
    split at h; · cases h
    split at h; · cases h
    split at h; · cases h
    split at h; · cases h
    rename_i h1 h2 h3 h4
    have h2' := not_or.1 h2
    refine ⟨by omega, by simpa using h2'.1, fun hk => ?_, by omega, by omega, by omega⟩
    have := not_and.1 h2'.2 hk
    exact Classical.not_not.1 this
  · rintro ⟨h1, h2, h3, h4, h5, h6⟩
    rw [opCheck, if_neg (by omega), if_neg, if_neg (by omega), if_neg (by omega)]
    rintro (h | ⟨h, h'⟩)
    · rw [h2] at h; cases h
    · exact h' (h3 h)
inductive CmdOk (c : CommandD) : Prop where
  | plain (hk : c.kind = 1 ∨ c.kind = 3) (hc : 1 ≤ c.client ∧ c.client ≤ 9) (h1 : c.session = 0) (h2 : c.seq = 0) (h3 : c.acked = 0) (h4 : c.op = noOp)
  | call (hk : c.kind = 2) (hc : 1 ≤ c.client ∧ c.client ≤ 9) (h1 : 1 ≤ c.session ∧ c.session ≤ 1073741824) (h2 : 1 ≤ c.seq ∧ c.seq ≤ 1048576) (h3 : 0 ≤ c.acked ∧ c.acked < c.seq) (h4 : OpOk c.op)
theorem cmdCheck_ok {c : CommandD} : cmdCheck c = 0 ↔ CmdOk c := by
  constructor
  · intro h
    rw [cmdCheck] at h
    split at h; · cases h
    split at h; · cases h
    split at h
    · split at h; · cases h
      rename_i h1 h2 h3 h4
      simp only [not_or, Classical.not_not] at h4
      obtain ⟨g1, g2, g3, g4, g5, g6, g7⟩ := h4
      refine .plain (by omega) (by omega) g1 g2 g3 ?_
      rcases hc : c.op with ⟨k, a, b, n⟩
      rw [hc] at g4 g5 g6 g7
      simp only at g4 g5 g6 g7
      subst g4 g5 g6 g7; rfl
    · split at h; · cases h
      exact .call (by omega) (by omega) (by omega) (by omega) (by omega) (opCheck_ok.1 h)
  · rintro (⟨hk, hc, h1, h2, h3, h4⟩ | ⟨hk, hc, h1, h2, h3, h4⟩)
    · rw [cmdCheck, if_neg (by omega), if_neg (by omega), if_pos (by omega), if_neg]
      rw [h1, h2, h3, h4]; simp [noOp]
    · rw [cmdCheck, if_neg (by omega), if_neg (by omega), if_neg (by omega), if_neg (by omega)]
      exact opCheck_ok.2 h4
theorem text_len (s : List UInt8) (h : s.length ≤ 5000) : (text s).1.length ≤ s.length + 7 := by
  rw [text, if_neg (by omega)]
  have := number_len s.length
  simp only [List.length_append]; omega
theorem callBytes_len {c : CommandD} (h : OpOk c.op) : (callBytes c).length ≤ 67 := by
  have h1 := number_len c.session
  have h2 := number_len c.seq
  have h3 := number_len c.acked
  have h4 := number_len c.op.kind
  have h5 := number_len c.op.n
  have h6 := (lkName_len h.name).2
  have h7 := text_len c.op.a (by omega)
  have h8 := h.size
  have h9 := text_len c.op.b (by omega)
  simp only [callBytes, List.length_append]
  omega
theorem OpOk.nn {o : OpD} (h : OpOk o) : 0 ≤ o.n ∧ o.n ≤ 1073741824 := by
  have h1 := h.n.1
  have h2 := h.n.2
  by_cases hk : o.kind = 5
  · have := h1 hk; omega
  · have := h2 hk; omega
theorem body_back {c : CommandD} (h : CmdOk c) (hk : c.kind = 2) (t : List UInt8) : cmdBody ⟨c.kind, c.client, 0, 0, 0, noOp⟩ (callBytes c ++ t) = (c, t, 0) := by
  rcases h with ⟨hk', _⟩ | ⟨_, hc, h1, h2, h3, h4⟩
  · omega
  have h5 := h4.nn
  have h6 := h4.kind
  have h7 := (lkName_len h4.name).2
  have h8 := h4.size
  rw [cmdBody, callBytes]
  simp only [List.append_assoc]
  rw [thenNum_back _ (by omega) (by omega), thenNum_back _ (by omega) (by omega), thenNum_back _ (by omega) (by omega), thenNum_back _ (by omega) (by omega), thenNum_back _ (by omega) (by omega),
    thenText_back _ _ (by omega), thenText_back _ _ (by omega)]
theorem body_cut {c : CommandD} (h : CmdOk c) (hk : c.kind = 2) (j : Nat) (hj : j < (callBytes c).length) (c0 : CommandD) : (cmdBody c0 ((callBytes c).take j)).2.2 = 5 := by
  rcases h with ⟨hk', _⟩ | ⟨_, hc, h1, h2, h3, h4⟩
  · omega
  have h5 := h4.nn
  have h6 := h4.kind
  have h7 := (lkName_len h4.name).2
  have h8 := h4.size
  rw [callBytes] at hj ⊢
  rw [cmdBody]
  refine thenNum_cut (α := CommandD × List UInt8 × Int) _ (by omega) (by omega) _ _ _ _ (fun x : CommandD × List UInt8 × Int => x.2.2 = 5) rfl fun i1 e1 => ?_
  refine thenNum_cut (α := CommandD × List UInt8 × Int) _ (by omega) (by omega) _ _ _ _ (fun x : CommandD × List UInt8 × Int => x.2.2 = 5) rfl fun i2 e2 => ?_
  refine thenNum_cut (α := CommandD × List UInt8 × Int) _ (by omega) (by omega) _ _ _ _ (fun x : CommandD × List UInt8 × Int => x.2.2 = 5) rfl fun i3 e3 => ?_
  refine thenNum_cut (α := CommandD × List UInt8 × Int) _ (by omega) (by omega) _ _ _ _ (fun x : CommandD × List UInt8 × Int => x.2.2 = 5) rfl fun i4 e4 => ?_
  refine thenNum_cut (α := CommandD × List UInt8 × Int) _ (by omega) (by omega) _ _ _ _ (fun x : CommandD × List UInt8 × Int => x.2.2 = 5) rfl fun i5 e5 => ?_
  refine thenText_cut (α := CommandD × List UInt8 × Int) _ _ (by omega) _ _ _ (fun x : CommandD × List UInt8 × Int => x.2.2 = 5) rfl fun i6 e6 => ?_
  simp only [List.length_append] at hj
  rw [thenText, text_cut _ (by omega) _ (by omega)]
  simp
end Go.Tk
