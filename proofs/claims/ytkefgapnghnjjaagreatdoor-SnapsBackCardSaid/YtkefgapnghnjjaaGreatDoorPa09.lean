/- A part of the proof, laid together from: SnapP, Codec. -/
import Derived.Test.YtkefgapnghnjjaaGreatDoorPa08
import Derived.Test.YtkefgapnghnjjaaGreatDoorRows
import Derived.Test.YtkefgapnghnjjaaGreatDoorPa03
import Derived.WalkKit
import Derived.WalkSpells
import Derived.WalkLawsBesides
import Derived.BigQuiet
import Derived.Deep.QuietTactic
import Derived.KernelRfl
set_option linter.unusedSimpArgs false
set_option linter.unusedVariables false
/- Package snap as plain functions: states as bytes. No program in sight. -/
namespace Go.Tk
open Go Go.RowKit

/-! The sum. -/
def sealGo : List UInt8 → Nat → Nat → Nat × Nat
  | [], x, y => (x, y)
  | c :: r, x, y => sealGo r ((x + c.toNat) % 65521) ((y + (x + c.toNat) % 65521) % 65521)
def sealOf (p : Nat × Nat) : Bytes := [(p.2 / 256).toUInt8, p.2.toUInt8, (p.1 / 256).toUInt8, p.1.toUInt8]
def sealB (s : Bytes) : Bytes := sealOf (sealGo s 1 0)
theorem seal_len (s : Bytes) : (sealB s).length = 4 := rfl
theorem sealGo_append : ∀ (a b : Bytes) (x y : Nat), sealGo (a ++ b) x y = sealGo b (sealGo a x y).1 (sealGo a x y).2
  | [], _, _, _ => rfl
  | c :: a, b, x, y => by rw [List.cons_append, sealGo, sealGo]; exact sealGo_append a b _ _
theorem sealGo_lt : ∀ (a : Bytes) (x y : Nat), x < 65521 → y < 65521 → (sealGo a x y).1 < 65521 ∧ (sealGo a x y).2 < 65521
  | [], _, _, hx, hy => ⟨hx, hy⟩
  | c :: a, x, y, _, _ => by rw [sealGo]; exact sealGo_lt a _ _ (Nat.mod_lt _ (by decide)) (Nat.mod_lt _ (by decide))
def sumB : Bytes → Nat
  | [] => 0
  | c :: r => c.toNat + sumB r
theorem sealGo_sum : ∀ (a : Bytes) (x y : Nat), x < 65521 → (sealGo a x y).1 = (x + sumB a) % 65521
  | [], x, y, hx => by rw [sealGo, sumB, Nat.add_zero, Nat.mod_eq_of_lt hx]
  | c :: a, x, y, _ => by
    rw [sealGo, sealGo_sum a _ _ (Nat.mod_lt _ (by decide)), sumB]
    omega
theorem sumB_append : ∀ (a b : Bytes), sumB (a ++ b) = sumB a + sumB b
  | [], b => by rw [List.nil_append, sumB, Nat.zero_add]
  | c :: a, b => by rw [List.cons_append, sumB, sumB, sumB_append a b, Nat.add_assoc]
theorem seal_last (s t : Bytes) (h : sealB s = sealB t) : (sealGo s 1 0).1 = (sealGo t 1 0).1 := by
  have h1 := (sealGo_lt s 1 0 (by decide) (by decide)).1
  have h2 := (sealGo_lt t 1 0 (by decide) (by decide)).1
  generalize hx : (sealGo s 1 0) = p at *
  generalize hy : (sealGo t 1 0) = q at *
  simp only [sealB, sealOf, hx, hy, List.cons.injEq, and_true] at h
  obtain ⟨_, _, h3, h4⟩ := h
  have e3 : (p.1 / 256).toUInt8.toNat = (q.1 / 256).toUInt8.toNat := by rw [h3]
  have e4 : p.1.toUInt8.toNat = q.1.toUInt8.toNat := by rw [h4]
  simp at e3 e4
  omega
theorem sumB_set : ∀ (s : Bytes) (i : Nat) (c : UInt8) (hi : i < s.length), sumB (s.set i c) + s[i].toNat = sumB s + c.toNat
  | d :: s, 0, c, _ => by simp [sumB]; omega
  | d :: s, i + 1, c, hi => by
    have := sumB_set s i c (by simpa using hi)
    simp only [List.set_cons_succ, sumB, List.getElem_cons_succ]
    omega
/-- One byte that is another one: another sum. -/
theorem seal_spoilt (s : Bytes) (i : Nat) (c : UInt8) (hi : i < s.length) (hc : c ≠ s[i]) : sealB (s.set i c) ≠ sealB s := by
  intro h
  have h1 := seal_last _ _ h
  rw [sealGo_sum _ _ _ (by decide), sealGo_sum _ _ _ (by decide)] at h1
  have h2 := sumB_set s i c hi
  have h3 : c.toNat ≠ s[i].toNat := fun e => hc (UInt8.toNat_inj.1 e)
  have h4 := c.toNat_lt
  have h5 := s[i].toNat_lt
  omega

/-! Writing. -/
def numB (n : Int) : Bytes := (number n).1
def textB (s : Bytes) : Bytes := (text s).1
def encLine (l : List Int) : Bytes := l.flatMap numB
def encLock (k : LockD) : Bytes := textB k.name ++ (numB k.holder ++ (numB k.fence ++ (numB k.line.length ++ encLine k.line)))
def encPair (p : PairD) : Bytes := textB p.name ++ (textB p.value ++ numB p.version)
def encKept (k : KeptD) : Bytes := numB k.seq ++ (numB k.reply.code ++ (numB k.reply.n ++ textB k.reply.text))
def encSession (x : SessionD) : Bytes := numB x.client ++ (numB x.id ++ (numB x.acked ++ (numB x.last ++ (numB x.replies.length ++ x.replies.flatMap encKept))))
def encState (s : StateD) : Bytes :=
  numB s.index ++ (numB s.locks.length ++ (s.locks.flatMap encLock ++ (numB s.pairs.length ++ (s.pairs.flatMap encPair ++ (numB s.sessions.length ++ s.sessions.flatMap encSession)))))
def snEncode (s : StateD) : Bytes × Int := if maCheck s ≠ 0 then ([], maCheck s) else (encState s ++ sealB (encState s), 0)

/-! Reading: what is left, and what went wrong. -/
structure Rd where
  s : Bytes
  e : Int
def rdNum (r : Rd) : Int × Rd := if r.e ≠ 0 then (0, r) else ((readNumber r.s).1, ⟨(readNumber r.s).2.1, (readNumber r.s).2.2⟩)
def rdText (r : Rd) : Bytes × Rd := if r.e ≠ 0 then ([], r) else ((readText r.s).1, ⟨(readText r.s).2.1, (readText r.s).2.2⟩)
def rdCount (most : Int) (r : Rd) : Int × Rd :=
  if (rdNum r).2.e = 0 ∧ most < (rdNum r).1 then (0, ⟨(rdNum r).2.s, 1⟩)
  else if (rdNum r).2.e ≠ 0 then (0, (rdNum r).2)
  else rdNum r
/-- So many things, one after the other. -/
def rdMany {α : Type} (f : Rd → α × Rd) : Nat → Rd → List α × Rd
  | 0, r => ([], r)
  | n + 1, r => ((rdMany f n r).1 ++ [(f (rdMany f n r).2).1], (f (rdMany f n r).2).2)
theorem rdMany_succ {α : Type} (f : Rd → α × Rd) (n : Nat) (r : Rd) : rdMany f (n + 1) r = ((rdMany f n r).1 ++ [(f (rdMany f n r).2).1], (f (rdMany f n r).2).2) := rfl
def rdLock0 (r : Rd) : LockD × Rd := (⟨(rdText r).1, (rdNum (rdText r).2).1, (rdNum (rdNum (rdText r).2).2).1, []⟩, (rdNum (rdNum (rdText r).2).2).2)
def rdLine (r : Rd) : List Int × Rd := rdMany rdNum (rdCount 3 r).1.toNat (rdCount 3 r).2
def rdLock (r : Rd) : LockD × Rd := (⟨(rdLock0 r).1.name, (rdLock0 r).1.holder, (rdLock0 r).1.fence, (rdLine (rdLock0 r).2).1⟩, (rdLine (rdLock0 r).2).2)
def rdPair (r : Rd) : PairD × Rd := (⟨(rdText r).1, (rdText (rdText r).2).1, (rdNum (rdText (rdText r).2).2).1⟩, (rdNum (rdText (rdText r).2).2).2)
def rdKept (r : Rd) : KeptD × Rd :=
  (⟨(rdNum r).1, ⟨(rdNum (rdNum r).2).1, (rdNum (rdNum (rdNum r).2).2).1, (rdText (rdNum (rdNum (rdNum r).2).2).2).1⟩⟩, (rdText (rdNum (rdNum (rdNum r).2).2).2).2)
def rdSession0 (r : Rd) : SessionD × Rd :=
  (⟨(rdNum r).1, (rdNum (rdNum r).2).1, (rdNum (rdNum (rdNum r).2).2).1, (rdNum (rdNum (rdNum (rdNum r).2).2).2).1, []⟩, (rdNum (rdNum (rdNum (rdNum r).2).2).2).2)
def rdKepts (r : Rd) : List KeptD × Rd := rdMany rdKept (rdCount 4 r).1.toNat (rdCount 4 r).2
def rdSession (r : Rd) : SessionD × Rd :=
  (⟨(rdSession0 r).1.client, (rdSession0 r).1.id, (rdSession0 r).1.acked, (rdSession0 r).1.last, (rdKepts (rdSession0 r).2).1⟩, (rdKepts (rdSession0 r).2).2)
def rdLocks (r : Rd) : List LockD × Rd := rdMany rdLock (rdCount 5 r).1.toNat (rdCount 5 r).2
def rdPairs (r : Rd) : List PairD × Rd := rdMany rdPair (rdCount 5 r).1.toNat (rdCount 5 r).2
def rdSessions (r : Rd) : List SessionD × Rd := rdMany rdSession (rdCount 4 r).1.toNat (rdCount 4 r).2
def rdState (r : Rd) : StateD × Rd :=
  (⟨(rdNum r).1, (rdLocks (rdNum r).2).1, (rdPairs (rdLocks (rdNum r).2).2).1, (rdSessions (rdPairs (rdLocks (rdNum r).2).2).2).1⟩, (rdSessions (rdPairs (rdLocks (rdNum r).2).2).2).2)
def snLast (p : StateD × Rd) : StateD × Int :=
  if p.2.e ≠ 0 then (noState, p.2.e)
  else if p.2.s ≠ [] then (noState, 4)
  else if maCheck p.1 ≠ 0 then (noState, maCheck p.1)
  else (p.1, 0)
def snDecode (s : Bytes) : StateD × Int :=
  if 5000 < s.length then (noState, 1)
  else if s.length < 4 then (noState, 5)
  else if sealB (s.take (s.length - 4)) ≠ s.drop (s.length - 4) then (noState, 15)
  else snLast (rdState ⟨s.take (s.length - 4), 0⟩)

/-! A state is read as it was written. -/
theorem rdNum_back {n : Int} (h0 : 0 ≤ n) (hn : n ≤ 1099511627776) (t : Bytes) : rdNum ⟨numB n ++ t, 0⟩ = (n, ⟨t, 0⟩) := by
  have := number_back n h0 hn t
  simp [rdNum, numB, this]
theorem rdText_back {s : Bytes} (h : s.length ≤ 5000) (t : Bytes) : rdText ⟨textB s ++ t, 0⟩ = (s, ⟨t, 0⟩) := by
  have := readText_back s t h
  simp [rdText, textB, this]
theorem rdCount_back {n : Nat} {most : Int} (hn : (n : Int) ≤ most) (hm : most ≤ 1099511627776) (t : Bytes) : rdCount most ⟨numB n ++ t, 0⟩ = ((n : Int), (⟨t, 0⟩ : Rd)) := by
  have h := rdNum_back (n := n) (by omega) (by omega) t
  simp only [rdCount, h]
  rw [if_neg (by simp; omega), if_neg (by simp)]
theorem rdMany_back {α : Type} {f : Rd → α × Rd} {enc : α → Bytes} (t : Bytes) : ∀ (l : List α), (∀ x ∈ l, ∀ t, f ⟨enc x ++ t, 0⟩ = (x, ⟨t, 0⟩)) → ∀ t, rdMany f l.length ⟨l.flatMap enc ++ t, 0⟩ = (l, ⟨t, 0⟩) := by
  have key : ∀ (m : List α), (∀ x ∈ m, ∀ t, f ⟨enc x ++ t, 0⟩ = (x, ⟨t, 0⟩)) → ∀ t, rdMany f m.length ⟨m.reverse.flatMap enc ++ t, 0⟩ = (m.reverse, ⟨t, 0⟩) := by
    intro m
    induction m with
    | nil => intro _ t; rfl
    | cons x m ih =>
      intro h t
      have e := ih (fun y hy => h y (by simp [hy])) (enc x ++ t)
      have e2 : (x :: m).reverse.flatMap enc ++ t = m.reverse.flatMap enc ++ (enc x ++ t) := by simp
      rw [List.length_cons, rdMany_succ, e2, e]
      simp only [h x (by simp) t, List.reverse_cons]
  intro l h t
  have := key l.reverse (fun x hx => h x (by simpa using hx)) t
  simpa using this
theorem rdLine_back {l : List Int} (hl : l.length ≤ 3) (h : ∀ x ∈ l, 0 ≤ x ∧ x ≤ 1099511627776) (t : Bytes) : rdLine ⟨numB l.length ++ (encLine l ++ t), 0⟩ = (l, ⟨t, 0⟩) := by
  rw [rdLine, rdCount_back (by omega) (by omega)]
  simp only [Int.toNat_natCast]
  exact rdMany_back (enc := numB) [] l (fun x hx t => rdNum_back (h x hx).1 (h x hx).2 t) t
theorem rdLock_back {k : LockD} (h : LkOne k) (t : Bytes) : rdLock ⟨encLock k ++ t, 0⟩ = (k, ⟨t, 0⟩) := by
  have h1 := (lkName_len h.name).2
  have h2 := h.hold
  have h3 := h.fence
  have e0 : rdLock0 ⟨encLock k ++ t, 0⟩ = (⟨k.name, k.holder, k.fence, []⟩, ⟨numB k.line.length ++ (encLine k.line ++ t), 0⟩) := by
    simp only [rdLock0, encLock, List.append_assoc]
    rw [rdText_back (by omega)]
    simp only []
    rw [rdNum_back (by omega) (by omega)]
    simp only []
    rw [rdNum_back (by omega) (by omega)]
  rw [rdLock, e0]
  simp only []
  rw [rdLine_back h.line.len (fun x hx => by have := h.line.cl x hx; omega)]
theorem rdPair_back {p : PairD} (h : PrOne p) (t : Bytes) : rdPair ⟨encPair p ++ t, 0⟩ = (p, ⟨t, 0⟩) := by
  have h1 := (lkName_len h.name).2
  have h2 := h.size
  have h3 := h.vers
  simp only [rdPair, encPair, List.append_assoc]
  rw [rdText_back (by omega)]
  simp only []
  rw [rdText_back (by omega)]
  simp only []
  rw [rdNum_back (by omega) (by omega)]
theorem rdKept_back {k : KeptD} (h0 : 0 ≤ k.seq ∧ k.seq ≤ 2000000) (h : ReplyOk k.reply) (t : Bytes) : rdKept ⟨encKept k ++ t, 0⟩ = (k, ⟨t, 0⟩) := by
  have h1 := h.ok
  simp only [rdKept, encKept, List.append_assoc]
  rw [rdNum_back (by omega) (by omega)]
  simp only []
  rw [rdNum_back (by omega) (by omega)]
  simp only []
  rw [rdNum_back (by omega) (by omega)]
  simp only []
  rw [rdText_back (by omega)]
theorem rdSession_back {x : SessionD} {index : Int} (hi : index ≤ 1073741824) (hb : ¬ sessBad index x) (hr : replies x = true) (t : Bytes) : rdSession ⟨encSession x ++ t, 0⟩ = (x, ⟨t, 0⟩) := by
  unfold sessBad at hb
  have hro := replies_iff.1 hr
  have e0 : rdSession0 ⟨encSession x ++ t, 0⟩ = (⟨x.client, x.id, x.acked, x.last, []⟩, ⟨numB x.replies.length ++ (x.replies.flatMap encKept ++ t), 0⟩) := by
    simp only [rdSession0, encSession, List.append_assoc]
    rw [rdNum_back (by omega) (by omega)]
    simp only []
    rw [rdNum_back (by omega) (by omega)]
    simp only []
    rw [rdNum_back (by omega) (by omega)]
    simp only []
    rw [rdNum_back (by omega) (by omega)]
  have e1 : rdKepts ⟨numB x.replies.length ++ (x.replies.flatMap encKept ++ t), 0⟩ = (x.replies, ⟨t, 0⟩) := by
    have hl := replies_len hr
    rw [rdKepts, rdCount_back (by omega) (by omega)]
    simp only [Int.toNat_natCast]
    exact rdMany_back (enc := encKept) [] x.replies (fun k hk t => rdKept_back (by have := hro.seq k hk; omega) ⟨hro.one k hk⟩ t) t
  rw [rdSession, e0]
  simp only []
  rw [e1]
theorem rdState_back {s : StateD} (h : StOk s) : rdState ⟨encState s, 0⟩ = (s, ⟨[], 0⟩) := by
  have h1 := h.sess.idx
  have h2 := h.lock.len
  have h3 := h.pair.len
  have h4 := h.sess.len
  have e1 : rdNum ⟨encState s, 0⟩ = (s.index, ⟨numB s.locks.length ++ (s.locks.flatMap encLock ++ (numB s.pairs.length ++ (s.pairs.flatMap encPair ++ (numB s.sessions.length ++ s.sessions.flatMap encSession)))), 0⟩) := by
    rw [encState, rdNum_back (by omega) (by omega)]
  have e2 : ∀ t, rdLocks ⟨numB s.locks.length ++ (s.locks.flatMap encLock ++ t), 0⟩ = (s.locks, ⟨t, 0⟩) := fun t => by
    rw [rdLocks, rdCount_back (by omega) (by omega)]
    simp only [Int.toNat_natCast]
    exact rdMany_back (enc := encLock) [] s.locks (fun k hk t => rdLock_back (h.lock.one k hk) t) t
  have e3 : ∀ t, rdPairs ⟨numB s.pairs.length ++ (s.pairs.flatMap encPair ++ t), 0⟩ = (s.pairs, ⟨t, 0⟩) := fun t => by
    rw [rdPairs, rdCount_back (by omega) (by omega)]
    simp only [Int.toNat_natCast]
    exact rdMany_back (enc := encPair) [] s.pairs (fun k hk t => rdPair_back (h.pair.one k hk) t) t
  have e4 : rdSessions ⟨numB s.sessions.length ++ s.sessions.flatMap encSession, 0⟩ = (s.sessions, ⟨[], 0⟩) := by
    rw [rdSessions, rdCount_back (by omega) (by omega)]
    simp only [Int.toNat_natCast]
    have := rdMany_back (f := rdSession) (enc := encSession) [] s.sessions (fun x hx t => rdSession_back h1.2 (h.sess.bad x hx) (h.sess.rep x hx) t) []
    rwa [List.append_nil] at this
  simp only [rdState, e1, e2, e3, e4]
theorem numB_len (n : Int) : (numB n).length ≤ 7 := number_len n
theorem textB_len {s : Bytes} (h : s.length ≤ 5000) : (textB s).length ≤ s.length + 7 := text_len s h
theorem flatMap_len {α : Type} {f : α → Bytes} {m : Nat} : ∀ (l : List α), (∀ x ∈ l, (f x).length ≤ m) → (l.flatMap f).length ≤ l.length * m
  | [], _ => by simp
  | x :: l, h => by
    have := flatMap_len l (fun y hy => h y (by simp [hy]))
    have h1 := h x (by simp)
    rw [List.flatMap_cons, List.length_append, List.length_cons, Nat.add_mul]; omega
theorem encState_len {s : StateD} (h : StOk s) : (encState s).length ≤ 4000 := by
  have h2 := h.lock.len
  have h3 := h.pair.len
  have h4 := h.sess.len
  have a1 : (s.locks.flatMap encLock).length ≤ s.locks.length * 60 := flatMap_len _ fun k hk => by
    have ho := h.lock.one k hk
    have g1 := textB_len (s := k.name) (by have := (lkName_len ho.name).2; omega)
    have g2 := (lkName_len ho.name).2
    have g3 := numB_len k.holder; have g4 := numB_len k.fence; have g5 := numB_len k.line.length
    have g6 : (encLine k.line).length ≤ k.line.length * 7 := flatMap_len _ fun x _ => numB_len x
    have g7 := ho.line.len
    simp only [encLock, List.length_append]
    omega
  have a2 : (s.pairs.flatMap encPair).length ≤ s.pairs.length * 60 := flatMap_len _ fun p hp => by
    have ho := h.pair.one p hp
    have g0 := (lkName_len ho.name).2
    have g1 := textB_len (s := p.name) (by omega)
    have g2 := ho.size
    have g3 := textB_len (s := p.value) (by omega)
    have g4 := numB_len p.version
    simp only [encPair, List.length_append]
    omega
  have a3 : (s.sessions.flatMap encSession).length ≤ s.sessions.length * 300 := flatMap_len _ fun x hx => by
    have hr := replies_iff.1 (h.sess.rep x hx)
    have g1 := numB_len x.client; have g2 := numB_len x.id; have g3 := numB_len x.acked; have g4 := numB_len x.last; have g5 := numB_len x.replies.length
    have g6 : (x.replies.flatMap encKept).length ≤ x.replies.length * 50 := flatMap_len _ fun k hk => by
      have := hr.one k hk
      have q1 := numB_len k.seq; have q2 := numB_len k.reply.code; have q3 := numB_len k.reply.n
      have q4 := textB_len (s := k.reply.text) (by omega)
      simp only [encKept, List.length_append]
      omega
    have g7 := replies_len (h.sess.rep x hx)
    simp only [encSession, List.length_append]
    omega
  have b1 := numB_len s.index; have b2 := numB_len s.locks.length; have b3 := numB_len s.pairs.length; have b4 := numB_len s.sessions.length
  simp only [encState, List.length_append]
  omega
theorem snEncode_ok {s : StateD} (h : StOk s) : snEncode s = (encState s ++ sealB (encState s), 0) := by rw [snEncode, if_neg (by simp [maCheck_ok.2 h])]
theorem snDecode_back {s : StateD} (h : StOk s) : snDecode (snEncode s).1 = (s, 0) := by
  have hl := encState_len h
  have h4 := seal_len (encState s)
  rw [snEncode_ok h]
  simp only [snDecode]
  have e1 : (encState s ++ sealB (encState s)).length - 4 = (encState s).length := by rw [List.length_append, h4]; omega
  rw [if_neg (by rw [List.length_append, h4]; omega), if_neg (by rw [List.length_append, h4]; omega), e1, List.take_left', List.drop_left' rfl, if_neg (by simp), rdState_back h]
  · simp [snLast, maCheck_ok.2 h]
  · rfl
theorem snDecode_short (s : StateD) (h : StOk s) : (snDecode ((snEncode s).1.take 3)).2 = 5 := by
  have hl : ((snEncode s).1.take 3).length ≤ 3 := by rw [List.length_take]; omega
  rw [snDecode, if_neg (by omega), if_pos (by omega)]
theorem snEncode_len {s : StateD} (h : StOk s) : 4 ≤ (snEncode s).1.length ∧ (snEncode s).1.length ≤ 4004 := by
  have hl := encState_len h
  rw [snEncode_ok h]
  simp only [List.length_append, seal_len]
  omega
theorem snDecode_spoilt {s : StateD} (h : StOk s) (i : Nat) (c : UInt8) (hi : i < (snEncode s).1.length) (hc : c ≠ (snEncode s).1[i]) : (snDecode ((snEncode s).1.set i c)).2 = 15 := by
  have hl := encState_len h
  have hen := snEncode_ok h
  have h4 := seal_len (encState s)
  generalize (snEncode s) = p at hi hc hen ⊢
  subst hen
  simp only [List.length_append, h4] at hi
  have e1 : ((encState s ++ sealB (encState s)).set i c).length - 4 = (encState s).length := by rw [List.length_set, List.length_append, h4]; omega
  rw [snDecode, if_neg (by rw [List.length_set, List.length_append, h4]; omega), if_neg (by rw [List.length_set, List.length_append, h4]; omega), e1, if_pos]
  intro hs
  rcases Nat.lt_or_ge i (encState s).length with hlt | hge
  · rw [List.set_append_left _ _ hlt, List.take_left' (by simp), List.drop_left' (by simp)] at hs
    refine seal_spoilt (encState s) i c hlt ?_ hs
    rw [List.getElem_append_left hlt] at hc
    exact hc
  · rw [List.set_append_right _ _ hge, List.take_left' rfl, List.drop_left' rfl] at hs
    have hlt2 : i - (encState s).length < (sealB (encState s)).length := by omega
    have := congrArg (fun l => l[i - (encState s).length]?) hs
    simp only [List.getElem?_set_self hlt2, List.getElem?_eq_getElem hlt2, Option.some.injEq] at this
    rw [List.getElem_append_right hge] at hc
    exact hc this.symm
theorem snEncode_inj {s t : StateD} (hs : StOk s) (ht : StOk t) (h : (snEncode s).1 = (snEncode t).1) : s = t := by
  have h1 := snDecode_back hs
  have h2 := snDecode_back ht
  rw [h] at h1
  have := h1.symm.trans h2
  simpa using this
end Go.Tk

/- Walks of package codec. -/
namespace Go.Proofs.YtkefgapnghnjjaaGreatDoor
open Go.RowKit Go.Tk

set_option maxRecDepth 100000 in
set_option maxHeartbeats 400000 in
theorem readNumber_calls (s : List UInt8) (hs : s.length ≤ 9223372036854775807) (w : World) :
    Calls Tryz.prog 98 #[.string ⟨s.toArray⟩] w fun e w' => e = .returned (.tuple #[.int .i64 (readNumber s).1, .string ⟨(readNumber s).2.1.toArray⟩, .int .i64 (readNumber s).2.2]) ∧ ∃ q, w' = w.drewN q := by
  go_enter Tryz.func98, Tryz.ntmps98
  go_wp2
  go_loopw [5, 6] (fun n i wr => ∃ k m : Nat, k ≤ 6 ∧ k ≤ s.length ∧ i = .int .i64 k ∧ n = .int .i64 m ∧ m < 128 ^ k ∧ rdGo s (6 - k) k m = readNumber s ∧ wr = w)
    (fun _ i _ => 6 - (intOf i).toNat)
  case atStart => exact ⟨0, 0, by omega, by omega, rfl, rfl, by decide, rfl, rfl⟩
  case round =>
    obtain ⟨k, m, hk, hks, rfl, rfl, hm, hr, rfl⟩ := hrel
    by_cases h6 : k < 6
    · by_cases hl : k < s.length
      · obtain ⟨x, hx⟩ : ∃ x : Nat, (s[k]'hl).toNat = x := ⟨_, rfl⟩
        have hx1 : ({ data := s.toArray } : ByteArray)[k]'hl = s[k]'hl := rfl
        have hxl : x < 256 := by rw [← hx]; exact UInt8.toNat_lt _
        have hg : (s.getD k 0).toNat = x := by rw [← hx]; simp [List.getD, hl]
        obtain ⟨hor, hnext⟩ := digit_or m x k hm h6 hxl
        have hg : (s.getD k 0).toNat = x := by rw [← hx]; simp [List.getD, hl]
        have hr3 : rdGo s (6 - k) k m = if 128 ≤ x then rdGo s (6 - (k + 1)) (k + 1) (m + x % 128 * 128 ^ k)
          else if x = 0 ∧ 0 < k ∨ 1099511627776 < m + x % 128 * 128 ^ k then (0, [], 4) else ((m + x % 128 * 128 ^ k : Nat), s.drop (k + 1), 0) := by
          rw [show 6 - k = (6 - (k + 1)) + 1 from by omega]; rw [rdGo, if_pos hl, hg]
        rw [hr] at hr3
        clear hm hr hg
        by_cases hb : 128 ≤ x
        · rw [if_pos hb] at hr3
          have HR := Lib.hid hr3
          clear hr3
          go_wp2
          go_roundw
          case rel => refine ⟨k + 1, m + x % 128 * 128 ^ k, by omega, by omega, by go_num, by first | rfl | go_num, hnext, HR.out.symm, trivial⟩
          case measure => simp [intOf]; omega
        · rw [if_neg hb] at hr3
          generalize m + x % 128 * 128 ^ k = y at *
          by_cases hz : x = 0 ∧ 0 < k
          · rw [if_pos (.inl hz)] at hr3
            have h0 : ((x : Int) == 0) = true := by simp [hz.1]
            have h1 := hz.2
            have HR := Lib.hid hr3
            clear hr3 hz
            go_wp2
            go_ret3
            exact ⟨by rw [HR.out]; rfl, 0, rfl⟩
          · by_cases hy : 1099511627776 < y
            · rw [if_pos (.inr hy)] at hr3
              have HR := Lib.hid hr3
              have HZ := Lib.hid hz
              clear hr3 hz
              go_wp2
              all_goals go_ret3
              all_goals exact ⟨by rw [HR.out]; rfl, 0, rfl⟩
            · rw [if_neg (by omega)] at hr3
              have HR := Lib.hid hr3
              have HZ := Lib.hid hz
              clear hr3 hz
              by_cases hx0 : x = 0
              · have h0 : ((x : Int) == 0) = true := by simp [hx0]
                have hk0 : ¬ 0 < k := fun h => HZ.out ⟨hx0, h⟩
                clear hx0
                go_wp2
                go_quiet (fail)
                go_wp2
                go_ret3
                exact ⟨by rw [HR.out]; exact ends3 rfl rfl rfl, _, rfl⟩
              · go_wp2
                go_quiet (fail)
                go_wp2
                go_ret3
                exact ⟨by rw [HR.out]; exact ends3 rfl rfl rfl, _, rfl⟩
      · have hr3 : rdGo s (6 - k) k m = (0, [], 5) := by
          rw [show 6 - k = (6 - (k + 1)) + 1 from by omega]; rw [rdGo, if_neg hl]
        have HR := Lib.hid (hr.symm.trans hr3)
        clear hr hr3 hm
        obtain rfl : k = s.length := by omega
        go_wp2
        go_ret3
        exact ⟨by rw [HR.out]; rfl, 0, rfl⟩
    · obtain rfl : k = 6 := by omega
      have HR := Lib.hid hr
      clear hr hm
      go_wp2
      go_ret3
      exact ⟨by rw [← HR.out]; rfl, 0, rfl⟩

theorem Tryz.tyBytes : SliceTy Tryz.prog 85 5 1 1 := ⟨Tryz.underlying85, by kernel_rfl, by decide⟩

set_option maxRecDepth 100000 in
set_option maxHeartbeats 400000 in
theorem number_yes (m0 : Nat) (hm0 : m0 ≤ 1099511627776) (w : World) :
    Calls Tryz.prog 111 #[.int .i64 (m0 : Int)] w fun e w' => e = .returned (.tuple #[.string ⟨(digs 6 m0).toArray⟩, .int .i64 0]) ∧ Below w.heap.size w w' := by
  go_enter Tryz.func111, Tryz.ntmps111
  go_wp2
  go_loopw [0, 4] (fun n v wr => ∃ (m f : Nat) (ds : List UInt8), n = .int .i64 (m : Int) ∧ m ≤ 1099511627776 ∧ f + ds.length = 6 ∧ m < 128 ^ (f + 1) ∧ digs 6 m0 = ds ++ digs f m ∧
      OwR 5 1 rByte wr v ds (fun _ => True) ∧ (∀ g, v.ownBlock = some g → w.heap.size ≤ g) ∧ Below w.heap.size w wr)
    (fun n _ _ => (intOf n).toNat)
  case atStart => exact ⟨m0, 6, [], rfl, hm0, rfl, by omega, rfl, OwR.nil _ _, by simp [Value.ownBlock], Below.refl _ _⟩
  case round =>
    obtain ⟨m, f, ds, rfl, hm, hf, hmf, hd, hown, hvb, hb⟩ := hrel
    have HD := Lib.hid hd
    clear hd
    by_cases h128 : 128 ≤ m
    · have hor := byte_or m (by omega)
      go_wp2_with (at_builtin; refine wpList_append_one Tryz.tyBytes (.tmp 13) (.tmp 18) rfl rfl rByte_ok ((m % 128 + 128).toUInt8) rfl rfl rfl hown hb hvb rfl (by omega) ?_; intro v' w' hown' hb' hvb')
      go_roundw
      case rel =>
        obtain ⟨f, rfl⟩ : ∃ f', f = f' + 1 := by
          rcases f with _ | f
          · simp at hmf; omega
          · exact ⟨f, rfl⟩
        refine ⟨m / 128, f, ds ++ [(m % 128 + 128).toUInt8], by go_num, by omega, by simp; omega, ?_, ?_, hown', hvb', hb'⟩
        · rw [Nat.pow_succ] at hmf; omega
        · rw [HD.out, digs_big f m h128]; simp
      case measure => simp [intOf]; omega
    · have HD2 := Lib.hid (HD.out.trans (by rw [digs_small f m (by omega)]))
      clear HD
      go_wp2_with (at_builtin; refine wpList_append_one Tryz.tyBytes (.tmp 22) (.tmp 25) rfl rfl rByte_ok (m.toUInt8) rfl rfl rfl hown hb hvb (by simp [rByte]; omega) (by omega) ?_; intro v' w' hown' hb' hvb'; have hcv := run_string_of_bytes (P := Tryz.prog) Tryz.underlying85 Tryz.underlying5 Tryz.underlying9 (hown'.read rByte_ok (by decide) (fun _ _ => trivial)))
      go_ret2
      exact ⟨by rw [HD2.out]; exact ends2 rfl rfl, hb'⟩

theorem number_no (n : Int) (hn : n < 0 ∨ 1099511627776 < n) (w : World) :
    Calls Tryz.prog 111 #[.int .i64 n] w fun e w' => e = .returned (.tuple #[.string ⟨#[]⟩, .int .i64 2]) ∧ Below w.heap.size w w' := by
  rcases hn with h | h
  · go_enter Tryz.func111, Tryz.ntmps111
    go_wp2
    go_ret2
    exact ⟨rfl, Below.refl _ _⟩
  · have h' : ¬ n < 0 := by omega
    go_enter Tryz.func111, Tryz.ntmps111
    go_wp2
    go_ret2
    exact ⟨rfl, Below.refl _ _⟩
theorem number_calls (n : Int) (w : World) :
    Calls Tryz.prog 111 #[.int .i64 n] w fun e w' => e = .returned (.tuple #[.string ⟨(number n).1.toArray⟩, .int .i64 (number n).2]) ∧ Below w.heap.size w w' := by
  by_cases h : n < 0 ∨ 1099511627776 < n
  · rw [number, if_pos h]; exact number_no n h w
  · rw [number, if_neg h]
    obtain ⟨m, rfl⟩ := Int.eq_ofNat_of_zero_le (show 0 ≤ n by omega)
    exact number_yes m (by omega) w

set_option maxRecDepth 100000 in
theorem text_calls (s : List UInt8) (hs : s.length ≤ 9223372036854775807) (w : World) :
    Calls Tryz.prog 112 #[.string ⟨s.toArray⟩] w fun e w' => e = .returned (.tuple #[.string ⟨(text s).1.toArray⟩, .int .i64 (text s).2]) ∧ Below w.heap.size w w' := by
  by_cases h : 5000 < s.length
  · rw [text, if_pos h]
    go_enter Tryz.func112, Tryz.ntmps112
    go_wp2
    go_ret2
    exact ⟨rfl, Below.refl _ _⟩
  · rw [text, if_neg h]
    have hnl := number_len s.length
    go_enter Tryz.func112, Tryz.ntmps112
    go_wp2_with (go_at_call 111; refine (number_calls _ _).mono ?_; rintro e w' ⟨rfl, hb⟩)
    go_ret2
    exact ⟨ends2 rfl rfl, hb⟩

set_option maxRecDepth 100000 in
theorem readText_calls (s : List UInt8) (hs : s.length ≤ 9223372036854775807) (w : World) :
    Calls Tryz.prog 99 #[.string ⟨s.toArray⟩] w fun e w' => e = .returned (.tuple #[.string ⟨(readText s).1.toArray⟩, .string ⟨(readText s).2.1.toArray⟩, .int .i64 (readText s).2.2]) ∧ ∃ q, w' = w.drewN q := by
  go_enter Tryz.func99, Tryz.ntmps99
  go_wp2_with (go_at_call 98; refine (readNumber_calls s hs _).mono ?_; rintro e w' ⟨rfl, q, rfl⟩)
  · have h1 : (readNumber s).2.2 ≠ 0 := by simpa using ‹((readNumber s).2.2 != 0) = true›
    go_ret3
    exact ⟨by rw [readText, if_pos h1]; rfl, q, rfl⟩
  · have h1 : ¬ (readNumber s).2.2 ≠ 0 := by simpa using ‹((readNumber s).2.2 != 0) = false›
    have h2 : 5000 < (readNumber s).1 := by assumption
    go_ret3
    exact ⟨by rw [readText, if_neg h1, if_pos h2]; rfl, q, rfl⟩
  · have h1 : ¬ (readNumber s).2.2 ≠ 0 := by simpa using ‹((readNumber s).2.2 != 0) = false›
    have h2 : (readNumber s).1 ≤ 5000 := by assumption
    have h3 : ((readNumber s).2.1.length : Int) < (readNumber s).1 := by assumption
    go_ret3
    exact ⟨by rw [readText, if_neg h1, if_neg (by omega), if_pos h3]; rfl, q, rfl⟩
  · have h1 : ¬ (readNumber s).2.2 ≠ 0 := by simpa using ‹((readNumber s).2.2 != 0) = false›
    have h2 : (readNumber s).1 ≤ 5000 := by assumption
    have h3 : (readNumber s).1 ≤ ((readNumber s).2.1.length : Int) := by assumption
    have HR := Lib.hid (show readText s = ((readNumber s).2.1.take (readNumber s).1.toNat, (readNumber s).2.1.drop (readNumber s).1.toNat, 0) by rw [readText, if_neg h1, if_neg (by omega), if_neg (by omega)])
    have h0 := readNumber_nonneg s
    clear h1
    go_quiet (fail)
    go_wp2
    go_ret3
    exact ⟨by rw [HR.out]; exact ends3 rfl rfl rfl, _, by rw [World.drewN_drewN]⟩

set_option maxRecDepth 100000 in
theorem picked_calls (n m : Int) (hm : 0 < m) (hm2 : m ≤ 4611686018427387904) (hn : -9223372036854775808 ≤ n) (hn2 : n ≤ 9223372036854775807) (w : World) :
    Calls Tryz.prog 30 #[.int .i64 n, .int .i64 m] w fun e w' => e = .returned (.int .i64 (picked n m)) ∧ w = w' := by
  by_cases h : n < 0
  · rw [picked, if_pos h]
    go_enter Tryz.func30, Tryz.ntmps30
    go_wp2
    go_ret
    have e : (n + 1).tmod m = -(-(n + 1) % m) := by
      rw [← Int.tmod_eq_emod_of_nonneg (by omega), Int.neg_tmod, Int.neg_neg]
    exact ⟨ends1 (by simp [e]), rfl⟩
  · rw [picked, if_neg h]
    go_enter Tryz.func30, Tryz.ntmps30
    go_wp2
    go_ret
    exact ⟨rfl, rfl⟩
end Go.Proofs.YtkefgapnghnjjaaGreatDoor
