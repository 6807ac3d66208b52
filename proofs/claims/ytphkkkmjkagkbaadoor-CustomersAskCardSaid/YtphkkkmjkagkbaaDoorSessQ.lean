/- session.Ready and session.Keep, plainly. -/
import Derived.Test.YtphkkkmjkagkbaaDoorSessP
namespace Go.Tk
open Go

structure OpD where
  kind : Int
  a : List UInt8
  b : List UInt8
  n : Int
structure CommandD where
  kind : Int
  client : Int
  session : Int
  seq : Int
  acked : Int
  op : OpD
def noOp : OpD := ⟨0, [], [], 0⟩
def OpD.cells (o : OpD) : List Value := [.int .i64 o.kind, .string ⟨o.a.toArray⟩, .string ⟨o.b.toArray⟩, .int .i64 o.n]
def readyS (s : SessionD) (index acked : Int) : SessionD :=
  if s.acked < acked then ⟨s.client, s.id, acked, index + 1, s.replies.filter (fun k => !decide (k.seq ≤ acked))⟩ else ⟨s.client, s.id, s.acked, index + 1, s.replies⟩
def readyT (s : SessionD) (seq : Int) : ReplyD × Bool :=
  if seq ≤ s.acked then (⟨12, 0, []⟩, false)
  else if 0 ≤ fIdx (fun k => k.seq == seq) s.replies then ((s.replies.getD (fIdx (fun k => k.seq == seq) s.replies).toNat noKept).reply, false)
  else if s.acked + 4 < seq then (⟨2, 0, []⟩, false)
  else (noReply, true)
def ready (l : List SessionD) (index client session seq acked : Int) : List SessionD × ReplyD × Bool × Int :=
  if sessCheck l index ≠ 0 then ([], noReply, false, sessCheck l index)
  else if index = 1073741824 ∨ seq < 1 ∨ 1048576 < seq ∨ acked < 0 ∨ seq ≤ acked then ([], noReply, false, 2)
  else if sThere l client = false ∨ (l.getD (sFind l client) noSession).id ≠ session then (l, ⟨11, 0, []⟩, false, 0)
  else (l.set (sFind l client) (readyS (l.getD (sFind l client) noSession) index acked), (readyT (readyS (l.getD (sFind l client) noSession) index acked) seq).1, (readyT (readyS (l.getD (sFind l client) noSession) index acked) seq).2, 0)
def kFind (l : List KeptD) (q : Int) : Nat := bs (fun i => keptCmp (l.getD i noKept) q) l.length
def kThere (l : List KeptD) (q : Int) : Bool := bsFound (fun i => keptCmp (l.getD i noKept) q) l.length
def keepS (s : SessionD) (seq : Int) (r : ReplyD) : SessionD := ⟨s.client, s.id, s.acked, s.last, s.replies.take (kFind s.replies seq) ++ ⟨seq, r⟩ :: s.replies.drop (kFind s.replies seq)⟩
def keep (l : List SessionD) (index client seq : Int) (r : ReplyD) : List SessionD × Int :=
  if sessCheck l index ≠ 0 then ([], sessCheck l index)
  else if sThere l client = false then ([], 11)
  else if kThere (l.getD (sFind l client) noSession).replies seq = true then ([], 7)
  else if replies (keepS (l.getD (sFind l client) noSession) seq r) = false then ([], 2)
  else (l.set (sFind l client) (keepS (l.getD (sFind l client) noSession) seq r), 0)
theorem readyS_acked {s : SessionD} {index acked : Int} (h : s.acked < acked) : readyS s index acked = ⟨s.client, s.id, acked, index + 1, s.replies.filter (fun k => !decide (k.seq ≤ acked))⟩ := if_pos h
theorem readyS_same {s : SessionD} {index acked : Int} (h : ¬ s.acked < acked) : readyS s index acked = ⟨s.client, s.id, s.acked, index + 1, s.replies⟩ := if_neg h

/-- One session. -/
theorem one_check {s : SessionD} {index : Int} (hi : 0 ≤ index ∧ index ≤ 1073741824) (h1 : ¬ sessBad index s) (h2 : replies s = true) : sessCheck [s] index = 0 := by
  refine sessCheck_ok.2 ⟨hi, by simp, ?_, ?_, ?_⟩
  · intro x hx; simp at hx; subst hx; exact h1
  · intro x hx; simp at hx; subst hx; exact h2
  · intro i h1 h2; simp at h2; omega
theorem one_there (s : SessionD) : sThere [s] s.client = true ∧ sFind [s] s.client = 0 := by
  have : sFind [s] s.client = 0 := by
    simp [sFind, bs, bsGo, sessCmp]
  refine ⟨?_, this⟩
  have h0 : bs (fun i => sessCmp ([s].getD i noSession) s.client) 1 = 0 := this
  show (decide (bs (fun i => sessCmp ([s].getD i noSession) s.client) 1 < 1) && (sessCmp ([s].getD (bs (fun i => sessCmp ([s].getD i noSession) s.client) 1) noSession) s.client == 0)) = true
  rw [h0]
  simp [sessCmp]
theorem one_ready {s : SessionD} {index session seq acked : Int} (hi : 0 ≤ index ∧ index < 1073741824) (h1 : ¬ sessBad index s) (h2 : replies s = true) (hq : 1 ≤ seq ∧ seq ≤ 1048576 ∧ 0 ≤ acked ∧ acked < seq) (hs : s.id = session) :
    ready [s] index s.client session seq acked = ([readyS s index acked], (readyT (readyS s index acked) seq).1, (readyT (readyS s index acked) seq).2, 0) := by
  have h3 := one_there s
  rw [ready, if_neg (by rw [one_check ⟨hi.1, by omega⟩ h1 h2]; simp), if_neg (by omega), if_neg (by rw [h3.1, h3.2]; simp [hs]), h3.2]
  simp
theorem one_away {s : SessionD} {index session seq acked : Int} (hi : 0 ≤ index ∧ index < 1073741824) (h1 : ¬ sessBad index s) (h2 : replies s = true) (hq : 1 ≤ seq ∧ seq ≤ 1048576 ∧ 0 ≤ acked ∧ acked < seq) (hs : s.id ≠ session) :
    ready [s] index s.client session seq acked = ([s], ⟨11, 0, []⟩, false, 0) := by
  have h3 := one_there s
  rw [ready, if_neg (by rw [one_check ⟨hi.1, by omega⟩ h1 h2]; simp), if_neg (by omega), if_pos (by rw [h3.1, h3.2]; simp [hs])]
theorem one_keep {c a id la k : Int} {index : Int} {r : ReplyD} (hi : 0 ≤ index ∧ index ≤ 1073741824) (h1 : ¬ sessBad index ⟨c, id, a, la, []⟩) (h2 : replies ⟨c, id, a, la, [⟨k, r⟩]⟩ = true) :
    keep [⟨c, id, a, la, []⟩] index c k r = ([⟨c, id, a, la, [⟨k, r⟩]⟩], 0) := by
  have h3 := one_there ⟨c, id, a, la, []⟩
  have h4 : keepS ⟨c, id, a, la, []⟩ k r = ⟨c, id, a, la, [⟨k, r⟩]⟩ := rfl
  have h5 : kThere [] k = false := rfl
  simp only at h3
  rw [keep, if_neg (by rw [one_check hi h1 rfl]; simp), if_neg (by rw [h3.1]; simp), h3.2]
  simp only [List.getD_cons_zero]
  rw [h4, if_neg (by rw [h5]; simp), if_neg (by rw [h2]; simp)]
  rfl
theorem one_replies {c id a la k : Int} {r : ReplyD} (hk : a < k ∧ k ≤ a + 4) (hr : 0 ≤ r.code ∧ r.code ≤ 15 ∧ 0 ≤ r.n ∧ r.n ≤ 1073741824 ∧ r.text.length ≤ 12) : replies ⟨c, id, a, la, [⟨k, r⟩]⟩ = true := by
  have : repliesErr ⟨c, id, a, la, [⟨k, r⟩]⟩ = 0 := by
    refine firstErr_zero.2 fun i hi => ?_
    simp at hi; subst hi
    refine if_neg ?_
    unfold keptBad
    simp; omega
  rw [replies, this]; rfl
theorem first_join (c : Int) (hc : 1 ≤ c ∧ c ≤ 9) : join [] 0 c = ([⟨c, 1, 0, 1, []⟩], ⟨0, 1, []⟩, 0) := by
  have h0 : sessCheck [] 0 = 0 := sessCheck_ok.2 ⟨by omega, by simp, by simp, by simp, by simp⟩
  rw [join, if_neg (by rw [h0]; simp), if_neg (by omega)]
  have h1 : sThere [] c = false := rfl
  rw [h1]; simp
/-- CallsOnce, plainly. -/
theorem calls_once (c k n : Int) (hc : 1 ≤ c ∧ c ≤ 9) (hk : 1 ≤ k ∧ k ≤ 4) (hn : 0 ≤ n ∧ n ≤ 99) :
    ready [⟨c, 1, 0, 1, []⟩] 1 c 1 k 0 = ([⟨c, 1, 0, 2, []⟩], noReply, true, 0) ∧
    keep [⟨c, 1, 0, 2, []⟩] 2 c k ⟨0, n, [120]⟩ = ([⟨c, 1, 0, 2, [⟨k, ⟨0, n, [120]⟩⟩]⟩], 0) ∧
    ready [⟨c, 1, 0, 2, [⟨k, ⟨0, n, [120]⟩⟩]⟩] 2 c 1 k 0 = ([⟨c, 1, 0, 3, [⟨k, ⟨0, n, [120]⟩⟩]⟩], ⟨0, n, [120]⟩, false, 0) ∧
    ready [⟨c, 1, 0, 3, [⟨k, ⟨0, n, [120]⟩⟩]⟩] 3 c 1 (k + 1) k = ([⟨c, 1, k, 4, []⟩], noReply, true, 0) ∧
    ready [⟨c, 1, k, 4, []⟩] 4 c 1 k 0 = ([⟨c, 1, k, 5, []⟩], ⟨12, 0, []⟩, false, 0) ∧
    ready [⟨c, 1, 0, 3, [⟨k, ⟨0, n, [120]⟩⟩]⟩] 3 c 2 (k + 1) k = ([⟨c, 1, 0, 3, [⟨k, ⟨0, n, [120]⟩⟩]⟩], ⟨11, 0, []⟩, false, 0) := by
  have hb : ∀ (i a la : Int) (rs : List KeptD), 0 ≤ a → a ≤ 4 → 1 ≤ la → la ≤ i → ¬ sessBad i ⟨c, 1, a, la, rs⟩ := by
    intro i a la rs h1 h2 h3 h4; unfold sessBad; simp; omega
  have hr : ∀ la : Int, replies ⟨c, 1, 0, la, [⟨k, ⟨0, n, [120]⟩⟩]⟩ = true := fun la => one_replies (by omega) (by simp <;> omega)
  refine ⟨?_, ?_, ?_, ?_, ?_, ?_⟩
  · rw [show c = (⟨c, 1, 0, 1, []⟩ : SessionD).client from rfl, one_ready (by omega) (hb _ _ _ _ (by omega) (by omega) (by omega) (by omega)) rfl (by omega) rfl]
    rw [readyS_same (by simp)]
    have h1 : fIdx (fun x : KeptD => x.seq == k) [] = -1 := rfl
    have : readyT ⟨c, 1, 0, 2, []⟩ k = (noReply, true) := by
      rw [readyT, if_neg (by simp <;> omega), if_neg (by rw [h1]; simp), if_neg (by simp <;> omega)]
    exact congrArg (fun p : ReplyD × Bool => (([⟨c, 1, 0, 2, []⟩] : List SessionD), p.1, p.2, (0 : Int))) this
  · exact one_keep (by omega) (hb _ _ _ _ (by omega) (by omega) (by omega) (by omega)) (hr _)
  · rw [show c = (⟨c, 1, 0, 2, [⟨k, ⟨0, n, [120]⟩⟩]⟩ : SessionD).client from rfl, one_ready (by omega) (hb _ _ _ _ (by omega) (by omega) (by omega) (by omega)) (hr _) (by omega) rfl]
    rw [readyS_same (by simp)]
    have h1 : fIdx (fun x : KeptD => x.seq == k) [⟨k, ⟨0, n, [120]⟩⟩] = 0 := by simp [fIdx]
    have : readyT ⟨c, 1, 0, 3, [⟨k, ⟨0, n, [120]⟩⟩]⟩ k = (⟨0, n, [120]⟩, false) := by
      rw [readyT, if_neg (by simp <;> omega), if_pos (by rw [h1]; simp), h1]; rfl
    exact congrArg (fun p : ReplyD × Bool => (([⟨c, 1, 0, 3, [⟨k, ⟨0, n, [120]⟩⟩]⟩] : List SessionD), p.1, p.2, (0 : Int))) this
  · rw [show c = (⟨c, 1, 0, 3, [⟨k, ⟨0, n, [120]⟩⟩]⟩ : SessionD).client from rfl, one_ready (by omega) (hb _ _ _ _ (by omega) (by omega) (by omega) (by omega)) (hr _) (by omega) rfl]
    rw [readyS_acked (show (0 : Int) < k by omega)]
    have h0 : ([⟨k, ⟨0, n, [120]⟩⟩] : List KeptD).filter (fun x => !decide (x.seq ≤ k)) = [] := by simp
    have h1 : fIdx (fun x : KeptD => x.seq == k + 1) [] = -1 := rfl
    simp only [h0]
    have : readyT ⟨c, 1, k, 4, []⟩ (k + 1) = (noReply, true) := by
      rw [readyT, if_neg (by simp <;> omega), if_neg (by rw [h1]; simp), if_neg (by simp <;> omega)]
    exact congrArg (fun p : ReplyD × Bool => (([⟨c, 1, k, 4, []⟩] : List SessionD), p.1, p.2, (0 : Int))) this
  · rw [show c = (⟨c, 1, k, 4, []⟩ : SessionD).client from rfl, one_ready (by omega) (hb _ _ _ _ (by omega) (by omega) (by omega) (by omega)) rfl (by omega) rfl]
    rw [readyS_same (by show ¬ k < 0; omega)]
    have : readyT ⟨c, 1, k, 5, []⟩ k = (⟨12, 0, []⟩, false) := by
      rw [readyT, if_pos (by simp)]
    exact congrArg (fun p : ReplyD × Bool => (([⟨c, 1, k, 5, []⟩] : List SessionD), p.1, p.2, (0 : Int))) this
  · rw [show c = (⟨c, 1, 0, 3, [⟨k, ⟨0, n, [120]⟩⟩]⟩ : SessionD).client from rfl, one_away (by omega) (hb _ _ _ _ (by omega) (by omega) (by omega) (by omega)) (hr _) (by omega) (show (1 : Int) ≠ 2 by decide)]
end Go.Tk
