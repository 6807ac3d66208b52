/- A part of the proof, laid together from: SessQ, PairP. -/
import Derived.Test.YtkefgapnghnjjaaGreatDoorPa02
import Derived.Test.YtkefgapnghnjjaaGreatDoorPa04
set_option linter.unusedSimpArgs false
set_option linter.unusedVariables false
/- session.Ready and session.Keep, plainly. -/
namespace Go.Tk
open Go

structure OpD where
  kind : Int
  a : List UInt8
  b : List UInt8
  n : Int
structure CommandD where
  kind : Int
  client : Int
  session : Int
  seq : Int
  acked : Int
  op : OpD
def noOp : OpD := ⟨0, [], [], 0⟩
def OpD.cells (o : OpD) : List Value := [.int .i64 o.kind, .string ⟨o.a.toArray⟩, .string ⟨o.b.toArray⟩, .int .i64 o.n]
def readyS (s : SessionD) (index acked : Int) : SessionD :=
  if s.acked < acked then ⟨s.client, s.id, acked, index + 1, s.replies.filter (fun k => !decide (k.seq ≤ acked))⟩ else ⟨s.client, s.id, s.acked, index + 1, s.replies⟩
def readyT (s : SessionD) (seq : Int) : ReplyD × Bool :=
  if seq ≤ s.acked then (⟨12, 0, []⟩, false)
  else if 0 ≤ fIdx (fun k => k.seq == seq) s.replies then ((s.replies.getD (fIdx (fun k => k.seq == seq) s.replies).toNat noKept).reply, false)
  else if s.acked + 4 < seq then (⟨2, 0, []⟩, false)
  else (noReply, true)
def ready (l : List SessionD) (index client session seq acked : Int) : List SessionD × ReplyD × Bool × Int :=
  if sessCheck l index ≠ 0 then ([], noReply, false, sessCheck l index)
  else if index = 1073741824 ∨ seq < 1 ∨ 1048576 < seq ∨ acked < 0 ∨ seq ≤ acked then ([], noReply, false, 2)
  else if sThere l client = false ∨ (l.getD (sFind l client) noSession).id ≠ session then (l, ⟨11, 0, []⟩, false, 0)
  else (l.set (sFind l client) (readyS (l.getD (sFind l client) noSession) index acked), (readyT (readyS (l.getD (sFind l client) noSession) index acked) seq).1, (readyT (readyS (l.getD (sFind l client) noSession) index acked) seq).2, 0)
def kFind (l : List KeptD) (q : Int) : Nat := bs (fun i => keptCmp (l.getD i noKept) q) l.length
def kThere (l : List KeptD) (q : Int) : Bool := bsFound (fun i => keptCmp (l.getD i noKept) q) l.length
def keepS (s : SessionD) (seq : Int) (r : ReplyD) : SessionD := ⟨s.client, s.id, s.acked, s.last, s.replies.take (kFind s.replies seq) ++ ⟨seq, r⟩ :: s.replies.drop (kFind s.replies seq)⟩
def keep (l : List SessionD) (index client seq : Int) (r : ReplyD) : List SessionD × Int :=
  if sessCheck l index ≠ 0 then ([], sessCheck l index)
  else if sThere l client = false then ([], 11)
  else if kThere (l.getD (sFind l client) noSession).replies seq = true then ([], 7)
  else if replies (keepS (l.getD (sFind l client) noSession) seq r) = false then ([], 2)
  else (l.set (sFind l client) (keepS (l.getD (sFind l client) noSession) seq r), 0)
theorem readyS_acked {s : SessionD} {index acked : Int} (h : s.acked < acked) : readyS s index acked = ⟨s.client, s.id, acked, index + 1, s.replies.filter (fun k => !decide (k.seq ≤ acked))⟩ := if_pos h
theorem readyS_same {s : SessionD} {index acked : Int} (h : ¬ s.acked < acked) : readyS s index acked = ⟨s.client, s.id, s.acked, index + 1, s.replies⟩ := if_neg h

/-- One session. -/
theorem one_check {s : SessionD} {index : Int} (hi : 0 ≤ index ∧ index ≤ 1073741824) (h1 : ¬ sessBad index s) (h2 : replies s = true) : sessCheck [s] index = 0 := by
  refine sessCheck_ok.2 ⟨hi, by simp, ?_, ?_, ?_⟩
  · intro x hx; simp at hx; subst hx; exact h1
  · intro x hx; simp at hx; subst hx; exact h2
  · intro i h1 h2; simp at h2; omega
theorem one_there (s : SessionD) : sThere [s] s.client = true ∧ sFind [s] s.client = 0 := by
  have : sFind [s] s.client = 0 := by
    simp [sFind, bs, bsGo, sessCmp]
  refine ⟨?_, this⟩
  have h0 : bs (fun i => sessCmp ([s].getD i noSession) s.client) 1 = 0 := this
  show (decide (bs (fun i => sessCmp ([s].getD i noSession) s.client) 1 < 1) && (sessCmp ([s].getD (bs (fun i => sessCmp ([s].getD i noSession) s.client) 1) noSession) s.client == 0)) = true
  rw [h0]
  simp [sessCmp]
theorem one_ready {s : SessionD} {index session seq acked : Int} (hi : 0 ≤ index ∧ index < 1073741824) (h1 : ¬ sessBad index s) (h2 : replies s = true) (hq : 1 ≤ seq ∧ seq ≤ 1048576 ∧ 0 ≤ acked ∧ acked < seq) (hs : s.id = session) :
    ready [s] index s.client session seq acked = ([readyS s index acked], (readyT (readyS s index acked) seq).1, (readyT (readyS s index acked) seq).2, 0) := by
  have h3 := one_there s
  rw [ready, if_neg (by rw [one_check ⟨hi.1, by omega⟩ h1 h2]; simp), if_neg (by omega), if_neg (by rw [h3.1, h3.2]; simp [hs]), h3.2]
  simp
theorem one_away {s : SessionD} {index session seq acked : Int} (hi : 0 ≤ index ∧ index < 1073741824) (h1 : ¬ sessBad index s) (h2 : replies s = true) (hq : 1 ≤ seq ∧ seq ≤ 1048576 ∧ 0 ≤ acked ∧ acked < seq) (hs : s.id ≠ session) :
    ready [s] index s.client session seq acked = ([s], ⟨11, 0, []⟩, false, 0) := by
  have h3 := one_there s
  rw [ready, if_neg (by rw [one_check ⟨hi.1, by omega⟩ h1 h2]; simp), if_neg (by omega), if_pos (by rw [h3.1, h3.2]; simp [hs])]
theorem one_keep {c a id la k : Int} {index : Int} {r : ReplyD} (hi : 0 ≤ index ∧ index ≤ 1073741824) (h1 : ¬ sessBad index ⟨c, id, a, la, []⟩) (h2 : replies ⟨c, id, a, la, [⟨k, r⟩]⟩ = true) :
    keep [⟨c, id, a, la, []⟩] index c k r = ([⟨c, id, a, la, [⟨k, r⟩]⟩], 0) := by
  have h3 := one_there ⟨c, id, a, la, []⟩
  have h4 : keepS ⟨c, id, a, la, []⟩ k r = ⟨c, id, a, la, [⟨k, r⟩]⟩ := rfl
  have h5 : kThere [] k = false := rfl
  simp only at h3
  rw [keep, if_neg (by rw [one_check hi h1 rfl]; simp), if_neg (by rw [h3.1]; simp), h3.2]
  simp only [List.getD_cons_zero]
  rw [h4, if_neg (by rw [h5]; simp), if_neg (by rw [h2]; simp)]
  rfl
theorem one_replies {c id a la k : Int} {r : ReplyD} (hk : a < k ∧ k ≤ a + 4) (hr : 0 ≤ r.code ∧ r.code ≤ 15 ∧ 0 ≤ r.n ∧ r.n ≤ 1073741824 ∧ r.text.length ≤ 12) : replies ⟨c, id, a, la, [⟨k, r⟩]⟩ = true := by
  have : repliesErr ⟨c, id, a, la, [⟨k, r⟩]⟩ = 0 := by
    refine firstErr_zero.2 fun i hi => ?_
    simp at hi; subst hi
    refine if_neg ?_
    unfold keptBad
    simp; omega
  rw [replies, this]; rfl
theorem first_join (c : Int) (hc : 1 ≤ c ∧ c ≤ 9) : join [] 0 c = ([⟨c, 1, 0, 1, []⟩], ⟨0, 1, []⟩, 0) := by
  have h0 : sessCheck [] 0 = 0 := sessCheck_ok.2 ⟨by omega, by simp, by simp, by simp, by simp⟩
  rw [join, if_neg (by rw [h0]; simp), if_neg (by omega)]
  have h1 : sThere [] c = false := rfl
  rw [h1]; simp
/-- CallsOnce, plainly. -/
theorem calls_once (c k n : Int) (hc : 1 ≤ c ∧ c ≤ 9) (hk : 1 ≤ k ∧ k ≤ 4) (hn : 0 ≤ n ∧ n ≤ 99) :
    ready [⟨c, 1, 0, 1, []⟩] 1 c 1 k 0 = ([⟨c, 1, 0, 2, []⟩], noReply, true, 0) ∧
    keep [⟨c, 1, 0, 2, []⟩] 2 c k ⟨0, n, [120]⟩ = ([⟨c, 1, 0, 2, [⟨k, ⟨0, n, [120]⟩⟩]⟩], 0) ∧
    ready [⟨c, 1, 0, 2, [⟨k, ⟨0, n, [120]⟩⟩]⟩] 2 c 1 k 0 = ([⟨c, 1, 0, 3, [⟨k, ⟨0, n, [120]⟩⟩]⟩], ⟨0, n, [120]⟩, false, 0) ∧
    ready [⟨c, 1, 0, 3, [⟨k, ⟨0, n, [120]⟩⟩]⟩] 3 c 1 (k + 1) k = ([⟨c, 1, k, 4, []⟩], noReply, true, 0) ∧
    ready [⟨c, 1, k, 4, []⟩] 4 c 1 k 0 = ([⟨c, 1, k, 5, []⟩], ⟨12, 0, []⟩, false, 0) ∧
    ready [⟨c, 1, 0, 3, [⟨k, ⟨0, n, [120]⟩⟩]⟩] 3 c 2 (k + 1) k = ([⟨c, 1, 0, 3, [⟨k, ⟨0, n, [120]⟩⟩]⟩], ⟨11, 0, []⟩, false, 0) := by
  have hb : ∀ (i a la : Int) (rs : List KeptD), 0 ≤ a → a ≤ 4 → 1 ≤ la → la ≤ i → ¬ sessBad i ⟨c, 1, a, la, rs⟩ := by
    intro i a la rs h1 h2 h3 h4; unfold sessBad; simp; omega
  have hr : ∀ la : Int, replies ⟨c, 1, 0, la, [⟨k, ⟨0, n, [120]⟩⟩]⟩ = true := fun la => one_replies (by omega) (by simp <;> omega)
  refine ⟨?_, ?_, ?_, ?_, ?_, ?_⟩
  · rw [show c = (⟨c, 1, 0, 1, []⟩ : SessionD).client from rfl, one_ready (by omega) (hb _ _ _ _ (by omega) (by omega) (by omega) (by omega)) rfl (by omega) rfl]
    rw [readyS_same (by simp)]
    have h1 : fIdx (fun x : KeptD => x.seq == k) [] = -1 := rfl
    have : readyT ⟨c, 1, 0, 2, []⟩ k = (noReply, true) := by
      rw [readyT, if_neg (by simp <;> omega), if_neg (by rw [h1]; simp), if_neg (by simp <;> omega)]
    exact congrArg (fun p : ReplyD × Bool => (([⟨c, 1, 0, 2, []⟩] : List SessionD), p.1, p.2, (0 : Int))) this
  · exact one_keep (by omega) (hb _ _ _ _ (by omega) (by omega) (by omega) (by omega)) (hr _)
  · rw [show c = (⟨c, 1, 0, 2, [⟨k, ⟨0, n, [120]⟩⟩]⟩ : SessionD).client from rfl, one_ready (by omega) (hb _ _ _ _ (by omega) (by omega) (by omega) (by omega)) (hr _) (by omega) rfl]
    rw [readyS_same (by simp)]
    have h1 : fIdx (fun x : KeptD => x.seq == k) [⟨k, ⟨0, n, [120]⟩⟩] = 0 := by simp [fIdx]
    have : readyT ⟨c, 1, 0, 3, [⟨k, ⟨0, n, [120]⟩⟩]⟩ k = (⟨0, n, [120]⟩, false) := by
      rw [readyT, if_neg (by simp <;> omega), if_pos (by rw [h1]; simp), h1]; rfl
    exact congrArg (fun p : ReplyD × Bool => (([⟨c, 1, 0, 3, [⟨k, ⟨0, n, [120]⟩⟩]⟩] : List SessionD), p.1, p.2, (0 : Int))) this
  · rw [show c = (⟨c, 1, 0, 3, [⟨k, ⟨0, n, [120]⟩⟩]⟩ : SessionD).client from rfl, one_ready (by omega) (hb _ _ _ _ (by omega) (by omega) (by omega) (by omega)) (hr _) (by omega) rfl]
    rw [readyS_acked (show (0 : Int) < k by omega)]
    have h0 : ([⟨k, ⟨0, n, [120]⟩⟩] : List KeptD).filter (fun x => !decide (x.seq ≤ k)) = [] := by simp
    have h1 : fIdx (fun x : KeptD => x.seq == k + 1) [] = -1 := rfl
    simp only [h0]
    have : readyT ⟨c, 1, k, 4, []⟩ (k + 1) = (noReply, true) := by
      rw [readyT, if_neg (by simp <;> omega), if_neg (by rw [h1]; simp), if_neg (by simp <;> omega)]
    exact congrArg (fun p : ReplyD × Bool => (([⟨c, 1, k, 4, []⟩] : List SessionD), p.1, p.2, (0 : Int))) this
  · rw [show c = (⟨c, 1, k, 4, []⟩ : SessionD).client from rfl, one_ready (by omega) (hb _ _ _ _ (by omega) (by omega) (by omega) (by omega)) rfl (by omega) rfl]
    rw [readyS_same (by show ¬ k < 0; omega)]
    have : readyT ⟨c, 1, k, 5, []⟩ k = (⟨12, 0, []⟩, false) := by
      rw [readyT, if_pos (by simp)]
    exact congrArg (fun p : ReplyD × Bool => (([⟨c, 1, k, 5, []⟩] : List SessionD), p.1, p.2, (0 : Int))) this
  · rw [show c = (⟨c, 1, 0, 3, [⟨k, ⟨0, n, [120]⟩⟩]⟩ : SessionD).client from rfl, one_away (by omega) (hb _ _ _ _ (by omega) (by omega) (by omega) (by omega)) (hr _) (by omega) (show (1 : Int) ≠ 2 by decide)]
end Go.Tk

/- Package pair as plain functions. No program in sight. -/
namespace Go.Tk
open Go Go.RowKit

def prErr (l : List PairD) (i : Nat) : Int :=
  if lkName (l.getD i noPair).name = false then 4
  else if 12 < (l.getD i noPair).value.length then 1
  else if (l.getD i noPair).version < 1 ∨ 1073741824 < (l.getD i noPair).version then 2
  else if 0 < i ∧ Op.bytesLess (l.getD (i - 1) noPair).name (l.getD i noPair).name = false then 14
  else 0
def prCheck (l : List PairD) : Int := if 5 < l.length then 1 else firstErr (prErr l) l.length
structure PrOne (x : PairD) : Prop where
  name : lkName x.name = true
  size : x.value.length ≤ 12
  vers : 1 ≤ x.version ∧ x.version ≤ 1073741824
structure PrOk (l : List PairD) : Prop where
  len : l.length ≤ 5
  one : ∀ x ∈ l, PrOne x
  names : lsorted (l.map (·.name))
theorem getD_at {α : Type} {l : List α} {d : α} {i : Nat} (h : i < l.length) : l.getD i d = l[i] := by simp [List.getD, h]
theorem prCheck_ok {l : List PairD} : prCheck l = 0 ↔ PrOk l := by
  rw [prCheck]
  constructor
  · intro h
    split at h
    · cases h
    · have hz := firstErr_zero.1 h
      have hg : ∀ i, i < l.length → PrOne (l.getD i noPair) ∧ (0 < i → Op.bytesLess (l.getD (i - 1) noPair).name (l.getD i noPair).name = true) := by
        intro i hi
        have := hz i hi
        rw [prErr] at this
        split at this; · cases this
        split at this; · cases this
        split at this; · cases this
        split at this; · cases this
        rename_i a b c d
        refine ⟨⟨by simpa using a, by omega, by omega⟩, fun h0 => ?_⟩
        cases hb : Op.bytesLess (l.getD (i - 1) noPair).name (l.getD i noPair).name
        · exact absurd ⟨h0, hb⟩ d
        · rfl
      refine ⟨by omega, fun x hx => ?_, lsorted_of fun i h0 hi => ?_⟩
      · obtain ⟨i, hi, rfl⟩ := mem_getD l x noPair hx
        exact (hg i hi).1
      · rw [List.length_map] at hi
        have := (hg i hi).2 h0
        rw [getD_at (show i - 1 < l.length by omega), getD_at hi] at this
        simpa using this
  · intro h
    rw [if_neg (by have := h.len; omega)]
    refine firstErr_zero.2 fun i hi => ?_
    have hm := h.one _ (getD_mem l i noPair hi)
    rw [prErr, if_neg (by rw [hm.name]; decide), if_neg (by have := hm.size; omega), if_neg (by have := hm.vers; omega), if_neg]
    rintro ⟨h0, hb⟩
    have := List.pairwise_iff_getElem.1 h.names (i - 1) i (by rw [List.length_map]; omega) (by rw [List.length_map]; exact hi) (by omega)
    rw [getD_at (show i - 1 < l.length by omega), getD_at hi] at hb
    simp only [List.getElem_map] at this
    rw [hb] at this; cases this

def pairCmp (x : PairD) (t : List UInt8) : Int := Lib.compareBytes x.name t
def pFind (l : List PairD) (t : List UInt8) : Nat := bs (fun i => pairCmp (l.getD i noPair) t) l.length
def pThere (l : List PairD) (t : List UInt8) : Bool := bsFound (fun i => pairCmp (l.getD i noPair) t) l.length
theorem pThere_lt {l : List PairD} {t : List UInt8} (h : pThere l t = true) : pFind l t < l.length := by
  simp only [pThere, bsFound, Bool.and_eq_true, decide_eq_true_eq] at h; exact h.1
theorem pFind_spec {l : List PairD} (h : PrOk l) (t : List UInt8) : (∀ i (hi : i < l.length), i < pFind l t → Op.bytesLess l[i].name t = true) ∧ (∀ i (hi : i < l.length), pFind l t ≤ i → Op.bytesLess l[i].name t = false) := by
  have hn := List.pairwise_iff_getElem.1 h.names
  have hg : ∀ i (hi : i < l.length), l.getD i noPair = l[i] := fun i hi => getD_at hi
  obtain ⟨h1, h2⟩ := bs_spec (f := fun i => pairCmp (l.getD i noPair) t) (N := l.length) fun i j hij hj hf => by
    have h3 := hn i j (by rw [List.length_map]; omega) (by rw [List.length_map]; exact hj) hij
    simp only [List.getElem_map] at h3
    simp only [pairCmp, hg i (by omega), hg j hj] at hf ⊢
    exact (less_iff _ _).1 (less_trans _ _ _ h3 ((less_iff _ _).2 hf))
  refine ⟨fun i hi hlt => ?_, fun i hi hge => ?_⟩
  · have := h1 i hlt
    simp only [pairCmp, hg i hi] at this
    exact (less_iff _ _).2 this
  · have := h2 i hge hi
    simp only [pairCmp, hg i hi] at this
    cases hb : Op.bytesLess l[i].name t
    · rfl
    · exact absurd ((less_iff _ _).1 hb) this
theorem pThere_name {l : List PairD} {t : List UInt8} (h : pThere l t = true) : (l[pFind l t]'(pThere_lt h)).name = t := by
  have hlt := pThere_lt h
  simp only [pThere, bsFound, Bool.and_eq_true, beq_iff_eq] at h
  have h2 : pairCmp (l.getD (pFind l t) noPair) t = 0 := h.2
  rw [getD_at hlt] at h2
  exact compare_eq _ _ h2
theorem pThere_no {l : List PairD} {t : List UInt8} (h : PrOk l) (hf : pThere l t = false) : ∀ x ∈ l, x.name ≠ t := by
  intro x hx hxt
  obtain ⟨j, hj, rfl⟩ := List.getElem_of_mem hx
  obtain ⟨h1, h2⟩ := pFind_spec h t
  have hnj : Op.bytesLess l[j].name t = false := by rw [hxt]; exact less_irrefl _
  have hge : pFind l t ≤ j := by
    rcases Nat.lt_or_ge j (pFind l t) with h3 | h3
    · rw [h1 j hj h3] at hnj; cases hnj
    · exact h3
  have heq : pFind l t = j := by
    rcases Nat.lt_or_ge (pFind l t) j with h3 | h3
    · have h4 := List.pairwise_iff_getElem.1 h.names (pFind l t) j (by rw [List.length_map]; omega) (by rw [List.length_map]; exact hj) h3
      simp only [List.getElem_map] at h4
      rw [hxt, h2 _ (by omega) (Nat.le_refl _)] at h4
      cases h4
    · omega
  have : pThere l t = true := by
    show (decide (pFind l t < l.length) && (pairCmp (l.getD (pFind l t) noPair) t == 0)) = true
    rw [heq, getD_at hj, pairCmp, hxt, compare_self]
    simp [hj]
  rw [this] at hf; cases hf
theorem PrOk.set {l : List PairD} (h : PrOk l) {i : Nat} (hi : i < l.length) {x : PairD} (hx : PrOne x) (hn : x.name = l[i].name) : PrOk (l.set i x) := by
  refine ⟨by rw [List.length_set]; exact h.len, fun y hy => ?_, ?_⟩
  · rcases List.mem_or_eq_of_mem_set hy with h1 | h1
    · exact h.one y h1
    · rw [h1]; exact hx
  · rw [List.map_set, hn]
    have : (l.map (·.name)).set i l[i].name = l.map (·.name) := by
      rw [show l[i].name = (l.map (·.name))[i]'(by rw [List.length_map]; exact hi) by simp]
      exact List.set_getElem_self _
    rw [this]; exact h.names
theorem PrOk.insert {l : List PairD} (h : PrOk l) {x : PairD} (hx : PrOne x) (hlen : l.length < 5) (hno : pThere l x.name = false) : PrOk (l.take (pFind l x.name) ++ x :: l.drop (pFind l x.name)) := by
  obtain ⟨h1, h2⟩ := pFind_spec h x.name
  have hne := pThere_no h hno
  have hfl : pFind l x.name ≤ l.length := bs_le _ _
  refine ⟨by simp; omega, fun y hy => ?_, ?_⟩
  · rcases List.mem_append.1 hy with hy | hy
    · exact h.one y (List.mem_of_mem_take hy)
    · rcases List.mem_cons.1 hy with rfl | hy
      · exact hx
      · exact h.one y (List.mem_of_mem_drop hy)
  · have hn := h.names
    have hd : ∀ y ∈ l.drop (pFind l x.name), Op.bytesLess x.name y.name = true := fun y hy => by
      obtain ⟨j, hj, rfl⟩ := List.getElem_of_mem hy
      rw [List.length_drop] at hj
      rw [List.getElem_drop]
      exact less_total _ _ (h2 _ (by omega) (by omega)) (hne _ (List.getElem_mem _))
    have ht : ∀ y ∈ l.take (pFind l x.name), Op.bytesLess y.name x.name = true := fun y hy => by
      obtain ⟨j, hj, rfl⟩ := List.getElem_of_mem hy
      rw [List.length_take] at hj
      rw [List.getElem_take]
      exact h1 _ (by omega) (by omega)
    rw [List.map_append, List.map_cons]
    refine List.pairwise_append.2 ⟨?_, List.pairwise_cons.2 ⟨fun n hn' => ?_, ?_⟩, fun a ha b hb => ?_⟩
    · rw [List.map_take]; exact hn.sublist (List.take_sublist _ _)
    · obtain ⟨y, hy, rfl⟩ := List.mem_map.1 hn'
      exact hd y hy
    · rw [List.map_drop]; exact hn.sublist (List.drop_sublist _ _)
    · obtain ⟨y, hy, rfl⟩ := List.mem_map.1 ha
      rcases List.mem_cons.1 hb with rfl | hb
      · exact ht y hy
      · obtain ⟨z, hz, rfl⟩ := List.mem_map.1 hb
        exact less_trans _ _ _ (ht y hy) (hd z hz)

/-- A value is set. -/
def prSet (l : List PairD) (name value : List UInt8) : List PairD × ReplyD × Int :=
  if prCheck l ≠ 0 then ([], noReply, prCheck l)
  else if lkName name = false then ([], noReply, 4)
  else if 12 < value.length then ([], noReply, 1)
  else if pThere l name = false then
    (if l.length = 5 then (l, ⟨8, 0, []⟩, 0) else (l.take (pFind l name) ++ ⟨name, value, 1⟩ :: l.drop (pFind l name), ⟨0, 1, []⟩, 0))
  else if (l.getD (pFind l name) noPair).version = 1073741824 then (l, ⟨8, 0, []⟩, 0)
  else (l.set (pFind l name) ⟨(l.getD (pFind l name) noPair).name, value, (l.getD (pFind l name) noPair).version + 1⟩, ⟨0, (l.getD (pFind l name) noPair).version + 1, []⟩, 0)
/-- A value is got. -/
def prGet (l : List PairD) (name : List UInt8) : ReplyD × Int :=
  if prCheck l ≠ 0 then (noReply, prCheck l)
  else if pThere l name = false then (⟨6, 0, []⟩, 0)
  else (⟨0, (l.getD (pFind l name) noPair).version, (l.getD (pFind l name) noPair).value⟩, 0)
theorem set_ok {l : List PairD} {name value : List UInt8} (h : PrOk l) (hn : lkName name = true) (hv : value.length ≤ 12) : PrOk (prSet l name value).1 ∧ (prSet l name value).2.2 = 0 := by
  rw [prSet, if_neg (by rw [prCheck_ok.2 h]; simp), if_neg (by rw [hn]; decide), if_neg (by omega)]
  split
  · rename_i ht
    split
    · exact ⟨h, rfl⟩
    · exact ⟨h.insert (x := ⟨name, value, 1⟩) ⟨hn, hv, by simp⟩ (by have := h.len; omega) ht, rfl⟩
  · rename_i ht
    have ht' : pThere l name = true := by simpa using ht
    have hlt := pThere_lt ht'
    split
    · exact ⟨h, rfl⟩
    · rename_i hm
      rw [getD_at hlt] at hm ⊢
      have h1 := h.one _ (List.getElem_mem hlt)
      have h2 := h1.vers
      exact ⟨h.set hlt ⟨h1.name, hv, by simp only; omega⟩ rfl, rfl⟩
end Go.Tk
