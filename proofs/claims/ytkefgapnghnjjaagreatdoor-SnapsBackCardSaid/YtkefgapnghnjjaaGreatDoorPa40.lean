/- A part of the proof, laid together from: RepQ, SnapsBack, Raw, RawT. -/
import Derived.Test.YtkefgapnghnjjaaGreatDoorPa09
import Derived.Test.YtkefgapnghnjjaaGreatDoorPa39
import Derived.Test.YtkefgapnghnjjaaGreatDoorPa21
import Derived.Test.YtkefgapnghnjjaaGreatDoorPa15
import Derived.Test.YtkefgapnghnjjaaGreatDoorPa01
import Derived.Test.YtkefgapnghnjjaaGreatDoorPa04
import Derived.Deep.Slices
import Derived.Deep.Fields
import Derived.ChangeSame
import Derived.OpenShut
import Derived.Test.YtkefgapnghnjjaaGreatDoorRows
import Derived.KernelRfl
set_option linter.unusedSimpArgs false
set_option linter.unusedVariables false
/- Replicas and what is committed, as plain data: a replica is its base, its entries, how far it has applied. No program in sight. -/
namespace Go.Tk
open Go Go.RowKit

/-- A state as a snapshot. -/
def snapB (s : StateD) : Bytes := encState s ++ sealB (encState s)
/-- The state after the first i entries. -/
def stK (K : List Bytes) (i : Nat) : StateD := (applied (K.take i)).1
structure ReplicaD where
  log : LogD
  snap : Bytes
  state : StateD
def noReplica : ReplicaD := ⟨noLog, [], noState⟩
/-- The state that a replica's snapshot tells. -/
def SnapOf (base : Int) (snap : Bytes) (ks : StateD) : Prop := (base = 0 ∧ snap = [] ∧ ks = noState) ∨ (base ≠ 0 ∧ StOk ks ∧ ks.index = base ∧ snap = snapB ks)
/-- A replica that may be; the state of its snapshot. -/
structure RepFine (r : ReplicaD) (ks : StateD) : Prop where
  log : LogOk r.log
  st : StOk r.state
  at_ : r.log.base ≤ r.state.index ∧ r.state.index ≤ logLast r.log
  kept : SnapOf r.log.base r.snap ks
theorem dec_len {s : Bytes} (h : decErr s = 0) : s.length ≤ 5000 := by
  apply Classical.byContradiction
  intro hn
  rw [decErr, cmdDecode, if_pos (by omega)] at h
  cases h
theorem LogOk.small {l : LogD} (h : LogOk l) : ∀ s ∈ l.entries, s.length ≤ 1000000 := fun s hs => by have := dec_len (h.all s hs); omega
structure RA where
  b : Nat
  es : List Bytes
  i : Nat
def ra0 : RA := ⟨0, [], 0⟩
def raLast (a : RA) : Nat := a.b + a.es.length
def raSnap (K : List Bytes) (a : RA) : Bytes := if a.b = 0 then [] else snapB (stK K a.b)
/-- Entries that are committed. -/
structure KOk (K : List Bytes) : Prop where
  dec : ∀ s ∈ K, decErr s = 0
  len : K.length ≤ 400
/-- A replica that may be, n acts being done. -/
structure RaOk (K : List Bytes) (n : Nat) (a : RA) : Prop where
  bi : a.b ≤ a.i
  iK : a.i ≤ K.length
  il : a.i ≤ raLast a
  ln : raLast a ≤ n
  ent : a.es.take (a.i - a.b) = (K.drop a.b).take (a.i - a.b)
  dec : ∀ s ∈ a.es, decErr s = 0
theorem stK_all {K : List Bytes} (h : ∀ s ∈ K, decErr s = 0) (hl : K.length ≤ 1000000) {i : Nat} (hi : i ≤ K.length) : applied (K.take i) = (stK K i, true) ∧ StOk (stK K i) ∧ (stK K i).index = i ∧ Held (stK K i).locks (stK K i).sessions := by
  obtain ⟨t, h1, h2, h3, h4⟩ := applied_ok (l := K.take i) (fun x hx => h x (List.mem_of_mem_take hx)) (by rw [List.length_take]; omega)
  have e : stK K i = t := by rw [stK, h1]
  rw [e]
  exact ⟨h1, h2, by rw [h3, List.length_take]; omega, h4⟩
theorem stK_ok {K : List Bytes} (h : KOk K) {i : Nat} (hi : i ≤ K.length) : StOk (stK K i) ∧ (stK K i).index = i := by
  have := h.len
  obtain ⟨-, h2, h3, -⟩ := stK_all h.dec (by omega) hi
  exact ⟨h2, h3⟩
theorem stK_zero (K : List Bytes) : stK K 0 = noState := rfl
theorem stK_mono {K K' : List Bytes} (h : K <+: K') {i : Nat} (hi : i ≤ K.length) : stK K' i = stK K i := by
  obtain ⟨t, rfl⟩ := h
  rw [stK, stK, List.take_append_of_le_length hi]
theorem stK_next {K : List Bytes} (h : ∀ s ∈ K, decErr s = 0) (hl : K.length ≤ 1000000) {i : Nat} (hi : i < K.length) : (maApply (stK K i) (K.getD i [])).2.2 = 0 ∧ stK K (i + 1) = (maApply (stK K i) (K.getD i [])).1 ∧
    ApplyTo (stK K i) (cmdDecode (K.getD i [])).1 (stK K (i + 1)) ∧ ReplyOk (maApply (stK K i) (K.getD i [])).2.1 := by
  obtain ⟨h1, h2, h3, -⟩ := stK_all h hl (Nat.le_of_lt hi)
  have hd : decErr (K.getD i []) = 0 := h _ (getD_mem K i [] hi)
  obtain ⟨h4, h5, h6⟩ := apply_ok h2 (by omega) hd
  have e : K.take (i + 1) = K.take i ++ [K.getD i []] := by rw [List.take_succ_eq_append_getElem hi]; simp [List.getD, hi]
  have e2 : stK K (i + 1) = (maApply (stK K i) (K.getD i [])).1 := by
    rw [stK, e, applied, appliedGo_append _ _ _ _ h1, appliedGo, if_neg (by rw [h4]; simp), appliedGo]
  exact ⟨h4, e2, by rw [e2]; exact h5, h6⟩
theorem RaOk.len {K : List Bytes} {n : Nat} {a : RA} (h : RaOk K n a) : a.es.length ≤ n := by have := h.ln; unfold raLast at this; omega
theorem RaOk.log {K : List Bytes} {n : Nat} {a : RA} (h : RaOk K n a) (hn : n ≤ 400) : LogOk ⟨a.b, a.es⟩ := by
  have h1 := h.len; have h2 := h.ln; unfold raLast at h2
  exact ⟨⟨by simp, by simp only; omega⟩, by simp only; omega, h.dec⟩
theorem RaOk.state {K : List Bytes} {n : Nat} {a : RA} (h : RaOk K n a) (hK : KOk K) : StOk (stK K a.i) ∧ (stK K a.i).index = a.i := stK_ok hK h.iK
theorem RaOk.more {K K' : List Bytes} {n n' : Nat} {a : RA} (h : RaOk K n a) (hK : K <+: K') (hn : n ≤ n') : RaOk K' n' a := by
  have h1 := h.bi; have h2 := h.iK; have h3 := h.il; have h4 := h.ln
  obtain ⟨t, rfl⟩ := hK
  refine ⟨h1, by rw [List.length_append]; omega, h3, by omega, ?_, h.dec⟩
  rw [h.ent, List.drop_append_of_le_length (by omega), List.take_append_of_le_length (by rw [List.length_drop]; omega)]
theorem raSnap_mono {K K' : List Bytes} (h : K <+: K') {a : RA} (hi : a.b ≤ K.length) : raSnap K' a = raSnap K a := by
  rw [raSnap, raSnap, stK_mono h hi]
theorem ra0_ok (K : List Bytes) (n : Nat) : RaOk K n ra0 := ⟨by simp [ra0], by simp [ra0], by simp [ra0], by simp [ra0, raLast], by simp [ra0], by simp [ra0]⟩

def raRep (K : List Bytes) (a : RA) : ReplicaD := ⟨⟨a.b, a.es⟩, raSnap K a, stK K a.i⟩
theorem RaOk.fine {K : List Bytes} {n : Nat} {a : RA} (h : RaOk K n a) (hK : KOk K) (hn : n ≤ 400) : RepFine (raRep K a) (stK K a.b) := by
  have h1 := h.bi; have h2 := h.iK; have h3 := h.il; have h4 := h.ln
  obtain ⟨s1, s2⟩ := h.state hK
  obtain ⟨k1, k2⟩ := stK_ok hK (i := a.b) (by omega)
  unfold raLast at h3
  refine ⟨h.log hn, s1, ?_, ?_⟩
  · show (a.b : Int) ≤ (stK K a.i).index ∧ (stK K a.i).index ≤ (a.b : Int) + a.es.length
    rw [s2]; omega
  · show SnapOf (a.b : Int) (raSnap K a) (stK K a.b)
    by_cases hb : a.b = 0
    · rw [raSnap, if_pos hb, hb]; exact .inl ⟨rfl, rfl, stK_zero K⟩
    · rw [raSnap, if_neg hb]; exact .inr ⟨by omega, k1, k2, rfl⟩

/-! What a replica does. -/
def raPut (a : RA) (from_ : Nat) (more : List Bytes) : RA := ⟨a.b, (putGo more (from_ - a.b) a.es).1, a.i⟩
def raCompact (a : RA) : RA := ⟨a.i, a.es.drop (a.i - a.b), a.i⟩
def raRestart (a : RA) : RA := ⟨a.b, a.es, a.b⟩
def raInstall (a : RA) (lb : Nat) : RA := ⟨lb, if lb ≤ raLast a then a.es.drop (lb - a.b) else [], lb⟩
def raApply (a : RA) (upto : Nat) : RA := ⟨a.b, a.es, upto⟩
/-- The mail that tells what came of entry j. -/
def mailK (K : List Bytes) (j : Nat) : MailD := ⟨(cmdDecode (K.getD j [])).1.client, (cmdDecode (K.getD j [])).1.seq, (maApply (stK K j) (K.getD j [])).2.1⟩
theorem mailK_mono {K K' : List Bytes} (h : K <+: K') {j : Nat} (hj : j < K.length) : mailK K' j = mailK K j := by
  rw [mailK, mailK, stK_mono h (Nat.le_of_lt hj)]
  obtain ⟨t, rfl⟩ := h
  have : (K ++ t).getD j [] = K.getD j [] := by simp [List.getD, List.getElem?_append_left hj]
  rw [this]
def mailsK (K : List Bytes) (i upto : Nat) : List MailD := (List.range (upto - i)).map fun j => mailK K (i + j)
theorem mailsK_len (K : List Bytes) (i u : Nat) : (mailsK K i u).length = u - i := by simp [mailsK]
theorem mailsK_next (K : List Bytes) {i u : Nat} (h : i ≤ u) : mailsK K i (u + 1) = mailsK K i u ++ [mailK K u] := by
  rw [mailsK, show u + 1 - i = (u - i) + 1 by omega, List.range_succ, List.map_append, List.map_cons, List.map_nil, mailsK, show i + (u - i) = u by omega]
theorem RaOk.put {K : List Bytes} {n n' : Nat} {a : RA} (h : RaOk K n a) {f : Nat} {more : List Bytes} (hm : ∀ s ∈ more, decErr s = 0) (hf : a.i ≤ f) (hfl : f ≤ raLast a) (hn : n ≤ n') (hl : f + more.length ≤ n') :
    RaOk K n' (raPut a f more) ∧ (putGo more (f - a.b) a.es).2 = 0 ∧ f + more.length ≤ raLast (raPut a f more) ∧ (raPut a f more).es.take (f - a.b + more.length) = a.es.take (f - a.b) ++ more := by
  have h1 := h.bi; have h2 := h.iK; have h3 := h.il; have h4 := h.ln
  unfold raLast at *
  obtain ⟨o, o1, o2, o3, o4, o5⟩ := putGo_spec more (f - a.b) a.es hm (by omega)
  have e : raPut a f more = ⟨a.b, o, a.i⟩ := by rw [raPut, o1]
  rw [e, o1]
  refine ⟨⟨h1, h2, by show a.i ≤ a.b + o.length; omega, by show a.b + o.length ≤ _; omega, ?_, fun s hs => (o5 s hs).elim (h.dec s) (hm s)⟩, rfl, by show _ ≤ a.b + o.length; omega, o4⟩
  show o.take (a.i - a.b) = _
  rw [← h.ent]
  have := congrArg (List.take (a.i - a.b)) o4
  rw [List.take_take, List.take_append_of_le_length (by rw [List.length_take]; omega), List.take_take] at this
  rw [show min (a.i - a.b) (f - a.b + more.length) = a.i - a.b by omega, show min (a.i - a.b) (f - a.b) = a.i - a.b by omega] at this
  exact this
theorem RaOk.compact {K : List Bytes} {n : Nat} {a : RA} (h : RaOk K n a) : RaOk K n (raCompact a) := by
  have h1 := h.bi; have h2 := h.iK; have h3 := h.il; have h4 := h.ln
  unfold raLast at *
  refine ⟨Nat.le_refl _, h2, by simp [raCompact, raLast], ?_, by simp [raCompact], fun s hs => h.dec s (List.mem_of_mem_drop hs)⟩
  simp only [raCompact, raLast, List.length_drop]; omega
theorem RaOk.restart {K : List Bytes} {n : Nat} {a : RA} (h : RaOk K n a) : RaOk K n (raRestart a) := by
  have h1 := h.bi; have h2 := h.iK; have h3 := h.il; have h4 := h.ln
  unfold raLast at *
  exact ⟨Nat.le_refl _, by simp only [raRestart]; omega, by simp [raRestart, raLast], by simp only [raRestart, raLast]; omega, by simp [raRestart], h.dec⟩
theorem RaOk.install {K : List Bytes} {n : Nat} {a : RA} (h : RaOk K n a) {lb : Nat} (hb : a.i < lb) (hK : lb ≤ K.length) (hn : lb ≤ n) : RaOk K n (raInstall a lb) := by
  have h1 := h.bi; have h2 := h.iK; have h3 := h.il; have h4 := h.ln
  unfold raLast at *
  refine ⟨Nat.le_refl _, hK, by simp [raInstall, raLast], ?_, by simp [raInstall], fun s hs => ?_⟩
  · show lb + (if lb ≤ a.b + a.es.length then List.drop (lb - a.b) a.es else []).length ≤ n
    by_cases hc : lb ≤ a.b + a.es.length
    · rw [if_pos hc, List.length_drop]; omega
    · rw [if_neg hc, List.length_nil]; omega
  · simp only [raInstall] at hs
    split at hs
    · exact h.dec s (List.mem_of_mem_drop hs)
    · cases hs
theorem RaOk.apply {K : List Bytes} {n : Nat} {a : RA} (h : RaOk K n a) {u : Nat} (hi : a.i ≤ u) (hK : u ≤ K.length) (hl : u ≤ raLast a) (he : a.es.take (u - a.b) = (K.drop a.b).take (u - a.b)) : RaOk K n (raApply a u) :=
  ⟨by have := h.bi; simp only [raApply]; omega, hK, hl, h.ln, he, h.dec⟩
/-- An entry of a replica that is committed. -/
theorem ent_at {K es : List Bytes} {b u j : Nat} (he : es.take (u - b) = (K.drop b).take (u - b)) (h1 : b ≤ j) (h2 : j < u) (hl : u ≤ b + es.length) : es.getD (j - b) [] = K.getD j [] := by
  have h := congrArg (fun l => l[j - b]?) he
  simp only [List.getElem?_take, List.getElem?_drop] at h
  rw [if_pos (by omega), if_pos (by omega), show b + (j - b) = j by omega] at h
  simp [List.getD, h]
end Go.Tk

/- SnapsBack: a state is read as it was written; spoilt it is not; no condition. -/
namespace Go.Tk
open Go Go.RowKit
theorem snapB_len {s : StateD} (h : StOk s) : 4 ≤ (snapB s).length ∧ (snapB s).length ≤ 4004 := by
  have := encState_len h
  have h4 := seal_len (encState s)
  rw [snapB, List.length_append, h4]; omega
theorem snapB_kept {s : StateD} (h : StOk s) : sealB ((snapB s).take ((snapB s).length - 4)) = (snapB s).drop ((snapB s).length - 4) := by
  have h4 := seal_len (encState s)
  have e1 : (snapB s).length - 4 = (encState s).length := by rw [snapB, List.length_append, h4]; omega
  rw [e1, snapB, List.take_left' rfl, List.drop_left' rfl]
theorem sum_spoilt {s : StateD} (i : Nat) (c : UInt8) (hi : i < (snapB s).length) (hc : c ≠ (snapB s)[i]) : sealB (((snapB s).set i c).take ((snapB s).length - 4)) ≠ ((snapB s).set i c).drop ((snapB s).length - 4) := by
  have h4 := seal_len (encState s)
  have e1 : (snapB s).length - 4 = (encState s).length := by rw [snapB, List.length_append, h4]; omega
  rw [e1]
  intro hs
  unfold snapB at hi hc hs
  simp only [List.length_append, h4] at hi
  rcases Nat.lt_or_ge i (encState s).length with hlt | hge
  · rw [List.set_append_left _ _ hlt, List.take_left' (by simp), List.drop_left' (by simp)] at hs
    refine seal_spoilt (encState s) i c hlt ?_ hs
    rw [List.getElem_append_left hlt] at hc
    exact hc
  · rw [List.set_append_right _ _ hge, List.take_left' rfl, List.drop_left' rfl] at hs
    have hlt2 : i - (encState s).length < (sealB (encState s)).length := by omega
    have := congrArg (fun l => l[i - (encState s).length]?) hs
    simp only [List.getElem?_set_self hlt2, List.getElem?_eq_getElem hlt2, Option.some.injEq] at this
    rw [List.getElem_append_right hge] at hc
    exact hc this.symm
/-- Bytes that may be written. -/
structure BytesAt (w : World) (b : Nat) (l : List UInt8) : Prop where
  cell : ∀ (i : Nat) (x : UInt8), l[i]? = some x → w.cell? ⟨b, i, none⟩ = some (.int .u8 x.toNat)
  thaw : ∀ i, i < l.length → w.frozen? ⟨b, i, none⟩ = false
  lt : b < w.heap.size
theorem BytesAt.below {w w' : World} {b : Nat} {l : List UInt8} (h : BytesAt w b l) (hb : Below w.heap.size w w') : BytesAt w' b l :=
  ⟨fun i x hx => cell_keep (h.cell i x hx) (hb.block b h.lt), fun i hi => (World.frozen?_of_block (a := ⟨b, i, none⟩) (hb.block b h.lt)).trans (h.thaw i hi), Nat.lt_of_lt_of_le h.lt hb.size⟩
theorem BytesAt.set {w : World} {b : Nat} {l : List UInt8} (h : BytesAt w b l) (k : Nat) (c : UInt8) (hk : k < l.length) : BytesAt (w.setCell ⟨b, k, none⟩ (.int .u8 c.toNat)) b (l.set k c) := by
  refine ⟨fun i x hx => ?_, fun i hi => (World.frozen?_setCell _ _ _ _).trans (h.thaw i (by simpa using hi)), by rw [World.size_setCell]; exact h.lt⟩
  by_cases hki : k = i
  · subst hki
    rw [List.getElem?_set_self hk] at hx
    cases hx
    exact World.cell?_setCell_same w ⟨b, k, none⟩ _ (h.cell k _ (List.getElem?_eq_getElem hk))
  · rw [List.getElem?_set_ne hki] at hx
    exact (cell_near hki).trans (h.cell i x hx)
theorem BytesAt.read {w : World} {b cap : Nat} {l : List UInt8} (h : BytesAt w b l) (h1 : l.length ≤ cap) (h2 : cap ≤ maxLen) : SlR 1 rByte w (.slice (some ⟨b, 0, none⟩) l.length cap) l (fun _ => True) :=
  ⟨_, _, rfl, h1, h2, (fun h => by cases h), fun i x hx => ⟨b, 0, [.int .u8 x.toNat], rfl, trivial, rfl, fun q u hu => by
    match q, hu with
    | 0, hu =>
      cases hu
      have := h.cell i x hx
      simpa using this⟩⟩
theorem conv_own {P : Program} (w : World) (src dst e : TypeId) (s : List UInt8) (hs : P.underlying src = some .string) (hd : P.underlying dst = some (.slice e)) (he : P.underlying e = some (.int .u8)) (hl : s.length ≤ 1000000) :
    ∃ cap w1, (convert src dst (.string ⟨s.toArray⟩)).run P w = .ok (.slice (some ⟨w.heap.size, 0, none⟩) s.length cap) w1 ∧ BytesAt w1 w.heap.size s ∧ s.length ≤ cap ∧ cap ≤ maxLen ∧ Below w.heap.size w w1 := by
  have hsz : (⟨s.toArray⟩ : ByteArray).size = s.length := by simp [ByteArray.size]
  have hr := run_bytes_of_string (P := P) w src dst e ⟨s.toArray⟩ hs hd he
  rw [hsz] at hr
  have hcap := grownCap_ge w s.length 0 e
  refine ⟨_, _, hr, ⟨fun i x hx => ?_, fun i hi => ?_, ?_⟩, hcap, grownCap_le_maxLen w s.length 0 e (by unfold maxLen; omega), Below.alloc (Below.drew (Below.refl _ _)) (Nat.le_refl _) _⟩
  · refine Eq.trans (cells_take (w := w.drew.alloc _) (g := w.heap.size) (heap_alloc_new w.drew _) _) ?_
    have hi : i < s.length := by
      rcases Nat.lt_or_ge i s.length with h | h
      · exact h
      · rw [List.getElem?_eq_none h] at hx; cases hx
    rw [List.getElem?_eq_getElem hi] at hx
    simp only [Option.some.injEq] at hx
    simp [bytesRow, Array.getElem?_append, hi, hx]
  · refine (World.frozen?_alloc_mark w.drew _ _ _ _ i).trans ?_
    have : ¬ (bytesRow ⟨s.toArray⟩ (grownCap w s.length 0 e)).size ≤ i := by simp [bytesRow]; omega
    rw [decide_eq_false this, Bool.false_and]
  · rw [World.size_alloc]; exact Nat.lt_succ_self _
end Go.Tk
namespace Go.Proofs.YtkefgapnghnjjaaGreatDoor
open Go.RowKit Go.Tk

set_option linter.unusedSimpArgs false in
set_option maxRecDepth 100000 in
set_option maxHeartbeats 6400000 in
theorem snapsBack_calls (w : World) (l : List RawD) (v : Value) (S : Nat → Prop) (h : SlR 4 rRaw w v l S) (hr : ∀ x ∈ l, RawOk x) (at_ : Int) (ha1 : -9223372036854775808 ≤ at_) (ha2 : at_ ≤ 9223372036854775807) (by_ : Nat) (hy : by_ < 256) :
    Calls Tryz.prog 6 #[v, .int .i64 at_, .int .u8 by_] w fun e w' => e = .returned (.bool true) ∧ Below w.heap.size w w' := by
  obtain ⟨a0, cap0, hv, -, hm0, -, -⟩ := id h
  subst hv
  unfold maxLen at hm0
  have HH := Lib.hid h
  have HRR := Lib.hid hr
  clear h hr
  go_enter Tryz.func6, Tryz.ntmps6
  go_wp2_with fail
  refine (commands_calls l 60 (by omega) _ S _ HH.out HRR.out).mono ?_
  rintro e w1 ⟨v1, rfl, hs1, hb1⟩
  have hone1 := hs1.oneCell
  have HCL := Lib.hid (commandsP_len l 60 (by omega))
  have HAL := Lib.hid (commandsP_ok l 60 (by omega))
  have HB1 := Lib.hid hb1
  have HS1 := Lib.hid hs1
  clear hs1 hb1 HH HRR
  generalize commandsP l 60 = cs at *
  go_wp2_with fail
  refine (entries_calls cs HAL.out (by have := HCL.out; omega) v1 _ _ HS1.out).mono ?_
  rintro e w2 ⟨v2, rfl, hs2, hb2⟩
  have hone2 := hs2.oneCell
  have HDE := Lib.hid (entries_ok HAL.out)
  have HAA := Lib.hid (show (entriesP cs).length = min 60 l.length by rw [entriesP_len]; exact HCL.out)
  generalize entriesP cs = A at *
  have HB2 := Lib.hid (below_step HB1.out hb2)
  obtain ⟨t, ht, hok, -, -⟩ := applied_ok (l := A) HDE.out (by have := HAA.out; omega)
  have HAP := Lib.hid (applied_calls A v2 _ w2 hs2 HDE.out (by have := HAA.out; omega))
  clear HB1 HS1 HCL HAL hs2 hb2 HDE HAA
  go_wp2_with fail
  refine HAP.out.mono ?_
  rintro e w3 ⟨t', vl, vp, vs, ht', rfl, hst, hb3⟩
  rw [ht] at ht'
  obtain rfl : t = t' := (Prod.mk.inj ht').1
  obtain ⟨al, cl, rfl, -, -, -, -⟩ := id hst.lock; obtain ⟨ap, cp, rfl, -, -, -, -⟩ := id hst.pair; obtain ⟨az, cz, rfl, -, -, -, -⟩ := id hst.sess
  have HOK := Lib.hid hok
  have HB3 := Lib.hid (below_step HB2.out hb3)
  have HX := Lib.hid (BoxAt.new (w := w3) (cs := [.int .i64 t.index, .slice al t.locks.length cl, .slice ap t.pairs.length cp, .slice az t.sessions.length cz]) (E := 36))
  have hba := below_alloc w3 (.cells #[.int .i64 t.index, .slice al t.locks.length cl, .slice ap t.pairs.length cp, .slice az t.sessions.length cz] 36)
  have HS := Lib.hid (hst.below hba)
  replace HB3 := Lib.hid (below_step HB3.out hba)
  clear ht ht' hok HB2 hst hba hb3 HAP
  go_upto_region 2 with (fail)
  generalize w3.alloc (.cells #[.int .i64 t.index, .slice al t.locks.length cl, .slice ap t.pairs.length cp, .slice az t.sessions.length cz] 36) = w4 at *
  generalize w3.heap.size = B at *
  have b0 := HX.out.cell 0 _ rfl; have b1 := HX.out.cell 1 _ rfl; have b2 := HX.out.cell 2 _ rfl; have b3 := HX.out.cell 3 _ rfl
  go_wp2_with fail
  refine (encode_st_calls t _ _ _ _ w4 HS.out HOK.out).mono ?_
  rintro e w5 ⟨rfl, hb5⟩
  clear b0 b1 b2 b3
  replace HX := Lib.hid (HX.out.below hb5); replace HB3 := Lib.hid (below_step HB3.out hb5)
  clear hb5 HS
  have HD := Lib.hid (fun w => decode_st_calls t HOK.out w)
  have HSL := Lib.hid (snapB_len HOK.out)
  have HSK := Lib.hid (snapB_kept HOK.out)
  have HSP := Lib.hid (fun i c => sum_spoilt (s := t) i c)
  rw [show encState t ++ sealB (encState t) = snapB t from rfl] at HD ⊢
  have HE := Lib.hid (fun vl vp vs S w h => encode_st_calls t vl vp vs S w h HOK.out)
  rw [show encState t ++ sealB (encState t) = snapB t from rfl] at HE
  generalize snapB t = bs at *
  obtain ⟨hbs1, hbs2⟩ := HSL.out
  clear HSL
  go_wp2_with fail
  refine (HD.out w5).mono ?_
  rintro e w6 ⟨vl2, vp2, vs2, rfl, hst2, hb6⟩
  obtain ⟨al2, cl2, rfl, -, -, -, -⟩ := id hst2.lock; obtain ⟨ap2, cp2, rfl, -, -, -, -⟩ := id hst2.pair; obtain ⟨az2, cz2, rfl, -, -, -, -⟩ := id hst2.sess
  replace HX := Lib.hid (HX.out.below hb6); replace HB3 := Lib.hid (below_step HB3.out hb6)
  clear hb6
  have HY := Lib.hid (BoxAt.new (w := w6) (cs := [.int .i64 t.index, .slice al2 t.locks.length cl2, .slice ap2 t.pairs.length cp2, .slice az2 t.sessions.length cz2]) (E := 36))
  have hba := below_alloc w6 (.cells #[.int .i64 t.index, .slice al2 t.locks.length cl2, .slice ap2 t.pairs.length cp2, .slice az2 t.sessions.length cz2] 36)
  have HS := Lib.hid (hst2.below hba)
  replace HX := Lib.hid (HX.out.below hba); replace HB3 := Lib.hid (below_step HB3.out hba)
  clear hst2 hba
  go_upto_region 4 with (fail)
  generalize w6.alloc (.cells #[.int .i64 t.index, .slice al2 t.locks.length cl2, .slice ap2 t.pairs.length cp2, .slice az2 t.sessions.length cz2] 36) = w7 at *
  generalize w6.heap.size = B2 at *
  have b0 := HY.out.cell 0 _ rfl; have b1 := HY.out.cell 1 _ rfl; have b2 := HY.out.cell 2 _ rfl; have b3 := HY.out.cell 3 _ rfl
  go_wp2_with fail
  refine (HE.out _ _ _ _ w7 HS.out).mono ?_
  rintro e w8 ⟨rfl, hb8⟩
  clear b0 b1 b2 b3
  replace HX := Lib.hid (HX.out.below hb8); replace HY := Lib.hid (HY.out.below hb8); replace HB3 := Lib.hid (below_step HB3.out hb8)
  clear hb8 HS HE
  have hwC := HB3.out.size
  have hBC := HX.out.lt
  have hB2C := HY.out.lt
  obtain ⟨cap, w9, hcv, hby, hc1, hc2, hb9⟩ := conv_own (P := Tryz.prog) w8 _ _ _ bs Tryz.underlying9 Tryz.underlying85 Tryz.underlying5 (by omega)
  go_upto_region 6 with (fail)
  clear hcv
  replace HX := Lib.hid (HX.out.below hb9); replace HY := Lib.hid (HY.out.below hb9); replace HB3 := Lib.hid (below_step HB3.out hb9)
  have HBY := Lib.hid hby
  have hsz := hb9.size
  have HBB := Lib.hid hwC
  clear hwC
  clear hb9 hby
  generalize w8.heap.size = C at *
  obtain ⟨hp0, hp1⟩ := picked_in at_ (bs.length : Int) (by omega)
  obtain ⟨k, hk⟩ : ∃ k : Nat, picked at_ (bs.length : Int) = k := ⟨(picked at_ (bs.length : Int)).toNat, by omega⟩
  have HPK := Lib.hid ((picked_calls at_ (bs.length : Int) (by omega) (by omega) ha1 ha2 w9))
  rw [hk] at HPK hp0 hp1
  clear hk hp0
  have hkl : k < bs.length := by omega
  go_upto_region 8 with (fail)
  have q0 := HBY.out.cell k bs[k] (List.getElem?_eq_getElem hkl)
  have qt := HBY.out.thaw k hkl
  have HSPK := Lib.hid (fun c => HSP.out k c hkl)
  clear HSP
  obtain ⟨x, hx⟩ : ∃ x, bs[k] = x := ⟨_, rfl⟩
  rw [hx] at q0
  have HXE := Lib.hid hx
  have hxl := x.toNat_lt
  clear hx
  go_wp2_with fail
  refine HPK.out.mono ?_
  rintro e w' ⟨rfl, rfl⟩
  clear HPK
  go_upto_region 9 with (fail)
  clear q0 qt
  obtain ⟨c, hc⟩ : ∃ c : UInt8, c.toNat = (x.toNat + by_) % 256 := ⟨UInt8.ofNat (x.toNat + by_), by simp⟩
  have hcc : ((x.toNat : Int) + (by_ : Int)) % 256 = (c.toNat : Int) := by omega
  rw [hcc]
  clear hcc
  replace HX := Lib.hid (HX.out.far (c := C) (by omega) k (.int .u8 (c.toNat : Int))); replace HY := Lib.hid (HY.out.far (c := C) (by omega) k (.int .u8 (c.toNat : Int))); replace HB3 := Lib.hid (below_set HB3.out HBB.out k (.int .u8 (c.toNat : Int)))
  have HBZ := Lib.hid (HBY.out.set k c hkl)
  generalize w9.setCell ⟨C, k, none⟩ (.int .u8 (c.toNat : Int)) = w10 at *
  have hcv := run_string_of_bytes (P := Tryz.prog) Tryz.underlying85 Tryz.underlying5 Tryz.underlying9 (HBZ.out.read (cap := cap) (by simpa using hc1) hc2)
  rw [List.length_set] at hcv
  clear HBY HBZ
  by_cases hy0 : by_ = 0
  · have hcx : c = x := UInt8.toNat_inj.1 (by omega)
    have hset : bs.set k c = bs := by rw [hcx, ← HXE.out]; exact List.set_getElem_self hkl
    rw [hset] at hcv
    clear hset hcx HSPK HXE
    subst hy0
    go_wp2_with fail
    refine (HD.out w10).mono ?_
    rintro e w11 ⟨vl3, vp3, vs3, rfl, hst3, hb11⟩
    obtain ⟨al3, cl3, rfl, -, -, -, -⟩ := id hst3.lock; obtain ⟨ap3, cp3, rfl, -, -, -, -⟩ := id hst3.pair; obtain ⟨az3, cz3, rfl, -, -, -, -⟩ := id hst3.sess
    clear hst3 hcv
    have hba := below_alloc w11 (.cells #[.int .i64 t.index, .slice al3 t.locks.length cl3, .slice ap3 t.pairs.length cp3, .slice az3 t.sessions.length cz3] 36)
    have hbb := below_step hb11 hba
    replace HX := Lib.hid (HX.out.below hbb); replace HY := Lib.hid (HY.out.below hbb); replace HB3 := Lib.hid (below_step HB3.out hbb)
    clear hba hb11 hbb
    go_upto_region 10 with (fail)
    generalize w11.alloc (.cells #[.int .i64 t.index, .slice al3 t.locks.length cl3, .slice ap3 t.pairs.length cp3, .slice az3 t.sessions.length cz3] 36) = wb at *
    go_wp2_with fail
    refine (decode_short_calls (bs.take 3) (by rw [List.length_take]; omega) wb).mono ?_
    rintro e w12 ⟨rfl, hb12⟩
    replace HX := Lib.hid (HX.out.below hb12); replace HY := Lib.hid (HY.out.below hb12); replace HB3 := Lib.hid (below_step HB3.out hb12)
    clear hb12
    have hba := below_alloc w12 (.cells #[.int .i64 0, .slice none 0 0, .slice none 0 0, .slice none 0 0] 36)
    replace HX := Lib.hid (HX.out.below hba); replace HY := Lib.hid (HY.out.below hba); replace HB3 := Lib.hid (below_step HB3.out hba)
    clear hba
    go_upto_region 11 with (fail)
    generalize w12.alloc (.cells #[.int .i64 0, .slice none 0 0, .slice none 0 0, .slice none 0 0] 36) = w13 at *
    have x0 := HX.out.cell 0 _ rfl; have y0 := HY.out.cell 0 _ rfl
    go_wp2
    go_ret
    exact ⟨rfl, HB3.out⟩
  · have hcx : c ≠ bs[k] := fun e => by
      have h1 : c = x := e.trans HXE.out
      rw [h1] at hc
      omega
    have hne := HSPK.out c hcx
    obtain ⟨bad, hbad⟩ : ∃ bad, bs.set k c = bad := ⟨_, rfl⟩
    have hbl : bad.length = bs.length := by rw [← hbad, List.length_set]
    rw [hbad] at hcv hne
    clear hbad HSPK HXE hcx
    have HDB := Lib.hid (decode_sum_calls bad (bs.length - 4) (by omega) (by omega) hne w10)
    clear hne
    have hy1 : ((by_ : Int) == 0) = false := by simpa using hy0
    go_wp2_with fail
    refine HDB.out.mono ?_
    rintro e w11 ⟨rfl, hb11⟩
    clear hcv HDB
    have hba := below_alloc w11 (.cells #[.int .i64 0, .slice none 0 0, .slice none 0 0, .slice none 0 0] 36)
    have hbb := below_step hb11 hba
    replace HX := Lib.hid (HX.out.below hbb); replace HY := Lib.hid (HY.out.below hbb); replace HB3 := Lib.hid (below_step HB3.out hbb)
    clear hba hb11 hbb
    go_upto_region 10 with (fail)
    generalize w11.alloc (.cells #[.int .i64 0, .slice none 0 0, .slice none 0 0, .slice none 0 0] 36) = wb at *
    go_wp2_with fail
    refine (decode_short_calls (bs.take 3) (by rw [List.length_take]; omega) wb).mono ?_
    rintro e w12 ⟨rfl, hb12⟩
    replace HX := Lib.hid (HX.out.below hb12); replace HY := Lib.hid (HY.out.below hb12); replace HB3 := Lib.hid (below_step HB3.out hb12)
    clear hb12
    have hba := below_alloc w12 (.cells #[.int .i64 0, .slice none 0 0, .slice none 0 0, .slice none 0 0] 36)
    replace HX := Lib.hid (HX.out.below hba); replace HY := Lib.hid (HY.out.below hba); replace HB3 := Lib.hid (below_step HB3.out hba)
    clear hba
    go_upto_region 11 with (fail)
    generalize w12.alloc (.cells #[.int .i64 0, .slice none 0 0, .slice none 0 0, .slice none 0 0] 36) = w13 at *
    have x0 := HX.out.cell 0 _ rfl; have y0 := HY.out.cell 0 _ rfl
    go_wp2
    go_ret
    exact ⟨rfl, HB3.out⟩
end Go.Proofs.YtkefgapnghnjjaaGreatDoor

/- An argument that is a slice of raw things. No program in sight. -/
namespace Go.Tk
open Go Go.RowKit Go.ChangeShapes Go.WideShapes Go.Deep

variable {H : Type} {enc : TypeId × Value → H} {P : Program} {w : World} {base : Nat} {spare : Nat → Bool} {held : Bool}
/-- One element's fields. -/
theorem raw_one {e ti : TypeId} {fs : Array Field} {fuel : Nat} {cs : List Value} {x : DataW H × List MemPlace} (he : P.underlying e = some (.struct fs)) (hone : oneCellFields P fs = true) (h4 : fs.size = 4)
    (hall : (fs.toList.all fun f => f.type == ti) = true) (hti : P.underlying ti = some (.int .i64)) (hlen : cs.length = 4) (h : DataW.trod enc P w base spare held fuel e cs = some x) :
    ∃ r : RawD, cs = [.int .i64 r.kind, .int .i64 r.a, .int .i64 r.b, .int .i64 r.c] ∧ RawOk r := by
  have hty : ∀ (j : Nat) (f : Field), fs[j]? = some f → f.type = ti := fun j f hj => by
    have hm : f ∈ fs.toList := by
      obtain ⟨hj', rfl⟩ := Array.getElem?_eq_some_iff.1 hj
      exact Array.mem_toList_iff.2 (Array.getElem_mem hj')
    simpa using List.all_eq_true.1 hall f hm
  obtain ⟨ys, n, _, _, _, hyl, hf⟩ := DataW.trod_struct he h
  match cs, hlen with
  | [c0, c1, c2, c3], _ =>
    have key : ∀ (j : Nat) (c : Value), [c0, c1, c2, c3][j]? = some c → ∃ z, c = .int .i64 z ∧ I64 z := by
      intro j c hc
      have hj : j < 4 := by
        rcases Nat.lt_or_ge j 4 with h | h
        · exact h
        · rw [List.getElem?_eq_none (by simp; omega)] at hc; cases hc
      have hfj : fs[j]? = some (fs[j]'(by omega)) := Array.getElem?_eq_getElem _
      obtain ⟨ho, hk⟩ := hone_of hone j _ hfj
      have h1 := hf j _ hfj
      rw [ho, hk, hty j _ hfj] at h1
      have h2 : (([c0, c1, c2, c3] : List Value).drop j).take 1 = [c] := by
        rcases (show j = 0 ∨ j = 1 ∨ j = 2 ∨ j = 3 by omega) with rfl | rfl | rfl | rfl <;> simp at hc <;> subst hc <;> rfl
      rw [h2, List.getElem?_eq_getElem (by omega)] at h1
      obtain ⟨z, hz, _, hw⟩ := DataW.trod_int hti h1
      simp only [List.cons.injEq, and_true] at hz
      exact ⟨z, hz, bounds_i64 hw⟩
    obtain ⟨z0, rfl, g0⟩ := key 0 c0 rfl
    obtain ⟨z1, rfl, g1⟩ := key 1 c1 rfl
    obtain ⟨z2, rfl, g2⟩ := key 2 c2 rfl
    obtain ⟨z3, rfl, g3⟩ := key 3 c3 rfl
    exact ⟨⟨z0, z1, z2, z3⟩, rfl, g0, g1, g2, g3⟩
theorem raws_open {t e ti : TypeId} {fs : Array Field} {r : Reach} {b0 : Nat} {v : Value} {d : DataW H} {p : List MemPlace} (ht : P.underlying t = some (.slice e)) (he : P.underlying e = some (.struct fs)) (hone : oneCellFields P fs = true) (hC : P.cellsOf e = 4) (h4 : fs.size = 4)
    (hall : (fs.toList.all fun f => f.type == ti) = true) (hti : P.underlying ti = some (.int .i64)) (hv : Value.okWide P w r b0 t v) (h : DataW.Trod enc P w base spare held t v d p) :
    ∃ l : List RawD, SlR 4 rRaw w v l (fun _ => True) ∧ ∀ x ∈ l, RawOk x := by
  obtain ⟨a, len, cap, rfl⟩ := okWide_slice ht hv
  obtain ⟨fuel, hf⟩ := h
  rcases open_slice ht hf with ⟨h0, _⟩ | ⟨a', len', cap', m, n, D, Pl, hcs, hb, hl, hm, hmm, _, hi⟩
  · simp [Value.cells] at h0
    obtain ⟨rfl, rfl, rfl⟩ := h0
    exact ⟨[], SlR.nil w _, by simp⟩
  · simp [Value.cells] at hcs
    obtain ⟨rfl, rfl, rfl⟩ := hcs
    have hmlen : len ≤ m := by rw [hmm]; split <;> omega
    have hx : ∀ i : Nat, ∃ x : RawD, i < len → RawOk x ∧ w.cells? base (a'.add (i * 4)) 4 = some [.int .i64 x.kind, .int .i64 x.a, .int .i64 x.b, .int .i64 x.c] := by
      intro i
      by_cases hil : i < len
      · obtain ⟨cs', hc, ht'⟩ := hi i (by omega)
        rw [hC] at hc
        obtain ⟨_, hcl, _⟩ := World.cells?_some hc
        obtain ⟨r, rfl, hr⟩ := raw_one he hone h4 hall hti hcl ht'
        exact ⟨r, fun _ => ⟨hr, hc⟩⟩
      · exact ⟨⟨0, 0, 0, 0⟩, fun h => absurd h hil⟩
    obtain ⟨f, hf⟩ := Classical.axiomOfChoice hx
    refine ⟨(List.range len).map f, ⟨some a', cap, by simp, by simpa using hl, hm, (fun h => by cases h), fun i x hix => ?_⟩, fun x hx => ?_⟩
    · have hil : i < len := by
        rcases Nat.lt_or_ge i len with h | h
        · exact h
        · rw [List.getElem?_eq_none (by simpa using h)] at hix; cases hix
      have hxe : x = f i := by
        rw [List.getElem?_map, List.getElem?_range hil] at hix
        simpa using hix.symm
      subst hxe
      have h0 := (hf 0 (by omega)).2
      obtain ⟨_, _, hat0⟩ := World.cells?_some h0
      have hc0 := hat0 (i := 0) (by decide)
      have hspot : a'.spot = none := by
        rw [Nat.zero_mul] at hc0
        have := World.cell?_spot hc0
        simpa [Addr.add] using this
      obtain ⟨_, hcl, hat⟩ := World.cells?_some (hf i hil).2
      obtain ⟨b, off, sp⟩ := a'
      simp only at hspot
      subst hspot
      refine ⟨b, off, [.int .i64 (f i).kind, .int .i64 (f i).a, .int .i64 (f i).b, .int .i64 (f i).c], rfl, trivial, rfl, fun j u hu => ?_⟩
      have hj : j < 4 := by
        rcases Nat.lt_or_ge j 4 with h | h
        · exact h
        · rw [List.getElem?_eq_none (by simp; omega)] at hu; cases hu
      have := hat (i := j) hj
      rw [Addr.add_lit, Addr.add_lit, hu] at this
      exact this
    · obtain ⟨i, hi', rfl⟩ := List.mem_map.1 hx
      exact (hf i (List.mem_range.1 hi')).1
end Go.Tk

/- Raw things, as the program's types say. -/
namespace Go.Proofs.YtkefgapnghnjjaaGreatDoor
open Go.RowKit Go.Tk
set_option maxRecDepth 100000 in
theorem Tryz.rawTypes {H : Type} {enc : TypeId × Value → H} {w : World} {r : Reach} {b0 base : Nat} {spare : Nat → Bool} {held : Bool} {v : Value} {d : DataW H} {p : List MemPlace}
    (hv : Value.okWide Tryz.prog w r b0 22 v) (h : DataW.Trod enc Tryz.prog w base spare held 22 v d p) : ∃ l : List RawD, SlR 4 rRaw w v l (fun _ => True) ∧ ∀ x ∈ l, RawOk x :=
  raws_open Tryz.underlying22 Tryz.underlying125 (by kernel_rfl) (by kernel_rfl) (by kernel_rfl) (by kernel_rfl) Tryz.underlying3 hv h
end Go.Proofs.YtkefgapnghnjjaaGreatDoor
