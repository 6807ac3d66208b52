/- A part of the proof, laid together from: PairQ, CmdP, CmdQ, LogP. -/
import Derived.Test.YtkefgapnghnjjaaGreatDoorPa05
import Derived.Test.YtkefgapnghnjjaaGreatDoorPa04
import Derived.Test.YtkefgapnghnjjaaGreatDoorPa03
import Derived.Test.YtkefgapnghnjjaaGreatDoorPa02
set_option linter.unusedSimpArgs false
set_option linter.unusedVariables false
/- What was set is got; all others are as they were. No program in sight. -/
namespace Go.Tk
open Go Go.RowKit

theorem PrOk.uniq {l : List PairD} (h : PrOk l) {x y : PairD} (hx : x ∈ l) (hy : y ∈ l) (hn : x.name = y.name) : x = y := by
  obtain ⟨i, hi, rfl⟩ := List.getElem_of_mem hx
  obtain ⟨j, hj, rfl⟩ := List.getElem_of_mem hy
  have hp := List.pairwise_iff_getElem.1 h.names
  rcases Nat.lt_trichotomy i j with h1 | h1 | h1
  · have := hp i j (by rw [List.length_map]; omega) (by rw [List.length_map]; omega) h1
    simp only [List.getElem_map, hn] at this
    rw [less_irrefl] at this; cases this
  · subst h1; rfl
  · have := hp j i (by rw [List.length_map]; omega) (by rw [List.length_map]; omega) h1
    simp only [List.getElem_map, hn] at this
    rw [less_irrefl] at this; cases this
theorem pThere_mem {l : List PairD} (h : PrOk l) {x : PairD} (hx : x ∈ l) : pThere l x.name = true ∧ l.getD (pFind l x.name) noPair = x := by
  have ht : pThere l x.name = true := by
    cases hc : pThere l x.name
    · exact absurd rfl (pThere_no h hc x hx)
    · rfl
  refine ⟨ht, ?_⟩
  rw [getD_at (pThere_lt ht)]
  exact h.uniq (List.getElem_mem _) hx (pThere_name ht)
theorem pThere_iff {l : List PairD} (h : PrOk l) {t : List UInt8} : pThere l t = true ↔ ∃ x ∈ l, x.name = t := by
  constructor
  · intro ht; exact ⟨_, List.getElem_mem (pThere_lt ht), pThere_name ht⟩
  · rintro ⟨x, hx, rfl⟩; exact (pThere_mem h hx).1
/-- Pairs that came of at most n values set, at three names. -/
structure PrFew (n : Int) (l : List PairD) : Prop where
  ok : PrOk l
  name : ∀ x ∈ l, x.name ∈ kset
  vers : ∀ x ∈ l, x.version ≤ n
theorem kset_len {l : List PairD} (h : PrOk l) (hn : ∀ x ∈ l, x.name ∈ kset) : l.length ≤ 3 := by
  have hnd : (l.map (·.name)).Nodup := h.names.imp fun {a b} hab he => by subst he; rw [less_irrefl] at hab; cases hab
  have hs : (l.map (·.name)) ⊆ kset := fun a ha => by
    obtain ⟨x, hx, rfl⟩ := List.mem_map.1 ha
    exact hn x hx
  have := nodup_len _ _ hnd hs
  rw [List.length_map] at this
  exact this
theorem set_eq {l : List PairD} {name value : List UInt8} (h : PrOk l) (hn : lkName name = true) (hv : value.length ≤ 12) : prSet l name value =
    if pThere l name = false then
      (if l.length = 5 then (l, ⟨8, 0, []⟩, 0) else (l.take (pFind l name) ++ ⟨name, value, 1⟩ :: l.drop (pFind l name), ⟨0, 1, []⟩, 0))
    else if (l.getD (pFind l name) noPair).version = 1073741824 then (l, ⟨8, 0, []⟩, 0)
    else (l.set (pFind l name) ⟨(l.getD (pFind l name) noPair).name, value, (l.getD (pFind l name) noPair).version + 1⟩, ⟨0, (l.getD (pFind l name) noPair).version + 1, []⟩, 0) := by
  have hc := prCheck_ok.2 h
  rw [prSet, if_neg (by simp [hc]), if_neg (by simp [hn]), if_neg (by omega)]
theorem get_eq {l : List PairD} {name : List UInt8} (h : PrOk l) : prGet l name =
    if pThere l name = false then (⟨6, 0, []⟩, 0) else (⟨0, (l.getD (pFind l name) noPair).version, (l.getD (pFind l name) noPair).value⟩, 0) := by
  have hc := prCheck_ok.2 h
  rw [prGet, if_neg (by simp [hc])]
theorem set_few {n : Int} {l : List PairD} {k v : List UInt8} (h : PrFew n l) (hn0 : 0 ≤ n) (hn : n < 1073741824) (hk : k ∈ kset) (hv : v.length ≤ 12) :
    ∃ x r, prSet l k v = (x, r, 0) ∧ r.code = 0 ∧ r.n = (prGet l k).1.n + 1 ∧ (prGet l k).2 = 0 ∧ PrFew (n + 1) x ∧ (∃ m, (⟨k, v, m⟩ : PairD) ∈ x) ∧ (∀ y, y.name ≠ k → (y ∈ x ↔ y ∈ l)) ∧ x.length = l.length + (if pThere l k = true then 0 else 1) := by
  have hkn := kset_ok k hk
  have hlen := kset_len h.ok h.name
  rw [set_eq h.ok hkn hv, get_eq h.ok]
  by_cases ht : pThere l k = false
  · rw [if_pos ht, if_pos ht, if_neg (by omega)]
    have hins := h.ok.insert (x := ⟨k, v, 1⟩) ⟨hkn, hv, by simp⟩ (by omega) ht
    have hmem : ∀ y, y ∈ l.take (pFind l k) ++ (⟨k, v, 1⟩ : PairD) :: l.drop (pFind l k) ↔ y = ⟨k, v, 1⟩ ∨ y ∈ l := fun y => by
      rw [List.mem_append, List.mem_cons]
      conv => rhs; rw [← List.take_append_drop (pFind l k) l, List.mem_append]
      constructor
      · rintro (h | h | h)
        · exact .inr (.inl h)
        · exact .inl h
        · exact .inr (.inr h)
      · rintro (h | h | h)
        · exact .inr (.inl h)
        · exact .inl h
        · exact .inr (.inr h)
    have hfl : pFind l k ≤ l.length := bs_le _ _
    refine ⟨_, _, rfl, rfl, rfl, rfl, ⟨hins, fun y hy => ?_, fun y hy => ?_⟩, ⟨1, (hmem _).2 (.inl rfl)⟩, fun y hy => ?_, ?_⟩
    · rcases (hmem y).1 hy with rfl | hy
      · exact hk
      · exact h.name y hy
    · rcases (hmem y).1 hy with rfl | hy
      · show (1 : Int) ≤ n + 1; omega
      · have := h.vers y hy; omega
    · rw [hmem]
      constructor
      · rintro (rfl | hy')
        · exact absurd rfl hy
        · exact hy'
      · exact .inr
    · rw [if_neg (by rw [ht]; decide)]; simp; omega
  · have ht' : pThere l k = true := by simpa using ht
    have hlt := pThere_lt ht'
    have hnm := pThere_name ht'
    have hm := List.getElem_mem hlt
    have hve := h.vers _ hm
    have hone := h.ok.one _ hm
    rw [if_neg ht, if_neg ht, getD_at hlt, if_neg (by omega)]
    have hset := h.ok.set hlt (x := ⟨l[pFind l k].name, v, l[pFind l k].version + 1⟩) ⟨hone.name, hv, by have := hone.vers; simp only; omega⟩ rfl
    have hmem : ∀ y, y ∈ l.set (pFind l k) ⟨l[pFind l k].name, v, l[pFind l k].version + 1⟩ → y = ⟨l[pFind l k].name, v, l[pFind l k].version + 1⟩ ∨ y ∈ l := fun y hy => by
      rcases List.mem_or_eq_of_mem_set hy with h1 | h1
      · exact .inr h1
      · exact .inl h1
    refine ⟨_, _, rfl, rfl, rfl, rfl, ⟨hset, fun y hy => ?_, fun y hy => ?_⟩, ⟨l[pFind l k].version + 1, ?_⟩, fun y hy => ⟨fun hy' => ?_, fun hy' => ?_⟩, ?_⟩
    · rcases hmem y hy with rfl | hy
      · show l[pFind l k].name ∈ kset; rw [hnm]; exact hk
      · exact h.name y hy
    · rcases hmem y hy with rfl | hy
      · show l[pFind l k].version + 1 ≤ n + 1; omega
      · have := h.vers y hy; omega
    · rw [hnm]; exact List.mem_set hlt _
    · rcases hmem y hy' with rfl | hy'
      · exact absurd hnm hy
      · exact hy'
    · obtain ⟨j, hj, rfl⟩ := List.getElem_of_mem hy'
      have hne : pFind l k ≠ j := fun e => by subst e; exact hy hnm
      have : (l.set (pFind l k) ⟨l[pFind l k].name, v, l[pFind l k].version + 1⟩)[j]'(by rw [List.length_set]; exact hj) = l[j] := List.getElem_set_ne hne _
      rw [← this]; exact List.getElem_mem _
    · rw [if_pos ht', List.length_set]; rfl
theorem get_mem {l : List PairD} (h : PrOk l) {x : PairD} (hx : x ∈ l) : prGet l x.name = (⟨0, x.version, x.value⟩, 0) := by
  obtain ⟨h1, h2⟩ := pThere_mem h hx
  rw [get_eq h, if_neg (by rw [h1]; decide), h2]
theorem get_none {l : List PairD} (h : PrOk l) {t : List UInt8} (ht : ∀ x ∈ l, x.name ≠ t) : prGet l t = (⟨6, 0, []⟩, 0) := by
  rw [get_eq h, if_pos]
  cases hc : pThere l t
  · rfl
  · obtain ⟨x, hx, hxt⟩ := (pThere_iff h).1 hc
    exact absurd hxt (ht x hx)
end Go.Tk

/- Commands as plain data, and as bytes. No program in sight. -/
namespace Go.Tk
open Go Go.RowKit

def noCommand : CommandD := ⟨0, 0, 0, 0, 0, noOp⟩
def rOp : Rel OpD := fun _ cs x _ => cs = [.int .i64 x.kind, .string ⟨x.a.toArray⟩, .string ⟨x.b.toArray⟩, .int .i64 x.n]
def rCommand : Rel CommandD := fun _ cs x _ => cs = [.int .i64 x.kind, .int .i64 x.client, .int .i64 x.session, .int .i64 x.seq, .int .i64 x.acked, .int .i64 x.op.kind, .string ⟨x.op.a.toArray⟩, .string ⟨x.op.b.toArray⟩, .int .i64 x.op.n]
theorem rOp_ok : RelOk rOp 4 := ⟨by rintro w cs x S rfl; rfl, by rintro w cs x S rfl u hu; simp at hu; rcases hu with rfl | rfl | rfl | rfl <;> rfl, fun h _ => h⟩
theorem rCommand_ok : RelOk rCommand 9 := ⟨by rintro w cs x S rfl; rfl, by rintro w cs x S rfl u hu; simp at hu; rcases hu with rfl | rfl | rfl | rfl | rfl | rfl | rfl | rfl | rfl <;> rfl, fun h _ => h⟩
def valOp (o : OpD) : Value := .agg #[.int .i64 o.kind, .string ⟨o.a.toArray⟩, .string ⟨o.b.toArray⟩, .int .i64 o.n]
def valCommand (c : CommandD) : Value := .agg #[.int .i64 c.kind, .int .i64 c.client, .int .i64 c.session, .int .i64 c.seq, .int .i64 c.acked, .int .i64 c.op.kind, .string ⟨c.op.a.toArray⟩, .string ⟨c.op.b.toArray⟩, .int .i64 c.op.n]

/-- May an operation be? -/
def opCheck (o : OpD) : Int :=
  if o.kind < 1 ∨ 6 < o.kind then 3
  else if lkName o.a = false ∨ (o.kind ≠ 5 ∧ o.b ≠ []) then 4
  else if 12 < o.b.length then 1
  else if (o.kind = 5 ∧ (o.n < 1 ∨ 1073741824 < o.n)) ∨ (o.kind ≠ 5 ∧ o.n ≠ 0) then 2
  else 0
/-- May a command be? -/
def cmdCheck (c : CommandD) : Int :=
  if c.kind < 1 ∨ 3 < c.kind then 3
  else if c.client < 1 ∨ 9 < c.client then 2
  else if c.kind ≠ 2 then
    if c.session ≠ 0 ∨ c.seq ≠ 0 ∨ c.acked ≠ 0 ∨ c.op.kind ≠ 0 ∨ c.op.a ≠ [] ∨ c.op.b ≠ [] ∨ c.op.n ≠ 0 then 4 else 0
  else if c.session < 1 ∨ 1073741824 < c.session ∨ c.seq < 1 ∨ 1048576 < c.seq ∨ c.acked < 0 ∨ c.seq ≤ c.acked then 2
  else opCheck c.op
def callBytes (c : CommandD) : List UInt8 :=
  (number c.session).1 ++ ((number c.seq).1 ++ ((number c.acked).1 ++ ((number c.op.kind).1 ++ ((number c.op.n).1 ++ ((text c.op.a).1 ++ (text c.op.b).1)))))
def cmdEncode (c : CommandD) : List UInt8 × Int :=
  if cmdCheck c ≠ 0 then ([], cmdCheck c)
  else ([c.kind.toNat.toUInt8, c.client.toNat.toUInt8] ++ (if c.kind = 2 then callBytes c else []), 0)
/-- A reader of a number, and what comes behind it. -/
def thenNum {α : Type} (s : List UInt8) (fail : Int → α) (k : Int → List UInt8 → α) : α := if (readNumber s).2.2 ≠ 0 then fail (readNumber s).2.2 else k (readNumber s).1 (readNumber s).2.1
def thenText {α : Type} (s : List UInt8) (fail : Int → α) (k : List UInt8 → List UInt8 → α) : α := if (readText s).2.2 ≠ 0 then fail (readText s).2.2 else k (readText s).1 (readText s).2.1
/-- What the bytes of a call say: the command, what is left, what is wrong. -/
def cmdBody (c : CommandD) (s : List UInt8) : CommandD × List UInt8 × Int :=
  thenNum s (fun e => (noCommand, [], e)) fun x1 s => thenNum s (fun e => (noCommand, [], e)) fun x2 s => thenNum s (fun e => (noCommand, [], e)) fun x3 s =>
  thenNum s (fun e => (noCommand, [], e)) fun x4 s => thenNum s (fun e => (noCommand, [], e)) fun x5 s =>
  thenText s (fun e => (noCommand, [], e)) fun y1 s => thenText s (fun e => (noCommand, [], e)) fun y2 s =>
  (⟨c.kind, c.client, x1, x2, x3, ⟨x4, y1, y2, x5⟩⟩, s, 0)
def cmdLast (c : CommandD) (s : List UInt8) : CommandD × Int := if s ≠ [] then (noCommand, 4) else if cmdCheck c ≠ 0 then (noCommand, cmdCheck c) else (c, 0)
def cmdDecode (s : List UInt8) : CommandD × Int :=
  if 5000 < s.length then (noCommand, 1)
  else if s.length < 2 then (noCommand, 5)
  else if s.getD 0 0 = 2 then
    if (cmdBody ⟨(s.getD 0 0).toNat, (s.getD 1 0).toNat, 0, 0, 0, noOp⟩ (s.drop 2)).2.2 ≠ 0 then (noCommand, (cmdBody ⟨(s.getD 0 0).toNat, (s.getD 1 0).toNat, 0, 0, 0, noOp⟩ (s.drop 2)).2.2)
    else cmdLast (cmdBody ⟨(s.getD 0 0).toNat, (s.getD 1 0).toNat, 0, 0, 0, noOp⟩ (s.drop 2)).1 (cmdBody ⟨(s.getD 0 0).toNat, (s.getD 1 0).toNat, 0, 0, 0, noOp⟩ (s.drop 2)).2.1
  else cmdLast ⟨(s.getD 0 0).toNat, (s.getD 1 0).toNat, 0, 0, 0, noOp⟩ (s.drop 2)

/-! What is cut short is too short. -/
theorem rdGo_cut : ∀ (f k m q j : Nat) (pre : List UInt8), pre.length = k → q < 128 ^ (f + 1) → j < (digs f q).length → rdGo (pre ++ (digs f q).take j) (f + 1) k m = (0, [], 5)
  | f, k, m, q, j, pre, hp, hq, hj => by
    subst hp
    by_cases h : q < 128
    · rw [digs_small f q h] at hj ⊢
      have : j = 0 := by simpa using hj
      subst this
      rw [rdGo, if_neg (by simp)]
    · rcases f with _ | f
      · simp at hq; omega
      · rw [digs_big f q (by omega)] at hj ⊢
        rcases j with _ | j
        · rw [rdGo, if_neg (by simp)]
        · rw [List.take_succ_cons, rdGo]
          have hg : ((pre ++ (q % 128 + 128).toUInt8 :: (digs f (q / 128)).take j).getD pre.length 0).toNat = q % 128 + 128 := by simp [List.getD]; omega
          rw [if_pos (by simp), hg, if_pos (by omega)]
          have e := rdGo_cut f (pre.length + 1) (m + (q % 128 + 128) % 128 * 128 ^ pre.length) (q / 128) j (pre ++ [(q % 128 + 128).toUInt8]) (by simp) (by rw [Nat.pow_succ] at hq; omega) (by simpa using hj)
          simpa using e
theorem readNumber_cut (q : Nat) (hq : q ≤ 1099511627776) (j : Nat) (hj : j < (digs 6 q).length) : readNumber ((digs 6 q).take j) = (0, [], 5) := by
  have h := rdGo_cut 5 0 0 q j [] rfl (by omega) (by rwa [digs_fuel 5 q (by omega)] at hj)
  rw [digs_fuel 5 q (by omega)]
  simpa [readNumber] using h
theorem number_cut (n : Int) (h0 : 0 ≤ n) (hn : n ≤ 1099511627776) (j : Nat) (hj : j < (number n).1.length) : readNumber ((number n).1.take j) = (0, [], 5) := by
  have e : (number n).1 = digs 6 n.toNat := by rw [number, if_neg (by omega)]
  rw [e] at hj ⊢
  exact readNumber_cut _ (by omega) _ hj
theorem number_back (n : Int) (h0 : 0 ≤ n) (hn : n ≤ 1099511627776) (t : List UInt8) : readNumber ((number n).1 ++ t) = (n, t, 0) := by
  have e : (number n).1 = digs 6 n.toNat := by rw [number, if_neg (by omega)]
  rw [e, readNumber_back _ (by omega)]
  rw [Int.toNat_of_nonneg h0]
theorem text_cut (s : List UInt8) (h : s.length ≤ 5000) (j : Nat) (hj : j < (text s).1.length) : (readText ((text s).1.take j)).2.2 = 5 := by
  have e : (text s).1 = (number s.length).1 ++ s := by rw [text, if_neg (by omega)]
  rw [e] at hj ⊢
  rw [List.take_append]
  by_cases hj2 : j < (number s.length).1.length
  · rw [show j - (number s.length).1.length = 0 by omega, List.take_zero, List.append_nil, readText, number_cut _ (by omega) (by omega) _ hj2]
    simp
  · rw [List.take_of_length_le (by omega), readText, number_back _ (by omega) (by omega)]
    rw [List.length_append] at hj
    simp
    rw [if_neg (by omega), if_pos (by omega)]
theorem thenNum_back {α : Type} (n : Int) (h0 : 0 ≤ n) (hn : n ≤ 1099511627776) (t : List UInt8) (fail : Int → α) (k : Int → List UInt8 → α) : thenNum ((number n).1 ++ t) fail k = k n t := by
  rw [thenNum, number_back n h0 hn]; simp
theorem thenText_back {α : Type} (s t : List UInt8) (h : s.length ≤ 5000) (fail : Int → α) (k : List UInt8 → List UInt8 → α) : thenText ((text s).1 ++ t) fail k = k s t := by
  rw [thenText, readText_back s t h]; simp
/-- Cut within the number, or behind it. -/
theorem thenNum_cut {α : Type} (n : Int) (h0 : 0 ≤ n) (hn : n ≤ 1099511627776) (t : List UInt8) (j : Nat) (fail : Int → α) (k : Int → List UInt8 → α) (Q : α → Prop)
    (h5 : Q (fail 5)) (hk : ∀ i, j = (number n).1.length + i → Q (k n (t.take i))) : Q (thenNum (((number n).1 ++ t).take j) fail k) := by
  rw [List.take_append]
  by_cases hj : j < (number n).1.length
  · rw [show j - (number n).1.length = 0 by omega, List.take_zero, List.append_nil, thenNum, number_cut n h0 hn _ hj]
    simpa using h5
  · rw [List.take_of_length_le (by omega), thenNum_back n h0 hn]
    exact hk _ (by omega)
theorem thenText_cut {α : Type} (s t : List UInt8) (h : s.length ≤ 5000) (j : Nat) (fail : Int → α) (k : List UInt8 → List UInt8 → α) (Q : α → Prop)
    (h5 : Q (fail 5)) (hk : ∀ i, j = (text s).1.length + i → Q (k s (t.take i))) : Q (thenText (((text s).1 ++ t).take j) fail k) := by
  rw [List.take_append]
  by_cases hj : j < (text s).1.length
  · rw [show j - (text s).1.length = 0 by omega, List.take_zero, List.append_nil, thenText, text_cut s h _ hj]
    simpa using h5
  · rw [List.take_of_length_le (by omega), thenText_back s _ h]
    exact hk _ (by omega)

/-! Commands that may be. -/
structure OpOk (o : OpD) : Prop where
  kind : 1 ≤ o.kind ∧ o.kind ≤ 6
  name : lkName o.a = true
  noB : o.kind ≠ 5 → o.b = []
  size : o.b.length ≤ 12
  n : (o.kind = 5 → 1 ≤ o.n ∧ o.n ≤ 1073741824) ∧ (o.kind ≠ 5 → o.n = 0)
theorem opCheck_ok {o : OpD} : opCheck o = 0 ↔ OpOk o := by
  constructor
  · intro h
    rw [opCheck] at h
    split at h; · cases h
    split at h; · cases h
    split at h; · cases h
    split at h; · cases h
    rename_i h1 h2 h3 h4
    have h2' := not_or.1 h2
    refine ⟨by omega, by simpa using h2'.1, fun hk => ?_, by omega, by omega, by omega⟩
    have := not_and.1 h2'.2 hk
    exact Classical.not_not.1 this
  · rintro ⟨h1, h2, h3, h4, h5, h6⟩
    rw [opCheck, if_neg (by omega), if_neg, if_neg (by omega), if_neg (by omega)]
    rintro (h | ⟨h, h'⟩)
    · rw [h2] at h; cases h
    · exact h' (h3 h)
inductive CmdOk (c : CommandD) : Prop where
  | plain (hk : c.kind = 1 ∨ c.kind = 3) (hc : 1 ≤ c.client ∧ c.client ≤ 9) (h1 : c.session = 0) (h2 : c.seq = 0) (h3 : c.acked = 0) (h4 : c.op = noOp)
  | call (hk : c.kind = 2) (hc : 1 ≤ c.client ∧ c.client ≤ 9) (h1 : 1 ≤ c.session ∧ c.session ≤ 1073741824) (h2 : 1 ≤ c.seq ∧ c.seq ≤ 1048576) (h3 : 0 ≤ c.acked ∧ c.acked < c.seq) (h4 : OpOk c.op)
theorem cmdCheck_ok {c : CommandD} : cmdCheck c = 0 ↔ CmdOk c := by
  constructor
  · intro h
    rw [cmdCheck] at h
    split at h; · cases h
    split at h; · cases h
    split at h
    · split at h; · cases h
      rename_i h1 h2 h3 h4
      simp only [not_or, Classical.not_not] at h4
      obtain ⟨g1, g2, g3, g4, g5, g6, g7⟩ := h4
      refine .plain (by omega) (by omega) g1 g2 g3 ?_
      rcases hc : c.op with ⟨k, a, b, n⟩
      rw [hc] at g4 g5 g6 g7
      simp only at g4 g5 g6 g7
      subst g4 g5 g6 g7; rfl
    · split at h; · cases h
      exact .call (by omega) (by omega) (by omega) (by omega) (by omega) (opCheck_ok.1 h)
  · rintro (⟨hk, hc, h1, h2, h3, h4⟩ | ⟨hk, hc, h1, h2, h3, h4⟩)
    · rw [cmdCheck, if_neg (by omega), if_neg (by omega), if_pos (by omega), if_neg]
      rw [h1, h2, h3, h4]; simp [noOp]
    · rw [cmdCheck, if_neg (by omega), if_neg (by omega), if_neg (by omega), if_neg (by omega)]
      exact opCheck_ok.2 h4
theorem text_len (s : List UInt8) (h : s.length ≤ 5000) : (text s).1.length ≤ s.length + 7 := by
  rw [text, if_neg (by omega)]
  have := number_len s.length
  simp only [List.length_append]; omega
theorem callBytes_len {c : CommandD} (h : OpOk c.op) : (callBytes c).length ≤ 67 := by
  have h1 := number_len c.session
  have h2 := number_len c.seq
  have h3 := number_len c.acked
  have h4 := number_len c.op.kind
  have h5 := number_len c.op.n
  have h6 := (lkName_len h.name).2
  have h7 := text_len c.op.a (by omega)
  have h8 := h.size
  have h9 := text_len c.op.b (by omega)
  simp only [callBytes, List.length_append]
  omega
theorem OpOk.nn {o : OpD} (h : OpOk o) : 0 ≤ o.n ∧ o.n ≤ 1073741824 := by
  have h1 := h.n.1
  have h2 := h.n.2
  by_cases hk : o.kind = 5
  · have := h1 hk; omega
  · have := h2 hk; omega
theorem body_back {c : CommandD} (h : CmdOk c) (hk : c.kind = 2) (t : List UInt8) : cmdBody ⟨c.kind, c.client, 0, 0, 0, noOp⟩ (callBytes c ++ t) = (c, t, 0) := by
  rcases h with ⟨hk', _⟩ | ⟨_, hc, h1, h2, h3, h4⟩
  · omega
  have h5 := h4.nn
  have h6 := h4.kind
  have h7 := (lkName_len h4.name).2
  have h8 := h4.size
  rw [cmdBody, callBytes]
  simp only [List.append_assoc]
  rw [thenNum_back _ (by omega) (by omega), thenNum_back _ (by omega) (by omega), thenNum_back _ (by omega) (by omega), thenNum_back _ (by omega) (by omega), thenNum_back _ (by omega) (by omega),
    thenText_back _ _ (by omega), thenText_back _ _ (by omega)]
theorem body_cut {c : CommandD} (h : CmdOk c) (hk : c.kind = 2) (j : Nat) (hj : j < (callBytes c).length) (c0 : CommandD) : (cmdBody c0 ((callBytes c).take j)).2.2 = 5 := by
  rcases h with ⟨hk', _⟩ | ⟨_, hc, h1, h2, h3, h4⟩
  · omega
  have h5 := h4.nn
  have h6 := h4.kind
  have h7 := (lkName_len h4.name).2
  have h8 := h4.size
  rw [callBytes] at hj ⊢
  rw [cmdBody]
  refine thenNum_cut (α := CommandD × List UInt8 × Int) _ (by omega) (by omega) _ _ _ _ (fun x : CommandD × List UInt8 × Int => x.2.2 = 5) rfl fun i1 e1 => ?_
  refine thenNum_cut (α := CommandD × List UInt8 × Int) _ (by omega) (by omega) _ _ _ _ (fun x : CommandD × List UInt8 × Int => x.2.2 = 5) rfl fun i2 e2 => ?_
  refine thenNum_cut (α := CommandD × List UInt8 × Int) _ (by omega) (by omega) _ _ _ _ (fun x : CommandD × List UInt8 × Int => x.2.2 = 5) rfl fun i3 e3 => ?_
  refine thenNum_cut (α := CommandD × List UInt8 × Int) _ (by omega) (by omega) _ _ _ _ (fun x : CommandD × List UInt8 × Int => x.2.2 = 5) rfl fun i4 e4 => ?_
  refine thenNum_cut (α := CommandD × List UInt8 × Int) _ (by omega) (by omega) _ _ _ _ (fun x : CommandD × List UInt8 × Int => x.2.2 = 5) rfl fun i5 e5 => ?_
  refine thenText_cut (α := CommandD × List UInt8 × Int) _ _ (by omega) _ _ _ (fun x : CommandD × List UInt8 × Int => x.2.2 = 5) rfl fun i6 e6 => ?_
  simp only [List.length_append] at hj
  rw [thenText, text_cut _ (by omega) _ (by omega)]
  simp
end Go.Tk

/- A command is read as it was written; cut short, or longer, it is not. No program in sight. -/
namespace Go.Tk
open Go Go.RowKit

theorem CmdOk.bounds {c : CommandD} (h : CmdOk c) : (1 ≤ c.kind ∧ c.kind ≤ 3) ∧ 1 ≤ c.client ∧ c.client ≤ 9 := by
  rcases h with ⟨hk, hc, _⟩ | ⟨hk, hc, _⟩ <;> exact ⟨by omega, hc⟩
theorem toUInt8_val (n : Int) (h0 : 0 ≤ n) (h1 : n ≤ 255) : ((n.toNat.toUInt8.toNat : Nat) : Int) = n := by
  have e : n.toNat.toUInt8.toNat = n.toNat := by
    show (UInt8.ofNat n.toNat).toNat = n.toNat
    rw [UInt8.toNat_ofNat']; omega
  rw [e]; omega
/-- The bytes of a command, in form. -/
def cmdTail (c : CommandD) : List UInt8 := if c.kind = 2 then callBytes c else []
theorem encode_eq {c : CommandD} (h : CmdOk c) : cmdEncode c = (c.kind.toNat.toUInt8 :: c.client.toNat.toUInt8 :: cmdTail c, 0) := by
  rw [cmdEncode, cmdCheck_ok.2 h]; rfl
theorem tail_len {c : CommandD} (h : CmdOk c) : (cmdTail c).length ≤ 67 := by
  rw [cmdTail]
  rcases h with ⟨hk, _⟩ | ⟨hk, _, _, _, _, h4⟩
  · rw [if_neg (by omega)]; simp
  · rw [if_pos hk]; exact callBytes_len h4
theorem encode_len {c : CommandD} : (cmdEncode c).1.length ≤ 69 := by
  by_cases h : cmdCheck c = 0
  · rw [encode_eq (cmdCheck_ok.1 h)]
    have := tail_len (cmdCheck_ok.1 h)
    simp; omega
  · rw [cmdEncode, if_pos h]; simp
theorem kind_two {c : CommandD} (h : CmdOk c) : (c.kind.toNat.toUInt8 = 2) ↔ c.kind = 2 := by
  have hb := h.bounds.1
  constructor
  · intro h2
    have := toUInt8_val c.kind (by omega) (by omega)
    rw [h2] at this
    simpa using this.symm
  · intro h2; rw [h2]; rfl
theorem decode_of {c : CommandD} (h : CmdOk c) (t : List UInt8) (ht : t.length ≤ 100) : cmdDecode (c.kind.toNat.toUInt8 :: c.client.toNat.toUInt8 :: t) =
    if c.kind = 2 then (if (cmdBody ⟨c.kind, c.client, 0, 0, 0, noOp⟩ t).2.2 ≠ 0 then (noCommand, (cmdBody ⟨c.kind, c.client, 0, 0, 0, noOp⟩ t).2.2) else cmdLast (cmdBody ⟨c.kind, c.client, 0, 0, 0, noOp⟩ t).1 (cmdBody ⟨c.kind, c.client, 0, 0, 0, noOp⟩ t).2.1)
    else cmdLast ⟨c.kind, c.client, 0, 0, 0, noOp⟩ t := by
  have hb := h.bounds
  have e0 := toUInt8_val c.kind (by omega) (by omega)
  have e1 := toUInt8_val c.client (by omega) (by omega)
  rw [cmdDecode, if_neg (by simp; omega), if_neg (by simp)]
  simp only [List.getD_cons_zero, List.getD_cons_succ, List.drop_succ_cons, List.drop_zero, e0, e1, kind_two h]
theorem decode_back {c : CommandD} (h : CmdOk c) : cmdDecode (cmdEncode c).1 = (c, 0) := by
  have hl := tail_len h
  rw [encode_eq h, decode_of h _ (by omega)]
  have hc := cmdCheck_ok.2 h
  by_cases hk : c.kind = 2
  · have e := body_back h hk []
    rw [List.append_nil] at e
    rw [if_pos hk, cmdTail, if_pos hk, e]
    simp [cmdLast, hc]
  · rw [if_neg hk, cmdTail, if_neg hk]
    rcases id h with ⟨_, _, h1, h2, h3, h4⟩ | ⟨hk', _⟩
    · have e : (⟨c.kind, c.client, 0, 0, 0, noOp⟩ : CommandD) = c := by
        rcases c with ⟨a, b, d, f, g, o⟩
        simp only at h1 h2 h3 h4
        subst h1 h2 h3 h4; rfl
      rw [e]; simp [cmdLast, hc]
    · exact absurd hk' hk
theorem decode_cut {c : CommandD} (h : CmdOk c) (j : Nat) (hj : j < (cmdEncode c).1.length) : (cmdDecode ((cmdEncode c).1.take j)).2 = 5 := by
  have hl := tail_len h
  rw [encode_eq h] at hj ⊢
  by_cases h2 : j < 2
  · rw [cmdDecode, if_neg (by simp; omega), if_pos (by simp; omega)]
  · obtain ⟨i, rfl⟩ : ∃ i, j = i + 2 := ⟨j - 2, by omega⟩
    simp only [List.take_succ_cons]
    rw [decode_of h _ (by simp; omega)]
    have hi : i < (cmdTail c).length := by simpa using hj
    by_cases hk : c.kind = 2
    · rw [cmdTail, if_pos hk] at hi ⊢
      rw [if_pos hk, body_cut h hk i hi, if_pos (by decide)]
    · rw [cmdTail, if_neg hk] at hi; simp at hi
theorem decode_more {c : CommandD} (h : CmdOk c) : (cmdDecode ((cmdEncode c).1 ++ [0])).2 = 4 := by
  have hl := tail_len h
  rw [encode_eq h]
  simp only [List.cons_append]
  rw [decode_of h _ (by simp; omega)]
  by_cases hk : c.kind = 2
  · rw [cmdTail, if_pos hk, if_pos hk, body_back h hk]
    simp [cmdLast]
  · rw [if_neg hk, cmdTail, if_neg hk]
    simp [cmdLast]
theorem encode_ok {c : CommandD} (h : CmdOk c) : (cmdEncode c).2 = 0 := by rw [encode_eq h]
theorem encode_pos {c : CommandD} (h : CmdOk c) : 2 ≤ (cmdEncode c).1.length := by rw [encode_eq h]; simp
end Go.Tk

/- Package log as plain functions. No program in sight. -/
namespace Go.Tk
open Go Go.RowKit

abbrev Bytes := List UInt8
structure LogD where
  base : Int
  entries : List Bytes
def noLog : LogD := ⟨0, []⟩
def decErr (s : Bytes) : Int := (cmdDecode s).2
def logErr (l : List Bytes) (i : Nat) : Int := decErr (l.getD i [])
def logCheck (l : LogD) : Int :=
  if l.base < 0 ∨ 1073741424 < l.base then 2
  else if 400 < l.entries.length then 1
  else firstErr (logErr l.entries) l.entries.length
structure LogOk (l : LogD) : Prop where
  base : 0 ≤ l.base ∧ l.base ≤ 1073741424
  len : l.entries.length ≤ 400
  all : ∀ s ∈ l.entries, decErr s = 0
theorem logCheck_ok {l : LogD} : logCheck l = 0 ↔ LogOk l := by
  rw [logCheck]
  constructor
  · intro h
    split at h; · cases h
    split at h; · cases h
    refine ⟨by omega, by omega, fun s hs => ?_⟩
    obtain ⟨i, hi, rfl⟩ := mem_getD l.entries s [] hs
    exact firstErr_zero.1 h i hi
  · intro h
    rw [if_neg (by have := h.base; omega), if_neg (by have := h.len; omega)]
    exact firstErr_zero.2 fun i hi => h.all _ (getD_mem l.entries i [] hi)
def logLast (l : LogD) : Int := l.base + l.entries.length
def logAt (l : LogD) (index : Int) : Bytes × Int :=
  if logCheck l ≠ 0 then ([], logCheck l)
  else if index ≤ l.base ∨ logLast l < index then ([], 6)
  else (l.entries.getD (index - l.base - 1).toNat [], 0)
/-- Entries are put one after the other, from place k on. -/
def putGo : List Bytes → Nat → List Bytes → List Bytes × Int
  | [], _, out => (out, 0)
  | s :: r, k, out => if decErr s ≠ 0 then ([], decErr s) else if k < out.length ∧ out.getD k [] = s then putGo r (k + 1) out else putGo r (k + 1) (out.take k ++ [s])
def skipOf (l : LogD) (behind : Int) (more : List Bytes) : Nat := if behind < l.base then min (l.base - behind).toNat more.length else 0
def logPut (l : LogD) (behind : Int) (more : List Bytes) : LogD × Int :=
  if logCheck l ≠ 0 then (noLog, logCheck l)
  else if behind < 0 ∨ 1073741824 < behind then (noLog, 2)
  else if 400 < more.length then (noLog, 1)
  else if logLast l < behind then (noLog, 13)
  else if (putGo (more.drop (skipOf l behind more)) (behind + skipOf l behind more - l.base).toNat l.entries).2 ≠ 0 then (noLog, (putGo (more.drop (skipOf l behind more)) (behind + skipOf l behind more - l.base).toNat l.entries).2)
  else if 400 < (putGo (more.drop (skipOf l behind more)) (behind + skipOf l behind more - l.base).toNat l.entries).1.length then (noLog, 8)
  else (⟨l.base, (putGo (more.drop (skipOf l behind more)) (behind + skipOf l behind more - l.base).toNat l.entries).1⟩, 0)
def logBehind (l : LogD) (index many : Int) : List Bytes × Int :=
  if logCheck l ≠ 0 then ([], logCheck l)
  else if index < l.base ∨ many < 0 then ([], 2)
  else if logLast l ≤ index then ([], 0)
  else ((l.entries.drop (index - l.base).toNat).take many.toNat, 0)
def logCut (l : LogD) (index : Int) : LogD × Int :=
  if logCheck l ≠ 0 then (noLog, logCheck l)
  else if index < l.base ∨ logLast l < index then (noLog, 2)
  else if 1073741424 < index then (noLog, 8)
  else (⟨index, l.entries.drop (index - l.base).toNat⟩, 0)
theorem putGo_spec : ∀ (b : List Bytes) (k : Nat) (out : List Bytes), (∀ s ∈ b, decErr s = 0) → k ≤ out.length →
    ∃ o, putGo b k out = (o, 0) ∧ k + b.length ≤ o.length ∧ o.length ≤ max out.length (k + b.length) ∧ o.take (k + b.length) = out.take k ++ b ∧ ∀ s ∈ o, s ∈ out ∨ s ∈ b
  | [], k, out, _, hk => ⟨out, rfl, by simpa using hk, by omega, by simp, fun s hs => .inl hs⟩
  | s :: r, k, out, hb, hk => by
    have hs := hb s (by simp)
    have hr : ∀ s ∈ r, decErr s = 0 := fun x hx => hb x (by simp [hx])
    rw [putGo, if_neg (by rw [hs]; simp)]
    by_cases hm : k < out.length ∧ out.getD k [] = s
    · rw [if_pos hm]
      obtain ⟨o, h1, h2, h3, h4, h5⟩ := putGo_spec r (k + 1) out hr (by omega)
      refine ⟨o, h1, by simp; omega, by simp; omega, ?_, fun x hx => ?_⟩
      · rw [List.length_cons, show k + (r.length + 1) = k + 1 + r.length by omega, h4, List.take_succ_eq_append_getElem hm.1, List.append_assoc]
        have : out[k] = s := by have h2 := hm.2; simpa [List.getD, hm.1] using h2
        rw [this]; rfl
      · rcases h5 x hx with h | h
        · exact .inl h
        · exact .inr (by simp [h])
    · rw [if_neg hm]
      have hl : (out.take k ++ [s]).length = k + 1 := by simp; omega
      obtain ⟨o, h1, h2, h3, h4, h5⟩ := putGo_spec r (k + 1) (out.take k ++ [s]) hr (by omega)
      refine ⟨o, h1, by simp; omega, by rw [hl] at h3; simp; omega, ?_, fun x hx => ?_⟩
      · rw [List.length_cons, show k + (r.length + 1) = k + 1 + r.length by omega, h4, List.take_of_length_le (by omega), List.append_assoc]; rfl
      · rcases h5 x hx with h | h
        · rcases List.mem_append.1 h with h | h
          · exact .inl (List.mem_of_mem_take h)
          · exact .inr (by simp at h; simp [h])
        · exact .inr (by simp [h])
/-- What is there already stays. -/
theorem putGo_same : ∀ (b : List Bytes) (k : Nat) (out : List Bytes), (∀ s ∈ b, decErr s = 0) → k + b.length ≤ out.length → out.take (k + b.length) = out.take k ++ b → putGo b k out = (out, 0)
  | [], _, _, _, _, _ => rfl
  | s :: r, k, out, hb, hk, he => by
    have hs := hb s (by simp)
    rw [List.length_cons] at hk he
    have hk1 : k < out.length := by omega
    have e1 : out.take (k + 1) = out.take k ++ [s] := by
      have := congrArg (List.take (k + 1)) he
      rw [List.take_take, show min (k + 1) (k + (r.length + 1)) = k + 1 by omega, List.take_append, List.take_take, List.length_take, show min k out.length = k by omega, show min (k + 1) k = k by omega, show k + 1 - k = 1 by omega] at this
      simpa using this
    have hgs : out.getD k [] = s := by
      rw [List.take_succ_eq_append_getElem hk1] at e1
      have := List.append_cancel_left e1
      simp at this
      simp [List.getD, hk1, this]
    rw [putGo, if_neg (by rw [hs]; simp), if_pos ⟨hk1, hgs⟩]
    refine putGo_same r (k + 1) out (fun x hx => hb x (by simp [hx])) (by omega) ?_
    rw [show k + 1 + r.length = k + (r.length + 1) by omega, he, e1, List.append_assoc]; rfl
end Go.Tk
