/- A part of the proof, laid together from: SearchP, SessP, BsP, LockP, CodecP, NumP, LinesP. -/
import Derived.Test.YtkefgapnghnjjaaGreatDoorPa01
import Derived.Lib.Bytealg
set_option linter.unusedSimpArgs false
set_option linter.unusedVariables false
namespace Go.Tk
def bsGo (f : Nat → Int) : Nat → Nat → Nat → Nat
  | 0, p, _ => p
  | n + 1, p, q => if p < q then (if f ((p + q) / 2) < 0 then bsGo f n ((p + q) / 2 + 1) q else bsGo f n p ((p + q) / 2)) else p
def bs (f : Nat → Int) (n : Nat) : Nat := bsGo f n 0 n
def bsFound (f : Nat → Int) (n : Nat) : Bool := decide (bs f n < n) && (f (bs f n) == 0)
theorem bsGo_fuel (f : Nat → Int) : ∀ (n m p q : Nat), q - p ≤ n → q - p ≤ m → bsGo f n p q = bsGo f m p q
  | 0, 0, p, q, _, _ => rfl
  | 0, m + 1, p, q, h, _ => by rw [bsGo, bsGo, if_neg (by omega)]
  | n + 1, 0, p, q, _, h => by rw [bsGo, bsGo, if_neg (by omega)]
  | n + 1, m + 1, p, q, h1, h2 => by
    rw [bsGo, bsGo]
    by_cases h : p < q
    · rw [if_pos h, if_pos h]
      rw [bsGo_fuel f n m ((p + q) / 2 + 1) q (by omega) (by omega), bsGo_fuel f n m p ((p + q) / 2) (by omega) (by omega)]
    · rw [if_neg h, if_neg h]
theorem bsGo_le (f : Nat → Int) : ∀ (n p q : Nat), p ≤ q → p ≤ bsGo f n p q ∧ bsGo f n p q ≤ q
  | 0, p, q, h => ⟨Nat.le_refl _, h⟩
  | n + 1, p, q, h => by
    rw [bsGo]
    by_cases hlt : p < q
    · rw [if_pos hlt]
      split
      · have := bsGo_le f n ((p + q) / 2 + 1) q (by omega); omega
      · have := bsGo_le f n p ((p + q) / 2) (by omega); omega
    · rw [if_neg hlt]; omega
theorem bs_le (f : Nat → Int) (n : Nat) : bs f n ≤ n := (bsGo_le f n 0 n (Nat.zero_le _)).2
theorem bsGo_less (f : Nat → Int) {p q : Nat} (h : p < q) (hf : f ((p + q) / 2) < 0) : bsGo f (q - p) p q = bsGo f (q - ((p + q) / 2 + 1)) ((p + q) / 2 + 1) q := by
  rw [show q - p = (q - p - 1) + 1 by omega, bsGo, if_pos h, if_pos hf]
  exact bsGo_fuel f _ _ _ _ (by omega) (by omega)
theorem bsGo_more (f : Nat → Int) {p q : Nat} (h : p < q) (hf : ¬ f ((p + q) / 2) < 0) : bsGo f (q - p) p q = bsGo f ((p + q) / 2 - p) p ((p + q) / 2) := by
  rw [show q - p = (q - p - 1) + 1 by omega, bsGo, if_pos h, if_neg hf]
  exact bsGo_fuel f _ _ _ _ (by omega) (by omega)
def sessCmp (x : SessionD) (t : Int) : Int := x.client - t
def keptCmp (x : KeptD) (t : Int) : Int := x.seq - t
def fIdx {α : Type} (p : α → Bool) (l : List α) : Int := if l.findIdx p < l.length then (l.findIdx p : Nat) else -1
theorem fIdx_at {α : Type} {p : α → Bool} {l : List α} {n : Nat} (hn : n < l.length) (h : p l[n] = true) (hb : ∀ (j : Nat) (hj : j < l.length), j < n → p l[j] = false) : fIdx p l = n := by
  have h1 : l.findIdx p = n := (List.findIdx_eq hn).2 ⟨h, fun j hj => hb j (by omega) hj⟩
  rw [fIdx, h1, if_pos hn]
theorem fIdx_none {α : Type} {p : α → Bool} {l : List α} (hb : ∀ (j : Nat) (hj : j < l.length), p l[j] = false) : fIdx p l = -1 := by
  have h1 : l.findIdx p = l.length := List.findIdx_eq_length.2 fun x hx => by
    obtain ⟨j, hj, rfl⟩ := List.getElem_of_mem hx
    exact hb j hj
  rw [fIdx, h1, if_neg (by omega)]
theorem fIdx_cases {α : Type} (p : α → Bool) (l : List α) : (fIdx p l = -1 ∧ ∀ x ∈ l, p x = false) ∨ ∃ (n : Nat) (hn : n < l.length), fIdx p l = n ∧ p l[n] = true ∧ ∀ (j : Nat) (hj : j < l.length), j < n → p l[j] = false := by
  rcases Nat.lt_or_ge (l.findIdx p) l.length with h | h
  · refine .inr ⟨l.findIdx p, h, by rw [fIdx, if_pos h], List.findIdx_getElem (w := h), fun j hj hjn => ?_⟩
    have := List.not_of_lt_findIdx hjn
    simpa using this
  · have h1 : l.findIdx p = l.length := Nat.le_antisymm List.findIdx_le_length h
    exact .inl ⟨by rw [fIdx, if_neg (by omega)], fun x hx => List.findIdx_eq_length.1 h1 x hx⟩
end Go.Tk

namespace Go.Tk
open Go
def keptBad (s : SessionD) (i : Nat) : Prop :=
  (s.replies.getD i noKept).seq ≤ s.acked ∨ s.acked + 4 < (s.replies.getD i noKept).seq ∨ (0 < i ∧ (s.replies.getD i noKept).seq ≤ (s.replies.getD (i - 1) noKept).seq) ∨
  (s.replies.getD i noKept).reply.code < 0 ∨ 15 < (s.replies.getD i noKept).reply.code ∨ (s.replies.getD i noKept).reply.n < 0 ∨ 1073741824 < (s.replies.getD i noKept).reply.n ∨ 12 < (s.replies.getD i noKept).reply.text.length
instance (s : SessionD) (i : Nat) : Decidable (keptBad s i) := by unfold keptBad; infer_instance
def repliesErr (s : SessionD) : Int := firstErr (fun i => if keptBad s i then 1 else 0) s.replies.length
def replies (s : SessionD) : Bool := repliesErr s == 0
theorem replies_false {s : SessionD} {k : Nat} (hk : k < s.replies.length) (h0 : firstErr (fun i => if keptBad s i then 1 else 0) k = 0) (hb : keptBad s k) : replies s = false := by
  have h1 : (fun i => if keptBad s i then (1 : Int) else 0) k = 1 := if_pos hb
  have h2 : firstErr (fun i => if keptBad s i then (1 : Int) else 0) s.replies.length = (fun i => if keptBad s i then (1 : Int) else 0) k := firstErr_eq h0 (fun h => by have := h1.symm.trans h; cases this) _ hk
  rw [replies, repliesErr, h2.trans h1]; rfl
def sessBad (index : Int) (s : SessionD) : Prop :=
  s.client < 1 ∨ 9 < s.client ∨ s.acked < 0 ∨ 1048576 < s.acked ∨ s.id < 1 ∨ s.last < s.id ∨ index < s.last
instance (index : Int) (s : SessionD) : Decidable (sessBad index s) := by unfold sessBad; infer_instance
def sessErr (l : List SessionD) (index : Int) (i : Nat) : Int :=
  if sessBad index (l.getD i noSession) then 2
  else if replies (l.getD i noSession) = false then 4
  else if 0 < i ∧ (l.getD i noSession).client ≤ (l.getD (i - 1) noSession).client then 14
  else 0
def sessCheck (l : List SessionD) (index : Int) : Int :=
  if index < 0 ∨ 1073741824 < index then 2 else if 4 < l.length then 1 else firstErr (sessErr l index) l.length
theorem replies_ok {s : SessionD} (h : replies s = true) : ∀ i, i < s.replies.length → ¬ keptBad s i := by
  have h0 : repliesErr s = 0 := by simpa [replies] using h
  intro i hi hb
  have := firstErr_zero.1 h0 i hi
  rw [if_pos hb] at this; cases this
theorem replies_rise {s : SessionD} (h : replies s = true) : ∀ i, i < s.replies.length → s.acked + 1 + i ≤ (s.replies.getD i noKept).seq
  | 0, hi => by have := replies_ok h 0 hi; unfold keptBad at this; omega
  | i + 1, hi => by
    have h1 := replies_ok h (i + 1) hi
    have h2 := replies_rise h i (by omega)
    unfold keptBad at h1
    rw [Nat.add_sub_cancel] at h1
    omega
theorem replies_len {s : SessionD} (h : replies s = true) : s.replies.length ≤ 4 := by
  rcases Nat.lt_or_ge s.replies.length 5 with h5 | h5
  · omega
  · have h1 := replies_rise h 4 (by omega)
    have h2 := replies_ok h 4 (by omega)
    unfold keptBad at h2
    omega
structure SessOk (l : List SessionD) (index : Int) : Prop where
  idx : 0 ≤ index ∧ index ≤ 1073741824
  len : l.length ≤ 4
  bad : ∀ x ∈ l, ¬ sessBad index x
  rep : ∀ x ∈ l, replies x = true
  ord : ∀ i, 0 < i → i < l.length → (l.getD (i - 1) noSession).client < (l.getD i noSession).client
theorem getD_mem {α : Type} (l : List α) (i : Nat) (d : α) (h : i < l.length) : l.getD i d ∈ l := by
  rw [show l.getD i d = l[i] by simp [List.getD, h]]; exact List.getElem_mem h
theorem mem_getD {α : Type} (l : List α) (x : α) (d : α) (h : x ∈ l) : ∃ i, i < l.length ∧ l.getD i d = x := by
  obtain ⟨i, hi, rfl⟩ := List.getElem_of_mem h
  exact ⟨i, hi, by simp [List.getD, hi]⟩
theorem sessCheck_ok {l : List SessionD} {index : Int} : sessCheck l index = 0 ↔ SessOk l index := by
  rw [sessCheck]
  constructor
  · intro h
    split at h
    · cases h
    · split at h
      · cases h
      · have hz := firstErr_zero.1 h
        refine ⟨by omega, by omega, fun x hx => ?_, fun x hx => ?_, fun i h0 hi => ?_⟩
        · obtain ⟨i, hi, rfl⟩ := mem_getD l x noSession hx
          intro hb
          have := hz i hi
          rw [sessErr, if_pos hb] at this; cases this
        · obtain ⟨i, hi, rfl⟩ := mem_getD l x noSession hx
          have := hz i hi
          rw [sessErr] at this
          split at this
          · cases this
          · split at this
            · cases this
            · rename_i h; simpa using h
        · have := hz i hi
          rw [sessErr] at this
          split at this
          · cases this
          · split at this
            · cases this
            · split at this
              · cases this
              · rename_i h; omega
  · intro h
    rw [if_neg (by have := h.idx; omega), if_neg (by have := h.len; omega)]
    refine firstErr_zero.2 fun i hi => ?_
    rw [sessErr, if_neg (h.bad _ (getD_mem l i _ hi)), if_neg (by rw [h.rep _ (getD_mem l i _ hi)]; decide), if_neg (fun hc => by have := h.ord i hc.1 hi; omega)]
def sFind (l : List SessionD) (c : Int) : Nat := bs (fun i => sessCmp (l.getD i noSession) c) l.length
def sThere (l : List SessionD) (c : Int) : Bool := bsFound (fun i => sessCmp (l.getD i noSession) c) l.length
theorem sThere_lt {l : List SessionD} {c : Int} (h : sThere l c = true) : sFind l c < l.length := by
  simp only [sThere, bsFound, Bool.and_eq_true, decide_eq_true_eq] at h; exact h.1
theorem sThere_eq {l : List SessionD} {c : Int} (h : sThere l c = true) : (l.getD (sFind l c) noSession).client = c := by
  simp only [sThere, bsFound, Bool.and_eq_true, beq_iff_eq] at h
  have := h.2
  simp only [sessCmp] at this
  show (l.getD (bs _ _) noSession).client = c
  simp only [sessCmp]
  omega
def join (l : List SessionD) (index client : Int) : List SessionD × ReplyD × Int :=
  if sessCheck l index ≠ 0 then ([], noReply, sessCheck l index)
  else if client < 1 ∨ 9 < client ∨ index = 1073741824 then ([], noReply, 2)
  else if sThere l client = true then (l.set (sFind l client) { l.getD (sFind l client) noSession with last := index + 1 }, ⟨7, (l.getD (sFind l client) noSession).id, []⟩, 0)
  else if l.length = 4 then (l, ⟨8, 0, []⟩, 0)
  else (l.take (sFind l client) ++ ⟨client, index + 1, 0, index + 1, []⟩ :: l.drop (sFind l client), ⟨0, index + 1, []⟩, 0)
def freshP (index : Int) (x : SessionD) : Bool := decide (40 < RowKit.wrap64 (index + 1 - x.last))
def freshL (l : List SessionD) (index : Int) : List SessionD × Int := if sessCheck l index ≠ 0 then ([], sessCheck l index) else (l.filter (fun x => !freshP index x), 0)
end Go.Tk

namespace Go.Tk
theorem bsGo_spec (f : Nat → Int) (N : Nat) (mono : ∀ i j, i < j → j < N → f j < 0 → f i < 0) : ∀ (n p q : Nat), q - p ≤ n → p ≤ q → q ≤ N → (∀ i, i < p → f i < 0) → (∀ i, q ≤ i → i < N → ¬ f i < 0) →
    (∀ i, i < bsGo f n p q → f i < 0) ∧ (∀ i, bsGo f n p q ≤ i → i < N → ¬ f i < 0)
  | 0, p, q, hn, hpq, hq, h1, h2 => by
    obtain rfl : p = q := by omega
    exact ⟨h1, h2⟩
  | n + 1, p, q, hn, hpq, hq, h1, h2 => by
    rw [bsGo]
    by_cases hlt : p < q
    · rw [if_pos hlt]
      by_cases hf : f ((p + q) / 2) < 0
      · rw [if_pos hf]
        refine bsGo_spec f N mono n _ _ (by omega) (by omega) hq (fun i hi => ?_) h2
        rcases Nat.lt_or_ge i ((p + q) / 2) with h | h
        · exact mono i _ h (by omega) hf
        · rw [show i = (p + q) / 2 by omega]; exact hf
      · rw [if_neg hf]
        refine bsGo_spec f N mono n _ _ (by omega) (by omega) (by omega) h1 (fun i hi hN hfi => ?_)
        rcases Nat.lt_or_ge ((p + q) / 2) i with h | h
        · exact hf (mono _ i h hN hfi)
        · rw [show i = (p + q) / 2 by omega] at hfi; exact hf hfi
    · rw [if_neg hlt]
      obtain rfl : p = q := by omega
      exact ⟨h1, h2⟩
theorem bs_spec {f : Nat → Int} {N : Nat} (mono : ∀ i j, i < j → j < N → f j < 0 → f i < 0) : (∀ i, i < bs f N → f i < 0) ∧ (∀ i, bs f N ≤ i → i < N → ¬ f i < 0) :=
  bsGo_spec f N mono N 0 N (by omega) (by omega) (by omega) (by omega) (by omega)
end Go.Tk

namespace Go.Tk
open Go
def badByte (c : UInt8) : Bool := decide ((c.toNat : Int) < 97) || decide ((122 : Int) < (c.toNat : Int))
def lkName (s : List UInt8) : Bool := !s.isEmpty && decide (s.length ≤ 6) && !s.any badByte
def lkClient (n : Int) : Bool := decide (1 ≤ n) && decide (n ≤ 9)
def lineBad (k : LockD) (i : Nat) : Prop := lkClient (k.line.getD i 0) = false ∨ k.line.getD i 0 = k.holder ∨ (k.line.take i).contains (k.line.getD i 0) = true
instance (k : LockD) (i : Nat) : Decidable (lineBad k i) := by unfold lineBad; infer_instance
def lineErr (k : LockD) : Int := firstErr (fun i => if lineBad k i then 1 else 0) k.line.length
def lkLine (k : LockD) : Bool := lineErr k == 0 && (decide (k.line.length ≤ 3) && (k.holder != 0 || k.line.length == 0))
def lkForm (k : LockD) : Bool := lkName k.name && (k.holder == 0 || lkClient k.holder) && lkLine k
def lkErr (l : List LockD) (i : Nat) : Int :=
  if lkForm (l.getD i noLock) = false then 4
  else if (l.getD i noLock).fence < 1 ∨ 1073741824 < (l.getD i noLock).fence then 2
  else if 0 < i ∧ Op.bytesLess (l.getD (i - 1) noLock).name (l.getD i noLock).name = false then 14
  else 0
def lkCheck (l : List LockD) : Int := if 5 < l.length then 1 else firstErr (lkErr l) l.length
theorem lkName_len {s : List UInt8} (h : lkName s = true) : s ≠ [] ∧ s.length ≤ 6 := by
  simp only [lkName, Bool.and_eq_true, Bool.not_eq_true', List.isEmpty_eq_false_iff, decide_eq_true_eq] at h
  exact ⟨h.1.1, h.1.2⟩
structure LineOk (k : LockD) : Prop where
  len : k.line.length ≤ 3
  held : k.holder = 0 → k.line = []
  cl : ∀ x ∈ k.line, 1 ≤ x ∧ x ≤ 9
  ne : ∀ x ∈ k.line, x ≠ k.holder
  nodup : k.line.Nodup
theorem lkClient_iff {n : Int} : lkClient n = true ↔ 1 ≤ n ∧ n ≤ 9 := by simp [lkClient]
theorem nodup_take {l : List Int} (h : ∀ i, i < l.length → (l.take i).contains (l.getD i 0) = false) : l.Nodup := by
  refine List.pairwise_iff_getElem.2 fun i j hi hj hij he => ?_
  have h1 := h j hj
  have h2 : l.getD j 0 ∈ l.take j := by
    rw [List.mem_take_iff_getElem]
    refine ⟨i, by omega, ?_⟩
    rw [he]; simp [List.getD, hj]
  rw [List.contains_iff_mem.2 h2] at h1; cases h1
theorem take_nodup {l : List Int} (h : l.Nodup) (i : Nat) (hi : i < l.length) : (l.take i).contains (l.getD i 0) = false := by
  rw [Bool.eq_false_iff]
  intro hc
  have h2 := List.contains_iff_mem.1 hc
  rw [List.mem_take_iff_getElem] at h2
  obtain ⟨j, hj, he⟩ := h2
  refine List.pairwise_iff_getElem.1 h j i (by omega) hi (by omega) ?_
  rw [he]; simp [List.getD, hi]
theorem lkLine_iff {k : LockD} : lkLine k = true ↔ LineOk k := by
  simp only [lkLine, lineErr, Bool.and_eq_true, beq_iff_eq, decide_eq_true_eq, Bool.or_eq_true, bne_iff_ne, ne_eq]
  constructor
  · rintro ⟨h1, h2, h3⟩
    have hz := firstErr_zero.1 h1
    have hg : ∀ i, i < k.line.length → ¬ lineBad k i := fun i hi hb => by have := hz i hi; rw [if_pos hb] at this; cases this
    refine ⟨h2, fun h0 => ?_, fun x hx => ?_, fun x hx => ?_, nodup_take fun i hi => ?_⟩
    · rcases h3 with h | h
      · exact absurd h0 h
      · exact List.eq_nil_of_length_eq_zero h
    · obtain ⟨i, hi, rfl⟩ := mem_getD k.line x 0 hx
      have := hg i hi
      unfold lineBad at this
      exact lkClient_iff.1 (by simpa using fun h => this (.inl h))
    · obtain ⟨i, hi, rfl⟩ := mem_getD k.line x 0 hx
      have := hg i hi
      unfold lineBad at this
      exact fun h => this (.inr (.inl h))
    · have := hg i hi
      unfold lineBad at this
      simpa using fun h => this (.inr (.inr h))
  · intro h
    refine ⟨firstErr_zero.2 fun i hi => if_neg fun hb => ?_, h.len, ?_⟩
    · have hm := getD_mem k.line i 0 hi
      rcases hb with hb | hb | hb
      · rw [lkClient_iff.2 (h.cl _ hm)] at hb; cases hb
      · exact h.ne _ hm hb
      · rw [take_nodup h.nodup i hi] at hb; cases hb
    · by_cases h0 : k.holder = 0
      · exact .inr (by rw [h.held h0]; rfl)
      · exact .inl h0
structure LkOk (l : List LockD) : Prop where
  len : l.length ≤ 5
  name : ∀ x ∈ l, lkName x.name = true
  hold : ∀ x ∈ l, 0 ≤ x.holder ∧ x.holder ≤ 9
  line : ∀ x ∈ l, LineOk x
  fence : ∀ x ∈ l, 1 ≤ x.fence ∧ x.fence ≤ 1073741824
  ord : ∀ i, 0 < i → i < l.length → Op.bytesLess (l.getD (i - 1) noLock).name (l.getD i noLock).name = true
theorem lkForm_iff {k : LockD} : lkForm k = true ↔ lkName k.name = true ∧ (0 ≤ k.holder ∧ k.holder ≤ 9) ∧ LineOk k := by
  simp only [lkForm, Bool.and_eq_true, Bool.or_eq_true, beq_iff_eq, lkClient_iff, lkLine_iff]
  constructor
  · rintro ⟨⟨h1, h2⟩, h3⟩; exact ⟨h1, by omega, h3⟩
  · rintro ⟨h1, h2, h3⟩; exact ⟨⟨h1, by omega⟩, h3⟩
theorem lkCheck_ok {l : List LockD} : lkCheck l = 0 ↔ LkOk l := by
  rw [lkCheck]
  constructor
  · intro h
    split at h
    · cases h
    · have hz := firstErr_zero.1 h
      have hg : ∀ i, i < l.length → lkForm (l.getD i noLock) = true ∧ (1 ≤ (l.getD i noLock).fence ∧ (l.getD i noLock).fence ≤ 1073741824) ∧ (0 < i → Op.bytesLess (l.getD (i - 1) noLock).name (l.getD i noLock).name = true) := by
        intro i hi
        have := hz i hi
        rw [lkErr] at this
        split at this
        · cases this
        · split at this
          · cases this
          · split at this
            · cases this
            · rename_i a b c
              refine ⟨by simpa using a, by omega, fun h0 => ?_⟩
              cases hb : Op.bytesLess (l.getD (i - 1) noLock).name (l.getD i noLock).name
              · exact absurd ⟨h0, hb⟩ c
              · rfl
      refine ⟨by omega, fun x hx => ?_, fun x hx => ?_, fun x hx => ?_, fun x hx => ?_, fun i h0 hi => (hg i hi).2.2 h0⟩ <;> obtain ⟨i, hi, rfl⟩ := mem_getD l x noLock hx
      · exact (lkForm_iff.1 (hg i hi).1).1
      · exact (lkForm_iff.1 (hg i hi).1).2.1
      · exact (lkForm_iff.1 (hg i hi).1).2.2
      · exact (hg i hi).2.1
  · intro h
    rw [if_neg (by have := h.len; omega)]
    refine firstErr_zero.2 fun i hi => ?_
    have hm := getD_mem l i noLock hi
    rw [lkErr, if_neg (by rw [lkForm_iff.2 ⟨h.name _ hm, h.hold _ hm, h.line _ hm⟩]; decide), if_neg (by have := h.fence _ hm; omega), if_neg (fun hc => by rw [h.ord i hc.1 hi] at hc; cases hc.2)]
def lockCmp (x : LockD) (t : List UInt8) : Int := Lib.compareBytes x.name t
def lFind (l : List LockD) (t : List UInt8) : Nat := bs (fun i => lockCmp (l.getD i noLock) t) l.length
def lThere (l : List LockD) (t : List UInt8) : Bool := bsFound (fun i => lockCmp (l.getD i noLock) t) l.length
theorem lThere_lt {l : List LockD} {t : List UInt8} (h : lThere l t = true) : lFind l t < l.length := by
  simp only [lThere, bsFound, Bool.and_eq_true, decide_eq_true_eq] at h; exact h.1
def lkBegin (l : List LockD) (name : List UInt8) (who : Int) : List LockD × Int × Bool × Int :=
  if lkCheck l ≠ 0 then ([], 0, false, lkCheck l)
  else if lkName name = false then ([], 0, false, 4)
  else if lkClient who = false then ([], 0, false, 2)
  else (l, (lFind l name : Nat), lThere l name, 0)
def lkTake (l : List LockD) (name : List UInt8) (who : Int) (wait : Bool) : List LockD × ReplyD × Int :=
  if (lkBegin l name who).2.2.2 ≠ 0 then ([], noReply, (lkBegin l name who).2.2.2)
  else if lThere l name = false then (if l.length = 5 then (l, ⟨8, 0, []⟩, 0) else (l.take (lFind l name) ++ ⟨name, who, 1, []⟩ :: l.drop (lFind l name), ⟨0, 1, []⟩, 0))
  else if (l.getD (lFind l name) noLock).holder = who then (l, ⟨0, (l.getD (lFind l name) noLock).fence, []⟩, 0)
  else if (l.getD (lFind l name) noLock).holder = 0 then
    (if (l.getD (lFind l name) noLock).fence = 1073741824 then (l, ⟨8, 0, []⟩, 0)
     else (l.set (lFind l name) { l.getD (lFind l name) noLock with holder := who, fence := (l.getD (lFind l name) noLock).fence + 1 }, ⟨0, (l.getD (lFind l name) noLock).fence + 1, []⟩, 0))
  else if wait = false ∨ who ∈ (l.getD (lFind l name) noLock).line then (l, ⟨10, (l.getD (lFind l name) noLock).holder, []⟩, 0)
  else if (l.getD (lFind l name) noLock).line.length = 3 then (l, ⟨8, 0, []⟩, 0)
  else (l.set (lFind l name) { l.getD (lFind l name) noLock with line := (l.getD (lFind l name) noLock).line ++ [who] }, ⟨10, (l.getD (lFind l name) noLock).holder, []⟩, 0)
def passP (k : LockD) : LockD :=
  if 0 < k.line.length ∧ k.fence < 1073741824 then ⟨k.name, k.line.getD 0 0, k.fence + 1, k.line.drop 1⟩ else ⟨k.name, 0, k.fence, []⟩
def unline (k : LockD) (who : Int) : LockD := if 0 ≤ fIdx (fun x => who == x) k.line then { k with line := k.line.eraseIdx (fIdx (fun x => who == x) k.line).toNat } else k
def lkFree (l : List LockD) (name : List UInt8) (who : Int) : List LockD × ReplyD × Int :=
  if (lkBegin l name who).2.2.2 ≠ 0 then ([], noReply, (lkBegin l name who).2.2.2)
  else if lThere l name = false then (l, ⟨6, 0, []⟩, 0)
  else if (l.getD (lFind l name) noLock).holder = who then (l.set (lFind l name) (passP (l.getD (lFind l name) noLock)), ⟨0, (passP (l.getD (lFind l name) noLock)).holder, []⟩, 0)
  else if 0 ≤ fIdx (fun x => who == x) (l.getD (lFind l name) noLock).line then (l.set (lFind l name) (unline (l.getD (lFind l name) noLock) who), ⟨0, (l.getD (lFind l name) noLock).holder, []⟩, 0)
  else (l, ⟨10, (l.getD (lFind l name) noLock).holder, []⟩, 0)
def goneK (k : LockD) (who : Int) : LockD := if (unline k who).holder = who then passP (unline k who) else unline k who
def lkGone (l : List LockD) (who : Int) : List LockD × Int :=
  if lkCheck l ≠ 0 then ([], lkCheck l)
  else if lkClient who = false then ([], 2)
  else (l.map (fun k => goneK k who), 0)
def lWho (l : List LockD) (name : List UInt8) : Int × Int × Int :=
  if lkCheck l ≠ 0 then (0, 0, lkCheck l)
  else if lThere l name = false ∨ (l.getD (lFind l name) noLock).holder = 0 then (0, 0, 0)
  else ((l.getD (lFind l name) noLock).holder, (l.getD (lFind l name) noLock).fence, 0)
end Go.Tk

namespace Go.Tk
open Go
theorem i64_or (a b : Nat) (ha : a < 9223372036854775808) (hb : b < 9223372036854775808) : bits .or .i64 (a : Int) (b : Int) = ((a ||| b : Nat) : Int) := by
  have hab : a ||| b < 2 ^ 63 := Nat.or_lt_two_pow (by omega) (by omega)
  show IntKind.i64.wrap ((BitVec.ofInt 64 (a : Int) ||| BitVec.ofInt 64 (b : Int)).toNat : Int) = _
  rw [BitVec.toNat_or, ofInt_u64 a (by omega), ofInt_u64 b (by omega), IntKind.wrap_i64]
  omega
theorem i64_and127 (a : Nat) : bits .and .i64 (a : Int) 127 = ((a % 128 : Nat) : Int) := by
  rw [Go.i64_and127]; omega
theorem or_join (n d k : Nat) (hn : n < 128 ^ k) : n ||| d * 2 ^ (7 * k) = n + d * 128 ^ k := by
  have h7 : (128 : Nat) ^ k = 2 ^ (7 * k) := by rw [Nat.pow_mul]
  rw [h7] at hn ⊢
  rw [Nat.or_comm, nat_join (7 * k) _ _ (by simp) hn, Nat.add_comm]
def rdGo (s : List UInt8) : Nat → Nat → Nat → Int × List UInt8 × Int
  | 0, _, _ => (0, [], 4)
  | f + 1, k, n =>
    if k < s.length then
      if 128 ≤ (s.getD k 0).toNat then rdGo s f (k + 1) (n + (s.getD k 0).toNat % 128 * 128 ^ k)
      else if (s.getD k 0).toNat = 0 ∧ 0 < k ∨ 1099511627776 < n + (s.getD k 0).toNat % 128 * 128 ^ k then (0, [], 4)
      else ((n + (s.getD k 0).toNat % 128 * 128 ^ k : Nat), s.drop (k + 1), 0)
    else (0, [], 5)
theorem digit_or (m x k : Nat) (hm : m < 128 ^ k) (hk : k < 6) (hx8 : x < 256) :
    bits .or .i64 (m : Int) (RowKit.wrap64 (RowKit.wrap64 (bits .and .u8 (x : Int) 127) * 2 ^ (7 * k))) = ((m + x % 128 * 128 ^ k : Nat) : Int) ∧ m + x % 128 * 128 ^ k < 128 ^ (k + 1) := by
  have hx : bits .and .u8 (x : Int) 127 = ((x % 128 : Nat) : Int) := by
    have h := u8_and_nat x 127 hx8 (by omega)
    rwa [nat_mask7] at h
  have h6 : (128 : Nat) ^ k ≤ 128 ^ 5 := Nat.pow_le_pow_right (by decide) (by omega)
  have hlt : m + x % 128 * 128 ^ k < 128 ^ (k + 1) := by
    have h1 : x % 128 * 128 ^ k ≤ 127 * 128 ^ k := Nat.mul_le_mul_right _ (by omega)
    rw [Nat.pow_succ]; omega
  refine ⟨?_, hlt⟩
  rw [hx, IntWalk.wrap64_in ((x % 128 : Nat) : Int) ⟨by omega, by omega⟩]
  have h7 : (2 : Nat) ^ (7 * k) = 128 ^ k := by rw [Nat.pow_mul]
  have e : ((x % 128 : Nat) : Int) * 2 ^ (7 * k) = ((x % 128 * 2 ^ (7 * k) : Nat) : Int) := by push_cast; rfl
  have h2 : x % 128 * 2 ^ (7 * k) ≤ 127 * 128 ^ 5 := by rw [h7]; exact Nat.mul_le_mul (by omega) h6
  have h3 : (127 * 128 ^ 5 : Nat) < 9223372036854775808 := by decide
  rw [e, IntWalk.wrap64_in _ ⟨by omega, by omega⟩, i64_or _ _ (by omega) (by omega), or_join _ _ _ hm]
def readNumber (s : List UInt8) : Int × List UInt8 × Int := rdGo s 6 0 0
def digs : Nat → Nat → List UInt8
  | 0, n => [n.toUInt8]
  | f + 1, n => if n < 128 then [n.toUInt8] else (n % 128 + 128).toUInt8 :: digs f (n / 128)
def rByte : Rel UInt8 := fun _ cs c _ => cs = [.int .u8 (c.toNat : Int)]
theorem rByte_ok : RelOk rByte 1 := ⟨by rintro w cs x S rfl; rfl, by rintro w cs x S rfl u hu; simp at hu; subst hu; rfl, fun h _ => h⟩
theorem digs_small (f m : Nat) (h : m < 128) : digs f m = [m.toUInt8] := by cases f <;> simp [digs, h]
theorem digs_big (f m : Nat) (h : 128 ≤ m) : digs (f + 1) m = (m % 128 + 128).toUInt8 :: digs f (m / 128) := by simp [digs]; omega
theorem byte_or (m : Nat) (hm : m < 9223372036854775808) : bits .or .i64 (bits .and .i64 (m : Int) 127) 128 % 256 = (((m % 128 + 128).toUInt8).toNat : Int) := by
  have h1 : bits .or .i64 ((m % 128 : Nat) : Int) ((128 : Nat) : Int) = ((m % 128 ||| 128 : Nat) : Int) := i64_or _ _ (by omega) (by omega)
  have h2 : m % 128 ||| 128 = m % 128 + 128 := by rw [Nat.or_comm]; exact (nat_join 7 128 (m % 128) (by decide) (by omega)).trans (by omega)
  rw [i64_and127]
  rw [show (128 : Int) = ((128 : Nat) : Int) from rfl, h1, h2]
  simp
def number (n : Int) : List UInt8 × Int := if n < 0 ∨ 1099511627776 < n then ([], 2) else (digs 6 n.toNat, 0)
theorem rdGo_nonneg (s : List UInt8) : ∀ f k n, 0 ≤ (rdGo s f k n).1
  | 0, k, n => by simp [rdGo]
  | f + 1, k, n => by
    rw [rdGo]
    split
    · split
      · exact rdGo_nonneg s f _ _
      · split
        · simp
        · exact Int.natCast_nonneg _
    · simp
theorem readNumber_nonneg (s : List UInt8) : 0 ≤ (readNumber s).1 := rdGo_nonneg s 6 0 0
theorem digs_len : ∀ f m, (digs f m).length ≤ f + 1
  | 0, m => by simp [digs]
  | f + 1, m => by
    rw [digs]
    split
    · simp
    · have := digs_len f (m / 128)
      simp; omega
theorem number_len (n : Int) : (number n).1.length ≤ 7 := by
  rw [number]
  split
  · simp
  · exact digs_len 6 _
def text (s : List UInt8) : List UInt8 × Int := if 5000 < s.length then ([], 1) else ((number s.length).1 ++ s, 0)
def readText (s : List UInt8) : List UInt8 × List UInt8 × Int :=
  if (readNumber s).2.2 ≠ 0 then ([], [], (readNumber s).2.2)
  else if 5000 < (readNumber s).1 then ([], [], 1)
  else if ((readNumber s).2.1.length : Int) < (readNumber s).1 then ([], [], 5)
  else ((readNumber s).2.1.take (readNumber s).1.toNat, (readNumber s).2.1.drop (readNumber s).1.toNat, 0)
def picked (n m : Int) : Int := if n < 0 then -(n + 1) % m else n % m
theorem str_of_bytes (l : List UInt8) : strOfNums (l.map fun c => (c.toNat : Int)) = ⟨l.toArray⟩ := by
  apply ByteArray.ext
  simp [strOfNums, Function.comp_def]
theorem run_string_of_bytes {P : Program} {w : World} {T E D : Nat} (hT : P.underlying T = some (.slice E)) (hE : P.underlying E = some (.int .u8)) (hD : P.underlying D = some .string)
    {v : Value} {l : List UInt8} {S : Nat → Prop} (h : SlR 1 rByte w v l S) : (convert T D v).run P w = .ok (.string ⟨l.toArray⟩) w := by
  obtain ⟨a, cap, rfl, h1, h2, h3, h4⟩ := h
  rcases l with _ | ⟨c, l⟩
  · cases a with
    | none => exact run_convert_bytes_nil w T E hT hE _ _ D hD
    | some a =>
      rw [run_convert_bytes_string w T D E _ _ cap hT hE hD]
      simp [Conv.bytesToString, loadCells, loadCellsFrom]
      rfl
  · obtain ⟨b, off, row, rfl, _, _, _⟩ := h4 0 c rfl
    have h := run_convert_bytes_arg (P := P) w T E hT hE b off (c :: l).length cap ((c :: l).map fun c => (c.toNat : Int)) (by simp) (fun i hi => by
      obtain ⟨b', off', row, e, _, hr, hc⟩ := h4 i (c :: l)[i] (List.getElem?_eq_getElem hi)
      simp only [Option.some.injEq, Addr.mk.injEq] at e
      obtain ⟨rfl, rfl, _⟩ := e
      cases hr
      have := hc 0 _ rfl
      simp only [Nat.mul_one, Nat.add_zero] at this
      rw [this]
      have e2 : ((c :: l).map fun c => (c.toNat : Int)).getD i 0 = ((c :: l)[i]'hi).toNat := by
        rw [List.getD, List.getElem?_map, List.getElem?_eq_getElem hi]; rfl
      rw [e2]) D hD
    rw [h, str_of_bytes]
end Go.Tk

namespace Go.Tk
open Go
theorem digs_fuel : ∀ f q, q < 128 ^ (f + 1) → digs (f + 1) q = digs f q
  | 0, q, h => by rw [digs_small _ _ (by simpa using h), digs_small _ _ (by simpa using h)]
  | f + 1, q, h => by
    by_cases h1 : q < 128
    · rw [digs_small _ _ h1, digs_small _ _ h1]
    · rw [digs_big (f + 1) q (by omega), digs_big f q (by omega), digs_fuel f (q / 128) (by rw [Nat.pow_succ] at h; omega)]
theorem rdGo_digs (t : List UInt8) : ∀ (f k m q : Nat) (pre : List UInt8), pre.length = k → q < 128 ^ (f + 1) → (0 < k → q ≠ 0) → m + q * 128 ^ k ≤ 1099511627776 → rdGo (pre ++ (digs f q ++ t)) (f + 1) k m = (((m + q * 128 ^ k : Nat) : Int), t, 0)
  | f, k, m, q, pre, hp, hq, hz, hm => by
    subst hp
    by_cases h : q < 128
    · rw [digs_small f q h, rdGo]
      have hg : ((pre ++ ([q.toUInt8] ++ t)).getD pre.length 0).toNat = q := by simp [List.getD]; omega
      rw [if_pos (by simp), hg, if_neg (by omega), if_neg (by rw [Nat.mod_eq_of_lt h]; omega), Nat.mod_eq_of_lt h]
      simp [List.drop_append]
    · rcases f with _ | f
      · simp at hq; omega
      · rw [digs_big f q (by omega), rdGo]
        have hg : ((pre ++ ((q % 128 + 128).toUInt8 :: digs f (q / 128) ++ t)).getD pre.length 0).toNat = q % 128 + 128 := by simp [List.getD]; omega
        rw [if_pos (by simp), hg, if_pos (by omega)]
        have e := rdGo_digs t f (pre.length + 1) (m + q % 128 * 128 ^ pre.length) (q / 128) (pre ++ [(q % 128 + 128).toUInt8]) (by simp) (by rw [Nat.pow_succ] at hq; omega) (by omega)
        have e2 : m + q % 128 * 128 ^ pre.length + q / 128 * 128 ^ (pre.length + 1) = m + q * 128 ^ pre.length := by
          rw [Nat.pow_succ, Nat.add_assoc, Nat.mul_comm (128 ^ pre.length) 128, ← Nat.mul_assoc, ← Nat.add_mul]
          congr 2; omega
        rw [e2] at e
        have e3 := e hm
        simp only [List.append_assoc, List.cons_append, List.nil_append] at e3 ⊢
        rw [show (q % 128 + 128) % 128 = q % 128 by omega, ← e3]
theorem readNumber_back (q : Nat) (hq : q ≤ 1099511627776) (t : List UInt8) : readNumber (digs 6 q ++ t) = ((q : Int), t, 0) := by
  have h := rdGo_digs t 5 0 0 q [] rfl (by omega) (by omega) (by omega)
  rw [digs_fuel 5 q (by omega)]
  simpa [readNumber] using h
theorem readText_back (s t : List UInt8) (h : s.length ≤ 5000) : readText ((text s).1 ++ t) = (s, t, 0) := by
  have e : (text s).1 = digs 6 s.length ++ s := by rw [text, if_neg (by omega), number, if_neg (by omega)]; rfl
  have r : readNumber ((text s).1 ++ t) = (((s.length : Nat) : Int), s ++ t, 0) := by rw [e, List.append_assoc]; exact readNumber_back _ (by omega) _
  rw [readText, r]
  simp
  rw [if_neg (by omega), if_neg (by omega)]
end Go.Tk

namespace Go.Tk
open Go
theorem compare_self : ∀ s : List UInt8, Lib.compareBytes s s = 0
  | [] => rfl
  | c :: r => by rw [Lib.compareBytes, if_neg (UInt8.lt_irrefl c), if_neg (UInt8.lt_irrefl c), compare_self r]
theorem lk_begin {l : List LockD} {name : List UInt8} {who : Int} (h : LkOk l) (h2 : lkName name = true) (h3 : 1 ≤ who ∧ who ≤ 9) : (lkBegin l name who).2.2.2 = 0 := by
  rw [lkBegin, if_neg (by rw [lkCheck_ok.2 h]; simp), if_neg (by rw [h2]; decide), if_neg (by rw [lkClient_iff.2 h3]; decide)]
theorem lk_nil : LkOk [] := ⟨by simp, by simp, by simp, by simp, by simp, by simp⟩
def kname (n : Int) : List UInt8 := if picked n 3 = 0 then [97] else if picked n 3 = 1 then [98] else [107, 101, 121]
theorem kname_ok (n : Int) : lkName (kname n) = true := by
  unfold kname
  split
  · decide
  · split <;> decide
def ord (a : Int) : List Int := [a, 1 + a % 3, 1 + (1 + a) % 3]
theorem LineOk.rename {k k' : List UInt8} {h f : Int} {l : List Int} (o : LineOk ⟨k, h, f, l⟩) : LineOk ⟨k', h, f, l⟩ := ⟨o.len, o.held, o.cl, o.ne, o.nodup⟩
end Go.Tk
