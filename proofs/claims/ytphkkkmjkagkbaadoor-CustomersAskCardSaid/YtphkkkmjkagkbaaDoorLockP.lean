/- The plain functions of package lock. -/
import Derived.Test.YtphkkkmjkagkbaaDoorSessP
import Derived.Test.YtphkkkmjkagkbaaDoorBsP
import Derived.Lib.Bytealg
namespace Go.Tk
open Go

def badByte (c : UInt8) : Bool := decide ((c.toNat : Int) < 97) || decide ((122 : Int) < (c.toNat : Int))
def lkName (s : List UInt8) : Bool := !s.isEmpty && decide (s.length ≤ 6) && !s.any badByte
def lkClient (n : Int) : Bool := decide (1 ≤ n) && decide (n ≤ 9)
def lineBad (k : LockD) (i : Nat) : Prop := lkClient (k.line.getD i 0) = false ∨ k.line.getD i 0 = k.holder ∨ (k.line.take i).contains (k.line.getD i 0) = true
instance (k : LockD) (i : Nat) : Decidable (lineBad k i) := by unfold lineBad; infer_instance
def lineErr (k : LockD) : Int := firstErr (fun i => if lineBad k i then 1 else 0) k.line.length
def lkLine (k : LockD) : Bool := lineErr k == 0 && (decide (k.line.length ≤ 3) && (k.holder != 0 || k.line.length == 0))
def lkForm (k : LockD) : Bool := lkName k.name && (k.holder == 0 || lkClient k.holder) && lkLine k
def lkErr (l : List LockD) (i : Nat) : Int :=
  if lkForm (l.getD i noLock) = false then 4
  else if (l.getD i noLock).fence < 1 ∨ 1073741824 < (l.getD i noLock).fence then 2
  else if 0 < i ∧ Op.bytesLess (l.getD (i - 1) noLock).name (l.getD i noLock).name = false then 14
  else 0
def lkCheck (l : List LockD) : Int := if 5 < l.length then 1 else firstErr (lkErr l) l.length

theorem lkName_len {s : List UInt8} (h : lkName s = true) : s ≠ [] ∧ s.length ≤ 6 := by
  simp only [lkName, Bool.and_eq_true, Bool.not_eq_true', List.isEmpty_eq_false_iff, decide_eq_true_eq] at h
  exact ⟨h.1.1, h.1.2⟩
/-- Lines that may be. -/
structure LineOk (k : LockD) : Prop where
  len : k.line.length ≤ 3
  held : k.holder = 0 → k.line = []
  cl : ∀ x ∈ k.line, 1 ≤ x ∧ x ≤ 9
  ne : ∀ x ∈ k.line, x ≠ k.holder
  nodup : k.line.Nodup
theorem lkClient_iff {n : Int} : lkClient n = true ↔ 1 ≤ n ∧ n ≤ 9 := by simp [lkClient]
theorem nodup_take {l : List Int} (h : ∀ i, i < l.length → (l.take i).contains (l.getD i 0) = false) : l.Nodup := by
  refine List.pairwise_iff_getElem.2 fun i j hi hj hij he => ?_
  have h1 := h j hj
  have h2 : l.getD j 0 ∈ l.take j := by
    rw [List.mem_take_iff_getElem]
    refine ⟨i, by omega, ?_⟩
    rw [he]; simp [List.getD, hj]
  rw [List.contains_iff_mem.2 h2] at h1; cases h1
theorem take_nodup {l : List Int} (h : l.Nodup) (i : Nat) (hi : i < l.length) : (l.take i).contains (l.getD i 0) = false := by
  rw [Bool.eq_false_iff]
  intro hc
  have h2 := List.contains_iff_mem.1 hc
  rw [List.mem_take_iff_getElem] at h2
  obtain ⟨j, hj, he⟩ := h2
  refine List.pairwise_iff_getElem.1 h j i (by omega) hi (by omega) ?_
  rw [he]; simp [List.getD, hi]
theorem lkLine_iff {k : LockD} : lkLine k = true ↔ LineOk k := by
  simp only [lkLine, lineErr, Bool.and_eq_true, beq_iff_eq, decide_eq_true_eq, Bool.or_eq_true, bne_iff_ne, ne_eq]
  constructor
  · rintro ⟨h1, h2, h3⟩
    have hz := firstErr_zero.1 h1
    have hg : ∀ i, i < k.line.length → ¬ lineBad k i := fun i hi hb => by have := hz i hi; rw [if_pos hb] at this; cases this
    refine ⟨h2, fun h0 => ?_, fun x hx => ?_, fun x hx => ?_, nodup_take fun i hi => ?_⟩
    · rcases h3 with h | h
      · exact absurd h0 h
      · exact List.eq_nil_of_length_eq_zero h
    · obtain ⟨i, hi, rfl⟩ := mem_getD k.line x 0 hx
      have := hg i hi
      unfold lineBad at this
      exact lkClient_iff.1 (by simpa using fun h => this (.inl h))
    · obtain ⟨i, hi, rfl⟩ := mem_getD k.line x 0 hx
      have := hg i hi
      unfold lineBad at this
      exact fun h => this (.inr (.inl h))
    · have := hg i hi
      unfold lineBad at this
      simpa using fun h => this (.inr (.inr h))
  · intro h
    refine ⟨firstErr_zero.2 fun i hi => if_neg fun hb => ?_, h.len, ?_⟩
    · have hm := getD_mem k.line i 0 hi
      rcases hb with hb | hb | hb
      · rw [lkClient_iff.2 (h.cl _ hm)] at hb; cases hb
      · exact h.ne _ hm hb
      · rw [take_nodup h.nodup i hi] at hb; cases hb
    · by_cases h0 : k.holder = 0
      · exact .inr (by rw [h.held h0]; rfl)
      · exact .inl h0
/-- Locks that may be. -/
structure LkOk (l : List LockD) : Prop where
  len : l.length ≤ 5
  name : ∀ x ∈ l, lkName x.name = true
  hold : ∀ x ∈ l, 0 ≤ x.holder ∧ x.holder ≤ 9
  line : ∀ x ∈ l, LineOk x
  fence : ∀ x ∈ l, 1 ≤ x.fence ∧ x.fence ≤ 1073741824
  ord : ∀ i, 0 < i → i < l.length → Op.bytesLess (l.getD (i - 1) noLock).name (l.getD i noLock).name = true
theorem lkForm_iff {k : LockD} : lkForm k = true ↔ lkName k.name = true ∧ (0 ≤ k.holder ∧ k.holder ≤ 9) ∧ LineOk k := by
  simp only [lkForm, Bool.and_eq_true, Bool.or_eq_true, beq_iff_eq, lkClient_iff, lkLine_iff]
  constructor
  · rintro ⟨⟨h1, h2⟩, h3⟩; exact ⟨h1, by omega, h3⟩
  · rintro ⟨h1, h2, h3⟩; exact ⟨⟨h1, by omega⟩, h3⟩
theorem lkCheck_ok {l : List LockD} : lkCheck l = 0 ↔ LkOk l := by
  rw [lkCheck]
  constructor
  · intro h
    split at h
    · cases h
    · have hz := firstErr_zero.1 h
      have hg : ∀ i, i < l.length → lkForm (l.getD i noLock) = true ∧ (1 ≤ (l.getD i noLock).fence ∧ (l.getD i noLock).fence ≤ 1073741824) ∧ (0 < i → Op.bytesLess (l.getD (i - 1) noLock).name (l.getD i noLock).name = true) := by
        intro i hi
        have := hz i hi
        rw [lkErr] at this
        split at this
        · cases this
        · split at this
          · cases this
          · split at this
            · cases this
            · rename_i a b c
              refine ⟨by simpa using a, by omega, fun h0 => ?_⟩
              cases hb : Op.bytesLess (l.getD (i - 1) noLock).name (l.getD i noLock).name
              · exact absurd ⟨h0, hb⟩ c
              · rfl
      refine ⟨by omega, fun x hx => ?_, fun x hx => ?_, fun x hx => ?_, fun x hx => ?_, fun i h0 hi => (hg i hi).2.2 h0⟩ <;> obtain ⟨i, hi, rfl⟩ := mem_getD l x noLock hx
      · exact (lkForm_iff.1 (hg i hi).1).1
      · exact (lkForm_iff.1 (hg i hi).1).2.1
      · exact (lkForm_iff.1 (hg i hi).1).2.2
      · exact (hg i hi).2.1
  · intro h
    rw [if_neg (by have := h.len; omega)]
    refine firstErr_zero.2 fun i hi => ?_
    have hm := getD_mem l i noLock hi
    rw [lkErr, if_neg (by rw [lkForm_iff.2 ⟨h.name _ hm, h.hold _ hm, h.line _ hm⟩]; decide), if_neg (by have := h.fence _ hm; omega), if_neg (fun hc => by rw [h.ord i hc.1 hi] at hc; cases hc.2)]

def lockCmp (x : LockD) (t : List UInt8) : Int := Lib.compareBytes x.name t
def lFind (l : List LockD) (t : List UInt8) : Nat := bs (fun i => lockCmp (l.getD i noLock) t) l.length
def lThere (l : List LockD) (t : List UInt8) : Bool := bsFound (fun i => lockCmp (l.getD i noLock) t) l.length
theorem lThere_lt {l : List LockD} {t : List UInt8} (h : lThere l t = true) : lFind l t < l.length := by
  simp only [lThere, bsFound, Bool.and_eq_true, decide_eq_true_eq] at h; exact h.1
def lkBegin (l : List LockD) (name : List UInt8) (who : Int) : List LockD × Int × Bool × Int :=
  if lkCheck l ≠ 0 then ([], 0, false, lkCheck l)
  else if lkName name = false then ([], 0, false, 4)
  else if lkClient who = false then ([], 0, false, 2)
  else (l, (lFind l name : Nat), lThere l name, 0)
def lkTake (l : List LockD) (name : List UInt8) (who : Int) (wait : Bool) : List LockD × ReplyD × Int :=
  if (lkBegin l name who).2.2.2 ≠ 0 then ([], noReply, (lkBegin l name who).2.2.2)
  else if lThere l name = false then (if l.length = 5 then (l, ⟨8, 0, []⟩, 0) else (l.take (lFind l name) ++ ⟨name, who, 1, []⟩ :: l.drop (lFind l name), ⟨0, 1, []⟩, 0))
  else if (l.getD (lFind l name) noLock).holder = who then (l, ⟨0, (l.getD (lFind l name) noLock).fence, []⟩, 0)
  else if (l.getD (lFind l name) noLock).holder = 0 then
    (if (l.getD (lFind l name) noLock).fence = 1073741824 then (l, ⟨8, 0, []⟩, 0)
     else (l.set (lFind l name) { l.getD (lFind l name) noLock with holder := who, fence := (l.getD (lFind l name) noLock).fence + 1 }, ⟨0, (l.getD (lFind l name) noLock).fence + 1, []⟩, 0))
  else if wait = false ∨ who ∈ (l.getD (lFind l name) noLock).line then (l, ⟨10, (l.getD (lFind l name) noLock).holder, []⟩, 0)
  else if (l.getD (lFind l name) noLock).line.length = 3 then (l, ⟨8, 0, []⟩, 0)
  else (l.set (lFind l name) { l.getD (lFind l name) noLock with line := (l.getD (lFind l name) noLock).line ++ [who] }, ⟨10, (l.getD (lFind l name) noLock).holder, []⟩, 0)
def passP (k : LockD) : LockD :=
  if 0 < k.line.length ∧ k.fence < 1073741824 then ⟨k.name, k.line.getD 0 0, k.fence + 1, k.line.drop 1⟩ else ⟨k.name, 0, k.fence, []⟩
def unline (k : LockD) (who : Int) : LockD := if 0 ≤ fIdx (fun x => who == x) k.line then { k with line := k.line.eraseIdx (fIdx (fun x => who == x) k.line).toNat } else k
def lkFree (l : List LockD) (name : List UInt8) (who : Int) : List LockD × ReplyD × Int :=
  if (lkBegin l name who).2.2.2 ≠ 0 then ([], noReply, (lkBegin l name who).2.2.2)
  else if lThere l name = false then (l, ⟨6, 0, []⟩, 0)
  else if (l.getD (lFind l name) noLock).holder = who then (l.set (lFind l name) (passP (l.getD (lFind l name) noLock)), ⟨0, (passP (l.getD (lFind l name) noLock)).holder, []⟩, 0)
  else if 0 ≤ fIdx (fun x => who == x) (l.getD (lFind l name) noLock).line then (l.set (lFind l name) (unline (l.getD (lFind l name) noLock) who), ⟨0, (l.getD (lFind l name) noLock).holder, []⟩, 0)
  else (l, ⟨10, (l.getD (lFind l name) noLock).holder, []⟩, 0)
def goneK (k : LockD) (who : Int) : LockD := if (unline k who).holder = who then passP (unline k who) else unline k who
def lkGone (l : List LockD) (who : Int) : List LockD × Int :=
  if lkCheck l ≠ 0 then ([], lkCheck l)
  else if lkClient who = false then ([], 2)
  else (l.map (fun k => goneK k who), 0)
def lWho (l : List LockD) (name : List UInt8) : Int × Int × Int :=
  if lkCheck l ≠ 0 then (0, 0, lkCheck l)
  else if lThere l name = false ∨ (l.getD (lFind l name) noLock).holder = 0 then (0, 0, 0)
  else ((l.getD (lFind l name) noLock).holder, (l.getD (lFind l name) noLock).fence, 0)
end Go.Tk
