/- A part of the proof, laid together from: LockP, CodecP, NumP, LinesP. -/
import Derived.Test.YtkefgapnghnjjaaGreatDoorPa02
import Derived.Lib.Bytealg
import Derived.Test.YtkefgapnghnjjaaGreatDoorPa01
set_option linter.unusedSimpArgs false
set_option linter.unusedVariables false
/- The plain functions of package lock. -/
namespace Go.Tk
open Go

def badByte (c : UInt8) : Bool := decide ((c.toNat : Int) < 97) || decide ((122 : Int) < (c.toNat : Int))
def lkName (s : List UInt8) : Bool := !s.isEmpty && decide (s.length ≤ 6) && !s.any badByte
def lkClient (n : Int) : Bool := decide (1 ≤ n) && decide (n ≤ 9)
def lineBad (k : LockD) (i : Nat) : Prop := lkClient (k.line.getD i 0) = false ∨ k.line.getD i 0 = k.holder ∨ (k.line.take i).contains (k.line.getD i 0) = true
instance (k : LockD) (i : Nat) : Decidable (lineBad k i) := by unfold lineBad; infer_instance
def lineErr (k : LockD) : Int := firstErr (fun i => if lineBad k i then 1 else 0) k.line.length
def lkLine (k : LockD) : Bool := lineErr k == 0 && (decide (k.line.length ≤ 3) && (k.holder != 0 || k.line.length == 0))
def lkForm (k : LockD) : Bool := lkName k.name && (k.holder == 0 || lkClient k.holder) && lkLine k
def lkErr (l : List LockD) (i : Nat) : Int :=
  if lkForm (l.getD i noLock) = false then 4
  else if (l.getD i noLock).fence < 1 ∨ 1073741824 < (l.getD i noLock).fence then 2
  else if 0 < i ∧ Op.bytesLess (l.getD (i - 1) noLock).name (l.getD i noLock).name = false then 14
  else 0
def lkCheck (l : List LockD) : Int := if 5 < l.length then 1 else firstErr (lkErr l) l.length

theorem lkName_len {s : List UInt8} (h : lkName s = true) : s ≠ [] ∧ s.length ≤ 6 := by
  simp only [lkName, Bool.and_eq_true, Bool.not_eq_true', List.isEmpty_eq_false_iff, decide_eq_true_eq] at h
  exact ⟨h.1.1, h.1.2⟩
/-- Lines that may be. -/
structure LineOk (k : LockD) : Prop where
  len : k.line.length ≤ 3
  held : k.holder = 0 → k.line = []
  cl : ∀ x ∈ k.line, 1 ≤ x ∧ x ≤ 9
  ne : ∀ x ∈ k.line, x ≠ k.holder
  nodup : k.line.Nodup
theorem lkClient_iff {n : Int} : lkClient n = true ↔ 1 ≤ n ∧ n ≤ 9 := by simp [lkClient]
theorem nodup_take {l : List Int} (h : ∀ i, i < l.length → (l.take i).contains (l.getD i 0) = false) : l.Nodup := by
  refine List.pairwise_iff_getElem.2 fun i j hi hj hij he => ?_
  have h1 := h j hj
  have h2 : l.getD j 0 ∈ l.take j := by
    rw [List.mem_take_iff_getElem]
    refine ⟨i, by omega, ?_⟩
    rw [he]; simp [List.getD, hj]
  rw [List.contains_iff_mem.2 h2] at h1; cases h1
theorem take_nodup {l : List Int} (h : l.Nodup) (i : Nat) (hi : i < l.length) : (l.take i).contains (l.getD i 0) = false := by
  rw [Bool.eq_false_iff]
  intro hc
  have h2 := List.contains_iff_mem.1 hc
  rw [List.mem_take_iff_getElem] at h2
  obtain ⟨j, hj, he⟩ := h2
  refine List.pairwise_iff_getElem.1 h j i (by omega) hi (by omega) ?_
  rw [he]; simp [List.getD, hi]
theorem lkLine_iff {k : LockD} : lkLine k = true ↔ LineOk k := by
  simp only [lkLine, lineErr, Bool.and_eq_true, beq_iff_eq, decide_eq_true_eq, Bool.or_eq_true, bne_iff_ne, ne_eq]
  constructor
  · rintro ⟨h1, h2, h3⟩
    have hz := firstErr_zero.1 h1
    have hg : ∀ i, i < k.line.length → ¬ lineBad k i := fun i hi hb => by have := hz i hi; rw [if_pos hb] at this; cases this
    refine ⟨h2, fun h0 => ?_, fun x hx => ?_, fun x hx => ?_, nodup_take fun i hi => ?_⟩
    · rcases h3 with h | h
      · exact absurd h0 h
      · exact List.eq_nil_of_length_eq_zero h
    · obtain ⟨i, hi, rfl⟩ := mem_getD k.line x 0 hx
      have := hg i hi
      unfold lineBad at this
      exact lkClient_iff.1 (by simpa using fun h => this (.inl h))
    · obtain ⟨i, hi, rfl⟩ := mem_getD k.line x 0 hx
      have := hg i hi
      unfold lineBad at this
      exact fun h => this (.inr (.inl h))
    · have := hg i hi
      unfold lineBad at this
      simpa using fun h => this (.inr (.inr h))
  · intro h
    refine ⟨firstErr_zero.2 fun i hi => if_neg fun hb => ?_, h.len, ?_⟩
    · have hm := getD_mem k.line i 0 hi
      rcases hb with hb | hb | hb
      · rw [lkClient_iff.2 (h.cl _ hm)] at hb; cases hb
      · exact h.ne _ hm hb
      · rw [take_nodup h.nodup i hi] at hb; cases hb
    · by_cases h0 : k.holder = 0
      · exact .inr (by rw [h.held h0]; rfl)
      · exact .inl h0
/-- Locks that may be. -/
structure LkOk (l : List LockD) : Prop where
  len : l.length ≤ 5
  name : ∀ x ∈ l, lkName x.name = true
  hold : ∀ x ∈ l, 0 ≤ x.holder ∧ x.holder ≤ 9
  line : ∀ x ∈ l, LineOk x
  fence : ∀ x ∈ l, 1 ≤ x.fence ∧ x.fence ≤ 1073741824
  ord : ∀ i, 0 < i → i < l.length → Op.bytesLess (l.getD (i - 1) noLock).name (l.getD i noLock).name = true
theorem lkForm_iff {k : LockD} : lkForm k = true ↔ lkName k.name = true ∧ (0 ≤ k.holder ∧ k.holder ≤ 9) ∧ LineOk k := by
  simp only [lkForm, Bool.and_eq_true, Bool.or_eq_true, beq_iff_eq, lkClient_iff, lkLine_iff]
  constructor
  · rintro ⟨⟨h1, h2⟩, h3⟩; exact ⟨h1, by omega, h3⟩
  · rintro ⟨h1, h2, h3⟩; exact ⟨⟨h1, by omega⟩, h3⟩
theorem lkCheck_ok {l : List LockD} : lkCheck l = 0 ↔ LkOk l := by
  rw [lkCheck]
  constructor
  · intro h
    split at h
    · cases h
    · have hz := firstErr_zero.1 h
      have hg : ∀ i, i < l.length → lkForm (l.getD i noLock) = true ∧ (1 ≤ (l.getD i noLock).fence ∧ (l.getD i noLock).fence ≤ 1073741824) ∧ (0 < i → Op.bytesLess (l.getD (i - 1) noLock).name (l.getD i noLock).name = true) := by
        intro i hi
        have := hz i hi
        rw [lkErr] at this
        split at this
        · cases this
        · split at this
          · cases this
          · split at this
            · cases this
            · rename_i a b c
              refine ⟨by simpa using a, by omega, fun h0 => ?_⟩
              cases hb : Op.bytesLess (l.getD (i - 1) noLock).name (l.getD i noLock).name
              · exact absurd ⟨h0, hb⟩ c
              · rfl
      refine ⟨by omega, fun x hx => ?_, fun x hx => ?_, fun x hx => ?_, fun x hx => ?_, fun i h0 hi => (hg i hi).2.2 h0⟩ <;> obtain ⟨i, hi, rfl⟩ := mem_getD l x noLock hx
      · exact (lkForm_iff.1 (hg i hi).1).1
      · exact (lkForm_iff.1 (hg i hi).1).2.1
      · exact (lkForm_iff.1 (hg i hi).1).2.2
      · exact (hg i hi).2.1
  · intro h
    rw [if_neg (by have := h.len; omega)]
    refine firstErr_zero.2 fun i hi => ?_
    have hm := getD_mem l i noLock hi
    rw [lkErr, if_neg (by rw [lkForm_iff.2 ⟨h.name _ hm, h.hold _ hm, h.line _ hm⟩]; decide), if_neg (by have := h.fence _ hm; omega), if_neg (fun hc => by rw [h.ord i hc.1 hi] at hc; cases hc.2)]

def lockCmp (x : LockD) (t : List UInt8) : Int := Lib.compareBytes x.name t
def lFind (l : List LockD) (t : List UInt8) : Nat := bs (fun i => lockCmp (l.getD i noLock) t) l.length
def lThere (l : List LockD) (t : List UInt8) : Bool := bsFound (fun i => lockCmp (l.getD i noLock) t) l.length
theorem lThere_lt {l : List LockD} {t : List UInt8} (h : lThere l t = true) : lFind l t < l.length := by
  simp only [lThere, bsFound, Bool.and_eq_true, decide_eq_true_eq] at h; exact h.1
def lkBegin (l : List LockD) (name : List UInt8) (who : Int) : List LockD × Int × Bool × Int :=
  if lkCheck l ≠ 0 then ([], 0, false, lkCheck l)
  else if lkName name = false then ([], 0, false, 4)
  else if lkClient who = false then ([], 0, false, 2)
  else (l, (lFind l name : Nat), lThere l name, 0)
def lkTake (l : List LockD) (name : List UInt8) (who : Int) (wait : Bool) : List LockD × ReplyD × Int :=
  if (lkBegin l name who).2.2.2 ≠ 0 then ([], noReply, (lkBegin l name who).2.2.2)
  else if lThere l name = false then (if l.length = 5 then (l, ⟨8, 0, []⟩, 0) else (l.take (lFind l name) ++ ⟨name, who, 1, []⟩ :: l.drop (lFind l name), ⟨0, 1, []⟩, 0))
  else if (l.getD (lFind l name) noLock).holder = who then (l, ⟨0, (l.getD (lFind l name) noLock).fence, []⟩, 0)
  else if (l.getD (lFind l name) noLock).holder = 0 then
    (if (l.getD (lFind l name) noLock).fence = 1073741824 then (l, ⟨8, 0, []⟩, 0)
     else (l.set (lFind l name) { l.getD (lFind l name) noLock with holder := who, fence := (l.getD (lFind l name) noLock).fence + 1 }, ⟨0, (l.getD (lFind l name) noLock).fence + 1, []⟩, 0))
  else if wait = false ∨ who ∈ (l.getD (lFind l name) noLock).line then (l, ⟨10, (l.getD (lFind l name) noLock).holder, []⟩, 0)
  else if (l.getD (lFind l name) noLock).line.length = 3 then (l, ⟨8, 0, []⟩, 0)
  else (l.set (lFind l name) { l.getD (lFind l name) noLock with line := (l.getD (lFind l name) noLock).line ++ [who] }, ⟨10, (l.getD (lFind l name) noLock).holder, []⟩, 0)
def passP (k : LockD) : LockD :=
  if 0 < k.line.length ∧ k.fence < 1073741824 then ⟨k.name, k.line.getD 0 0, k.fence + 1, k.line.drop 1⟩ else ⟨k.name, 0, k.fence, []⟩
def unline (k : LockD) (who : Int) : LockD := if 0 ≤ fIdx (fun x => who == x) k.line then { k with line := k.line.eraseIdx (fIdx (fun x => who == x) k.line).toNat } else k
def lkFree (l : List LockD) (name : List UInt8) (who : Int) : List LockD × ReplyD × Int :=
  if (lkBegin l name who).2.2.2 ≠ 0 then ([], noReply, (lkBegin l name who).2.2.2)
  else if lThere l name = false then (l, ⟨6, 0, []⟩, 0)
  else if (l.getD (lFind l name) noLock).holder = who then (l.set (lFind l name) (passP (l.getD (lFind l name) noLock)), ⟨0, (passP (l.getD (lFind l name) noLock)).holder, []⟩, 0)
  else if 0 ≤ fIdx (fun x => who == x) (l.getD (lFind l name) noLock).line then (l.set (lFind l name) (unline (l.getD (lFind l name) noLock) who), ⟨0, (l.getD (lFind l name) noLock).holder, []⟩, 0)
  else (l, ⟨10, (l.getD (lFind l name) noLock).holder, []⟩, 0)
def goneK (k : LockD) (who : Int) : LockD := if (unline k who).holder = who then passP (unline k who) else unline k who
def lkGone (l : List LockD) (who : Int) : List LockD × Int :=
  if lkCheck l ≠ 0 then ([], lkCheck l)
  else if lkClient who = false then ([], 2)
  else (l.map (fun k => goneK k who), 0)
def lWho (l : List LockD) (name : List UInt8) : Int × Int × Int :=
  if lkCheck l ≠ 0 then (0, 0, lkCheck l)
  else if lThere l name = false ∨ (l.getD (lFind l name) noLock).holder = 0 then (0, 0, 0)
  else ((l.getD (lFind l name) noLock).holder, (l.getD (lFind l name) noLock).fence, 0)
end Go.Tk

/- The plain functions of package codec, and facts on bits: no program in sight. -/
namespace Go.Tk
open Go

/-- Nonnegative numbers of 63 bits: 'or'. -/
theorem i64_or (a b : Nat) (ha : a < 9223372036854775808) (hb : b < 9223372036854775808) : bits .or .i64 (a : Int) (b : Int) = ((a ||| b : Nat) : Int) := by
  have hab : a ||| b < 2 ^ 63 := Nat.or_lt_two_pow (by omega) (by omega)
  show IntKind.i64.wrap ((BitVec.ofInt 64 (a : Int) ||| BitVec.ofInt 64 (b : Int)).toNat : Int) = _
  rw [BitVec.toNat_or, ofInt_u64 a (by omega), ofInt_u64 b (by omega), IntKind.wrap_i64]
  omega
theorem i64_and127 (a : Nat) : bits .and .i64 (a : Int) 127 = ((a % 128 : Nat) : Int) := by
  rw [Go.i64_and127]; omega
theorem or_join (n d k : Nat) (hn : n < 128 ^ k) : n ||| d * 2 ^ (7 * k) = n + d * 128 ^ k := by
  have h7 : (128 : Nat) ^ k = 2 ^ (7 * k) := by rw [Nat.pow_mul]
  rw [h7] at hn ⊢
  rw [Nat.or_comm, nat_join (7 * k) _ _ (by simp) hn, Nat.add_comm]

/-- What is read behind k digits that make n. -/
def rdGo (s : List UInt8) : Nat → Nat → Nat → Int × List UInt8 × Int
  | 0, _, _ => (0, [], 4)
  | f + 1, k, n =>
    if k < s.length then
      if 128 ≤ (s.getD k 0).toNat then rdGo s f (k + 1) (n + (s.getD k 0).toNat % 128 * 128 ^ k)
      else if (s.getD k 0).toNat = 0 ∧ 0 < k ∨ 1099511627776 < n + (s.getD k 0).toNat % 128 * 128 ^ k then (0, [], 4)
      else ((n + (s.getD k 0).toNat % 128 * 128 ^ k : Nat), s.drop (k + 1), 0)
    else (0, [], 5)
theorem digit_or (m x k : Nat) (hm : m < 128 ^ k) (hk : k < 6) (hx8 : x < 256) :
    bits .or .i64 (m : Int) (RowKit.wrap64 (RowKit.wrap64 (bits .and .u8 (x : Int) 127) * 2 ^ (7 * k))) = ((m + x % 128 * 128 ^ k : Nat) : Int) ∧ m + x % 128 * 128 ^ k < 128 ^ (k + 1) := by
  have hx : bits .and .u8 (x : Int) 127 = ((x % 128 : Nat) : Int) := by
    have h := u8_and_nat x 127 hx8 (by omega)
    rwa [nat_mask7] at h
  have h6 : (128 : Nat) ^ k ≤ 128 ^ 5 := Nat.pow_le_pow_right (by decide) (by omega)
  have hlt : m + x % 128 * 128 ^ k < 128 ^ (k + 1) := by
    have h1 : x % 128 * 128 ^ k ≤ 127 * 128 ^ k := Nat.mul_le_mul_right _ (by omega)
    rw [Nat.pow_succ]; omega
  refine ⟨?_, hlt⟩
  rw [hx, IntWalk.wrap64_in ((x % 128 : Nat) : Int) ⟨by omega, by omega⟩]
  have h7 : (2 : Nat) ^ (7 * k) = 128 ^ k := by rw [Nat.pow_mul]
  have e : ((x % 128 : Nat) : Int) * 2 ^ (7 * k) = ((x % 128 * 2 ^ (7 * k) : Nat) : Int) := by push_cast; rfl
  have h2 : x % 128 * 2 ^ (7 * k) ≤ 127 * 128 ^ 5 := by rw [h7]; exact Nat.mul_le_mul (by omega) h6
  have h3 : (127 * 128 ^ 5 : Nat) < 9223372036854775808 := by decide
  rw [e, IntWalk.wrap64_in _ ⟨by omega, by omega⟩, i64_or _ _ (by omega) (by omega), or_join _ _ _ hm]
def readNumber (s : List UInt8) : Int × List UInt8 × Int := rdGo s 6 0 0

/-- The digits of a number. -/
def digs : Nat → Nat → List UInt8
  | 0, n => [n.toUInt8]
  | f + 1, n => if n < 128 then [n.toUInt8] else (n % 128 + 128).toUInt8 :: digs f (n / 128)
def rByte : Rel UInt8 := fun _ cs c _ => cs = [.int .u8 (c.toNat : Int)]
theorem rByte_ok : RelOk rByte 1 := ⟨by rintro w cs x S rfl; rfl, by rintro w cs x S rfl u hu; simp at hu; subst hu; rfl, fun h _ => h⟩
theorem digs_zero (m : Nat) : digs 0 m = [m.toUInt8] := rfl
theorem digs_small (f m : Nat) (h : m < 128) : digs f m = [m.toUInt8] := by cases f <;> simp [digs, h]
theorem digs_big (f m : Nat) (h : 128 ≤ m) : digs (f + 1) m = (m % 128 + 128).toUInt8 :: digs f (m / 128) := by simp [digs]; omega
theorem byte_or (m : Nat) (hm : m < 9223372036854775808) : bits .or .i64 (bits .and .i64 (m : Int) 127) 128 % 256 = (((m % 128 + 128).toUInt8).toNat : Int) := by
  have h1 : bits .or .i64 ((m % 128 : Nat) : Int) ((128 : Nat) : Int) = ((m % 128 ||| 128 : Nat) : Int) := i64_or _ _ (by omega) (by omega)
  have h2 : m % 128 ||| 128 = m % 128 + 128 := by rw [Nat.or_comm]; exact (nat_join 7 128 (m % 128) (by decide) (by omega)).trans (by omega)
  rw [i64_and127]
  rw [show (128 : Int) = ((128 : Nat) : Int) from rfl, h1, h2]
  simp
def number (n : Int) : List UInt8 × Int := if n < 0 ∨ 1099511627776 < n then ([], 2) else (digs 6 n.toNat, 0)
theorem rdGo_nonneg (s : List UInt8) : ∀ f k n, 0 ≤ (rdGo s f k n).1
  | 0, k, n => by simp [rdGo]
  | f + 1, k, n => by
    rw [rdGo]
    split
    · split
      · exact rdGo_nonneg s f _ _
      · split
        · simp
        · exact Int.natCast_nonneg _
    · simp
theorem readNumber_nonneg (s : List UInt8) : 0 ≤ (readNumber s).1 := rdGo_nonneg s 6 0 0
theorem digs_len : ∀ f m, (digs f m).length ≤ f + 1
  | 0, m => by simp [digs]
  | f + 1, m => by
    rw [digs]
    split
    · simp
    · have := digs_len f (m / 128)
      simp; omega
theorem number_len (n : Int) : (number n).1.length ≤ 7 := by
  rw [number]
  split
  · simp
  · exact digs_len 6 _
def text (s : List UInt8) : List UInt8 × Int := if 5000 < s.length then ([], 1) else ((number s.length).1 ++ s, 0)
def readText (s : List UInt8) : List UInt8 × List UInt8 × Int :=
  if (readNumber s).2.2 ≠ 0 then ([], [], (readNumber s).2.2)
  else if 5000 < (readNumber s).1 then ([], [], 1)
  else if ((readNumber s).2.1.length : Int) < (readNumber s).1 then ([], [], 5)
  else ((readNumber s).2.1.take (readNumber s).1.toNat, (readNumber s).2.1.drop (readNumber s).1.toNat, 0)
def picked (n m : Int) : Int := if n < 0 then -(n + 1) % m else n % m
theorem str_of_bytes (l : List UInt8) : strOfNums (l.map fun c => (c.toNat : Int)) = ⟨l.toArray⟩ := by
  apply ByteArray.ext
  simp [strOfNums, Function.comp_def]
theorem run_string_of_bytes {P : Program} {w : World} {T E D : Nat} (hT : P.underlying T = some (.slice E)) (hE : P.underlying E = some (.int .u8)) (hD : P.underlying D = some .string)
    {v : Value} {l : List UInt8} {S : Nat → Prop} (h : SlR 1 rByte w v l S) : (convert T D v).run P w = .ok (.string ⟨l.toArray⟩) w := by
  obtain ⟨a, cap, rfl, h1, h2, h3, h4⟩ := h
  rcases l with _ | ⟨c, l⟩
  · cases a with
    | none => exact run_convert_bytes_nil w T E hT hE _ _ D hD
    | some a =>
      rw [run_convert_bytes_string w T D E _ _ cap hT hE hD]
      simp [Conv.bytesToString, loadCells, loadCellsFrom]
      rfl
  · obtain ⟨b, off, row, rfl, _, _, _⟩ := h4 0 c rfl
    have h := run_convert_bytes_arg (P := P) w T E hT hE b off (c :: l).length cap ((c :: l).map fun c => (c.toNat : Int)) (by simp) (fun i hi => by
      obtain ⟨b', off', row, e, _, hr, hc⟩ := h4 i (c :: l)[i] (List.getElem?_eq_getElem hi)
      simp only [Option.some.injEq, Addr.mk.injEq] at e
      obtain ⟨rfl, rfl, _⟩ := e
      cases hr
      have := hc 0 _ rfl
      simp only [Nat.mul_one, Nat.add_zero] at this
      rw [this]
      have e2 : ((c :: l).map fun c => (c.toNat : Int)).getD i 0 = ((c :: l)[i]'hi).toNat := by
        rw [List.getD, List.getElem?_map, List.getElem?_eq_getElem hi]; rfl
      rw [e2]) D hD
    rw [h, str_of_bytes]
end Go.Tk

/- What holds of numbers as bytes: plain laws. -/
namespace Go.Tk
open Go

theorem drop_cons {α : Type} [Inhabited α] (s : List α) (k : Nat) (d : α) (h : k < s.length) : s.drop k = s.getD k d :: s.drop (k + 1) := by
  rw [List.drop_eq_getElem_cons h]; simp [List.getD, h]
theorem toUInt8_toNat (b : UInt8) (n : Nat) (h : b.toNat = n) : n.toUInt8 = b := by
  subst h; simp
theorem rdGo_zero (s : List UInt8) : ∀ f k m, (rdGo s f k m).2.2 ≠ 0 → (rdGo s f k m).1 = 0 ∧ (rdGo s f k m).2.1 = []
  | 0, k, m => by simp [rdGo]
  | f + 1, k, m => by
    rw [rdGo]
    split
    · split
      · exact rdGo_zero s f _ _
      · split <;> simp
    · simp
theorem rdGo_once (s : List UInt8) : ∀ f k m, (rdGo s f k m).2.2 = 0 → ∃ q : Nat, (rdGo s f k m).1 = ((m + q * 128 ^ k : Nat) : Int) ∧ s.drop k = digs f q ++ (rdGo s f k m).2.1 ∧ (0 < k → q ≠ 0) ∧ m + q * 128 ^ k ≤ 1099511627776
  | 0, k, m => by simp [rdGo]
  | f + 1, k, m => by
    intro h
    by_cases hk : k < s.length
    · by_cases hb : 128 ≤ (s.getD k 0).toNat
      · have e : rdGo s (f + 1) k m = rdGo s f (k + 1) (m + (s.getD k 0).toNat % 128 * 128 ^ k) := by rw [rdGo, if_pos hk, if_pos hb]
        rw [e] at h ⊢
        obtain ⟨q, h1, h2, h3, h4⟩ := rdGo_once s f (k + 1) _ h
        have h3' := h3 (by omega)
        have e2 : m + (s.getD k 0).toNat % 128 * 128 ^ k + q * 128 ^ (k + 1) = m + ((s.getD k 0).toNat % 128 + 128 * q) * 128 ^ k := by
          rw [Nat.pow_succ, Nat.add_mul, Nat.mul_comm 128 q, Nat.mul_assoc q, Nat.mul_comm 128, Nat.add_assoc]
        refine ⟨(s.getD k 0).toNat % 128 + 128 * q, by rw [h1, e2], ?_, by omega, by rw [← e2]; exact h4⟩
        have hlt := UInt8.toNat_lt (s.getD k 0)
        rw [drop_cons s k 0 hk, h2, digs_big f _ (by omega)]
        rw [show ((s.getD k 0).toNat % 128 + 128 * q) / 128 = q by omega, show ((s.getD k 0).toNat % 128 + 128 * q) % 128 + 128 = (s.getD k 0).toNat by omega, toUInt8_toNat (s.getD k 0) _ rfl]
        rfl
      · by_cases hz : (s.getD k 0).toNat = 0 ∧ 0 < k ∨ 1099511627776 < m + (s.getD k 0).toNat % 128 * 128 ^ k
        · rw [rdGo, if_pos hk, if_neg hb, if_pos hz] at h; simp at h
        · have e : rdGo s (f + 1) k m = (((m + (s.getD k 0).toNat % 128 * 128 ^ k : Nat) : Int), s.drop (k + 1), 0) := by rw [rdGo, if_pos hk, if_neg hb, if_neg hz]
          rw [e]
          refine ⟨(s.getD k 0).toNat % 128, rfl, ?_, ?_, by omega⟩
          · rw [drop_cons s k 0 hk, digs_small _ _ (by omega), toUInt8_toNat (s.getD k 0) _ (by omega)]; rfl
          · intro h0; omega
    · rw [rdGo, if_neg hk] at h; simp at h
theorem digs_fuel : ∀ f q, q < 128 ^ (f + 1) → digs (f + 1) q = digs f q
  | 0, q, h => by rw [digs_small _ _ (by simpa using h), digs_small _ _ (by simpa using h)]
  | f + 1, q, h => by
    by_cases h1 : q < 128
    · rw [digs_small _ _ h1, digs_small _ _ h1]
    · rw [digs_big (f + 1) q (by omega), digs_big f q (by omega), digs_fuel f (q / 128) (by rw [Nat.pow_succ] at h; omega)]
theorem readNumber_once (s : List UInt8) (h : (readNumber s).2.2 = 0) : ∃ q : Nat, (readNumber s).1 = q ∧ s = digs 6 q ++ (readNumber s).2.1 ∧ q ≤ 1099511627776 := by
  obtain ⟨q, h1, h2, _, h4⟩ := rdGo_once s 6 0 0 h
  simp at h1 h2 h4
  exact ⟨q, h1, h2, h4⟩
theorem rdGo_digs (t : List UInt8) : ∀ (f k m q : Nat) (pre : List UInt8), pre.length = k → q < 128 ^ (f + 1) → (0 < k → q ≠ 0) → m + q * 128 ^ k ≤ 1099511627776 → rdGo (pre ++ (digs f q ++ t)) (f + 1) k m = (((m + q * 128 ^ k : Nat) : Int), t, 0)
  | f, k, m, q, pre, hp, hq, hz, hm => by
    subst hp
    by_cases h : q < 128
    · rw [digs_small f q h, rdGo]
      have hg : ((pre ++ ([q.toUInt8] ++ t)).getD pre.length 0).toNat = q := by simp [List.getD]; omega
      rw [if_pos (by simp), hg, if_neg (by omega), if_neg (by rw [Nat.mod_eq_of_lt h]; omega), Nat.mod_eq_of_lt h]
      simp [List.drop_append]
    · rcases f with _ | f
      · simp at hq; omega
      · rw [digs_big f q (by omega), rdGo]
        have hg : ((pre ++ ((q % 128 + 128).toUInt8 :: digs f (q / 128) ++ t)).getD pre.length 0).toNat = q % 128 + 128 := by simp [List.getD]; omega
        rw [if_pos (by simp), hg, if_pos (by omega)]
        have e := rdGo_digs t f (pre.length + 1) (m + q % 128 * 128 ^ pre.length) (q / 128) (pre ++ [(q % 128 + 128).toUInt8]) (by simp) (by rw [Nat.pow_succ] at hq; omega) (by omega)
        have e2 : m + q % 128 * 128 ^ pre.length + q / 128 * 128 ^ (pre.length + 1) = m + q * 128 ^ pre.length := by
          rw [Nat.pow_succ, Nat.add_assoc, Nat.mul_comm (128 ^ pre.length) 128, ← Nat.mul_assoc, ← Nat.add_mul]
          congr 2; omega
        rw [e2] at e
        have e3 := e hm
        simp only [List.append_assoc, List.cons_append, List.nil_append] at e3 ⊢
        rw [show (q % 128 + 128) % 128 = q % 128 by omega, ← e3]
theorem rdGo_short : ∀ (f k m q : Nat) (pre : List UInt8), pre.length = k → q < 128 ^ (f + 1) → rdGo (pre ++ (digs f q).dropLast) (f + 1) k m = (0, [], 5)
  | f, k, m, q, pre, hp, hq => by
    subst hp
    by_cases h : q < 128
    · rw [digs_small f q h, rdGo, if_neg (by simp)]
    · rcases f with _ | f
      · simp at hq; omega
      · rw [digs_big f q (by omega), rdGo]
        have hne : digs f (q / 128) ≠ [] := by cases f <;> (rw [digs]; try split) <;> simp
        rw [List.dropLast_cons_of_ne_nil hne]
        have hg : ((pre ++ (q % 128 + 128).toUInt8 :: (digs f (q / 128)).dropLast).getD pre.length 0).toNat = q % 128 + 128 := by simp [List.getD]; omega
        rw [if_pos (by simp), hg, if_pos (by omega)]
        have e := rdGo_short f (pre.length + 1) (m + (q % 128 + 128) % 128 * 128 ^ pre.length) (q / 128) (pre ++ [(q % 128 + 128).toUInt8]) (by simp) (by rw [Nat.pow_succ] at hq; omega)
        simpa using e
theorem readNumber_back (q : Nat) (hq : q ≤ 1099511627776) (t : List UInt8) : readNumber (digs 6 q ++ t) = ((q : Int), t, 0) := by
  have h := rdGo_digs t 5 0 0 q [] rfl (by omega) (by omega) (by omega)
  rw [digs_fuel 5 q (by omega)]
  simpa [readNumber] using h
theorem readNumber_short (q : Nat) (hq : q ≤ 1099511627776) : readNumber (digs 6 q).dropLast = (0, [], 5) := by
  have h := rdGo_short 5 0 0 q [] rfl (by omega)
  rw [digs_fuel 5 q (by omega)]
  simpa [readNumber] using h
theorem readText_back (s t : List UInt8) (h : s.length ≤ 5000) : readText ((text s).1 ++ t) = (s, t, 0) := by
  have e : (text s).1 = digs 6 s.length ++ s := by rw [text, if_neg (by omega), number, if_neg (by omega)]; rfl
  have r : readNumber ((text s).1 ++ t) = (((s.length : Nat) : Int), s ++ t, 0) := by rw [e, List.append_assoc]; exact readNumber_back _ (by omega) _
  rw [readText, r]
  simp
  rw [if_neg (by omega), if_neg (by omega)]
end Go.Tk

/- LinesFair, plainly. -/
namespace Go.Tk
open Go
theorem compare_self : ∀ s : List UInt8, Lib.compareBytes s s = 0
  | [] => rfl
  | c :: r => by rw [Lib.compareBytes, if_neg (UInt8.lt_irrefl c), if_neg (UInt8.lt_irrefl c), compare_self r]
theorem lk_one {x : LockD} (h1 : lkName x.name = true) (h2 : 0 ≤ x.holder ∧ x.holder ≤ 9) (h3 : LineOk x) (h4 : 1 ≤ x.fence ∧ x.fence ≤ 1073741824) : LkOk [x] := by
  refine ⟨by simp, ?_, ?_, ?_, ?_, ?_⟩
  · intro y hy; simp at hy; subst hy; exact h1
  · intro y hy; simp at hy; subst hy; exact h2
  · intro y hy; simp at hy; subst hy; exact h3
  · intro y hy; simp at hy; subst hy; exact h4
  · intro i h1 h2; simp at h2; omega
theorem lk_find (x : LockD) : lThere [x] x.name = true ∧ lFind [x] x.name = 0 := by
  have h0 : lockCmp x x.name = 0 := compare_self x.name
  have h1 : bs (fun i => lockCmp ([x].getD i noLock) x.name) 1 = 0 := by simp [bs, bsGo, h0]
  refine ⟨?_, h1⟩
  show (decide (bs (fun i => lockCmp ([x].getD i noLock) x.name) 1 < 1) && (lockCmp ([x].getD (bs (fun i => lockCmp ([x].getD i noLock) x.name) 1) noLock) x.name == 0)) = true
  rw [h1]; simp [h0]
theorem lk_begin {l : List LockD} {name : List UInt8} {who : Int} (h : LkOk l) (h2 : lkName name = true) (h3 : 1 ≤ who ∧ who ≤ 9) : (lkBegin l name who).2.2.2 = 0 := by
  rw [lkBegin, if_neg (by rw [lkCheck_ok.2 h]; simp), if_neg (by rw [h2]; decide), if_neg (by rw [lkClient_iff.2 h3]; decide)]
theorem lk_nil : LkOk [] := ⟨by simp, by simp, by simp, by simp, by simp, by simp⟩
theorem take_nil {name : List UInt8} {who : Int} {wt : Bool} (h2 : lkName name = true) (h3 : 1 ≤ who ∧ who ≤ 9) : lkTake [] name who wt = ([⟨name, who, 1, []⟩], ⟨0, 1, []⟩, 0) := by
  rw [lkTake, if_neg (by rw [lk_begin lk_nil h2 h3]; simp), if_pos (show lThere [] name = false from rfl), if_neg (by simp)]
  simp
theorem take_line {x : LockD} {who : Int} (h : LkOk [x]) (hw : 1 ≤ who ∧ who ≤ 9) (h1 : x.holder ≠ who) (h2 : x.holder ≠ 0) (h3 : who ∉ x.line) (h4 : x.line.length ≠ 3) : lkTake [x] x.name who true = ([{ x with line := x.line ++ [who] }], ⟨10, x.holder, []⟩, 0) := by
  have hn : lkName x.name = true := h.name x (by simp)
  obtain ⟨f1, f2⟩ := lk_find x
  rw [lkTake, if_neg (by rw [lk_begin h hn hw]; simp), if_neg (by rw [f1]; decide), f2]
  simp only [List.getD_cons_zero, List.set_cons_zero]
  rw [if_neg h1, if_neg h2, if_neg (by simp [h3]), if_neg h4]
theorem take_full {x : LockD} {who : Int} (h : LkOk [x]) (hw : 1 ≤ who ∧ who ≤ 9) (h1 : x.holder ≠ who) (h2 : x.holder ≠ 0) (h3 : who ∉ x.line) (h4 : x.line.length = 3) : lkTake [x] x.name who true = ([x], ⟨8, 0, []⟩, 0) := by
  have hn : lkName x.name = true := h.name x (by simp)
  obtain ⟨f1, f2⟩ := lk_find x
  rw [lkTake, if_neg (by rw [lk_begin h hn hw]; simp), if_neg (by rw [f1]; decide), f2]
  simp only [List.getD_cons_zero, List.set_cons_zero]
  rw [if_neg h1, if_neg h2, if_neg (by simp [h3]), if_pos h4]
theorem free_one {x : LockD} (h : LkOk [x]) (hw : 1 ≤ x.holder) : lkFree [x] x.name x.holder = ([passP x], ⟨0, (passP x).holder, []⟩, 0) := by
  have hn : lkName x.name = true := h.name x (by simp)
  have hh := h.hold x (by simp)
  obtain ⟨f1, f2⟩ := lk_find x
  rw [lkFree, if_neg (by rw [lk_begin h hn ⟨hw, hh.2⟩]; simp), if_neg (by rw [f1]; decide), f2]
  simp only [List.getD_cons_zero, List.set_cons_zero]
  rw [if_pos trivial]
theorem who_one {x : LockD} (h : LkOk [x]) : lWho [x] x.name = if x.holder = 0 then (0, 0, 0) else (x.holder, x.fence, 0) := by
  obtain ⟨f1, f2⟩ := lk_find x
  rw [lWho, if_neg (by rw [lkCheck_ok.2 h]; simp), f1, f2]
  simp
def kname (n : Int) : List UInt8 := if picked n 3 = 0 then [97] else if picked n 3 = 1 then [98] else [107, 101, 121]
theorem kname_ok (n : Int) : lkName (kname n) = true := by
  unfold kname
  split
  · decide
  · split <;> decide

/-- Three clients in a row, from one on. -/
def ord (a : Int) : List Int := [a, 1 + a % 3, 1 + (1 + a) % 3]
def lf1 (k : List UInt8) (a : Int) (n : Nat) : LockD := ⟨k, 9, 1, (ord a).take n⟩
def lfH (a : Int) (n : Nat) : Int := [9, a, 1 + a % 3, 1 + (1 + a) % 3, 0].getD n 0
def lfF (n : Nat) : Int := [1, 2, 3, 4, 4].getD n 4
def lf2 (k : List UInt8) (a : Int) (n : Nat) : LockD := ⟨k, lfH a n, lfF n, (ord a).drop n⟩
theorem lf2_zero (k : List UInt8) (a : Int) : lf2 k a 0 = lf1 k a 3 := rfl
theorem three {a : Int} (ha : 1 ≤ a ∧ a ≤ 3) : a = 1 ∨ a = 2 ∨ a = 3 := by omega
theorem LineOk.rename {k k' : List UInt8} {h f : Int} {l : List Int} (o : LineOk ⟨k, h, f, l⟩) : LineOk ⟨k', h, f, l⟩ := ⟨o.len, o.held, o.cl, o.ne, o.nodup⟩
theorem lf1_line {a : Int} (ha : 1 ≤ a ∧ a ≤ 3) (n : Nat) (hn : n ≤ 3) : LineOk (lf1 [] a n) := by
  rcases three ha with rfl | rfl | rfl <;> (rcases (show n = 0 ∨ n = 1 ∨ n = 2 ∨ n = 3 by omega) with rfl | rfl | rfl | rfl) <;>
    exact ⟨by decide, by decide, by decide, by decide, by decide⟩
theorem lf2_line {a : Int} (ha : 1 ≤ a ∧ a ≤ 3) (n : Nat) (hn : n ≤ 4) : LineOk (lf2 [] a n) := by
  rcases three ha with rfl | rfl | rfl <;> (rcases (show n = 0 ∨ n = 1 ∨ n = 2 ∨ n = 3 ∨ n = 4 by omega) with rfl | rfl | rfl | rfl | rfl) <;>
    exact ⟨by decide, by decide, by decide, by decide, by decide⟩
theorem lf1_ok {k : List UInt8} {a : Int} (hk : lkName k = true) (ha : 1 ≤ a ∧ a ≤ 3) (n : Nat) (hn : n ≤ 3) : LkOk [lf1 k a n] :=
  lk_one hk (show 0 ≤ (9 : Int) ∧ (9 : Int) ≤ 9 by decide) (lf1_line ha n hn).rename (show 1 ≤ (1 : Int) ∧ (1 : Int) ≤ 1073741824 by decide)
theorem lfH_ok {a : Int} (ha : 1 ≤ a ∧ a ≤ 3) (n : Nat) (hn : n ≤ 4) : 0 ≤ lfH a n ∧ lfH a n ≤ 9 := by
  rcases three ha with rfl | rfl | rfl <;> (rcases (show n = 0 ∨ n = 1 ∨ n = 2 ∨ n = 3 ∨ n = 4 by omega) with rfl | rfl | rfl | rfl | rfl) <;> decide
theorem lfF_ok (n : Nat) (hn : n ≤ 4) : 1 ≤ lfF n ∧ lfF n ≤ 1073741824 := by
  rcases (show n = 0 ∨ n = 1 ∨ n = 2 ∨ n = 3 ∨ n = 4 by omega) with rfl | rfl | rfl | rfl | rfl <;> decide
theorem lf2_ok {k : List UInt8} {a : Int} (hk : lkName k = true) (ha : 1 ≤ a ∧ a ≤ 3) (n : Nat) (hn : n ≤ 4) : LkOk [lf2 k a n] :=
  lk_one hk (lfH_ok ha n hn) (lf2_line ha n hn).rename (lfF_ok n hn)
theorem ord_who {a : Int} (ha : 1 ≤ a ∧ a ≤ 3) (n : Nat) (hn : n < 3) : (1 ≤ (ord a).getD n 0 ∧ (ord a).getD n 0 ≤ 9) ∧ (9 : Int) ≠ (ord a).getD n 0 ∧ (ord a).getD n 0 ∉ (ord a).take n ∧ ((ord a).take n).length ≠ 3 := by
  rcases three ha with rfl | rfl | rfl <;> (rcases (show n = 0 ∨ n = 1 ∨ n = 2 by omega) with rfl | rfl | rfl) <;> decide
theorem lf1_take {k : List UInt8} {a : Int} (hk : lkName k = true) (ha : 1 ≤ a ∧ a ≤ 3) (n : Nat) (hn : n < 3) : lkTake [lf1 k a n] k ((ord a).getD n 0) true = ([lf1 k a (n + 1)], ⟨10, 9, []⟩, 0) := by
  have hok := lf1_ok hk ha n (by omega)
  obtain ⟨h1, h2, h3, h4⟩ := ord_who ha n hn
  have : lkTake [lf1 k a n] (lf1 k a n).name ((ord a).getD n 0) true = ([{ lf1 k a n with line := (lf1 k a n).line ++ [(ord a).getD n 0] }], ⟨10, (lf1 k a n).holder, []⟩, 0) :=
    take_line hok h1 h2 (show (9 : Int) ≠ 0 by decide) h3 h4
  refine this.trans ?_
  rcases (show n = 0 ∨ n = 1 ∨ n = 2 by omega) with rfl | rfl | rfl <;> rfl
theorem lf1_full {k : List UInt8} {a : Int} (hk : lkName k = true) (ha : 1 ≤ a ∧ a ≤ 3) : lkTake [lf1 k a 3] k 8 true = ([lf1 k a 3], ⟨8, 0, []⟩, 0) := by
  have hok := lf1_ok hk ha 3 (by omega)
  have h8 : (8 : Int) ∉ ord a := by rcases three ha with rfl | rfl | rfl <;> decide
  exact take_full (x := lf1 k a 3) hok (by decide) (show (9 : Int) ≠ 8 by decide) (show (9 : Int) ≠ 0 by decide) h8 rfl
theorem lf2_free {k : List UInt8} {a : Int} (hk : lkName k = true) (ha : 1 ≤ a ∧ a ≤ 3) (n : Nat) (hn : n < 4) : lkFree [lf2 k a n] k (lfH a n) = ([lf2 k a (n + 1)], ⟨0, lfH a (n + 1), []⟩, 0) := by
  have hok := lf2_ok hk ha n (by omega)
  have hp : passP (lf2 k a n) = lf2 k a (n + 1) := by
    rcases (show n = 0 ∨ n = 1 ∨ n = 2 ∨ n = 3 by omega) with rfl | rfl | rfl | rfl <;> rfl
  have h1 : 1 ≤ lfH a n := by
    rcases three ha with rfl | rfl | rfl <;> (rcases (show n = 0 ∨ n = 1 ∨ n = 2 ∨ n = 3 by omega) with rfl | rfl | rfl | rfl) <;> decide
  have := free_one hok h1
  rw [hp] at this
  exact this
theorem lf2_who {k : List UInt8} {a : Int} (hk : lkName k = true) (ha : 1 ≤ a ∧ a ≤ 3) (n : Nat) (hn : n < 4) : lWho [lf2 k a (n + 1)] k = (lfH a (n + 1), if n = 3 then 0 else (n : Int) + 2, 0) := by
  have := who_one (lf2_ok hk ha (n + 1) (by omega))
  refine Eq.trans this ?_
  show (if lfH a (n + 1) = 0 then ((0, 0, 0) : Int × Int × Int) else (lfH a (n + 1), lfF (n + 1), 0)) = _
  rcases three ha with rfl | rfl | rfl <;> (rcases (show n = 0 ∨ n = 1 ∨ n = 2 ∨ n = 3 by omega) with rfl | rfl | rfl | rfl) <;> decide
end Go.Tk
