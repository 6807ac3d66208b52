/- The plain functions of package codec, and facts on bits: no program in sight. -/
import Derived.Test.YtphkkkmjkagkbaaDoorKit
namespace Go.Tk
open Go

/-- Nonnegative numbers of 63 bits: 'or'. -/
theorem i64_or (a b : Nat) (ha : a < 9223372036854775808) (hb : b < 9223372036854775808) : bits .or .i64 (a : Int) (b : Int) = ((a ||| b : Nat) : Int) := by
  have hab : a ||| b < 2 ^ 63 := Nat.or_lt_two_pow (by omega) (by omega)
  show IntKind.i64.wrap ((BitVec.ofInt 64 (a : Int) ||| BitVec.ofInt 64 (b : Int)).toNat : Int) = _
  rw [BitVec.toNat_or, ofInt_u64 a (by omega), ofInt_u64 b (by omega), IntKind.wrap_i64]
  omega
theorem i64_and127 (a : Nat) : bits .and .i64 (a : Int) 127 = ((a % 128 : Nat) : Int) := by
  rw [Go.i64_and127]; omega
theorem or_join (n d k : Nat) (hn : n < 128 ^ k) : n ||| d * 2 ^ (7 * k) = n + d * 128 ^ k := by
  have h7 : (128 : Nat) ^ k = 2 ^ (7 * k) := by rw [Nat.pow_mul]
  rw [h7] at hn ⊢
  rw [Nat.or_comm, nat_join (7 * k) _ _ (by simp) hn, Nat.add_comm]

/-- What is read behind k digits that make n. -/
def rdGo (s : List UInt8) : Nat → Nat → Nat → Int × List UInt8 × Int
  | 0, _, _ => (0, [], 4)
  | f + 1, k, n =>
    if k < s.length then
      if 128 ≤ (s.getD k 0).toNat then rdGo s f (k + 1) (n + (s.getD k 0).toNat % 128 * 128 ^ k)
      else if (s.getD k 0).toNat = 0 ∧ 0 < k ∨ 1099511627776 < n + (s.getD k 0).toNat % 128 * 128 ^ k then (0, [], 4)
      else ((n + (s.getD k 0).toNat % 128 * 128 ^ k : Nat), s.drop (k + 1), 0)
    else (0, [], 5)
theorem digit_or (m x k : Nat) (hm : m < 128 ^ k) (hk : k < 6) (hx8 : x < 256) :
    bits .or .i64 (m : Int) (RowKit.wrap64 (RowKit.wrap64 (bits .and .u8 (x : Int) 127) * 2 ^ (7 * k))) = ((m + x % 128 * 128 ^ k : Nat) : Int) ∧ m + x % 128 * 128 ^ k < 128 ^ (k + 1) := by
  have hx : bits .and .u8 (x : Int) 127 = ((x % 128 : Nat) : Int) := by
    have h := u8_and_nat x 127 hx8 (by omega)
    rwa [nat_mask7] at h
  have h6 : (128 : Nat) ^ k ≤ 128 ^ 5 := Nat.pow_le_pow_right (by decide) (by omega)
  have hlt : m + x % 128 * 128 ^ k < 128 ^ (k + 1) := by
    have h1 : x % 128 * 128 ^ k ≤ 127 * 128 ^ k := Nat.mul_le_mul_right _ (by omega)
    rw [Nat.pow_succ]; omega
  refine ⟨?_, hlt⟩
  rw [hx, IntWalk.wrap64_in ((x % 128 : Nat) : Int) ⟨by omega, by omega⟩]
  have h7 : (2 : Nat) ^ (7 * k) = 128 ^ k := by rw [Nat.pow_mul]
  have e : ((x % 128 : Nat) : Int) * 2 ^ (7 * k) = ((x % 128 * 2 ^ (7 * k) : Nat) : Int) := by push_cast; rfl
  have h2 : x % 128 * 2 ^ (7 * k) ≤ 127 * 128 ^ 5 := by rw [h7]; exact Nat.mul_le_mul (by omega) h6
  have h3 : (127 * 128 ^ 5 : Nat) < 9223372036854775808 := by decide
  rw [e, IntWalk.wrap64_in _ ⟨by omega, by omega⟩, i64_or _ _ (by omega) (by omega), or_join _ _ _ hm]
def readNumber (s : List UInt8) : Int × List UInt8 × Int := rdGo s 6 0 0

/-- The digits of a number. -/
def digs : Nat → Nat → List UInt8
  | 0, n => [n.toUInt8]
  | f + 1, n => if n < 128 then [n.toUInt8] else (n % 128 + 128).toUInt8 :: digs f (n / 128)
def rByte : Rel UInt8 := fun _ cs c _ => cs = [.int .u8 (c.toNat : Int)]
theorem rByte_ok : RelOk rByte 1 := ⟨by rintro w cs x S rfl; rfl, by rintro w cs x S rfl u hu; simp at hu; subst hu; rfl, fun h _ => h⟩
theorem digs_zero (m : Nat) : digs 0 m = [m.toUInt8] := rfl
theorem digs_small (f m : Nat) (h : m < 128) : digs f m = [m.toUInt8] := by cases f <;> simp [digs, h]
theorem digs_big (f m : Nat) (h : 128 ≤ m) : digs (f + 1) m = (m % 128 + 128).toUInt8 :: digs f (m / 128) := by simp [digs]; omega
theorem byte_or (m : Nat) (hm : m < 9223372036854775808) : bits .or .i64 (bits .and .i64 (m : Int) 127) 128 % 256 = (((m % 128 + 128).toUInt8).toNat : Int) := by
  have h1 : bits .or .i64 ((m % 128 : Nat) : Int) ((128 : Nat) : Int) = ((m % 128 ||| 128 : Nat) : Int) := i64_or _ _ (by omega) (by omega)
  have h2 : m % 128 ||| 128 = m % 128 + 128 := by rw [Nat.or_comm]; exact (nat_join 7 128 (m % 128) (by decide) (by omega)).trans (by omega)
  rw [i64_and127]
  rw [show (128 : Int) = ((128 : Nat) : Int) from rfl, h1, h2]
  simp
def number (n : Int) : List UInt8 × Int := if n < 0 ∨ 1099511627776 < n then ([], 2) else (digs 6 n.toNat, 0)
theorem rdGo_nonneg (s : List UInt8) : ∀ f k n, 0 ≤ (rdGo s f k n).1
  | 0, k, n => by simp [rdGo]
  | f + 1, k, n => by
    rw [rdGo]
    split
    · split
      · exact rdGo_nonneg s f _ _
      · split
        · simp
        · exact Int.natCast_nonneg _
    · simp
theorem readNumber_nonneg (s : List UInt8) : 0 ≤ (readNumber s).1 := rdGo_nonneg s 6 0 0
theorem digs_len : ∀ f m, (digs f m).length ≤ f + 1
  | 0, m => by simp [digs]
  | f + 1, m => by
    rw [digs]
    split
    · simp
    · have := digs_len f (m / 128)
      simp; omega
theorem number_len (n : Int) : (number n).1.length ≤ 7 := by
  rw [number]
  split
  · simp
  · exact digs_len 6 _
def text (s : List UInt8) : List UInt8 × Int := if 5000 < s.length then ([], 1) else ((number s.length).1 ++ s, 0)
def readText (s : List UInt8) : List UInt8 × List UInt8 × Int :=
  if (readNumber s).2.2 ≠ 0 then ([], [], (readNumber s).2.2)
  else if 5000 < (readNumber s).1 then ([], [], 1)
  else if ((readNumber s).2.1.length : Int) < (readNumber s).1 then ([], [], 5)
  else ((readNumber s).2.1.take (readNumber s).1.toNat, (readNumber s).2.1.drop (readNumber s).1.toNat, 0)
def picked (n m : Int) : Int := if n < 0 then -(n + 1) % m else n % m
theorem str_of_bytes (l : List UInt8) : strOfNums (l.map fun c => (c.toNat : Int)) = ⟨l.toArray⟩ := by
  apply ByteArray.ext
  simp [strOfNums, Function.comp_def]
theorem run_string_of_bytes {P : Program} {w : World} {T E D : Nat} (hT : P.underlying T = some (.slice E)) (hE : P.underlying E = some (.int .u8)) (hD : P.underlying D = some .string)
    {v : Value} {l : List UInt8} {S : Nat → Prop} (h : SlR 1 rByte w v l S) : (convert T D v).run P w = .ok (.string ⟨l.toArray⟩) w := by
  obtain ⟨a, cap, rfl, h1, h2, h3, h4⟩ := h
  rcases l with _ | ⟨c, l⟩
  · cases a with
    | none => exact run_convert_bytes_nil w T E hT hE _ _ D hD
    | some a =>
      rw [run_convert_bytes_string w T D E _ _ cap hT hE hD]
      simp [Conv.bytesToString, loadCells, loadCellsFrom]
      rfl
  · obtain ⟨b, off, row, rfl, _, _, _⟩ := h4 0 c rfl
    have h := run_convert_bytes_arg (P := P) w T E hT hE b off (c :: l).length cap ((c :: l).map fun c => (c.toNat : Int)) (by simp) (fun i hi => by
      obtain ⟨b', off', row, e, _, hr, hc⟩ := h4 i (c :: l)[i] (List.getElem?_eq_getElem hi)
      simp only [Option.some.injEq, Addr.mk.injEq] at e
      obtain ⟨rfl, rfl, _⟩ := e
      cases hr
      have := hc 0 _ rfl
      simp only [Nat.mul_one, Nat.add_zero] at this
      rw [this]
      have e2 : ((c :: l).map fun c => (c.toNat : Int)).getD i 0 = ((c :: l)[i]'hi).toNat := by
        rw [List.getD, List.getElem?_map, List.getElem?_eq_getElem hi]; rfl
      rw [e2]) D hD
    rw [h, str_of_bytes]
end Go.Tk
