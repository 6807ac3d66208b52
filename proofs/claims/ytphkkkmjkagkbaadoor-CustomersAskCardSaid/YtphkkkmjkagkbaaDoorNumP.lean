/- What holds of numbers as bytes: plain laws. -/
import Derived.Test.YtphkkkmjkagkbaaDoorCodecP
namespace Go.Tk
open Go

theorem drop_cons {α : Type} [Inhabited α] (s : List α) (k : Nat) (d : α) (h : k < s.length) : s.drop k = s.getD k d :: s.drop (k + 1) := by
  rw [List.drop_eq_getElem_cons h]; simp [List.getD, h]
theorem toUInt8_toNat (b : UInt8) (n : Nat) (h : b.toNat = n) : n.toUInt8 = b := by
  subst h; simp
theorem rdGo_zero (s : List UInt8) : ∀ f k m, (rdGo s f k m).2.2 ≠ 0 → (rdGo s f k m).1 = 0 ∧ (rdGo s f k m).2.1 = []
  | 0, k, m => by simp [rdGo]
  | f + 1, k, m => by
    rw [rdGo]
    split
    · split
      · exact rdGo_zero s f _ _
      · split <;> simp
    · simp
theorem rdGo_once (s : List UInt8) : ∀ f k m, (rdGo s f k m).2.2 = 0 → ∃ q : Nat, (rdGo s f k m).1 = ((m + q * 128 ^ k : Nat) : Int) ∧ s.drop k = digs f q ++ (rdGo s f k m).2.1 ∧ (0 < k → q ≠ 0) ∧ m + q * 128 ^ k ≤ 1099511627776
  | 0, k, m => by simp [rdGo]
  | f + 1, k, m => by
    intro h
    by_cases hk : k < s.length
    · by_cases hb : 128 ≤ (s.getD k 0).toNat
      · have e : rdGo s (f + 1) k m = rdGo s f (k + 1) (m + (s.getD k 0).toNat % 128 * 128 ^ k) := by rw [rdGo, if_pos hk, if_pos hb]
        rw [e] at h ⊢
        obtain ⟨q, h1, h2, h3, h4⟩ := rdGo_once s f (k + 1) _ h
        have h3' := h3 (by omega)
        have e2 : m + (s.getD k 0).toNat % 128 * 128 ^ k + q * 128 ^ (k + 1) = m + ((s.getD k 0).toNat % 128 + 128 * q) * 128 ^ k := by
          rw [Nat.pow_succ, Nat.add_mul, Nat.mul_comm 128 q, Nat.mul_assoc q, Nat.mul_comm 128, Nat.add_assoc]
        refine ⟨(s.getD k 0).toNat % 128 + 128 * q, by rw [h1, e2], ?_, by omega, by rw [← e2]; exact h4⟩
        have hlt := UInt8.toNat_lt (s.getD k 0)
        rw [drop_cons s k 0 hk, h2, digs_big f _ (by omega)]
        rw [show ((s.getD k 0).toNat % 128 + 128 * q) / 128 = q by omega, show ((s.getD k 0).toNat % 128 + 128 * q) % 128 + 128 = (s.getD k 0).toNat by omega, toUInt8_toNat (s.getD k 0) _ rfl]
        rfl
      · by_cases hz : (s.getD k 0).toNat = 0 ∧ 0 < k ∨ 1099511627776 < m + (s.getD k 0).toNat % 128 * 128 ^ k
        · rw [rdGo, if_pos hk, if_neg hb, if_pos hz] at h; simp at h
        · have e : rdGo s (f + 1) k m = (((m + (s.getD k 0).toNat % 128 * 128 ^ k : Nat) : Int), s.drop (k + 1), 0) := by rw [rdGo, if_pos hk, if_neg hb, if_neg hz]
          rw [e]
          refine ⟨(s.getD k 0).toNat % 128, rfl, ?_, ?_, by omega⟩
          · rw [drop_cons s k 0 hk, digs_small _ _ (by omega), toUInt8_toNat (s.getD k 0) _ (by omega)]; rfl
          · intro h0; omega
    · rw [rdGo, if_neg hk] at h; simp at h
theorem digs_fuel : ∀ f q, q < 128 ^ (f + 1) → digs (f + 1) q = digs f q
  | 0, q, h => by rw [digs_small _ _ (by simpa using h), digs_small _ _ (by simpa using h)]
  | f + 1, q, h => by
    by_cases h1 : q < 128
    · rw [digs_small _ _ h1, digs_small _ _ h1]
    · rw [digs_big (f + 1) q (by omega), digs_big f q (by omega), digs_fuel f (q / 128) (by rw [Nat.pow_succ] at h; omega)]
theorem readNumber_once (s : List UInt8) (h : (readNumber s).2.2 = 0) : ∃ q : Nat, (readNumber s).1 = q ∧ s = digs 6 q ++ (readNumber s).2.1 ∧ q ≤ 1099511627776 := by
  obtain ⟨q, h1, h2, _, h4⟩ := rdGo_once s 6 0 0 h
  simp at h1 h2 h4
  exact ⟨q, h1, h2, h4⟩
theorem rdGo_digs (t : List UInt8) : ∀ (f k m q : Nat) (pre : List UInt8), pre.length = k → q < 128 ^ (f + 1) → (0 < k → q ≠ 0) → m + q * 128 ^ k ≤ 1099511627776 → rdGo (pre ++ (digs f q ++ t)) (f + 1) k m = (((m + q * 128 ^ k : Nat) : Int), t, 0)
  | f, k, m, q, pre, hp, hq, hz, hm => by
    subst hp
    by_cases h : q < 128
    · rw [digs_small f q h, rdGo]
      have hg : ((pre ++ ([q.toUInt8] ++ t)).getD pre.length 0).toNat = q := by simp [List.getD]; omega
      rw [if_pos (by simp), hg, if_neg (by omega), if_neg (by rw [Nat.mod_eq_of_lt h]; omega), Nat.mod_eq_of_lt h]
      simp [List.drop_append]
    · rcases f with _ | f
      · simp at hq; omega
      · rw [digs_big f q (by omega), rdGo]
        have hg : ((pre ++ ((q % 128 + 128).toUInt8 :: digs f (q / 128) ++ t)).getD pre.length 0).toNat = q % 128 + 128 := by simp [List.getD]; omega
        rw [if_pos (by simp), hg, if_pos (by omega)]
        have e := rdGo_digs t f (pre.length + 1) (m + q % 128 * 128 ^ pre.length) (q / 128) (pre ++ [(q % 128 + 128).toUInt8]) (by simp) (by rw [Nat.pow_succ] at hq; omega) (by omega)
        have e2 : m + q % 128 * 128 ^ pre.length + q / 128 * 128 ^ (pre.length + 1) = m + q * 128 ^ pre.length := by
          rw [Nat.pow_succ, Nat.add_assoc, Nat.mul_comm (128 ^ pre.length) 128, ← Nat.mul_assoc, ← Nat.add_mul]
          congr 2; omega
        rw [e2] at e
        have e3 := e hm
        simp only [List.append_assoc, List.cons_append, List.nil_append] at e3 ⊢
        rw [show (q % 128 + 128) % 128 = q % 128 by omega, ← e3]
theorem rdGo_short : ∀ (f k m q : Nat) (pre : List UInt8), pre.length = k → q < 128 ^ (f + 1) → rdGo (pre ++ (digs f q).dropLast) (f + 1) k m = (0, [], 5)
  | f, k, m, q, pre, hp, hq => by
    subst hp
    by_cases h : q < 128
    · rw [digs_small f q h, rdGo, if_neg (by simp)]
    · rcases f with _ | f
      · simp at hq; omega
      · rw [digs_big f q (by omega), rdGo]
        have hne : digs f (q / 128) ≠ [] := by cases f <;> (rw [digs]; try split) <;> simp
        rw [List.dropLast_cons_of_ne_nil hne]
        have hg : ((pre ++ (q % 128 + 128).toUInt8 :: (digs f (q / 128)).dropLast).getD pre.length 0).toNat = q % 128 + 128 := by simp [List.getD]; omega
        rw [if_pos (by simp), hg, if_pos (by omega)]
        have e := rdGo_short f (pre.length + 1) (m + (q % 128 + 128) % 128 * 128 ^ pre.length) (q / 128) (pre ++ [(q % 128 + 128).toUInt8]) (by simp) (by rw [Nat.pow_succ] at hq; omega)
        simpa using e
theorem readNumber_back (q : Nat) (hq : q ≤ 1099511627776) (t : List UInt8) : readNumber (digs 6 q ++ t) = ((q : Int), t, 0) := by
  have h := rdGo_digs t 5 0 0 q [] rfl (by omega) (by omega) (by omega)
  rw [digs_fuel 5 q (by omega)]
  simpa [readNumber] using h
theorem readNumber_short (q : Nat) (hq : q ≤ 1099511627776) : readNumber (digs 6 q).dropLast = (0, [], 5) := by
  have h := rdGo_short 5 0 0 q [] rfl (by omega)
  rw [digs_fuel 5 q (by omega)]
  simpa [readNumber] using h
theorem readText_back (s t : List UInt8) (h : s.length ≤ 5000) : readText ((text s).1 ++ t) = (s, t, 0) := by
  have e : (text s).1 = digs 6 s.length ++ s := by rw [text, if_neg (by omega), number, if_neg (by omega)]; rfl
  have r : readNumber ((text s).1 ++ t) = (((s.length : Nat) : Int), s ++ t, 0) := by rw [e, List.append_assoc]; exact readNumber_back _ (by omega) _
  rw [readText, r]
  simp
  rw [if_neg (by omega), if_neg (by omega)]
end Go.Tk
