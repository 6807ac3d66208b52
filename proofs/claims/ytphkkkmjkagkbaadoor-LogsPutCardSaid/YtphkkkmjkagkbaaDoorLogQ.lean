/- What was put stands there; a log that is cut has all that is behind. No program in sight. -/
import Derived.Test.YtphkkkmjkagkbaaDoorLogP
import Derived.Test.YtphkkkmjkagkbaaDoorCmdsP
namespace Go.Tk
open Go Go.RowKit

/-- Entries of commands that may be. -/
def entriesP (l : List CommandD) : List Bytes := l.map fun c => (cmdEncode c).1
theorem entries_ok {l : List CommandD} (h : ∀ c ∈ l, CmdOk c) : ∀ s ∈ entriesP l, decErr s = 0 := by
  intro s hs
  obtain ⟨c, hc, rfl⟩ := List.mem_map.1 hs
  rw [decErr, decode_back (h c hc)]
theorem noLog_ok : LogOk noLog := ⟨by simp [noLog], by simp [noLog], by simp [noLog]⟩
theorem skip_zero {l : LogD} {n : Int} (h : l.base ≤ n) (m : List Bytes) : skipOf l n m = 0 := by rw [skipOf, if_neg (by omega)]
theorem put_eq {l : LogD} {k : Int} {b : List Bytes} (h : LogOk l) (h0 : l.base ≤ k) (h1 : k ≤ logLast l) (hb : b.length ≤ 400) :
    logPut l k b = if (putGo b (k - l.base).toNat l.entries).2 ≠ 0 then (noLog, (putGo b (k - l.base).toNat l.entries).2)
      else if 400 < (putGo b (k - l.base).toNat l.entries).1.length then (noLog, 8) else (⟨l.base, (putGo b (k - l.base).toNat l.entries).1⟩, 0) := by
  have hc := logCheck_ok.2 h
  have hl := h.len
  have hb0 := h.base
  have h2 : logLast l ≤ l.base + 400 := by rw [logLast]; omega
  rw [logPut, skip_zero h0, if_neg (by simp [hc]), if_neg (by omega), if_neg (by omega), if_neg (by omega)]
  simp only [List.drop_zero, Int.natCast_zero, Int.add_zero]
theorem put_first {a : List Bytes} (ha : ∀ s ∈ a, decErr s = 0) (hl : a.length ≤ 400) : logPut noLog 0 a = (⟨0, a⟩, 0) := by
  rw [put_eq noLog_ok (by simp [noLog]) (by simp [noLog, logLast]) hl]
  obtain ⟨o, h1, h2, h3, h4, _⟩ := putGo_spec a 0 [] ha (by simp)
  have e : o = a := by
    have : o.length = a.length := by simp at h3 h2; omega
    rw [← List.take_length (l := o), this]
    simpa using h4
  subst e
  have e3 : putGo o (0 - noLog.base).toNat noLog.entries = (o, 0) := h1
  rw [e3, if_neg (by simp), if_neg (by show ¬(400 < o.length); omega)]; rfl
theorem flat_ok {a : List Bytes} (ha : ∀ s ∈ a, decErr s = 0) (hl : a.length ≤ 400) : LogOk ⟨0, a⟩ := ⟨by simp, hl, ha⟩
/-- LogsPut, plainly. -/
theorem logs_put {a b : List Bytes} {k : Nat} (ha : ∀ s ∈ a, decErr s = 0) (hb : ∀ s ∈ b, decErr s = 0) (hla : a.length ≤ 30) (hlb : b.length ≤ 10) (hk : k ≤ a.length) :
    ∃ y, logPut ⟨0, a⟩ k b = (⟨0, y⟩, 0) ∧ logPut ⟨0, y⟩ k b = (⟨0, y⟩, 0) ∧ LogOk ⟨0, y⟩ ∧ k + b.length ≤ y.length ∧ y.length ≤ 40 ∧
      logPut ⟨0, a⟩ (a.length + 1 : Nat) b = (noLog, 13) ∧ logBehind ⟨0, y⟩ 0 k = (a.take k, 0) ∧ logBehind ⟨0, y⟩ k (b.length : Nat) = (b, 0) := by
  obtain ⟨o, h1, h2, h3, h4, h5⟩ := putGo_spec b k a hb hk
  have hlo : o.length ≤ 40 := by omega
  have hoa : ∀ s ∈ o, decErr s = 0 := fun s hs => by
    rcases h5 s hs with h | h
    · exact ha s h
    · exact hb s h
  have hok : LogOk ⟨0, o⟩ := ⟨by simp, by show o.length ≤ 400; omega, hoa⟩
  have htk : o.take k = a.take k := by
    have := congrArg (List.take k) h4
    rw [List.take_take, show min k (k + b.length) = k by omega, List.take_append, List.take_take, List.length_take, show min k k = k by omega, show k - min k a.length = 0 by omega] at this
    simpa using this
  have hdr : (o.drop k).take b.length = b := by
    have := congrArg (List.drop k) h4
    rw [List.drop_take, show k + b.length - k = b.length by omega, List.drop_left' (by rw [List.length_take]; omega)] at this
    exact this
  have e2 := putGo_same b k o hb h2 (by rw [h4, htk])
  refine ⟨o, ?_, ?_, hok, h2, hlo, ?_, ?_, ?_⟩
  · rw [put_eq (flat_ok ha (by omega)) (by show (0 : Int) ≤ k; omega) (by show (k : Int) ≤ 0 + a.length; omega) (by omega)]
    have e3 : putGo b ((k : Int) - (⟨0, a⟩ : LogD).base).toNat (⟨0, a⟩ : LogD).entries = (o, 0) := by rw [show ((k : Int) - (⟨0, a⟩ : LogD).base).toNat = k by show ((k : Int) - 0).toNat = k; omega]; exact h1
    rw [e3, if_neg (by simp), if_neg (by show ¬(400 < o.length); omega)]
  · rw [put_eq hok (by show (0 : Int) ≤ k; omega) (by show (k : Int) ≤ 0 + o.length; omega) (by omega)]
    have e3 : putGo b ((k : Int) - (⟨0, o⟩ : LogD).base).toNat (⟨0, o⟩ : LogD).entries = (o, 0) := by rw [show ((k : Int) - (⟨0, o⟩ : LogD).base).toNat = k by show ((k : Int) - 0).toNat = k; omega]; exact e2
    rw [e3, if_neg (by simp), if_neg (by show ¬(400 < o.length); omega)]
  · have hc := logCheck_ok.2 (flat_ok ha (by omega))
    rw [logPut, if_neg (by simp [hc]), if_neg (by omega), if_neg (by omega), if_pos (by show (0 : Int) + a.length < (a.length + 1 : Nat); omega)]
  · rw [logBehind, if_neg (by simp [logCheck_ok.2 hok]), if_neg (by show ¬((0 : Int) < 0 ∨ (k : Int) < 0); omega)]
    by_cases hz : logLast ⟨0, o⟩ ≤ 0
    · rw [if_pos hz]
      have : (0 : Int) + o.length ≤ 0 := hz
      have hk0 : k = 0 := by omega
      subst hk0; simp
    · rw [if_neg hz]
      show ((o.drop ((0 : Int) - 0).toNat).take (k : Int).toNat, (0 : Int)) = _
      simp [htk]
  · rw [logBehind, if_neg (by simp [logCheck_ok.2 hok]), if_neg (by show ¬((k : Int) < 0 ∨ (b.length : Int) < 0); omega)]
    by_cases hz : logLast ⟨0, o⟩ ≤ k
    · rw [if_pos hz]
      have : (0 : Int) + o.length ≤ k := hz
      have hb0 : b.length = 0 := by omega
      rw [List.length_eq_zero_iff.1 hb0]
    · rw [if_neg hz]
      show ((o.drop ((k : Int) - 0).toNat).take (b.length : Int).toNat, (0 : Int)) = _
      rw [show ((k : Int) - 0).toNat = k by omega, show (b.length : Int).toNat = b.length by omega, hdr]
/-- LogsCut, plainly. -/
theorem logs_cut {a : List Bytes} {k : Nat} (ha : ∀ s ∈ a, decErr s = 0) (hla : a.length ≤ 30) (hk : k ≤ a.length) :
    logCut ⟨0, a⟩ k = (⟨k, a.drop k⟩, 0) ∧ LogOk ⟨k, a.drop k⟩ ∧ logLast ⟨k, a.drop k⟩ = a.length ∧ logAt ⟨k, a.drop k⟩ k = ([], 6) ∧
      ∀ i : Nat, k < i → i ≤ a.length → logAt ⟨k, a.drop k⟩ i = (a.getD (i - 1) [], 0) := by
  have hok : LogOk ⟨k, a.drop k⟩ := ⟨by simp only; omega, by simp only [List.length_drop]; omega, fun s hs => ha s (List.mem_of_mem_drop hs)⟩
  have hlast : logLast ⟨k, a.drop k⟩ = a.length := by simp only [logLast, List.length_drop]; omega
  refine ⟨?_, hok, hlast, ?_, fun i hi hi2 => ?_⟩
  · rw [logCut, if_neg (by simp [logCheck_ok.2 (flat_ok ha (by omega))]), if_neg (by show ¬((k : Int) < 0 ∨ (0 : Int) + a.length < k); omega), if_neg (by omega)]
    simp
  · rw [logAt, if_neg (by simp [logCheck_ok.2 hok]), if_pos (by simp)]
  · rw [logAt, if_neg (by simp [logCheck_ok.2 hok]), hlast, if_neg (by simp only; omega)]
    simp only
    rw [show ((i : Int) - k - 1).toNat = i - 1 - k by omega]
    simp only [List.getD, List.getElem?_drop]
    rw [show k + (i - 1 - k) = i - 1 by omega]
end Go.Tk
