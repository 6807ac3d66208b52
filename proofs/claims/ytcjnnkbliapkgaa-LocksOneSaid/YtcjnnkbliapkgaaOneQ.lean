/- LocksOne, plainly: what is asked, and what is answered. -/
import Derived.Test.YtcjnnkbliapkgaaOneP
namespace Go.Tk
open Go
theorem lk_at {x : List LockD} {k : List UInt8} {i : Nat} (h : LkOk x) (hi : i < x.length) (hn : x[i].name = k) : lThere x k = true ∧ lFind x k = i := by
  have ht : lThere x k = true := by
    cases hb : lThere x k
    · exact absurd hn (lThere_no h hb _ (List.getElem_mem hi))
    · rfl
  refine ⟨ht, ?_⟩
  have h1 := lThere_name ht
  have h2 := lThere_lt ht
  have hp := List.pairwise_iff_getElem.1 h.names
  rcases Nat.lt_trichotomy (lFind x k) i with h3 | h3 | h3
  · have := hp (lFind x k) i (by rw [List.length_map]; omega) (by rw [List.length_map]; exact hi) h3
    simp only [List.getElem_map] at this
    rw [h1, hn, less_irrefl] at this; cases this
  · exact h3
  · have := hp i (lFind x k) (by rw [List.length_map]; omega) (by rw [List.length_map]; omega) h3
    simp only [List.getElem_map] at this
    rw [h1, hn, less_irrefl] at this; cases this
theorem passP_ne {x : LockD} {a : Int} (h : LkOne x) (hh : x.holder = a) (ha : 1 ≤ a) : (passP x).holder ≠ a := by
  unfold passP
  split
  · rename_i hc
    show x.line.getD 0 0 ≠ a
    rw [show x.line.getD 0 0 = x.line[0] by simp [List.getD, hc.1], ← hh]
    exact h.line.ne _ (List.getElem_mem _)
  · show (0 : Int) ≠ a; omega
theorem who_at {x : List LockD} {k : List UInt8} {i : Nat} (h : LkOk x) (hi : i < x.length) (hn : x[i].name = k) : lWho x k = if x[i].holder = 0 then (0, 0, 0) else (x[i].holder, x[i].fence, 0) := by
  obtain ⟨h1, h2⟩ := lk_at h hi hn
  rw [lWho, if_neg (by rw [lkCheck_ok.2 h]; simp), h1, h2, show x.getD i noLock = x[i] by simp [List.getD, hi]]
  simp
theorem one_three {x : List LockD} {k : List UInt8} {a : Int} {i : Nat} (h : LkOk x) (hk : lkName k = true) (hi : i < x.length) (hn : x[i].name = k) (hh : x[i].holder = a) (ha : 1 ≤ a ∧ a ≤ 5) :
    lWho x k = (a, x[i].fence, 0) ∧ lkTake x k 9 false = (x, ⟨10, a, []⟩, 0) ∧ lkFree x k a = (x.set i (passP x[i]), ⟨0, (passP x[i]).holder, []⟩, 0) ∧ LkOk (x.set i (passP x[i])) ∧
      (∃ f, lWho (x.set i (passP x[i])) k = ((passP x[i]).holder, f, 0)) ∧ (passP x[i]).holder ≠ a := by
  obtain ⟨h1, h2⟩ := lk_at h hi hn
  have hg : x.getD i noLock = x[i] := by simp [List.getD, hi]
  have ho := h.one _ (List.getElem_mem hi)
  have hset : LkOk (x.set i (passP x[i])) := h.set hi (passP_one ho) (passP_name _)
  refine ⟨?_, ?_, ?_, hset, ?_, passP_ne ho hh ha.1⟩
  · rw [who_at h hi hn, hh, if_neg (by omega)]
  · rw [lkTake, if_neg (by rw [lk_begin h hk (by omega)]; simp), if_neg (by rw [h1]; decide), h2, hg, hh, if_neg (by omega), if_neg (by omega), if_pos (.inl rfl)]
  · rw [lkFree, if_neg (by rw [lk_begin h hk (by omega)]; simp), if_neg (by rw [h1]; decide), h2, hg, if_pos hh]
  · have hw := who_at (k := k) (i := i) hset (by rw [List.length_set]; exact hi) (by rw [List.getElem_set_self, passP_name]; exact hn)
    rw [List.getElem_set_self] at hw
    rw [hw]
    by_cases h0 : (passP x[i]).holder = 0
    · rw [if_pos h0]; exact ⟨0, by rw [h0]⟩
    · rw [if_neg h0]; exact ⟨_, rfl⟩
theorem locks_one {L : List LockD} {k : List UInt8} {a : Int} (h : LkOk L) (hs : Small 30 L) (hks : k ∈ kset) (hk : lkName k = true) (ha : 1 ≤ a ∧ a ≤ 5) :
    (∃ b f, b ≠ 0 ∧ b ≠ a ∧ lWho L k = (b, f, 0) ∧ lkTake L k a false = (L, ⟨10, b, []⟩, 0)) ∨
    ∃ (was fence N : Int) (x : List LockD) (i : Nat), lWho L k = (was, fence, 0) ∧ (was = 0 ∨ was = a) ∧ lkTake L k a false = (x, ⟨0, N, []⟩, 0) ∧ LkOk x ∧ ∃ hi : i < x.length, x[i].name = k ∧ x[i].holder = a ∧ x[i].fence = N ∧ (was = a ↔ N = fence) ∧ fence ≤ N := by
  by_cases ht : lThere L k = true
  · have hlt := lThere_lt ht
    have hn := lThere_name ht
    have hg : L.getD (lFind L k) noLock = L[lFind L k] := by simp [List.getD, hlt]
    have ho := h.one _ (List.getElem_mem hlt)
    have hw := who_at h hlt hn
    have htk : lkTake L k a false = if L[lFind L k].holder = a then (L, ⟨0, L[lFind L k].fence, []⟩, 0)
        else if L[lFind L k].holder = 0 then (if L[lFind L k].fence = 1073741824 then (L, ⟨8, 0, []⟩, 0) else (L.set (lFind L k) { L[lFind L k] with holder := a, fence := L[lFind L k].fence + 1 }, ⟨0, L[lFind L k].fence + 1, []⟩, 0))
        else (L, ⟨10, L[lFind L k].holder, []⟩, 0) := by
      rw [lkTake, if_neg (by rw [lk_begin h hk (by omega)]; simp), if_neg (by rw [ht]; decide), hg]
      simp
    by_cases h1 : L[lFind L k].holder = a
    · right
      rw [if_pos h1] at htk
      refine ⟨a, L[lFind L k].fence, L[lFind L k].fence, L, lFind L k, ?_, .inr rfl, htk, h, hlt, hn, h1, rfl, by simp, Int.le_refl _⟩
      rw [hw, h1, if_neg (by omega)]
    · rw [if_neg h1] at htk
      by_cases h0 : L[lFind L k].holder = 0
      · right
        have hf := hs.fence _ (List.getElem_mem hlt)
        have hf1 := ho.fence
        rw [if_pos h0, if_neg (by omega)] at htk
        rw [if_pos h0] at hw
        have htok := (take_ok (wt := false) h hk (show 1 ≤ a ∧ a ≤ 9 by omega)).1
        rw [htk] at htok
        refine ⟨0, 0, _, _, lFind L k, hw, .inl rfl, htk, htok, by rw [List.length_set]; exact hlt, ?_⟩
        rw [List.getElem_set_self]
        exact ⟨hn, rfl, rfl, by constructor <;> intro h5 <;> omega, by omega⟩
      · left
        rw [if_neg h0] at htk hw
        exact ⟨_, _, h0, h1, hw, htk⟩
  · right
    have hf : lThere L k = false := by simpa using ht
    have hlen := small_len h hs
    have hw : lWho L k = (0, 0, 0) := by rw [lWho, if_neg (by rw [lkCheck_ok.2 h]; simp), if_pos (.inl hf)]
    have htk : lkTake L k a false = (L.take (lFind L k) ++ ⟨k, a, 1, []⟩ :: L.drop (lFind L k), ⟨0, 1, []⟩, 0) := by
      rw [lkTake, if_neg (by rw [lk_begin h hk (by omega)]; simp), if_pos hf, if_neg (by omega)]
    have htok := (take_ok (wt := false) h hk (show 1 ≤ a ∧ a ≤ 9 by omega)).1
    rw [htk] at htok
    have hfl : lFind L k ≤ L.length := bs_le _ _
    have hil : lFind L k < (L.take (lFind L k) ++ ⟨k, a, 1, []⟩ :: L.drop (lFind L k)).length := by simp; omega
    have hget : (L.take (lFind L k) ++ ⟨k, a, 1, []⟩ :: L.drop (lFind L k))[lFind L k] = ⟨k, a, 1, []⟩ := by
      rw [List.getElem_append_right (by rw [List.length_take]; omega)]
      simp [Nat.min_eq_left hfl]
    refine ⟨0, 0, 1, _, lFind L k, hw, .inl rfl, htk, htok, hil, ?_⟩
    rw [hget]
    exact ⟨rfl, rfl, rfl, by constructor <;> intro h5 <;> omega, by decide⟩
end Go.Tk
