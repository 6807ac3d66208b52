/- lock.Name. -/
import Derived.Test.YtphkkkmjkagkbaaDoorLockB0
namespace Go.Tk
open Go Go.RowKit
theorem SlR.take {α : Type} {k : Nat} {R : Rel α} {w : World} {a : Option Addr} {n cap : Nat} {l : List α} {S : Nat → Prop} (h : SlR k R w (.slice a n cap) l S) (i : Nat) (hi : i ≤ l.length) : SlR k R w (.slice a i cap) (l.take i) S := by
  obtain ⟨a', cap', hv, h1, h2, h3, h4⟩ := h
  simp only [Value.slice.injEq] at hv
  obtain ⟨rfl, rfl, rfl⟩ := hv
  have hl : (l.take i).length = i := by rw [List.length_take]; omega
  refine ⟨a, cap, by rw [hl], by omega, h2, h3, fun j x hx => ?_⟩
  have hj : j < i := by
    rcases Nat.lt_or_ge j i with h | h
    · exact h
    · rw [List.getElem?_eq_none (by omega)] at hx; cases hx
  rw [List.getElem?_take_of_lt hj] at hx
  exact h4 j x hx
theorem conv_bytes {P : Program} (w : World) (src dst e : TypeId) (s : List UInt8) (hs : P.underlying src = some .string) (hd : P.underlying dst = some (.slice e)) (he : P.underlying e = some (.int .u8)) (hl : s.length ≤ 1000000) :
    ∃ cap w1, (convert src dst (.string ⟨s.toArray⟩)).run P w = .ok (.slice (some ⟨w.heap.size, 0, none⟩) s.length cap) w1 ∧ SlR 1 rByte w1 (.slice (some ⟨w.heap.size, 0, none⟩) s.length cap) s (fun _ => True) ∧ Below w.heap.size w w1 := by
  have hsz : (⟨s.toArray⟩ : ByteArray).size = s.length := by simp [ByteArray.size]
  have hr := run_bytes_of_string (P := P) w src dst e ⟨s.toArray⟩ hs hd he
  rw [hsz] at hr
  refine ⟨_, _, hr, ⟨_, _, rfl, grownCap_ge w s.length 0 e, grownCap_le_maxLen w s.length 0 e (by unfold maxLen; omega), (fun h => by cases h), fun i x hx => ⟨w.heap.size, 0, [.int .u8 x.toNat], rfl, trivial, rfl, fun j u hu => ?_⟩⟩, Below.alloc (Below.drew (Below.refl _ _)) (Nat.le_refl _) _⟩
  · cases j with
    | succ j => simp at hu
    | zero =>
      simp at hu
      subst hu
      refine Eq.trans (cells_take (w := w.drew.alloc _) (g := w.heap.size) (heap_alloc_new w.drew _) _) ?_
      have hi : i < s.length := by
        rcases Nat.lt_or_ge i s.length with h | h
        · exact h
        · rw [List.getElem?_eq_none h] at hx; cases hx
      rw [List.getElem?_eq_getElem hi] at hx
      simp only [Option.some.injEq] at hx
      simp [bytesRow, Array.getElem?_append, hi, hx]
end Go.Tk
namespace Go.Proofs.YtphkkkmjkagkbaaDoor
open Go.RowKit Go.Tk

set_option maxRecDepth 100000 in
theorem name_calls (s : List UInt8) (w : World) : Calls Tryd.prog 35 #[.string ⟨s.toArray⟩] w fun e w' => e = .returned (.bool (lkName s)) ∧ Below w.heap.size w w' := by
  cases s with
  | nil =>
    go_enter Tryd.func35, Tryd.ntmps35
    go_wp2
    go_ret
    exact ⟨rfl, Below.refl _ _⟩
  | cons c r =>
    have HL := Lib.hid (show lkName (c :: r) = (decide ((c :: r).length ≤ 6) && !(c :: r).any badByte) from rfl)
    by_cases h6 : (c :: r).length ≤ 6
    · have HL2 := Lib.hid (HL.out.trans (by rw [decide_eq_true h6, Bool.true_and]))
      obtain ⟨cap, w1, hcv, hsl, hb1⟩ := conv_bytes (P := Tryd.prog) w _ _ _ (c :: r) Tryd.underlying9 Tryd.underlying76 Tryd.underlying5 (by omega)
      have HC := Lib.hid (containsByteF_calls w1 _ _ _ hsl (by omega))
      clear hsl
      have hne : (c :: r).isEmpty = false := rfl
      generalize c :: r = s at *
      go_enter Tryd.func35, Tryd.ntmps35
      go_wp2_with fail
      refine HC.out.mono ?_; rintro e w2 ⟨rfl, hb2⟩
      go_wp2
      go_ret
      exact ⟨by rw [HL2.out]; rfl, below_step hb1 hb2⟩
    · have HL2 := Lib.hid (HL.out.trans (by rw [decide_eq_false h6, Bool.false_and]))
      have hne : (c :: r).isEmpty = false := rfl
      generalize c :: r = s at *
      go_enter Tryd.func35, Tryd.ntmps35
      go_wp2
      go_ret
      exact ⟨by rw [HL2.out]; rfl, Below.refl _ _⟩
end Go.Proofs.YtphkkkmjkagkbaaDoor
