/- slices.Equal over strings. -/
import Derived.Test.YtphkkkmjkagkbaaDoorRows
import Derived.Test.YtphkkkmjkagkbaaDoorSlice
import Derived.Test.YtphkkkmjkagkbaaDoorData
import Derived.WalkLawsBesides
import Derived.BigRegion
import Derived.BigQuiet
import Derived.Deep.QuietTactic
import Derived.Deep.RegionLaw
import Derived.KernelRfl
namespace Go.Tk
open Go Go.RowKit
theorem take_eq_succ {α : Type} {l m : List α} {n : Nat} (hl : n < l.length) (hm : n < m.length) (h : l.take n = m.take n) (he : l[n] = m[n]) : l.take (n + 1) = m.take (n + 1) := by
  rw [List.take_succ_eq_append_getElem hl, List.take_succ_eq_append_getElem hm, h, he]
end Go.Tk
namespace Go.Proofs.YtphkkkmjkagkbaaDoor
open Go.RowKit Go.Tk

set_option maxRecDepth 100000 in
set_option maxHeartbeats 800000 in
theorem equalStr_calls (l m : List (List UInt8)) (v vm : Value) (S Sm : Nat → Prop) (w : World) (h : SlR 1 rStr w v l S) (hm : SlR 1 rStr w vm m Sm) (hl1 : l.length ≤ 1000000) (hm1 : m.length ≤ 1000000) :
    Calls Tryd.prog 22 #[v, vm] w fun e w' => e = .returned (.bool (decide (l = m))) ∧ Below w.heap.size w w' := by
  obtain ⟨a, cap, hv, hl, hc, -, -⟩ := id h
  subst hv
  obtain ⟨am, capm, hv, hlm, hcm, -, -⟩ := id hm
  subst hv
  unfold maxLen at hc hcm
  have HL := Lib.hid h
  have HM := Lib.hid hm
  clear h hm
  by_cases hne : l.length = m.length
  case neg =>
    have HF := Lib.hid (show decide (l = m) = false from decide_eq_false fun e => hne (by rw [e]))
    go_enter Tryd.func22, Tryd.ntmps22
    go_wp2
    go_ret
    exact ⟨by rw [HF.out]; rfl, Below.refl _ _⟩
  rw [← hne] at HM ⊢
  have HNE := Lib.hid hne
  clear hne hlm
  go_enter Tryd.func22, Tryd.ntmps22
  go_wp2
  go_loopw [5, 13] (fun _ i wr => ∃ n : Nat, n ≤ l.length ∧ i = .int .i64 n ∧ Hid (l.take n = m.take n) ∧ Hid (Below w.heap.size w wr))
    (fun _ i _ => l.length - (intOf i).toNat)
  case atStart => exact ⟨0, by omega, rfl, by simp [Hid], Below.refl _ _⟩
  case round =>
    obtain ⟨n, hn, rfl, hf, hb⟩ := hrel
    by_cases hlt : n < l.length
    case neg =>
      have HF := Lib.hid (show decide (l = m) = true from decide_eq_true (by have := hf.out; rwa [List.take_of_length_le (by omega), List.take_of_length_le (by rw [← HNE.out]; omega)] at this))
      go_wp2
      go_ret
      exact ⟨by rw [HF.out]; rfl, hb.out⟩
    have hltm : n < m.length := by rw [← HNE.out]; exact hlt
    obtain ⟨b, off, cap', row, hv, hSb, hrow, hcells⟩ := (HL.out.below rStr_ok (by decide) hb.out).row n hlt
    simp only [Value.slice.injEq] at hv
    obtain ⟨rfl, _, rfl⟩ := hv
    obtain rfl := hrow
    have q0 := hcells 0 _ rfl
    obtain ⟨b2, off2, cap2, row2, hv2, hSb2, hrow2, hcells2⟩ := (HM.out.below rStr_ok (by decide) hb.out).row n hltm
    simp only [Value.slice.injEq] at hv2
    obtain ⟨rfl, -, rfl⟩ := hv2
    obtain rfl := hrow2
    have r0 := hcells2 0 _ rfl
    simp only [Nat.add_zero, Nat.mul_one] at q0 r0
    clear hcells hcells2
    have HE : Hid (l[n] = m[n] → l.take (n + 1) = m.take (n + 1)) := fun he => take_eq_succ hlt hltm hf.out he
    have HN : Hid (l[n] ≠ m[n] → decide (l = m) = false) := fun he => decide_eq_false fun e => he (by subst e; rfl)
    clear hf
    generalize l[n] = s at *
    generalize m[n] = t at *
    clear hltm
    by_cases hst : s = t
    · have HE2 := Lib.hid (HE.out hst)
      subst hst
      go_wp2
      go_region
      go_wp2
      go_roundw
      case rel => exact ⟨n + 1, by omega, by go_num, HE2, Lib.hid (Below.drew hb.out)⟩
      case measure => simp [intOf]; omega
    · have HN2 := Lib.hid (HN.out hst)
      have hstb : (s == t) = false := by simpa using hst
      go_wp2
      go_region
      go_wp2
      go_ret
      exact ⟨by rw [HN2.out]; rfl, Below.drew hb.out⟩
end Go.Proofs.YtphkkkmjkagkbaaDoor
