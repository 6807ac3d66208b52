/- slices.BinarySearchFunc over locks, with the program's own comparison. -/
import Derived.Test.YtcjnnkbliapkgaaRows
import Derived.Test.YtcjnnkbliapkgaaSlice
import Derived.Test.YtcjnnkbliapkgaaData
import Derived.Test.YtcjnnkbliapkgaaSearchP
import Derived.Test.YtcjnnkbliapkgaaStrs
import Derived.Test.YtcjnnkbliapkgaaLockP
import Derived.WalkLawsBesides
import Derived.BigQuiet
import Derived.Deep.QuietTactic
namespace Go.Proofs.Ytcjnnkbliapkgaa
open Go.RowKit Go.Tk

set_option maxRecDepth 100000 in
theorem cmpLockW_calls (w : World) (x : LockD) (t : List UInt8) (rv : Value) (hrv : rv.oneCell' = true) :
    Calls Try.prog 48 #[.agg #[.string ⟨x.name.toArray⟩, .int .i64 x.holder, .int .i64 x.fence, rv], .string ⟨t.toArray⟩] w fun e w' => e = .returned (.int .i64 (lockCmp x t)) ∧ Below w.heap.size w w' := by
  go_enter Try.func48, Try.ntmps48
  go_wp2_with fail
  refine (compare_calls x.name t _).mono ?_; rintro e w' ⟨rfl, rfl⟩
  go_wp2
  go_ret
  exact ⟨rfl, (Below.refl _ _).alloc (Nat.le_refl _) _⟩
set_option maxRecDepth 100000 in
set_option maxHeartbeats 400000 in
theorem searchLockW_calls (w : World) (v : Value) (l : List LockD) (S : Nat → Prop) (h : SlR 4 rLock w v l S) (hn : l.length ≤ 1000000) (t : List UInt8) :
    Calls Try.prog 47 #[v, .string ⟨t.toArray⟩, .func (.func 48) #[] #[]] w fun e w' =>
      e = .returned (.tuple #[.int .i64 (bs (fun i => lockCmp (l.getD i noLock) t) l.length : Nat), .bool (bsFound (fun i => lockCmp (l.getD i noLock) t) l.length)]) ∧ Below w.heap.size w w' := by
  obtain ⟨a, cap, hv, hl, hm, hnil, -⟩ := id h
  subst hv
  unfold maxLen at hm
  go_enter Try.func47, Try.ntmps47
  go_wp2
  go_loopw [9, 10, 11] (fun i j _ wr => ∃ p q : Nat, p ≤ q ∧ q ≤ l.length ∧ i = .int .i64 p ∧ j = .int .i64 q ∧ Hid (bsGo (fun i => lockCmp (l.getD i noLock) t) (q - p) p q = bs (fun i => lockCmp (l.getD i noLock) t) l.length) ∧ Below w.heap.size w wr)
    (fun i j _ _ => (intOf j).toNat - (intOf i).toNat)
  case atStart => exact ⟨0, l.length, by omega, by omega, rfl, rfl, rfl, Below.refl _ _⟩
  case round =>
    obtain ⟨p, q, hpq, hql, rfl, rfl, hgo, hb⟩ := hrel
    by_cases hlt : p < q
    · have hml : (p + q) / 2 < l.length := by omega
      obtain ⟨b, off, cap', row, hv, hS, hrow, hcells⟩ := (h.below rLock_ok (by decide) hb).row ((p + q) / 2) hml
      simp only [Value.slice.injEq] at hv
      obtain ⟨rfl, _, rfl⟩ := hv
      have hg : l.getD ((p + q) / 2) noLock = l[(p + q) / 2] := by simp [List.getD, hml]

      have HL : Hid (lockCmp l[(p + q) / 2] t < 0 → bsGo (fun i => lockCmp (l.getD i noLock) t) (q - ((p + q) / 2 + 1)) ((p + q) / 2 + 1) q = bs (fun i => lockCmp (l.getD i noLock) t) l.length) := fun hf => by
        rw [← bsGo_less _ hlt (by show lockCmp (l.getD ((p + q) / 2) noLock) t < 0; rw [hg]; exact hf)]; exact hgo.out
      have HM : Hid (¬ lockCmp l[(p + q) / 2] t < 0 → bsGo (fun i => lockCmp (l.getD i noLock) t) ((p + q) / 2 - p) p ((p + q) / 2) = bs (fun i => lockCmp (l.getD i noLock) t) l.length) := fun hf => by
        rw [← bsGo_more _ hlt (by show ¬ lockCmp (l.getD ((p + q) / 2) noLock) t < 0; rw [hg]; exact hf)]; exact hgo.out
      clear hgo hg
      generalize l[(p + q) / 2] = x at *
      obtain ⟨rv, rfl, hrv⟩ := hrow
      obtain ⟨ra, rcap, rfl, -⟩ := id hrv
      have q0 := hcells 0 _ rfl
      have q1 := hcells 1 _ rfl
      have q2 := hcells 2 _ rfl
      have q3 := hcells 3 _ rfl
      simp only [Nat.add_zero] at q0
      clear hcells
      have hws := hb.size
      by_cases hf : lockCmp x t < 0
      all_goals (have HF := Lib.hid hf)
      · go_wp2_with (go_at_call 48; refine (cmpLockW_calls _ x t _ rfl).mono ?_; rintro e w2 ⟨rfl, hb2⟩)
        go_roundw
        case rel => exact ⟨(p + q) / 2 + 1, q, by omega, hql, by go_num, rfl, HL.out HF.out, hb.trans (hb2.mono hws)⟩
        case measure => simp [intOf]; omega
      · go_wp2_with (go_at_call 48; refine (cmpLockW_calls _ x t _ rfl).mono ?_; rintro e w2 ⟨rfl, hb2⟩)
        go_roundw
        case rel => exact ⟨p, (p + q) / 2, by omega, by omega, rfl, by go_num, HM.out HF.out, hb.trans (hb2.mono hws)⟩
        case measure => simp [intOf]; omega
    · obtain rfl : p = q := by omega
      have HP : Hid (bs (fun i => lockCmp (l.getD i noLock) t) l.length = p) := by have := hgo.out; rw [Nat.sub_self] at this; exact this.symm
      clear hgo
      have hws := hb.size
      by_cases hml : p < l.length
      · obtain ⟨b, off, cap', row, hv, hS, hrow, hcells⟩ := (h.below rLock_ok (by decide) hb).row p hml
        simp only [Value.slice.injEq] at hv
        obtain ⟨rfl, _, rfl⟩ := hv
        have HG : Hid (bsFound (fun i => lockCmp (l.getD i noLock) t) l.length = (lockCmp l[p] t == 0)) := by
          show _ = _
          rw [bsFound, HP.out, decide_eq_true hml, show l.getD p noLock = l[p] by simp [List.getD, hml]]; rfl
        skip
        clear h
        generalize l[p] = x at *
        obtain ⟨rv, rfl, hrv⟩ := hrow
        obtain ⟨ra, rcap, rfl, -⟩ := id hrv
        have q0 := hcells 0 _ rfl
        have q1 := hcells 1 _ rfl
        have q2 := hcells 2 _ rfl
        have q3 := hcells 3 _ rfl
        simp only [Nat.add_zero] at q0
        clear hcells
        go_wp2_with (go_at_call 48; refine (cmpLockW_calls _ x t _ rfl).mono ?_; rintro e w2 ⟨rfl, hb2⟩)
        go_ret2
        exact ⟨ends2 (by rw [HP.out]; rfl) (by rw [HG.out]; rfl), hb.trans (hb2.mono hws)⟩
      · have HG : Hid (bsFound (fun i => lockCmp (l.getD i noLock) t) l.length = false) := by
          show _ = _
          rw [bsFound, HP.out, decide_eq_false hml]; rfl
        clear h
        go_wp2
        go_ret2
        exact ⟨ends2 (by rw [HP.out]; rfl) (by rw [HG.out]; rfl), hb⟩
end Go.Proofs.Ytcjnnkbliapkgaa
