/- Walks of package session. -/
import Derived.Test.YtcjnnkbliapkgaaRows
import Derived.Test.YtcjnnkbliapkgaaSessP
import Derived.WalkKit
import Derived.WalkSpells
import Derived.WalkLawsBesides
import Derived.BigQuiet
import Derived.Deep.QuietTactic
import Derived.KernelRfl
namespace Go.Proofs.Ytcjnnkbliapkgaa
open Go.RowKit Go.Tk

set_option maxRecDepth 100000 in
set_option maxHeartbeats 800000 in
theorem replies_calls (s : SessionD) (v : Value) (S : Nat → Prop) (w : World) (h : SlR 4 rKept w v s.replies S) (ha : 0 ≤ s.acked) (ha2 : s.acked ≤ 1048576) :
    Calls Try.prog 41 #[.agg #[.int .i64 s.client, .int .i64 s.id, .int .i64 s.acked, .int .i64 s.last, v]] w fun e w' => e = .returned (.bool (replies s)) ∧ Below w.heap.size w w' := by
  obtain ⟨a, cap, hv, hl, hm, hn, hr⟩ := id h
  subst hv
  unfold maxLen at hm
  go_enter Try.func41, Try.ntmps41
  go_wp2
  go_loopw [3, 4, 5, 9] (fun _ _ _ i wr => ∃ k : Nat, k ≤ s.replies.length ∧ i = .int .i64 k ∧ Hid (firstErr (fun i => if keptBad s i then 1 else 0) k = 0) ∧ wr.cell? ⟨w.heap.size, 2, none⟩ = some (.int .i64 s.acked) ∧
      wr.cell? ⟨w.heap.size, 4, none⟩ = some (.slice a s.replies.length cap) ∧ Below w.heap.size w wr ∧ w.heap.size < wr.heap.size)
    (fun _ _ _ i _ => s.replies.length - (intOf i).toNat)
  case atStart => exact ⟨0, by omega, rfl, rfl, by simp [go_sem], by simp [go_sem], (Below.refl _ _).alloc (Nat.le_refl _) _, by simp⟩
  case round =>
    obtain ⟨k, hk, rfl, hf, hc2, hc4, hb, hsz⟩ := hrel
    by_cases hlt : k < s.replies.length
    · obtain ⟨b, off, cap', row, hv, hS, hrow, hcells⟩ := (h.below rKept_ok (by decide) hb).row k hlt
      simp only [Value.slice.injEq] at hv
      obtain ⟨rfl, _, rfl⟩ := hv
      cases hrow
      have q0 := hcells 0 _ rfl
      have q1 := hcells 1 _ rfl
      have q2 := hcells 2 _ rfl
      have q3 := hcells 3 _ rfl
      simp only [Nat.add_zero] at q0
      clear hcells
      have hbl : b < wr.heap.size := World.block_lt_of_cell? wr _ q0
      have hg : s.replies.getD k noKept = s.replies[k] := by simp [List.getD, hlt]
      have HI : Hid (keptBad s k ↔ s.replies[k].seq ≤ s.acked ∨ s.acked + 4 < s.replies[k].seq ∨ (0 < k ∧ s.replies[k].seq ≤ (s.replies.getD (k - 1) noKept).seq) ∨
        s.replies[k].reply.code < 0 ∨ 15 < s.replies[k].reply.code ∨ s.replies[k].reply.n < 0 ∨ 1073741824 < s.replies[k].reply.n ∨ 12 < s.replies[k].reply.text.length) := by
        show keptBad s k ↔ _
        rw [keptBad, hg]
      have HB : Hid (keptBad s k → replies s = false) := fun hbad => replies_false hlt hf.out hbad
      have HG : Hid (¬ keptBad s k → firstErr (fun i => if keptBad s i then 1 else 0) (k + 1) = 0) := fun hbad => firstErr_succ hf.out (by rw [if_neg hbad])
      have hp : 0 < k → wr.cell? ⟨b, off + (k - 1) * 4, none⟩ = some (.int .i64 (s.replies.getD (k - 1) noKept).seq) := by
        intro hk0
        obtain ⟨b2, off2, cap2, row, hv, hS, hrow, hcells⟩ := (h.below rKept_ok (by decide) hb).row (k - 1) (by omega)
        simp only [Value.slice.injEq, Option.some.injEq, Addr.mk.injEq] at hv
        obtain ⟨⟨rfl, rfl, _⟩, _, rfl⟩ := hv
        cases hrow
        rw [show s.replies.getD (k - 1) noKept = s.replies[k - 1] by simp [List.getD, show k - 1 < s.replies.length by omega]]
        exact hcells 0 _ rfl
      generalize s.replies.getD (k - 1) noKept = y at *
      generalize s.replies[k] = x at *
      clear hf hg h
      have hcases : (x.seq ≤ s.acked) ∨ (decide (x.seq ≤ s.acked) = false ∧ s.acked + 4 < x.seq) ∨ (decide (x.seq ≤ s.acked) = false ∧ decide (s.acked + 4 < x.seq) = false ∧ decide (0 < k) = false) ∨
          (decide (x.seq ≤ s.acked) = false ∧ decide (s.acked + 4 < x.seq) = false ∧ 0 < k ∧ x.seq ≤ y.seq) ∨
          (decide (x.seq ≤ s.acked) = false ∧ decide (s.acked + 4 < x.seq) = false ∧ 0 < k ∧ decide (x.seq ≤ y.seq) = false) := by
        simp only [decide_eq_false_iff_not]; omega
      rcases hcases with h1 | ⟨h1, h2⟩ | ⟨h1, h2, h3⟩ | ⟨h1, h2, h3, h4⟩ | ⟨h1, h2, h3, h4⟩
      all_goals (try (have hq := hp (by omega); have w1 : IntKind.i64.wrap ((k : Int) - 1) = (k : Int) - 1 := IntWalk.i64_in _ (by omega); have w2 : 0 ≤ (k : Int) - 1 := (by omega); have w3 : ((k : Int) - 1).toNat = k - 1 := (by omega); have w4 : (k : Int) - 1 < (s.replies.length : Int) := (by omega); have w5 : (1 : Int) ≤ (k : Int) := (by omega)))
      all_goals clear hp
      all_goals have w0 : IntKind.i64.wrap (s.acked + 4) = s.acked + 4 := IntWalk.i64_in _ (by omega)
      all_goals go_wp2
      all_goals go_quiet (fail)
      all_goals clear w0
      all_goals (try clear w1 w2 w3 w4 w5)
      all_goals go_wp2
      all_goals first
        | (go_ret
           refine ⟨ends1 (congrArg Value.bool (HB.out (HI.out.2 (by omega))).symm), ?_⟩
           repeat (first | exact hb | apply below_drewN | refine Below.alloc ?_ (by first | omega | (simp; omega)) _))
        | (go_roundw
           case rel =>
             simp only [decide_eq_false_iff_not] at *
             refine ⟨k + 1, by omega, by go_num, HG.out (fun hbad => by have := HI.out.1 hbad; omega), by simp [go_sem, *], by simp [go_sem, *], ?_, by simp; omega⟩
             repeat (first | exact hb | apply below_drewN | refine Below.alloc ?_ (by first | omega | (simp; omega)) _)
           case measure => simp [intOf]; omega)
    · have hF : Hid (replies s = true) := by
        have := hf.out
        rw [show k = s.replies.length by omega] at this
        show replies s = true
        rw [replies, repliesErr, this]; rfl
      clear hf h
      go_wp2
      go_ret
      exact ⟨ends1 (by rw [hF.out]; rfl), hb⟩

set_option maxRecDepth 100000 in
set_option maxHeartbeats 800000 in
theorem sessCheck_calls (l : List SessionD) (index : Int) (v : Value) (S : Nat → Prop) (w : World) (h : SlR 5 rSession w v l S) :
    Calls Try.prog 28 #[v, .int .i64 index] w fun e w' => e = .returned (.int .i64 (sessCheck l index)) ∧ Below w.heap.size w w' := by
  obtain ⟨a, cap, hv, hl, hm, hn, hr⟩ := id h
  subst hv
  unfold maxLen at hm
  by_cases hi : index < 0 ∨ 1073741824 < index
  · have HF := Lib.hid (show sessCheck l index = 2 by rw [sessCheck, if_pos hi])
    clear hr h
    have hcases : index < 0 ∨ (decide (index < 0) = false ∧ 1073741824 < index) := by simp only [decide_eq_false_iff_not]; omega
    rcases hcases with h1 | ⟨h1, h2⟩
    all_goals go_enter Try.func28, Try.ntmps28
    all_goals go_wp2
    all_goals go_ret
    all_goals exact ⟨ends1 (by rw [HF.out]; rfl), Below.refl _ _⟩
  have hi1 : 0 ≤ index := by omega
  have hi2 : index ≤ 1073741824 := by omega
  by_cases h4 : 4 < l.length
  · have HF := Lib.hid (show sessCheck l index = 1 by rw [sessCheck, if_neg hi, if_pos h4])
    clear hr h hi
    go_enter Try.func28, Try.ntmps28
    go_wp2
    go_ret
    exact ⟨ends1 (by rw [HF.out]; rfl), Below.refl _ _⟩
  have HF : Hid (sessCheck l index = firstErr (sessErr l index) l.length) := by show _ = _; rw [sessCheck, if_neg hi, if_neg h4]
  clear hi hr
  go_enter Try.func28, Try.ntmps28
  go_wp2
  go_loopw [5, 6, 18] (fun _ _ i wr => ∃ k : Nat, k ≤ l.length ∧ i = .int .i64 k ∧ Hid (firstErr (sessErr l index) k = 0) ∧ Below w.heap.size w wr)
    (fun _ _ i _ => l.length - (intOf i).toNat)
  case atStart => exact ⟨0, by omega, rfl, rfl, Below.refl _ _⟩
  case round =>
    obtain ⟨k, hk, rfl, hf, hb⟩ := hrel
    have hws := hb.size
    by_cases hlt : k < l.length
    · obtain ⟨b, off, cap', row, hv, hS, hrow, hcells⟩ := (h.below rSession_ok (by decide) hb).row k hlt
      simp only [Value.slice.injEq] at hv
      obtain ⟨rfl, _, rfl⟩ := hv
      obtain ⟨rv, rfl, hrv⟩ := hrow
      obtain ⟨ra, rcap, rfl, -⟩ := id hrv
      have q0 := hcells 0 _ rfl
      have q1 := hcells 1 _ rfl
      have q2 := hcells 2 _ rfl
      have q3 := hcells 3 _ rfl
      have q4 := hcells 4 _ rfl
      simp only [Nat.add_zero] at q0
      clear hcells
      have hbl : b < wr.heap.size := World.block_lt_of_cell? wr _ q0
      have hg : l.getD k noSession = l[k] := by simp [List.getD, hlt]
      have HI : Hid (sessErr l index k = if sessBad index l[k] then 2 else if replies l[k] = false then 4 else if 0 < k ∧ l[k].client ≤ (l.getD (k - 1) noSession).client then 14 else 0) := by
        show _ = _
        rw [sessErr, hg]
      have HE : Hid (∀ e, sessErr l index k = e → e ≠ 0 → sessCheck l index = e) := fun e he h0 => by
        rw [HF.out, firstErr_eq hf.out (by rw [he]; exact h0) _ hlt, he]
      have HG : Hid (sessErr l index k = 0 → firstErr (sessErr l index) (k + 1) = 0) := fun h0 => firstErr_succ hf.out h0
      have hp : 0 < k → wr.cell? ⟨b, off + (k - 1) * 5, none⟩ = some (.int .i64 (l.getD (k - 1) noSession).client) := by
        intro hk0
        obtain ⟨b2, off2, cap2, row, hv, hS, hrow, hcells⟩ := (h.below rSession_ok (by decide) hb).row (k - 1) (by omega)
        simp only [Value.slice.injEq, Option.some.injEq, Addr.mk.injEq] at hv
        obtain ⟨⟨rfl, rfl, _⟩, _, rfl⟩ := hv
        obtain ⟨rv, rfl, hrv⟩ := hrow
        rw [show l.getD (k - 1) noSession = l[k - 1] by simp [List.getD, show k - 1 < l.length by omega]]
        exact hcells 0 _ rfl
      have h' := h
      clear h
      generalize l.getD (k - 1) noSession = y at *
      generalize l[k] = x at *
      clear hf hg HF
      have hcases : decide (0 < k) = false ∨ (0 < k ∧ x.client ≤ y.client) ∨ (0 < k ∧ decide (x.client ≤ y.client) = false) := by
        simp only [decide_eq_false_iff_not]; omega
      go_wp2_with (go_at_call 41; refine (replies_calls x _ _ _ (hrv.below rKept_ok (by decide) ((Below.refl _ _).alloc (Nat.le_refl _) _)) (by omega) (by omega)).mono ?_; rintro e w2 ⟨rfl, hb2⟩; obtain ⟨hc2, hf2⟩ := bcell hb2; have hz2 := hb2.size)
      all_goals try (go_ret
                     refine ⟨ends1 ((congrArg (Value.int .i64) (HE.out 2 (by rw [HI.out, if_pos (by unfold sessBad; omega)]) (by decide))).symm), ?_⟩
                     repeat (first | exact hb | apply below_drewN | refine Below.alloc ?_ (by first | omega | (simp; omega)) _))
      · have hrep : (!replies x) = true := by assumption
        have hrep2 : replies x = false := by simpa using hrep
        go_ret
        refine ⟨ends1 ((congrArg (Value.int .i64) (HE.out 4 (by rw [HI.out, if_neg (by unfold sessBad; omega), if_pos hrep2]) (by decide))).symm), ?_⟩
        exact (hb.alloc hws _).trans (hb2.mono (by simp; omega))
      · have hrep : (!replies x) = false := by assumption
        have hrep2 : ¬ replies x = false := by simpa using hrep
        have HI2 : Hid (sessErr l index k = if 0 < k ∧ x.client ≤ y.client then 14 else 0) := by
          show _ = _
          rw [HI.out, if_neg (by unfold sessBad; omega), if_neg hrep2]
        have hb3 : Below w.heap.size w w2 := (hb.alloc hws _).trans (hb2.mono (by simp; omega))
        clear hrv HI h' hrep2
        rcases hcases with h1 | ⟨h1, h2⟩ | ⟨h1, h2⟩
        all_goals (try (have hq := hp (by omega); have w1 : IntKind.i64.wrap ((k : Int) - 1) = (k : Int) - 1 := IntWalk.i64_in _ (by omega); have w2 : 0 ≤ (k : Int) - 1 := (by omega); have w3 : ((k : Int) - 1).toNat = k - 1 := (by omega); have w4 : (k : Int) - 1 < (l.length : Int) := (by omega); have w5 : (1 : Int) ≤ (k : Int) := (by omega)))
        all_goals clear hp
        all_goals go_quiet (fail)
        all_goals (try clear w1 w2 w3 w4 w5)
        all_goals go_wp2
        · go_roundw
          case rel => exact ⟨k + 1, by omega, by go_num, HG.out (by rw [HI2.out, if_neg (fun hx => by simp [hx.1] at h1)]), below_drewN hb3 _⟩
          case measure => simp [intOf]; omega
        · go_ret
          exact ⟨ends1 ((congrArg (Value.int .i64) (HE.out 14 (by rw [HI2.out, if_pos ⟨h1, h2⟩]) (by decide))).symm), below_drewN hb3 _⟩
        · go_roundw
          case rel => exact ⟨k + 1, by omega, by go_num, HG.out (by rw [HI2.out, if_neg (fun hx => by simp [hx.2] at h2)]), below_drewN hb3 _⟩
          case measure => simp [intOf]; omega
    · have hF : Hid (sessCheck l index = 0) := by
        have := hf.out
        rw [show k = l.length by omega] at this
        exact HF.out.trans this
      clear hf HF h
      go_wp2
      go_ret
      exact ⟨ends1 (by rw [hF.out]; rfl), hb⟩
end Go.Proofs.Ytcjnnkbliapkgaa
