/- A part of the proof, laid together from: Sess, CloneKept, CopySess, BSearchSess. -/
import Derived.Test.YtkefgapnghnjjaaGreatDoorRows
import Derived.Test.YtkefgapnghnjjaaGreatDoorPa02
import Derived.WalkKit
import Derived.WalkSpells
import Derived.WalkLawsBesides
import Derived.BigQuiet
import Derived.Deep.QuietTactic
import Derived.KernelRfl
import Derived.Test.YtkefgapnghnjjaaGreatDoorPa07
import Derived.Test.YtkefgapnghnjjaaGreatDoorPa01
set_option linter.unusedSimpArgs false
set_option linter.unusedVariables false
namespace Go.Proofs.YtkefgapnghnjjaaGreatDoor
open Go.RowKit Go.Tk
set_option maxRecDepth 100000 in
set_option maxHeartbeats 800000 in
theorem replies_calls (s : SessionD) (v : Value) (S : Nat → Prop) (w : World) (h : SlR 4 rKept w v s.replies S) (ha : 0 ≤ s.acked) (ha2 : s.acked ≤ 1048576) :
    Calls Tryz.prog 97 #[.agg #[.int .i64 s.client, .int .i64 s.id, .int .i64 s.acked, .int .i64 s.last, v]] w fun e w' => e = .returned (.bool (replies s)) ∧ Below w.heap.size w w' := by
  obtain ⟨a, cap, hv, hl, hm, hn, hr⟩ := id h
  subst hv
  unfold maxLen at hm
  go_enter Tryz.func97, Tryz.ntmps97
  go_wp2
  go_loopw [3, 4, 5, 9] (fun _ _ _ i wr => ∃ k : Nat, k ≤ s.replies.length ∧ i = .int .i64 k ∧ Hid (firstErr (fun i => if keptBad s i then 1 else 0) k = 0) ∧ wr.cell? ⟨w.heap.size, 2, none⟩ = some (.int .i64 s.acked) ∧
      wr.cell? ⟨w.heap.size, 4, none⟩ = some (.slice a s.replies.length cap) ∧ Below w.heap.size w wr ∧ w.heap.size < wr.heap.size)
    (fun _ _ _ i _ => s.replies.length - (intOf i).toNat)
  case atStart => exact ⟨0, by omega, rfl, rfl, by simp [go_sem], by simp [go_sem], (Below.refl _ _).alloc (Nat.le_refl _) _, by simp⟩
  case round =>
    obtain ⟨k, hk, rfl, hf, hc2, hc4, hb, hsz⟩ := hrel
    by_cases hlt : k < s.replies.length
    · obtain ⟨b, off, cap', row, hv, hS, hrow, hcells⟩ := (h.below rKept_ok (by decide) hb).row k hlt
      simp only [Value.slice.injEq] at hv
      obtain ⟨rfl, _, rfl⟩ := hv
      cases hrow
      have q0 := hcells 0 _ rfl
      have q1 := hcells 1 _ rfl
      have q2 := hcells 2 _ rfl
      have q3 := hcells 3 _ rfl
      simp only [Nat.add_zero] at q0
      clear hcells
      have hbl : b < wr.heap.size := World.block_lt_of_cell? wr _ q0
      have hg : s.replies.getD k noKept = s.replies[k] := by simp [List.getD, hlt]
      have HI : Hid (keptBad s k ↔ s.replies[k].seq ≤ s.acked ∨ s.acked + 4 < s.replies[k].seq ∨ (0 < k ∧ s.replies[k].seq ≤ (s.replies.getD (k - 1) noKept).seq) ∨
        s.replies[k].reply.code < 0 ∨ 15 < s.replies[k].reply.code ∨ s.replies[k].reply.n < 0 ∨ 1073741824 < s.replies[k].reply.n ∨ 12 < s.replies[k].reply.text.length) := by
        show keptBad s k ↔ _
        rw [keptBad, hg]
      have HB : Hid (keptBad s k → replies s = false) := fun hbad => replies_false hlt hf.out hbad
      have HG : Hid (¬ keptBad s k → firstErr (fun i => if keptBad s i then 1 else 0) (k + 1) = 0) := fun hbad => firstErr_succ hf.out (by rw [if_neg hbad])
      have hp : 0 < k → wr.cell? ⟨b, off + (k - 1) * 4, none⟩ = some (.int .i64 (s.replies.getD (k - 1) noKept).seq) := by
        intro hk0
        obtain ⟨b2, off2, cap2, row, hv, hS, hrow, hcells⟩ := (h.below rKept_ok (by decide) hb).row (k - 1) (by omega)
        simp only [Value.slice.injEq, Option.some.injEq, Addr.mk.injEq] at hv
        obtain ⟨⟨rfl, rfl, _⟩, _, rfl⟩ := hv
        cases hrow
        rw [show s.replies.getD (k - 1) noKept = s.replies[k - 1] by simp [List.getD, show k - 1 < s.replies.length by omega]]
        exact hcells 0 _ rfl
      generalize s.replies.getD (k - 1) noKept = y at *
      generalize s.replies[k] = x at *
      clear hf hg h
      have hcases : (x.seq ≤ s.acked) ∨ (decide (x.seq ≤ s.acked) = false ∧ s.acked + 4 < x.seq) ∨ (decide (x.seq ≤ s.acked) = false ∧ decide (s.acked + 4 < x.seq) = false ∧ decide (0 < k) = false) ∨
          (decide (x.seq ≤ s.acked) = false ∧ decide (s.acked + 4 < x.seq) = false ∧ 0 < k ∧ x.seq ≤ y.seq) ∨
          (decide (x.seq ≤ s.acked) = false ∧ decide (s.acked + 4 < x.seq) = false ∧ 0 < k ∧ decide (x.seq ≤ y.seq) = false) := by
        simp only [decide_eq_false_iff_not]; omega
      rcases hcases with h1 | ⟨h1, h2⟩ | ⟨h1, h2, h3⟩ | ⟨h1, h2, h3, h4⟩ | ⟨h1, h2, h3, h4⟩
      all_goals (try (have hq := hp (by omega); have w1 : IntKind.i64.wrap ((k : Int) - 1) = (k : Int) - 1 := IntWalk.i64_in _ (by omega); have w2 : 0 ≤ (k : Int) - 1 := (by omega); have w3 : ((k : Int) - 1).toNat = k - 1 := (by omega); have w4 : (k : Int) - 1 < (s.replies.length : Int) := (by omega); have w5 : (1 : Int) ≤ (k : Int) := (by omega)))
      all_goals clear hp
      all_goals have w0 : IntKind.i64.wrap (s.acked + 4) = s.acked + 4 := IntWalk.i64_in _ (by omega)
      all_goals go_wp2
      all_goals go_quiet (fail)
      all_goals clear w0
      all_goals (try clear w1 w2 w3 w4 w5)
      all_goals go_wp2
      all_goals first
        | (go_ret
           refine ⟨ends1 (congrArg Value.bool (HB.out (HI.out.2 (by omega))).symm), ?_⟩
           repeat (first | exact hb | apply below_drewN | refine Below.alloc ?_ (by first | omega | (simp; omega)) _))
        | (go_roundw
           case rel =>
             simp only [decide_eq_false_iff_not] at *
             refine ⟨k + 1, by omega, by go_num, HG.out (fun hbad => by have := HI.out.1 hbad; omega), by simp [go_sem, *], by simp [go_sem, *], ?_, by simp; omega⟩
             repeat (first | exact hb | apply below_drewN | refine Below.alloc ?_ (by first | omega | (simp; omega)) _)
           case measure => simp [intOf]; omega)
    · have hF : Hid (replies s = true) := by
        have := hf.out
        rw [show k = s.replies.length by omega] at this
        show replies s = true
        rw [replies, repliesErr, this]; rfl
      clear hf h
      go_wp2
      go_ret
      exact ⟨ends1 (by rw [hF.out]; rfl), hb⟩
set_option maxRecDepth 100000 in
set_option maxHeartbeats 800000 in
theorem sessCheck_calls (l : List SessionD) (index : Int) (v : Value) (S : Nat → Prop) (w : World) (h : SlR 5 rSession w v l S) :
    Calls Tryz.prog 73 #[v, .int .i64 index] w fun e w' => e = .returned (.int .i64 (sessCheck l index)) ∧ Below w.heap.size w w' := by
  obtain ⟨a, cap, hv, hl, hm, hn, hr⟩ := id h
  subst hv
  unfold maxLen at hm
  by_cases hi : index < 0 ∨ 1073741824 < index
  · have HF := Lib.hid (show sessCheck l index = 2 by rw [sessCheck, if_pos hi])
    clear hr h
    have hcases : index < 0 ∨ (decide (index < 0) = false ∧ 1073741824 < index) := by simp only [decide_eq_false_iff_not]; omega
    rcases hcases with h1 | ⟨h1, h2⟩
    all_goals go_enter Tryz.func73, Tryz.ntmps73
    all_goals go_wp2
    all_goals go_ret
    all_goals exact ⟨ends1 (by rw [HF.out]; rfl), Below.refl _ _⟩
  have hi1 : 0 ≤ index := by omega
  have hi2 : index ≤ 1073741824 := by omega
  by_cases h4 : 4 < l.length
  · have HF := Lib.hid (show sessCheck l index = 1 by rw [sessCheck, if_neg hi, if_pos h4])
    clear hr h hi
    go_enter Tryz.func73, Tryz.ntmps73
    go_wp2
    go_ret
    exact ⟨ends1 (by rw [HF.out]; rfl), Below.refl _ _⟩
  have HF : Hid (sessCheck l index = firstErr (sessErr l index) l.length) := by show _ = _; rw [sessCheck, if_neg hi, if_neg h4]
  clear hi hr
  go_enter Tryz.func73, Tryz.ntmps73
  go_wp2
  go_loopw [5, 6, 18] (fun _ _ i wr => ∃ k : Nat, k ≤ l.length ∧ i = .int .i64 k ∧ Hid (firstErr (sessErr l index) k = 0) ∧ Below w.heap.size w wr)
    (fun _ _ i _ => l.length - (intOf i).toNat)
  case atStart => exact ⟨0, by omega, rfl, rfl, Below.refl _ _⟩
  case round =>
    obtain ⟨k, hk, rfl, hf, hb⟩ := hrel
    have hws := hb.size
    by_cases hlt : k < l.length
    · obtain ⟨b, off, cap', row, hv, hS, hrow, hcells⟩ := (h.below rSession_ok (by decide) hb).row k hlt
      simp only [Value.slice.injEq] at hv
      obtain ⟨rfl, _, rfl⟩ := hv
      obtain ⟨rv, rfl, hrv⟩ := hrow
      obtain ⟨ra, rcap, rfl, -⟩ := id hrv
      have q0 := hcells 0 _ rfl
      have q1 := hcells 1 _ rfl
      have q2 := hcells 2 _ rfl
      have q3 := hcells 3 _ rfl
      have q4 := hcells 4 _ rfl
      simp only [Nat.add_zero] at q0
      clear hcells
      have hbl : b < wr.heap.size := World.block_lt_of_cell? wr _ q0
      have hg : l.getD k noSession = l[k] := by simp [List.getD, hlt]
      have HI : Hid (sessErr l index k = if sessBad index l[k] then 2 else if replies l[k] = false then 4 else if 0 < k ∧ l[k].client ≤ (l.getD (k - 1) noSession).client then 14 else 0) := by
        show _ = _
        rw [sessErr, hg]
      have HE : Hid (∀ e, sessErr l index k = e → e ≠ 0 → sessCheck l index = e) := fun e he h0 => by
        rw [HF.out, firstErr_eq hf.out (by rw [he]; exact h0) _ hlt, he]
      have HG : Hid (sessErr l index k = 0 → firstErr (sessErr l index) (k + 1) = 0) := fun h0 => firstErr_succ hf.out h0
      have hp : 0 < k → wr.cell? ⟨b, off + (k - 1) * 5, none⟩ = some (.int .i64 (l.getD (k - 1) noSession).client) := by
        intro hk0
        obtain ⟨b2, off2, cap2, row, hv, hS, hrow, hcells⟩ := (h.below rSession_ok (by decide) hb).row (k - 1) (by omega)
        simp only [Value.slice.injEq, Option.some.injEq, Addr.mk.injEq] at hv
        obtain ⟨⟨rfl, rfl, _⟩, _, rfl⟩ := hv
        obtain ⟨rv, rfl, hrv⟩ := hrow
        rw [show l.getD (k - 1) noSession = l[k - 1] by simp [List.getD, show k - 1 < l.length by omega]]
        exact hcells 0 _ rfl
      have h' := h
      clear h
      generalize l.getD (k - 1) noSession = y at *
      generalize l[k] = x at *
      clear hf hg HF
      have hcases : decide (0 < k) = false ∨ (0 < k ∧ x.client ≤ y.client) ∨ (0 < k ∧ decide (x.client ≤ y.client) = false) := by
        simp only [decide_eq_false_iff_not]; omega
      go_wp2_with (go_at_call 97; refine (replies_calls x _ _ _ (hrv.below rKept_ok (by decide) ((Below.refl _ _).alloc (Nat.le_refl _) _)) (by omega) (by omega)).mono ?_; rintro e w2 ⟨rfl, hb2⟩; obtain ⟨hc2, hf2⟩ := bcell hb2; have hz2 := hb2.size)
      all_goals try (go_ret
                     refine ⟨ends1 ((congrArg (Value.int .i64) (HE.out 2 (by rw [HI.out, if_pos (by unfold sessBad; omega)]) (by decide))).symm), ?_⟩
                     repeat (first | exact hb | apply below_drewN | refine Below.alloc ?_ (by first | omega | (simp; omega)) _))
      · have hrep : (!replies x) = true := by assumption
        have hrep2 : replies x = false := by simpa using hrep
        go_ret
        refine ⟨ends1 ((congrArg (Value.int .i64) (HE.out 4 (by rw [HI.out, if_neg (by unfold sessBad; omega), if_pos hrep2]) (by decide))).symm), ?_⟩
        exact (hb.alloc hws _).trans (hb2.mono (by simp; omega))
      · have hrep : (!replies x) = false := by assumption
        have hrep2 : ¬ replies x = false := by simpa using hrep
        have HI2 : Hid (sessErr l index k = if 0 < k ∧ x.client ≤ y.client then 14 else 0) := by
          show _ = _
          rw [HI.out, if_neg (by unfold sessBad; omega), if_neg hrep2]
        have hb3 : Below w.heap.size w w2 := (hb.alloc hws _).trans (hb2.mono (by simp; omega))
        clear hrv HI h' hrep2
        rcases hcases with h1 | ⟨h1, h2⟩ | ⟨h1, h2⟩
        all_goals (try (have hq := hp (by omega); have w1 : IntKind.i64.wrap ((k : Int) - 1) = (k : Int) - 1 := IntWalk.i64_in _ (by omega); have w2 : 0 ≤ (k : Int) - 1 := (by omega); have w3 : ((k : Int) - 1).toNat = k - 1 := (by omega); have w4 : (k : Int) - 1 < (l.length : Int) := (by omega); have w5 : (1 : Int) ≤ (k : Int) := (by omega)))
        all_goals clear hp
        all_goals go_quiet (fail)
        all_goals (try clear w1 w2 w3 w4 w5)
        all_goals go_wp2
        · go_roundw
          case rel => exact ⟨k + 1, by omega, by go_num, HG.out (by rw [HI2.out, if_neg (fun hx => by simp [hx.1] at h1)]), below_drewN hb3 _⟩
          case measure => simp [intOf]; omega
        · go_ret
          exact ⟨ends1 ((congrArg (Value.int .i64) (HE.out 14 (by rw [HI2.out, if_pos ⟨h1, h2⟩]) (by decide))).symm), below_drewN hb3 _⟩
        · go_roundw
          case rel => exact ⟨k + 1, by omega, by go_num, HG.out (by rw [HI2.out, if_neg (fun hx => by simp [hx.2] at h2)]), below_drewN hb3 _⟩
          case measure => simp [intOf]; omega
    · have hF : Hid (sessCheck l index = 0) := by
        have := hf.out
        rw [show k = l.length by omega] at this
        exact HF.out.trans this
      clear hf HF h
      go_wp2
      go_ret
      exact ⟨ends1 (by rw [hF.out]; rfl), hb⟩
end Go.Proofs.YtkefgapnghnjjaaGreatDoor

namespace Go.Proofs.YtkefgapnghnjjaaGreatDoor
open Go.RowKit Go.Tk
theorem Tryz.tycKept : SliceTy Tryz.prog 142 146 4 40 := ⟨Tryz.underlying142, by kernel_rfl, by decide⟩
set_option maxRecDepth 100000 in
set_option maxHeartbeats 400000 in
theorem cloneKept_calls {α : Type} {R : Rel α} (hR : RelOk R 4) (w : World) (v : Value) (l : List α) (S : Nat → Prop) (h : SlR 4 R w v l S) (hn : l.length ≤ 1000000) :
    Calls Tryz.prog 120 #[v] w fun e w' => ∃ v', e = .returned v' ∧ OwR 146 4 R w' v' l S ∧ Below w.heap.size w w' ∧ (∀ g, v'.ownBlock = some g → w.heap.size ≤ g) := by
  obtain ⟨a, cap, hv, hl, hm, hnil, hr⟩ := id h
  subst hv
  have hm' := hm
  unfold maxLen at hm'
  cases a with
  | none =>
    have h0 := hnil rfl
    subst h0
    have hl0 : l = [] := List.eq_nil_of_length_eq_zero (by omega)
    subst hl0
    have he := Lib.run_eql_slice_nil (P := Tryz.prog) (t := 142)
    go_enter Tryz.func120, Tryz.ntmps120
    go_wp2
    go_ret
    exact ⟨_, rfl, OwR.nil w S, Below.refl _ _, by simp [Value.ownBlock]⟩
  | some a =>
    obtain ⟨a', cap', rows, hv, -, -, hrl, hrel, hcells⟩ := h.rows hR (by decide)
    simp only [Value.slice.injEq] at hv
    obtain ⟨rfl, -, rfl⟩ := hv
    have hlen := OwR.rowsLen (E := 146) (v := .slice (some a) l.length cap) hR hrl hrel
    have hone := OwR.cellsOne (E := 146) hR hrl hrel
    have hfl : rows.flatten.length = l.length * 4 := by
      have : ∀ (rs : List (List Value)), (∀ r ∈ rs, r.length = 4) → rs.flatten.length = rs.length * 4 := by
        intro rs
        induction rs with
        | nil => intro _; rfl
        | cons r rs ih => intro hk; rw [List.flatten_cons, List.length_append, hk r (by simp), ih (fun r hr => hk r (by simp [hr]))]; simp; omega
      rw [this rows hlen, hrl]
    have hown0 : (w.alloc (.cells #[] 146)).ownsRow 0 146 4 (.slice (some ⟨w.heap.size, 0, none⟩) 0 0) 0 [] :=
      ⟨rfl, .inr ⟨w.heap.size, 0, #[], rfl, Nat.zero_le _, heap_alloc_new w _, Nat.le_refl _, by decide, rfl, rfl⟩⟩
    obtain ⟨v', w', hrun, g1, g2, g3⟩ := run_append_tk (P := Tryz.prog) (ty := 142) (w.alloc (.cells #[] 146)) Tryz.tycKept _ 0 [] hown0 a l.length cap rows.flatten hfl (fun j u hu => by
      obtain ⟨b, off, ha, _, hc⟩ := hcells j u hu
      simp only [Option.some.injEq] at ha
      subst ha
      have hlt := World.block_lt_of_cell? w _ hc
      rw [Addr.add_lit, World.cell?_alloc_past _ _ _ hlt]; exact hc) hone (by omega)
    have hvb : ∀ g, v'.ownBlock = some g → w.heap.size ≤ g := by
      intro g hg
      rcases g3 with e | ⟨g', e, h⟩
      · rw [e] at hg; cases hg; exact Nat.le_refl _
      · rw [e] at hg; cases hg; simp at h; omega
    have hb : Below w.heap.size w w' := ((Below.refl _ _).alloc (Nat.le_refl _) _).grown g2 (by simp) (fun k hk => by cases hk; exact Nat.le_refl _)
    have hfin : OwR 146 4 R w' v' l S := by
      refine ⟨rows, hrl, by simpa using g1, fun i r x hr hx => hR.move (hrel i r x hr hx) fun b hs hlt => ⟨hb.block b hlt, hs, ?_⟩⟩
      intro hbg
      have := hvb b hbg.symm
      omega
    have HF := Lib.hid hfin
    have HV := Lib.hid hvb
    have he := Lib.run_eql_slice_nil (P := Tryz.prog) (t := 142)
    clear hfin hvb g1 g2 g3 hcells hrel hlen hone hfl hown0 hr h hrl
    go_enter Tryz.func120, Tryz.ntmps120
    go_wp2_with (at_builtin; refine wpList_append_run rfl _ _ _ _ rfl _ _ rfl rfl hrun ?_)
    go_ret
    exact ⟨v', rfl, HF.out, hb, HV.out⟩
end Go.Proofs.YtkefgapnghnjjaaGreatDoor

namespace Go.Proofs.YtkefgapnghnjjaaGreatDoor
open Go.RowKit Go.Tk
theorem Tryz.tyySess : SliceTy Tryz.prog 34 144 5 56 := ⟨Tryz.underlying34, by kernel_rfl, by decide⟩
theorem copySess_step {EK E : Nat} {w wr w2 : World} {v rv : Value} {l2 : List (SessionD × (Nat → Prop))} {x : SessionD} (hown : OwR E 5 (rG (rSessO EK)) wr v l2 (fun b => w.heap.size ≤ b)) (hb : Below w.heap.size w wr) (X : Obj)
    (hb2 : Below (wr.alloc X).heap.size (wr.alloc X) w2) (ho2 : OwR EK 4 rKept w2 rv x.replies (fun _ => False)) (hf2 : ∀ g, rv.ownBlock = some g → (wr.alloc X).heap.size ≤ g) :
    OwR E 5 (rG (rSessO EK)) (w2.setCell ⟨wr.heap.size, 4, none⟩ rv) v l2 (fun b => w.heap.size ≤ b) ∧ Below w.heap.size w (w2.setCell ⟨wr.heap.size, 4, none⟩ rv) ∧
    rG (rSessO EK) (w2.setCell ⟨wr.heap.size, 4, none⟩ rv) [.int .i64 x.client, .int .i64 x.id, .int .i64 x.acked, .int .i64 x.last, rv] (x, fun b => rv.ownBlock = some b) (fun b => w.heap.size ≤ b ∧ some b ≠ v.ownBlock) ∧
    (∀ y ∈ l2, ∀ b, y.2 b → ¬ rv.ownBlock = some b) := by
  have hws := hb.size
  have hbw : Below wr.heap.size wr (w2.setCell ⟨wr.heap.size, 4, none⟩ rv) := (((Below.refl _ _).alloc (Nat.le_refl _) X).trans (hb2.mono (by simp))).setCell (Nat.le_refl _) _
  have hne : ∀ g, rv.ownBlock = some g → g ≠ wr.heap.size := fun g hg => by have := hf2 g hg; simp at this; omega
  refine ⟨hown.below (rG_ok (rSessO_ok EK)) hbw, hb.trans (hbw.mono hws), ⟨⟨rv, rfl, ?_, fun g hg => hg⟩, fun b hbg => ⟨⟨?_, ?_⟩, ?_⟩⟩, fun y hy b hyb hrb => ?_⟩
  · exact ho2.move rKept_ok (fun g hg => Below.heap_setCell _ _ _ _ (hne g hg)) (fun b hb => hb.elim)
  · have := hf2 b hbg; simp at this; omega
  · intro hbv
    have := hown.lt b hbv.symm
    have := hf2 b hbg; simp at this; omega
  · simpa using ho2.lt b hbg
  · have h1 := hown.gLt y hy b hyb
    have := hf2 b hrb; simp at this; omega
set_option maxRecDepth 100000 in
set_option maxHeartbeats 800000 in
theorem copySess_calls (w : World) (v : Value) (l : List SessionD) (S : Nat → Prop) (h : SlR 5 rSession w v l S) (hn : l.length ≤ 1000000) (hin : ∀ x ∈ l, x.replies.length ≤ 1000000) :
    Calls Tryz.prog 77 #[v] w fun e w' => ∃ v', e = .returned v' ∧ OwD 144 5 (rSessO 146) w' v' l (fun b => w.heap.size ≤ b) ∧ Below w.heap.size w w' ∧ (∀ g, v'.ownBlock = some g → w.heap.size ≤ g) := by
  obtain ⟨a, cap, hv, hl, hm, hnil, -⟩ := id h
  subst hv
  unfold maxLen at hm
  go_enter Tryz.func77, Tryz.ntmps77
  go_wp2
  go_loopw [3, 5, 8] (fun v _ i wr => ∃ (k : Nat) (l2 : List (SessionD × (Nat → Prop))), k ≤ l.length ∧ i = .int .i64 k ∧ Hid (l2.map (·.1) = l.take k) ∧ Hid (Apart l2) ∧ OwR 144 5 (rG (rSessO 146)) wr v l2 (fun b => w.heap.size ≤ b) ∧
      Below w.heap.size w wr ∧ (∀ g, v.ownBlock = some g → w.heap.size ≤ g))
    (fun _ _ i _ => l.length - (intOf i).toNat)
  case atStart => exact ⟨0, [], by omega, rfl, rfl, Apart.nil, OwR.nil _ _, Below.refl _ _, by simp [Value.ownBlock]⟩
  case round =>
    obtain ⟨k, l2, hk, rfl, hmap, hap, hown, hb, hvb⟩ := hrel
    have hws := hb.size
    have hll : l2.length = k := by have := congrArg List.length hmap.out; simpa [Nat.min_eq_left hk] using this
    by_cases hlt : k < l.length
    · obtain ⟨b, off, cap', row, hv, hS, hrow, hcells⟩ := (h.below rSession_ok (by decide) hb).row k hlt
      simp only [Value.slice.injEq] at hv
      obtain ⟨rfl, _, rfl⟩ := hv
      have hxin := hin l[k] (List.getElem_mem hlt)
      have HM : Hid (l.take (k + 1) = l.take k ++ [l[k]]) := by show _ = _; rw [List.take_succ_eq_append_getElem hlt]
      generalize l[k] = x at *
      obtain ⟨rv, rfl, hrv⟩ := hrow
      obtain ⟨ra, rcap, rfl, -⟩ := id hrv
      have q0 := hcells 0 _ rfl
      have q1 := hcells 1 _ rfl
      have q2 := hcells 2 _ rfl
      have q3 := hcells 3 _ rfl
      have q4 := hcells 4 _ rfl
      simp only [Nat.add_zero] at q0
      clear hcells
      have hbl : b < wr.heap.size := World.block_lt_of_cell? wr _ q0
      have HL := Lib.hid hll
      clear hll h hS hin hnil
      go_wp2_with (first
        | (go_at_call 120; refine (cloneKept_calls rKept_ok _ _ _ _ (hrv.below rKept_ok (by decide) ((Below.refl _ _).alloc (Nat.le_refl _) _)) hxin).mono ?_; rintro e w2 ⟨rv', rfl, ho2, hb2, hz⟩; obtain ⟨hc2, hz2⟩ := bcell hb2; have hs2 := hb2.size; obtain ⟨ra2, rc2, rfl⟩ := ho2.shape)
        | (at_builtin; obtain ⟨k1, k2, k3, k4⟩ := copySess_step (x := x) hown hb _ hb2 (ho2.forget (fun _ _ _ _ _ h => h)) hz; refine wpList_append_one Tryz.tyySess (.tmp 16) (.tmp 18) rfl rfl (rG_ok (rSessO_ok _)) (x, _) rfl rfl (by simp) k1 k2 hvb k3 (by rw [HL.out]; omega) ?_; intro v' w' hown' hb' hvb'))
      go_roundw
      case rel =>
        refine ⟨k + 1, _, by omega, by go_num, ?_, ?_, hown', hb', hvb'⟩
        · show _ = _
          rw [HM.out, List.map_append, hmap.out]; rfl
        · exact hap.out.snoc _ fun y hy b hyb => by
            have h1 := hown.gLt y hy b hyb
            intro hrb
            have := hz b hrb
            simp at this; omega
      case measure => simp [intOf]; omega
    · obtain rfl : k = l.length := by omega
      have hF : Hid (l2.map (·.1) = l) := by have := hmap.out; rw [List.take_length] at this; exact this
      clear hmap h hnil
      go_wp2
      go_ret
      exact ⟨_, rfl, ⟨l2, hF.out, hap.out, hown⟩, hb, hvb⟩
end Go.Proofs.YtkefgapnghnjjaaGreatDoor

namespace Go.Proofs.YtkefgapnghnjjaaGreatDoor
open Go.RowKit Go.Tk
set_option maxRecDepth 100000 in
theorem cmpSess_calls (w : World) (x : SessionD) (t : Int) (rv : Value) (hrv : rv.oneCell' = true) (hb : -9223372036854775808 ≤ x.client - t ∧ x.client - t ≤ 9223372036854775807) :
    Calls Tryz.prog 126 #[.agg #[.int .i64 x.client, .int .i64 x.id, .int .i64 x.acked, .int .i64 x.last, rv], .int .i64 t] w fun e w' => e = .returned (.int .i64 (x.client - t)) ∧ Below w.heap.size w w' := by
  obtain ⟨b1, b2⟩ := hb
  go_enter Tryz.func126, Tryz.ntmps126
  go_wp2
  go_ret
  exact ⟨rfl, (Below.refl _ _).alloc (Nat.le_refl _) _⟩
set_option maxRecDepth 100000 in
set_option maxHeartbeats 400000 in
theorem searchSess_calls (w : World) (v : Value) (l : List SessionD) (S : Nat → Prop) (h : SlR 5 rSession w v l S) (hn : l.length ≤ 1000000) (t : Int) (ht : -1000000000000 ≤ t ∧ t ≤ 1000000000000) (hb0 : ∀ x ∈ l, -1000000000000 ≤ x.client ∧ x.client ≤ 1000000000000) :
    Calls Tryz.prog 125 #[v, .int .i64 t, .func (.func 126) #[] #[]] w fun e w' =>
      e = .returned (.tuple #[.int .i64 (bs (fun i => sessCmp (l.getD i noSession) t) l.length : Nat), .bool (bsFound (fun i => sessCmp (l.getD i noSession) t) l.length)]) ∧ Below w.heap.size w w' := by
  obtain ⟨a, cap, hv, hl, hm, hnil, -⟩ := id h
  subst hv
  unfold maxLen at hm
  go_enter Tryz.func125, Tryz.ntmps125
  go_wp2
  go_loopw [9, 10, 11] (fun i j _ wr => ∃ p q : Nat, p ≤ q ∧ q ≤ l.length ∧ i = .int .i64 p ∧ j = .int .i64 q ∧ Hid (bsGo (fun i => sessCmp (l.getD i noSession) t) (q - p) p q = bs (fun i => sessCmp (l.getD i noSession) t) l.length) ∧ Below w.heap.size w wr)
    (fun i j _ _ => (intOf j).toNat - (intOf i).toNat)
  case atStart => exact ⟨0, l.length, by omega, by omega, rfl, rfl, rfl, Below.refl _ _⟩
  case round =>
    obtain ⟨p, q, hpq, hql, rfl, rfl, hgo, hb⟩ := hrel
    by_cases hlt : p < q
    · have hml : (p + q) / 2 < l.length := by omega
      obtain ⟨b, off, cap', row, hv, hS, hrow, hcells⟩ := (h.below rSession_ok (by decide) hb).row ((p + q) / 2) hml
      simp only [Value.slice.injEq] at hv
      obtain ⟨rfl, _, rfl⟩ := hv
      have hg : l.getD ((p + q) / 2) noSession = l[(p + q) / 2] := by simp [List.getD, hml]
      have hxb := hb0 l[(p + q) / 2] (List.getElem_mem hml)
      have HL : Hid (sessCmp l[(p + q) / 2] t < 0 → bsGo (fun i => sessCmp (l.getD i noSession) t) (q - ((p + q) / 2 + 1)) ((p + q) / 2 + 1) q = bs (fun i => sessCmp (l.getD i noSession) t) l.length) := fun hf => by
        rw [← bsGo_less _ hlt (by show sessCmp (l.getD ((p + q) / 2) noSession) t < 0; rw [hg]; exact hf)]; exact hgo.out
      have HM : Hid (¬ sessCmp l[(p + q) / 2] t < 0 → bsGo (fun i => sessCmp (l.getD i noSession) t) ((p + q) / 2 - p) p ((p + q) / 2) = bs (fun i => sessCmp (l.getD i noSession) t) l.length) := fun hf => by
        rw [← bsGo_more _ hlt (by show ¬ sessCmp (l.getD ((p + q) / 2) noSession) t < 0; rw [hg]; exact hf)]; exact hgo.out
      clear hgo hg
      generalize l[(p + q) / 2] = x at *
      obtain ⟨rv, rfl, hrv⟩ := hrow
      obtain ⟨ra, rcap, rfl, -⟩ := id hrv
      have q0 := hcells 0 _ rfl
      have q1 := hcells 1 _ rfl
      have q2 := hcells 2 _ rfl
      have q3 := hcells 3 _ rfl
      have q4 := hcells 4 _ rfl
      simp only [Nat.add_zero] at q0
      clear hcells
      have hws := hb.size
      by_cases hf : sessCmp x t < 0
      all_goals (have HF := Lib.hid hf; unfold sessCmp at hf)
      · go_wp2_with (go_at_call 126; refine (cmpSess_calls _ x t _ rfl (by omega)).mono ?_; rintro e w2 ⟨rfl, hb2⟩)
        go_roundw
        case rel => exact ⟨(p + q) / 2 + 1, q, by omega, hql, by go_num, rfl, HL.out HF.out, hb.trans (hb2.mono hws)⟩
        case measure => simp [intOf]; omega
      · go_wp2_with (go_at_call 126; refine (cmpSess_calls _ x t _ rfl (by omega)).mono ?_; rintro e w2 ⟨rfl, hb2⟩)
        go_roundw
        case rel => exact ⟨p, (p + q) / 2, by omega, by omega, rfl, by go_num, HM.out HF.out, hb.trans (hb2.mono hws)⟩
        case measure => simp [intOf]; omega
    · obtain rfl : p = q := by omega
      have HP : Hid (bs (fun i => sessCmp (l.getD i noSession) t) l.length = p) := by have := hgo.out; rw [Nat.sub_self] at this; exact this.symm
      clear hgo
      have hws := hb.size
      by_cases hml : p < l.length
      · obtain ⟨b, off, cap', row, hv, hS, hrow, hcells⟩ := (h.below rSession_ok (by decide) hb).row p hml
        simp only [Value.slice.injEq] at hv
        obtain ⟨rfl, _, rfl⟩ := hv
        have HG : Hid (bsFound (fun i => sessCmp (l.getD i noSession) t) l.length = (sessCmp l[p] t == 0)) := by
          show _ = _
          rw [bsFound, HP.out, decide_eq_true hml, show l.getD p noSession = l[p] by simp [List.getD, hml]]; rfl
        have hxb := hb0 l[p] (List.getElem_mem hml)
        clear h
        generalize l[p] = x at *
        obtain ⟨rv, rfl, hrv⟩ := hrow
        obtain ⟨ra, rcap, rfl, -⟩ := id hrv
        have q0 := hcells 0 _ rfl
        have q1 := hcells 1 _ rfl
        have q2 := hcells 2 _ rfl
        have q3 := hcells 3 _ rfl
        have q4 := hcells 4 _ rfl
        simp only [Nat.add_zero] at q0
        clear hcells
        go_wp2_with (go_at_call 126; refine (cmpSess_calls _ x t _ rfl (by omega)).mono ?_; rintro e w2 ⟨rfl, hb2⟩)
        go_ret2
        exact ⟨ends2 (by rw [HP.out]; rfl) (by rw [HG.out]; rfl), hb.trans (hb2.mono hws)⟩
      · have HG : Hid (bsFound (fun i => sessCmp (l.getD i noSession) t) l.length = false) := by
          show _ = _
          rw [bsFound, HP.out, decide_eq_false hml]; rfl
        clear h
        go_wp2
        go_ret2
        exact ⟨ends2 (by rw [HP.out]; rfl) (by rw [HG.out]; rfl), hb⟩
end Go.Proofs.YtkefgapnghnjjaaGreatDoor
