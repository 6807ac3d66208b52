/- A part of the proof, laid together from: Fences. -/
import Derived.Test.YtcmmenmjclgjmaaGreatDoorPa33
import Derived.Test.YtcmmenmjclgjmaaGreatDoorPa34
import Derived.Test.YtcmmenmjclgjmaaGreatDoorPa23
import Derived.Test.YtcmmenmjclgjmaaGreatDoorPa13
import Derived.Test.YtcmmenmjclgjmaaGreatDoorPa30
import Derived.Test.YtcmmenmjclgjmaaGreatDoorPa35
import Derived.Deep.RegionLaw
set_option linter.unusedSimpArgs false
set_option linter.unusedVariables false
/- FencesHold: who sets a value has its lock, with that fence; all others change nothing; no condition. -/
namespace Go.Proofs.YtcmmenmjclgjmaaGreatDoor
open Go.RowKit Go.Tk

theorem fh1_calls (w : World) (y : SessionD) (rv : Value) (hrv : rv.oneCell' = true) (B : Nat) (c : Int) (hc : w.cell? ⟨B, 0, none⟩ = some (.int .i64 c)) :
    Calls Tryz.prog 17 #[.agg #[.int .i64 y.client, .int .i64 y.id, .int .i64 y.acked, .int .i64 y.last, rv], .pointer (some ⟨B, 0, none⟩)] w fun e w' => e = .returned (.bool (y.client == c)) ∧ Below w.heap.size w w' := by
  have hB := World.block_lt_of_cell? w _ hc
  go_enter Tryz.func17, Tryz.ntmps17
  go_wp2
  go_ret
  exact ⟨rfl, below_alloc w _⟩
theorem fh2_calls (w : World) (y : SessionD) (rv : Value) (hrv : rv.oneCell' = true) (B : Nat) (ix : Int) (hc : w.cell? ⟨B, 0, none⟩ = some (.int .i64 ix)) (hi : 0 ≤ ix ∧ ix ≤ 1000) :
    Calls Tryz.prog 25 #[.agg #[.int .i64 y.client, .int .i64 y.id, .int .i64 y.acked, .int .i64 y.last, rv], .pointer (some ⟨B, 0, none⟩)] w fun e w' => e = .returned (.bool (decide (RowKit.wrap64 (ix + 1 - y.last) ≤ 40))) ∧ Below w.heap.size w w' := by
  have hB := World.block_lt_of_cell? w _ hc
  have hw : IntKind.i64.wrap (ix + 1) = ix + 1 := IntWalk.i64_in _ (by omega)
  go_enter Tryz.func25, Tryz.ntmps25
  go_wp2
  go_ret
  exact ⟨rfl, below_alloc w _⟩

set_option linter.unusedSimpArgs false in
set_option maxRecDepth 100000 in
set_option maxHeartbeats 12800000 in
theorem fencesHold_calls (w : World) (l : List RawD) (v : Value) (S : Nat → Prop) (h : SlR 4 rRaw w v l S) (hr : ∀ x ∈ l, RawOk x) (who : Int) (hw1 : -9223372036854775808 ≤ who) (hw2 : who ≤ 9223372036854775807)
    (nn : Int) (hn1 : -9223372036854775808 ≤ nn) (hn2 : nn ≤ 9223372036854775807) (fence : Int) (hf1 : -9223372036854775808 ≤ fence) (hf2 : fence ≤ 9223372036854775807) :
    Calls Tryz.prog 4 #[v, .int .i64 who, .int .i64 nn, .int .i64 fence] w fun e w' => e = .returned (.bool true) ∧ Below w.heap.size w w' := by
  obtain ⟨a0, cap0, hv, -, hm0, -, -⟩ := id h
  subst hv
  unfold maxLen at hm0
  have HH := Lib.hid h
  have HRR := Lib.hid hr
  have HW1 := Lib.hid hw1; have HW2 := Lib.hid hw2; have HN1 := Lib.hid hn1; have HN2 := Lib.hid hn2; have HF1 := Lib.hid hf1; have HF2 := Lib.hid hf2
  clear h hr hw1 hw2 hn1 hn2 hf1 hf2
  go_enter Tryz.func4, Tryz.ntmps4
  go_wp2_with fail
  refine (commands_calls l 60 (by omega) _ S _ HH.out HRR.out).mono ?_
  rintro e w1 ⟨v1, rfl, hs1, hb1⟩
  have hone1 := hs1.oneCell
  have HCL := Lib.hid (commandsP_len l 60 (by omega))
  have HAL := Lib.hid (commandsP_ok l 60 (by omega))
  obtain ⟨t, ht, -, hix, -, hfew⟩ := applied_few l 60 (by omega)
  have HB1 := Lib.hid hb1
  have HS1 := Lib.hid hs1
  clear hs1 hb1 HH HRR
  generalize commandsP l 60 = cs at *
  go_wp2_with fail
  refine (entries_calls cs HAL.out (by have := HCL.out; omega) v1 _ _ HS1.out).mono ?_
  rintro e w2 ⟨v2, rfl, hs2, hb2⟩
  have hone2 := hs2.oneCell
  have HDE := Lib.hid (entries_ok HAL.out)
  have HAA := Lib.hid (show (entriesP cs).length ≤ 60 by have := HCL.out; rw [entriesP_len]; omega)
  generalize entriesP cs = A at *
  have HB2 := Lib.hid (below_step HB1.out hb2)
  have HAP := Lib.hid (applied_calls A v2 _ w2 hs2 HDE.out (by have := HAA.out; omega))
  clear HB1 HS1 HCL HAL hs2 hb2 HDE HAA
  go_wp2_with fail
  refine HAP.out.mono ?_
  rintro e w3 ⟨t', vl, vp, vs, ht', rfl, hst, hb3⟩
  rw [ht] at ht'
  obtain rfl : t = t' := (Prod.mk.inj ht').1
  obtain ⟨al, cl, rfl, -, -, -, -⟩ := id hst.lock; obtain ⟨ap, cp, rfl, -, -, -, -⟩ := id hst.pair; obtain ⟨az, cz, rfl, -, -, -, -⟩ := id hst.sess
  have HIX := Lib.hid hix
  have HFW := Lib.hid hfew
  have HB := Lib.hid (below_step HB2.out hb3)
  have HS := Lib.hid hst
  have hsz := hfew.ok.sess.len
  have hti : 0 ≤ t.index ∧ t.index ≤ 1000 := by omega
  have hB2 := hb3.size
  clear ht ht' hix hfew HB2 hst hb3 HAP
  go_upto_region 2 with (fail)
  have HX := Lib.hid (BoxAt.new (w := w3) (cs := [.int .i64 t.index, .slice al t.locks.length cl, .slice ap t.pairs.length cp, .slice az t.sessions.length cz]) (E := 27))
  have hba := below_alloc w3 (.cells #[.int .i64 t.index, .slice al t.locks.length cl, .slice ap t.pairs.length cp, .slice az t.sessions.length cz] 27)
  replace HB := Lib.hid (below_step HB.out hba)
  replace HS := Lib.hid (HS.out.below hba)
  clear hba
  generalize w3.alloc (.cells #[.int .i64 t.index, .slice al t.locks.length cl, .slice ap t.pairs.length cp, .slice az t.sessions.length cz] 27) = w4 at *
  generalize w3.heap.size = B at *
  obtain ⟨c, hc, hc0, hc1⟩ : ∃ c, picked who 4 = c ∧ 0 ≤ c ∧ c < 4 := ⟨_, rfl, picked_in _ _ (by omega)⟩
  have HCP := Lib.hid hc
  clear hc
  go_wp2_with fail
  refine (picked_calls who 4 (by omega) (by omega) HW1.out HW2.out _).mono ?_
  rw [HCP.out]; rintro e w5 ⟨rfl, rfl⟩
  go_upto_region 3 with (fail)
  have HC := Lib.hid (BoxAt.new (w := w4) (cs := [.int .i64 (1 + c)]) (E := 3))
  have hba := below_alloc w4 (.cells #[.int .i64 (1 + c)] 3)
  replace HB := Lib.hid (below_step HB.out hba)
  replace HS := Lib.hid (HS.out.below hba)
  replace HX := Lib.hid (HX.out.below hba)
  clear hba
  generalize w4.alloc (.cells #[.int .i64 (1 + c)] 3) = w5 at *
  generalize w4.heap.size = BC at *
  have hin := fun args w => MuLone.run_callFunc_enter Tryz.func17 (by kernel_rfl) rfl args w
  have hp : TellsSess w5 none (fun b => w2.heap.size ≤ b) 17 (.pointer (some ⟨BC, 0, none⟩)) (fun y => y.client == 1 + c) := fun w' y rv' hg hr =>
    fh1_calls w' y rv' (by obtain ⟨v, e, a, c, hv, _⟩ := hr; cases e; rw [hv]; rfl) BC (1 + c) ((World.cell?_of_block (hg.block _ HC.out.lt (by simp))).trans (HC.out.cell 0 _ rfl))
  have HCO := Lib.hid (indexSess_calls w5 _ t.sessions _ HS.out.sess (by omega) 17 (.pointer (some ⟨BC, 0, none⟩)) (fun y => y.client == 1 + c) none hin hp)
  clear hp hin
  have b3 := HX.out.cell 3 _ rfl
  go_wp2_with fail
  refine HCO.out.mono ?_
  rintro e w6 ⟨rfl, hb6⟩
  clear HCO b3
  replace HB := Lib.hid (below_step HB.out hb6)
  replace HS := Lib.hid (HS.out.below hb6)
  replace HX := Lib.hid (HX.out.below hb6)
  replace HC := Lib.hid (HC.out.below hb6)
  clear hb6
  rcases fIdx_cases (fun y : SessionD => y.client == 1 + c) t.sessions with ⟨hi, -⟩ | ⟨n, hn, hi, hpn, -⟩
  · rw [hi]
    have b0 := HX.out.cell 0 _ rfl
    have hI := HIX.out
    go_wp2
    all_goals
      go_ret
      exact ⟨congrArg (fun b => Ending.returned (.bool b)) (by simp; omega), HB.out⟩
  rw [hi]
  clear hi
  have HXM := Lib.hid (List.getElem_mem hn)
  have HXC := Lib.hid (show t.sessions[n].client = 1 + c by simpa using hpn)
  clear hpn
  have b3 := HX.out.cell 3 _ rfl
  obtain ⟨bb, off, cap', row, hv, -, hrow, hcells⟩ := HS.out.sess.row n hn
  simp only [Value.slice.injEq] at hv
  obtain ⟨rfl, -, rfl⟩ := hv
  have HRP := Lib.hid (HFW.out.ok.sess.rep _ HXM.out)
  have HBD := Lib.hid (HFW.out.ok.sess.bad _ HXM.out)
  have HAK := Lib.hid (HFW.out.ack _ HXM.out)
  generalize t.sessions[n] = x at *
  obtain ⟨rv, rfl, hrv⟩ := hrow
  obtain ⟨ra, rc, rfl, -, -, -, -⟩ := id hrv
  have q0 := hcells 0 _ rfl; have q1 := hcells 1 _ rfl; have q2 := hcells 2 _ rfl; have q3 := hcells 3 _ rfl; have q4 := hcells 4 _ rfl
  simp only [Nat.add_zero] at q0
  have HL := Lib.hid hrv
  clear hcells hrv
  go_upto_region 7 with (fail)
  clear q0 q1 q2 q3 q4 b3
  have HY := Lib.hid (BoxAt.new (w := w6) (cs := [.int .i64 x.client, .int .i64 x.id, .int .i64 x.acked, .int .i64 x.last, .slice ra x.replies.length rc]) (E := 41))
  have hba := below_alloc w6 (.cells #[.int .i64 x.client, .int .i64 x.id, .int .i64 x.acked, .int .i64 x.last, .slice ra x.replies.length rc] 41)
  replace HB := Lib.hid (below_step HB.out hba)
  replace HS := Lib.hid (HS.out.below hba)
  replace HX := Lib.hid (HX.out.below hba)
  replace HC := Lib.hid (HC.out.below hba)
  replace HL := Lib.hid (HL.out.below rKept_ok (by decide) hba)
  clear hba
  generalize w6.alloc (.cells #[.int .i64 x.client, .int .i64 x.id, .int .i64 x.acked, .int .i64 x.last, .slice ra x.replies.length rc] 41) = w7 at *
  generalize w6.heap.size = BX at *
  obtain ⟨nm, hnm⟩ : ∃ nm, kname nn = nm := ⟨_, rfl⟩
  have HNK := Lib.hid (show nm ∈ kset from hnm ▸ kname_mem nn)
  have HNM := Lib.hid hnm
  clear hnm
  obtain ⟨lw1, lw2, hlw⟩ : ∃ a b, lWho t.locks nm = (a, b, 0) := ⟨(lWho t.locks nm).1, (lWho t.locks nm).2.1, by rw [← who_code HFW.out.ok.lock nm]⟩
  have HLW := Lib.hid hlw
  clear hlw
  have hd0 : decide ((n : Int) < 0) = false := decide_eq_false (by omega)
  simp only [hd0]
  clear hd0
  refine wp_region_plan 12 (fun wx => Below w7.heap.size w7 wx) (fun wx wy => Below wx.heap.size wx wy) [eqV (.pointer (some ⟨B, 1, none⟩)), eqV (.slice al t.locks.length cl), eqV (.int .i64 nn), eqV (.string ⟨nm.toArray⟩), eqV (.tuple #[.int .i64 lw1, .int .i64 lw2, .int .i64 0]), eqV (.tuple #[.int .i64 lw1, .int .i64 lw2, .int .i64 0]), eqV (.int .i64 lw1), eqV (.int .i64 lw2), eqV (.int .i64 0), eqV (.int .i64 lw1), eqV (.int .i64 lw2), eqV (.int .i64 0)] (by kernel_rfl) (by kernel_rfl) rfl ?hJ ?hJS ?hst ?hobl ?hend
  case hJ => exact Below.drew (Below.refl _ _)
  case hJS =>
    exact fun wx wy h1 h2 => below_step h1 h2
  case hst => exact planStab_at _ ⟨eqV_stab _, eqV_stab _, eqV_stab _, eqV_stab _, eqV_stab _, eqV_stab _, eqV_stab _, eqV_stab _, eqV_stab _, eqV_stab _, eqV_stab _, eqV_stab _, trivial⟩
  case hobl =>
    simp only [planObls, List.take_succ_cons, List.take_zero, planPut, Act.put, List.setIfInBounds_toArray, List.set_cons_zero, List.set_cons_succ, Nat.reduceAdd, Nat.zero_add]
    refine ⟨?_, ?_, ?_, ?_, ?_, ?_, ?_, ?_, ?_, ?_, ?_, ?_, trivial⟩
    · intro vs wx hJ hn K hK
      simp [planNeeds, VAt, eqV, Region.binds] at hn
      simp only [VAt, eqV, List.getD_cons_zero, List.getD_cons_succ, Act.put, List.setIfInBounds_toArray, List.set_cons_zero, List.set_cons_succ, Nat.reduceAdd, Nat.zero_add] at hK
      go_wp2
      exact hK _ _ (Below.refl _ _) rfl
    · intro vs wx hJ hn K hK
      simp [planNeeds, VAt, eqV, Region.binds] at hn
      simp only [VAt, eqV, List.getD_cons_zero, List.getD_cons_succ, Act.put, List.setIfInBounds_toArray, List.set_cons_zero, List.set_cons_succ, Nat.reduceAdd, Nat.zero_add] at hK
      simp only [hn] at hK ⊢
      have b1 := (HX.out.below hJ).cell 1 _ rfl
      go_wp2
      exact hK _ _ (Below.refl _ _) rfl
    · intro vs wx hJ hn K hK
      simp [planNeeds, VAt, eqV, Region.binds] at hn
      simp only [VAt, eqV, List.getD_cons_zero, List.getD_cons_succ, Act.put, List.setIfInBounds_toArray, List.set_cons_zero, List.set_cons_succ, Nat.reduceAdd, Nat.zero_add] at hK
      go_wp2
      exact hK _ _ (Below.refl _ _) rfl
    · intro vs wx hJ hn K hK
      simp [planNeeds, VAt, eqV, Region.binds] at hn
      simp only [VAt, eqV, List.getD_cons_zero, List.getD_cons_succ, Act.put, List.setIfInBounds_toArray, List.set_cons_zero, List.set_cons_succ, Nat.reduceAdd, Nat.zero_add] at hK
      simp only [hn] at hK ⊢
      go_wp2_with fail
      refine (kname_calls nn HN1.out HN2.out _).mono ?_
      rw [HNM.out]; rintro e w8 ⟨rfl, hb8⟩
      go_wp2
      exact hK _ _ hb8 rfl
    · intro vs wx hJ hn K hK
      simp [planNeeds, VAt, eqV, Region.binds] at hn
      simp only [VAt, eqV, List.getD_cons_zero, List.getD_cons_succ, Act.put, List.setIfInBounds_toArray, List.set_cons_zero, List.set_cons_succ, Nat.reduceAdd, Nat.zero_add] at hK
      simp only [hn] at hK ⊢
      go_wp2_with fail
      refine (lWho_calls t.locks nm _ _ _ (HS.out.lock.below rLock_ok (by decide) hJ) HFW.out.ok.lock.lines).mono ?_
      rw [HLW.out]; rintro e w9 ⟨rfl, hb9⟩
      go_wp2
      exact hK _ _ hb9 rfl
    · intro vs wx hJ hn K hK
      simp [planNeeds, VAt, eqV, Region.binds] at hn
      simp only [VAt, eqV, List.getD_cons_zero, List.getD_cons_succ, Act.put, List.setIfInBounds_toArray, List.set_cons_zero, List.set_cons_succ, Nat.reduceAdd, Nat.zero_add] at hK
      simp only [hn] at hK ⊢
      go_wp2
      exact hK _ _ (Below.refl _ _) rfl
    · intro vs wx hJ hn K hK
      simp [planNeeds, VAt, eqV, Region.binds] at hn
      simp only [VAt, eqV, List.getD_cons_zero, List.getD_cons_succ, Act.put, List.setIfInBounds_toArray, List.set_cons_zero, List.set_cons_succ, Nat.reduceAdd, Nat.zero_add] at hK
      simp only [hn] at hK ⊢
      go_wp2
      exact hK _ _ (Below.refl _ _) rfl
    · intro vs wx hJ hn K hK
      simp [planNeeds, VAt, eqV, Region.binds] at hn
      simp only [VAt, eqV, List.getD_cons_zero, List.getD_cons_succ, Act.put, List.setIfInBounds_toArray, List.set_cons_zero, List.set_cons_succ, Nat.reduceAdd, Nat.zero_add] at hK
      simp only [hn] at hK ⊢
      go_wp2
      exact hK _ _ (Below.refl _ _) rfl
    · intro vs wx hJ hn K hK
      simp [planNeeds, VAt, eqV, Region.binds] at hn
      simp only [VAt, eqV, List.getD_cons_zero, List.getD_cons_succ, Act.put, List.setIfInBounds_toArray, List.set_cons_zero, List.set_cons_succ, Nat.reduceAdd, Nat.zero_add] at hK
      simp only [hn] at hK ⊢
      go_wp2
      exact hK _ _ (Below.refl _ _) rfl
    · intro vs wx hJ hn K hK
      simp [planNeeds, VAt, eqV, Region.binds] at hn
      simp only [VAt, eqV, List.getD_cons_zero, List.getD_cons_succ, Act.put, List.setIfInBounds_toArray, List.set_cons_zero, List.set_cons_succ, Nat.reduceAdd, Nat.zero_add] at hK
      simp only [hn] at hK ⊢
      go_wp2
      exact hK _ _ (Below.refl _ _) rfl
    · intro vs wx hJ hn K hK
      simp [planNeeds, VAt, eqV, Region.binds] at hn
      simp only [VAt, eqV, List.getD_cons_zero, List.getD_cons_succ, Act.put, List.setIfInBounds_toArray, List.set_cons_zero, List.set_cons_succ, Nat.reduceAdd, Nat.zero_add] at hK
      simp only [hn] at hK ⊢
      go_wp2
      exact hK _ _ (Below.refl _ _) rfl
    · intro vs wx hJ hn K hK
      simp [planNeeds, VAt, eqV, Region.binds] at hn
      simp only [VAt, eqV, List.getD_cons_zero, List.getD_cons_succ, Act.put, List.setIfInBounds_toArray, List.set_cons_zero, List.set_cons_succ, Nat.reduceAdd, Nat.zero_add] at hK
      simp only [hn] at hK ⊢
      go_wp2
      exact hK _ _ (Below.refl _ _) rfl
  case hend =>
    intro vs wx hJ hv
    simp [planHave, eqV] at hv
    obtain ⟨e0, e1, e2, e3, e4, e5, e6, e7, e8, e9, e10, e11⟩ := hv
    simp only [List.take_succ_cons, List.take_zero, List.drop_succ_cons, List.drop_zero, planPut, Act.put, List.setIfInBounds_toArray, List.set_cons_zero, List.set_cons_succ, Nat.reduceAdd, Nat.zero_add]
    rw [e0, e1, e2, e3, e4, e5, e6, e7, e8, e9, e10, e11]
    clear e0 e1 e2 e3 e4 e5 e6 e7 e8 e9 e10 e11
    rename World => w8
    replace HB := Lib.hid (below_step HB.out hJ)
    replace HS := Lib.hid (HS.out.below hJ)
    replace HX := Lib.hid (HX.out.below hJ)
    replace HC := Lib.hid (HC.out.below hJ)
    replace HL := Lib.hid (HL.out.below rKept_ok (by decide) hJ)
    replace HY := Lib.hid (HY.out.below hJ)
    clear hJ
    obtain ⟨p, hp, hp0, hp1⟩ : ∃ p, picked fence 4 = p ∧ 0 ≤ p ∧ p < 4 := ⟨_, rfl, picked_in _ _ (by omega)⟩
    have HPP := Lib.hid hp
    clear hp
    go_wp2_with fail
    refine (picked_calls fence 4 (by omega) (by omega) HF1.out HF2.out _).mono ?_
    rw [HPP.out]; rintro e w9 ⟨rfl, rfl⟩
    have hxa : 0 ≤ x.acked ∧ x.acked ≤ 1000 := by have := HBD.out; have := HAK.out; unfold sessBad at *; omega
    have hxl : 1 ≤ x.id ∧ x.id ≤ x.last ∧ x.last ≤ t.index := by have := HBD.out; unfold sessBad at this; omega
    have hrl := replies_len HRP.out
    have y2 := HY.out.cell 2 _ rfl; have y4 := HY.out.cell 4 _ rfl
    go_wp2
    clear y2 y4
    go_loopw [18, 81] (fun q i wr => ∃ j : Nat, j ≤ x.replies.length ∧ i = .int .i64 j ∧ q = .int .i64 (seqAt x j) ∧ Hid (Below w8.heap.size w8 wr))
      (fun _ i _ => x.replies.length - (intOf i).toNat)
    case atStart => exact ⟨0, by omega, rfl, by rw [seqAt_zero], Lib.hid (Below.refl _ _)⟩
    case round =>
    obtain ⟨j, hj, rfl, rfl, hbl⟩ := hrel
    have hsq := seqAt_in HRP.out j hj
    by_cases hlt : j < x.replies.length
    · obtain ⟨b9, off9, cap9, row9, hv, -, hrow, hcells⟩ := (HL.out.below rKept_ok (by decide) hbl.out).row j hlt
      simp only [Value.slice.injEq] at hv
      obtain ⟨rfl, -, rfl⟩ := hv
      have HSN := Lib.hid (seqAt_next x j hlt)
      have hsn := seqAt_in HRP.out (j + 1) hlt
      rw [HSN.out] at hsn
      generalize x.replies[j] = kx at *
      obtain rfl := hrow
      have q0 := hcells 0 _ rfl; have q1 := hcells 1 _ rfl; have q2 := hcells 2 _ rfl; have q3 := hcells 3 _ rfl
      simp only [Nat.add_zero] at q0
      clear hcells
      have HK := Lib.hid (BoxAt.new (w := wr) (cs := [.int .i64 kx.seq, .int .i64 kx.reply.code, .int .i64 kx.reply.n, .string ⟨kx.reply.text.toArray⟩]) (E := 55))
      have HB9 := Lib.hid (below_step hbl.out (below_alloc wr (.cells #[.int .i64 kx.seq, .int .i64 kx.reply.code, .int .i64 kx.reply.n, .string ⟨kx.reply.text.toArray⟩] 55)))
      go_upto_region 13 with (fail)
      generalize wr.alloc (.cells #[.int .i64 kx.seq, .int .i64 kx.reply.code, .int .i64 kx.reply.n, .string ⟨kx.reply.text.toArray⟩] 55) = w10 at *
      clear q0 q1 q2 q3
      have k0 := HK.out.cell 0 _ rfl
      go_wp2
      go_roundw
      case rel => exact ⟨j + 1, by omega, by go_num, by rw [HSN.out], HB9⟩
      case measure => simp [intOf]; omega
    obtain rfl : j = x.replies.length := by omega
    clear hlt hj
    replace HB := Lib.hid (below_step HB.out hbl.out)
    replace HS := Lib.hid (HS.out.below hbl.out)
    replace HX := Lib.hid (HX.out.below hbl.out)
    replace HC := Lib.hid (HC.out.below hbl.out)
    replace HL := Lib.hid (HL.out.below rKept_ok (by decide) hbl.out)
    replace HY := Lib.hid (HY.out.below hbl.out)
    clear hbl
    obtain ⟨q, hq⟩ : ∃ q, seqAt x x.replies.length = q := ⟨_, rfl⟩
    rw [hq] at hsq ⊢
    have HQ := Lib.hid hq
    clear hq
    have y2 := HY.out.cell 2 _ rfl
    by_cases hq4 : q ≤ x.acked + 4
    case neg =>
      go_wp2
      go_ret
      exact ⟨rfl, HB.out⟩
    obtain ⟨hok, E, T, R, he, hde, hap, hM1, hM2⟩ := fen_main (k := 1 + p) (nm := nm) HFW.out hti.2 HXM.out HXC.out HQ.out.symm hq4 HNK.out (by omega)
    rw [HLW.out] at hM2
    have HOK := Lib.hid hok; have HE := Lib.hid he; have HDE := Lib.hid hde; have HAP := Lib.hid hap; have HM1 := Lib.hid hM1; have HM2 := Lib.hid hM2
    clear hok he hde hap hM1 hM2
    go_upto_region 17 with (fail)
    clear y2
    rename World => w11
    refine wp_region_plan 17 (fun wx => Below w11.heap.size w11 wx) (fun wx wy => Below wx.heap.size wx wy) [eqV (.int .i64 (1 + c)), eqV (.pointer (some ⟨BX, 1, none⟩)), eqV (.int .i64 x.id), eqV (.int .i64 q), eqV (.pointer (some ⟨BX, 2, none⟩)), eqV (.int .i64 x.acked), eqV (.int .i64 nn), eqV (.string ⟨nm.toArray⟩), eqV (.int .i64 (1 + p)), eqV (.agg #[.int .i64 5, .string ⟨nm.toArray⟩, .string ⟨#[110, 101, 119]⟩, .int .i64 (1 + p)]), eqV (.agg #[.int .i64 2, .int .i64 (1 + c), .int .i64 x.id, .int .i64 q, .int .i64 x.acked, .int .i64 5, .string ⟨nm.toArray⟩, .string ⟨#[110, 101, 119]⟩, .int .i64 (1 + p)]), eqV (.tuple #[.string ⟨E.toArray⟩, .int .i64 0]), eqV (.tuple #[.string ⟨E.toArray⟩, .int .i64 0]), eqV (.string ⟨E.toArray⟩), eqV (.int .i64 0), eqV (.string ⟨E.toArray⟩), eqV (.int .i64 0)] (by kernel_rfl) (by kernel_rfl) rfl ?hJ ?hJS ?hst ?hobl ?hend
    case hJ => exact Below.drew (Below.refl _ _)
    case hJS =>
      exact fun wx wy h1 h2 => below_step h1 h2
    case hst => exact planStab_at _ ⟨eqV_stab _, eqV_stab _, eqV_stab _, eqV_stab _, eqV_stab _, eqV_stab _, eqV_stab _, eqV_stab _, eqV_stab _, eqV_stab _, eqV_stab _, eqV_stab _, eqV_stab _, eqV_stab _, eqV_stab _, eqV_stab _, eqV_stab _, trivial⟩
    case hobl =>
      simp only [planObls, List.take_succ_cons, List.take_zero, planPut, Act.put, List.setIfInBounds_toArray, List.set_cons_zero, List.set_cons_succ, Nat.reduceAdd, Nat.zero_add]
      refine ⟨?_, ?_, ?_, ?_, ?_, ?_, ?_, ?_, ?_, ?_, ?_, ?_, ?_, ?_, ?_, ?_, ?_, trivial⟩
      · intro vs wx hJ hn K hK
        simp [planNeeds, VAt, eqV, Region.binds] at hn
        simp only [VAt, eqV, List.getD_cons_zero, List.getD_cons_succ, Act.put, List.setIfInBounds_toArray, List.set_cons_zero, List.set_cons_succ, Nat.reduceAdd, Nat.zero_add] at hK
        have c0 := (HC.out.below hJ).cell 0 _ rfl
        go_wp2
        exact hK _ _ (Below.refl _ _) rfl
      · intro vs wx hJ hn K hK
        simp [planNeeds, VAt, eqV, Region.binds] at hn
        simp only [VAt, eqV, List.getD_cons_zero, List.getD_cons_succ, Act.put, List.setIfInBounds_toArray, List.set_cons_zero, List.set_cons_succ, Nat.reduceAdd, Nat.zero_add] at hK
        go_wp2
        exact hK _ _ (Below.refl _ _) rfl
      · intro vs wx hJ hn K hK
        simp [planNeeds, VAt, eqV, Region.binds] at hn
        simp only [VAt, eqV, List.getD_cons_zero, List.getD_cons_succ, Act.put, List.setIfInBounds_toArray, List.set_cons_zero, List.set_cons_succ, Nat.reduceAdd, Nat.zero_add] at hK
        simp only [hn] at hK ⊢
        have y1 := (HY.out.below hJ).cell 1 _ rfl
        go_wp2
        exact hK _ _ (Below.refl _ _) rfl
      · intro vs wx hJ hn K hK
        simp [planNeeds, VAt, eqV, Region.binds] at hn
        simp only [VAt, eqV, List.getD_cons_zero, List.getD_cons_succ, Act.put, List.setIfInBounds_toArray, List.set_cons_zero, List.set_cons_succ, Nat.reduceAdd, Nat.zero_add] at hK
        go_wp2
        exact hK _ _ (Below.refl _ _) rfl
      · intro vs wx hJ hn K hK
        simp [planNeeds, VAt, eqV, Region.binds] at hn
        simp only [VAt, eqV, List.getD_cons_zero, List.getD_cons_succ, Act.put, List.setIfInBounds_toArray, List.set_cons_zero, List.set_cons_succ, Nat.reduceAdd, Nat.zero_add] at hK
        go_wp2
        exact hK _ _ (Below.refl _ _) rfl
      · intro vs wx hJ hn K hK
        simp [planNeeds, VAt, eqV, Region.binds] at hn
        simp only [VAt, eqV, List.getD_cons_zero, List.getD_cons_succ, Act.put, List.setIfInBounds_toArray, List.set_cons_zero, List.set_cons_succ, Nat.reduceAdd, Nat.zero_add] at hK
        simp only [hn] at hK ⊢
        have y2 := (HY.out.below hJ).cell 2 _ rfl
        go_wp2
        exact hK _ _ (Below.refl _ _) rfl
      · intro vs wx hJ hn K hK
        simp [planNeeds, VAt, eqV, Region.binds] at hn
        simp only [VAt, eqV, List.getD_cons_zero, List.getD_cons_succ, Act.put, List.setIfInBounds_toArray, List.set_cons_zero, List.set_cons_succ, Nat.reduceAdd, Nat.zero_add] at hK
        go_wp2
        exact hK _ _ (Below.refl _ _) rfl
      · intro vs wx hJ hn K hK
        simp [planNeeds, VAt, eqV, Region.binds] at hn
        simp only [VAt, eqV, List.getD_cons_zero, List.getD_cons_succ, Act.put, List.setIfInBounds_toArray, List.set_cons_zero, List.set_cons_succ, Nat.reduceAdd, Nat.zero_add] at hK
        simp only [hn] at hK ⊢
        go_wp2_with fail
        refine (kname_calls nn HN1.out HN2.out _).mono ?_
        rw [HNM.out]; rintro e w8 ⟨rfl, hb8⟩
        go_wp2
        exact hK _ _ hb8 rfl
      · intro vs wx hJ hn K hK
        simp [planNeeds, VAt, eqV, Region.binds] at hn
        simp only [VAt, eqV, List.getD_cons_zero, List.getD_cons_succ, Act.put, List.setIfInBounds_toArray, List.set_cons_zero, List.set_cons_succ, Nat.reduceAdd, Nat.zero_add] at hK
        go_wp2
        exact hK _ _ (Below.refl _ _) rfl
      · intro vs wx hJ hn K hK
        simp [planNeeds, VAt, eqV, Region.binds] at hn
        simp only [VAt, eqV, List.getD_cons_zero, List.getD_cons_succ, Act.put, List.setIfInBounds_toArray, List.set_cons_zero, List.set_cons_succ, Nat.reduceAdd, Nat.zero_add] at hK
        simp only [hn] at hK ⊢
        go_wp2
        exact hK _ _ (Below.refl _ _) rfl
      · intro vs wx hJ hn K hK
        simp [planNeeds, VAt, eqV, Region.binds] at hn
        simp only [VAt, eqV, List.getD_cons_zero, List.getD_cons_succ, Act.put, List.setIfInBounds_toArray, List.set_cons_zero, List.set_cons_succ, Nat.reduceAdd, Nat.zero_add] at hK
        simp only [hn] at hK ⊢
        go_wp2
        exact hK _ _ (Below.refl _ _) rfl
      · intro vs wx hJ hn K hK
        simp [planNeeds, VAt, eqV, Region.binds] at hn
        simp only [VAt, eqV, List.getD_cons_zero, List.getD_cons_succ, Act.put, List.setIfInBounds_toArray, List.set_cons_zero, List.set_cons_succ, Nat.reduceAdd, Nat.zero_add] at hK
        simp only [hn] at hK ⊢
        go_wp2_with fail
        refine (encode_calls (fenCmd (1 + c) x.id q x.acked nm (1 + p)) _ (words_len HOK.out)).mono ?_
        rw [HE.out]; rintro e w9 ⟨rfl, hb9⟩
        go_wp2
        exact hK _ _ hb9 rfl
      · intro vs wx hJ hn K hK
        simp [planNeeds, VAt, eqV, Region.binds] at hn
        simp only [VAt, eqV, List.getD_cons_zero, List.getD_cons_succ, Act.put, List.setIfInBounds_toArray, List.set_cons_zero, List.set_cons_succ, Nat.reduceAdd, Nat.zero_add] at hK
        simp only [hn] at hK ⊢
        go_wp2
        exact hK _ _ (Below.refl _ _) rfl
      · intro vs wx hJ hn K hK
        simp [planNeeds, VAt, eqV, Region.binds] at hn
        simp only [VAt, eqV, List.getD_cons_zero, List.getD_cons_succ, Act.put, List.setIfInBounds_toArray, List.set_cons_zero, List.set_cons_succ, Nat.reduceAdd, Nat.zero_add] at hK
        simp only [hn] at hK ⊢
        go_wp2
        exact hK _ _ (Below.refl _ _) rfl
      · intro vs wx hJ hn K hK
        simp [planNeeds, VAt, eqV, Region.binds] at hn
        simp only [VAt, eqV, List.getD_cons_zero, List.getD_cons_succ, Act.put, List.setIfInBounds_toArray, List.set_cons_zero, List.set_cons_succ, Nat.reduceAdd, Nat.zero_add] at hK
        simp only [hn] at hK ⊢
        go_wp2
        exact hK _ _ (Below.refl _ _) rfl
      · intro vs wx hJ hn K hK
        simp [planNeeds, VAt, eqV, Region.binds] at hn
        simp only [VAt, eqV, List.getD_cons_zero, List.getD_cons_succ, Act.put, List.setIfInBounds_toArray, List.set_cons_zero, List.set_cons_succ, Nat.reduceAdd, Nat.zero_add] at hK
        simp only [hn] at hK ⊢
        go_wp2
        exact hK _ _ (Below.refl _ _) rfl
      · intro vs wx hJ hn K hK
        simp [planNeeds, VAt, eqV, Region.binds] at hn
        simp only [VAt, eqV, List.getD_cons_zero, List.getD_cons_succ, Act.put, List.setIfInBounds_toArray, List.set_cons_zero, List.set_cons_succ, Nat.reduceAdd, Nat.zero_add] at hK
        simp only [hn] at hK ⊢
        go_wp2
        exact hK _ _ (Below.refl _ _) rfl
    case hend =>
      intro vs wx hJ hv
      simp [planHave, eqV] at hv
      obtain ⟨e0, e1, e2, e3, e4, e5, e6, e7, e8, e9, e10, e11, e12, e13, e14, e15, e16⟩ := hv
      simp only [List.take_succ_cons, List.take_zero, List.drop_succ_cons, List.drop_zero, planPut, Act.put, List.setIfInBounds_toArray, List.set_cons_zero, List.set_cons_succ, Nat.reduceAdd, Nat.zero_add]
      rw [e0, e1, e2, e3, e4, e5, e6, e7, e8, e9, e10, e11, e12, e13, e14, e15, e16]
      clear e0 e1 e2 e3 e4 e5 e6 e7 e8 e9 e10 e11 e12 e13 e14 e15 e16
      rename World => w12
      replace HB := Lib.hid (below_step HB.out hJ)
      replace HS := Lib.hid (HS.out.below hJ)
      replace HX := Lib.hid (HX.out.below hJ)
      replace HC := Lib.hid (HC.out.below hJ)
      replace HL := Lib.hid (HL.out.below rKept_ok (by decide) hJ)
      replace HY := Lib.hid (HY.out.below hJ)
      clear hJ
      have b0 := HX.out.cell 0 _ rfl; have b1 := HX.out.cell 1 _ rfl; have b2 := HX.out.cell 2 _ rfl; have b3 := HX.out.cell 3 _ rfl
      have HMA := Lib.hid (maApply_calls t _ _ _ _ E w12 HS.out HFW.out.ok (by omega) HDE.out)
      have HTL := Lib.hid (show T.pairs.length ≤ 5 from by
        have := (apply_ok HFW.out.ok (by omega) HDE.out).2.1.ok.pair.len
        rw [HAP.out] at this
        exact this)
      rw [HAP.out] at HMA
      go_wp2_with fail
      refine HMA.out.mono ?_
      rintro e w13 ⟨vl3, vp3, vs3, rfl, hst3, hb13⟩
      simp only at hst3
      obtain ⟨al3, cl3, rfl, -, -, -, -⟩ := id hst3.lock; obtain ⟨ap3, cp3, rfl, -, -, -, -⟩ := id hst3.pair; obtain ⟨az3, cz3, rfl, -, -, -, -⟩ := id hst3.sess
      have HT := Lib.hid hst3
      clear b0 b1 b2 b3 hst3 HMA
      replace HB := Lib.hid (below_step HB.out hb13)
      replace HS := Lib.hid (HS.out.below hb13)
      replace HX := Lib.hid (HX.out.below hb13)
      replace HC := Lib.hid (HC.out.below hb13)
      replace HL := Lib.hid (HL.out.below rKept_ok (by decide) hb13)
      replace HY := Lib.hid (HY.out.below hb13)
      clear hb13
      go_upto_region 19 with (fail)
      have HTX := Lib.hid ((BoxAt.new (w := w13) (cs := [.int .i64 T.index, .slice al3 T.locks.length cl3, .slice ap3 T.pairs.length cp3, .slice az3 T.sessions.length cz3]) (E := 27)).below (below_alloc _ (.cells #[.int .i64 R.code, .int .i64 R.n, .string ⟨R.text.toArray⟩] 53)))
      have hx2 := BoxAt.new (w := w13.alloc (.cells #[.int .i64 T.index, .slice al3 T.locks.length cl3, .slice ap3 T.pairs.length cp3, .slice az3 T.sessions.length cz3] 27)) (cs := [.int .i64 R.code, .int .i64 R.n, .string ⟨R.text.toArray⟩]) (E := 53)
      rw [World.size_alloc] at hx2
      have HRX := Lib.hid hx2
      have hba := below_alloc2 w13 (.cells #[.int .i64 T.index, .slice al3 T.locks.length cl3, .slice ap3 T.pairs.length cp3, .slice az3 T.sessions.length cz3] 27) (.cells #[.int .i64 R.code, .int .i64 R.n, .string ⟨R.text.toArray⟩] 53)
      clear hx2
      replace HB := Lib.hid (below_step HB.out hba)
      replace HS := Lib.hid (HS.out.below hba)
      replace HX := Lib.hid (HX.out.below hba)
      replace HC := Lib.hid (HC.out.below hba)
      replace HL := Lib.hid (HL.out.below rKept_ok (by decide) hba)
      replace HY := Lib.hid (HY.out.below hba)
      replace HT := Lib.hid (HT.out.below hba)
      clear hba
      generalize (w13.alloc (.cells #[.int .i64 T.index, .slice al3 T.locks.length cl3, .slice ap3 T.pairs.length cp3, .slice az3 T.sessions.length cz3] 27)).alloc (.cells #[.int .i64 R.code, .int .i64 R.n, .string ⟨R.text.toArray⟩] 53) = w14 at *
      generalize w13.heap.size = BT at *
      have b0 := HX.out.cell 0 _ rfl; have b2 := HX.out.cell 2 _ rfl; have b3 := HX.out.cell 3 _ rfl; have y3 := HY.out.cell 3 _ rfl
      have r0 := HRX.out.cell 0 _ rfl; have r1 := HRX.out.cell 1 _ rfl; have tx2 := HTX.out.cell 2 _ rfl
      by_cases h40 : 40 < t.index + 1 - x.last
      · obtain ⟨hc11, hpe⟩ := HM1.out h40
        have HEQ := Lib.hid (equalPair_calls t.pairs T.pairs _ _ _ _ w14 HS.out.pair HT.out.pair (by rw [hpe]; have := HTL.out; omega) (by have := HTL.out; omega))
        rw [decide_eq_true hpe] at HEQ
        rw [hc11] at r0
        clear hpe
        go_wp2_with fail
        refine HEQ.out.mono ?_
        rintro e w15 ⟨rfl, hb15⟩
        go_wp2
        go_ret
        exact ⟨rfl, below_step HB.out hb15⟩
      have hxl2 := hxl.2.2
      go_upto_region 23 with (fail)
      have HCL := Lib.hid (cloneSess_calls rSession_ok w14 _ t.sessions _ HS.out.sess (by omega))
      have hBlt := HX.out.lt
      go_wp2_with fail
      refine HCL.out.mono ?_
      rintro e w15 ⟨v15, rfl, ho15, hb15, hv15⟩
      have hin := fun args w => MuLone.run_callFunc_enter Tryz.func25 (by kernel_rfl) rfl args w
      have hx15 := HX.out.below hb15
      have hown : ∀ g, v15.ownBlock = some g → w2.heap.size ≤ g := fun g hg => by have := hv15 g hg; omega
      have hp : TellsSess w15 v15.ownBlock (fun b => w2.heap.size ≤ b) 25 (.pointer (some ⟨B, 0, none⟩)) (fun y => decide (RowKit.wrap64 (t.index + 1 - y.last) ≤ 40)) := fun w' y rv' hg hr =>
        fh2_calls w' y rv' (by obtain ⟨v, e, a, c, hv, _⟩ := hr; cases e; rw [hv]; rfl) B t.index ((World.cell?_of_block (hg.block _ hx15.lt (fun e => by have := hv15 B e.symm; omega))).trans (hx15.cell 0 _ rfl)) hti
      have HDF := Lib.hid (deleteFuncSess_calls w15 v15 t.sessions _ ho15 hown (by omega) 25 (.pointer (some ⟨B, 0, none⟩)) _ hin hp)
      have hone15 := ho15.oneCell
      have HO15 := Lib.hid hv15
      have HB15 := Lib.hid hb15
      clear hp hin ho15 hown hx15 HCL hb15 hv15
      go_wp2_with fail
      refine HDF.out.mono ?_
      rintro e w16 ⟨v16, rfl, ho16, hg16, -⟩
      have hb16 := HB15.out.grown hg16 HB15.out.size fun g hg => HO15.out g hg
      clear HDF hg16 b0 b2 b3 y3 r0 r1 tx2
      obtain ⟨a16, c16, e16⟩ := ho16.shape
      subst e16
      clear ho16
      replace HB := Lib.hid (below_step HB.out hb16)
      replace HS := Lib.hid (HS.out.below hb16)
      replace HX := Lib.hid (HX.out.below hb16)
      replace HC := Lib.hid (HC.out.below hb16)
      replace HL := Lib.hid (HL.out.below rKept_ok (by decide) hb16)
      replace HY := Lib.hid (HY.out.below hb16)
      replace HT := Lib.hid (HT.out.below hb16)
      replace HTX := Lib.hid (HTX.out.below hb16)
      replace HRX := Lib.hid (HRX.out.below hb16)
      clear hb16
      by_cases hz : 0 < (t.sessions.filter fun y => !decide (RowKit.wrap64 (t.index + 1 - y.last) ≤ 40)).length
      · generalize (t.sessions.filter fun y => !decide (RowKit.wrap64 (t.index + 1 - y.last) ≤ 40)).length = zz at *
        go_wp2
        go_ret
        exact ⟨rfl, HB.out⟩
      have HALL := Lib.hid (show ∀ y ∈ t.sessions, t.index + 1 - y.last ≤ 40 from fun y hy => by
        have h0 : (t.sessions.filter fun y => !decide (RowKit.wrap64 (t.index + 1 - y.last) ≤ 40)) = [] := List.eq_nil_of_length_eq_zero (by omega)
        have h1 := List.filter_eq_nil_iff.1 h0 y hy
        have h2 := HFW.out.ok.sess.bad y hy
        unfold sessBad at h2
        have h3 : RowKit.wrap64 (t.index + 1 - y.last) = t.index + 1 - y.last := by rw [RowKit.wrap64]; omega
        simpa [h3] using h1)
      generalize (t.sessions.filter fun y => !decide (RowKit.wrap64 (t.index + 1 - y.last) ≤ 40)).length = zz at *
      obtain rfl : zz = 0 := by omega
      clear hz
      obtain ⟨hM3, hM4⟩ := HM2.out HALL.out
      have HM3 := Lib.hid hM3; have HM4 := Lib.hid hM4
      clear hM3 hM4 HALL
      have c0 := HC.out.cell 0 _ rfl
      go_upto_region 26 with (fail)
      have b2 := HX.out.cell 2 _ rfl; have r0 := HRX.out.cell 0 _ rfl; have r1 := HRX.out.cell 1 _ rfl; have tx2 := HTX.out.cell 2 _ rfl
      by_cases hh : lw1 ≠ 1 + c ∨ lw2 ≠ 1 + p
      · obtain ⟨hc10, hrn, hpe⟩ := HM3.out hh
        have HEQ := Lib.hid (equalPair_calls t.pairs T.pairs _ _ _ _ w16 HS.out.pair HT.out.pair (by rw [hpe]; have := HTL.out; omega) (by have := HTL.out; omega))
        rw [decide_eq_true hpe] at HEQ
        rw [hc10] at r0
        rw [hrn] at r1
        clear hpe hc10 hrn
        have HH := Lib.hid hh
        by_cases h1 : lw1 = 1 + c
        · have h1b : (lw1 != 1 + c) = false := by simpa using h1
          have h2b : (lw2 != 1 + p) = true := by rcases HH.out with h | h; exact absurd h1 h; simpa using h
          clear hh h1
          go_wp2_with fail
          refine HEQ.out.mono ?_
          rintro e w17 ⟨rfl, hb17⟩
          go_wp2
          go_ret
          exact ⟨rfl, below_step HB.out hb17⟩
        · have h1b : (lw1 != 1 + c) = true := by simpa using h1
          clear hh h1
          go_wp2_with fail
          refine HEQ.out.mono ?_
          rintro e w17 ⟨rfl, hb17⟩
          go_wp2
          go_ret
          exact ⟨rfl, below_step HB.out hb17⟩
      have e1' : lw1 = 1 + c := Decidable.byContradiction fun h => hh (.inl h)
      have e2' : lw2 = 1 + p := Decidable.byContradiction fun h => hh (.inr h)
      obtain ⟨hc0', hget, hprok⟩ := HM4.out e1' e2'
      have h1b : (lw1 != 1 + c) = false := by simpa using e1'
      have h2b : (lw2 != 1 + p) = false := by simpa using e2'
      have HGT := Lib.hid hget; have HPK := Lib.hid hprok; have HRC := Lib.hid hc0'
      clear hh e1' e2' hc0' hget hprok b2 r0 r1 tx2
      go_upto_region 28 with (fail)
      clear h1b h2b c0
      refine wp_region_planD 11 (fun wx => Below w16.heap.size w16 wx) (fun i wx wy => (i = 9 → StoreB w16.heap.size 3 wx wy) ∧ (i ≠ 9 → Below wx.heap.size wx wy)) [eqD (.pointer (some ⟨BT, 2, none⟩)), eqD (.slice ap3 T.pairs.length cp3), eqD (.int .i64 nn), eqD (.string ⟨nm.toArray⟩), eqD (.tuple #[.agg #[.int .i64 0, .int .i64 R.n, .string ⟨#[110, 101, 119]⟩], .int .i64 0]), eqD (.tuple #[.agg #[.int .i64 0, .int .i64 R.n, .string ⟨#[110, 101, 119]⟩], .int .i64 0]), eqD (.agg #[.int .i64 0, .int .i64 R.n, .string ⟨#[110, 101, 119]⟩]), eqD (.int .i64 0), (fun _ v wx => BoxN w16.heap.size 3 v wx), (fun vs _ wx => BoxIs w16.heap.size 8 [.int .i64 0, .int .i64 R.n, .string ⟨#[110, 101, 119]⟩] vs wx), eqD (.int .i64 0)] (by kernel_rfl) (by kernel_rfl) rfl ?hJ ?hJS ?hst ?hself ?hobl ?hend
      case hJ => exact Below.drew (Below.refl _ _)
      case hJS =>
        intro i wx wy hi h1 h2
        by_cases h : i = 9
        · exact (h2.1 h).below h1
        · exact below_step h1 (h2.2 h)
      case hst =>
        intro i j vs x wa wb hi hj hne hwf hJ hS hV
        match j, hj with
        | 0, _ => exact hV
        | 1, _ => exact hV
        | 2, _ => exact hV
        | 3, _ => exact hV
        | 4, _ => exact hV
        | 5, _ => exact hV
        | 6, _ => exact hV
        | 7, _ => exact hV
        | 8, _ =>
          by_cases h : i = 9
          · exact BoxN.store hV (hS.1 h)
          · exact BoxN.below hV (hS.2 h)
        | 9, _ =>
          have h1 : i ≠ 9 := fun h => hne h
          have h2 : ¬ 8 = i := by
            intro h; subst h
            exact absurd (Eq.trans (show false = Region.waitsFor Region.Mode.any _ 9 8 from hwf.symm) (show _ = true by kernel_rfl)) (by decide)
          exact BoxIs.below hV (hS.2 h1) h2 x
        | 10, _ => exact hV
        | n + 11, hj => exact absurd hj (by omega)
      case hself =>
        intro i vs v w hi hV
        match i, hi with
        | 0, _ => exact hV
        | 1, _ => exact hV
        | 2, _ => exact hV
        | 3, _ => exact hV
        | 4, _ => exact hV
        | 5, _ => exact hV
        | 6, _ => exact hV
        | 7, _ => exact hV
        | 8, _ => exact hV
        | 9, _ =>
          obtain ⟨b, e1, hL, hb⟩ := hV
          exact ⟨b, by simp only [upd1]; exact e1, hL, hb⟩
        | 10, _ => exact hV
        | n + 11, hi => exact absurd hi (by omega)
      case hobl =>
        simp only [planOblsD, List.take_succ_cons, List.take_zero, planPut, Act.put, List.setIfInBounds_toArray, List.set_cons_zero, List.set_cons_succ, Nat.reduceAdd, Nat.zero_add]
        refine ⟨?_, ?_, ?_, ?_, ?_, ?_, ?_, ?_, ?_, ?_, ?_, trivial⟩
        · intro vs wx hJ hn K hK
          simp [planNeedsD, VDAt, eqD, Region.binds] at hn
          simp only [VDAt, eqD, List.getD_cons_zero, List.getD_cons_succ, Act.put, List.setIfInBounds_toArray, List.set_cons_zero, List.set_cons_succ, Nat.reduceAdd, Nat.zero_add] at hK
          go_wp2
          exact hK _ _ ⟨fun h => absurd h (by decide), fun _ => Below.refl _ _⟩ rfl
        · intro vs wx hJ hn K hK
          simp [planNeedsD, VDAt, eqD, Region.binds] at hn
          simp only [VDAt, eqD, List.getD_cons_zero, List.getD_cons_succ, Act.put, List.setIfInBounds_toArray, List.set_cons_zero, List.set_cons_succ, Nat.reduceAdd, Nat.zero_add] at hK
          simp only [hn] at hK ⊢
          have tx2 := (HTX.out.below hJ).cell 2 _ rfl
          go_wp2
          exact hK _ _ ⟨fun h => absurd h (by decide), fun _ => Below.refl _ _⟩ rfl
        · intro vs wx hJ hn K hK
          simp [planNeedsD, VDAt, eqD, Region.binds] at hn
          simp only [VDAt, eqD, List.getD_cons_zero, List.getD_cons_succ, Act.put, List.setIfInBounds_toArray, List.set_cons_zero, List.set_cons_succ, Nat.reduceAdd, Nat.zero_add] at hK
          go_wp2
          exact hK _ _ ⟨fun h => absurd h (by decide), fun _ => Below.refl _ _⟩ rfl
        · intro vs wx hJ hn K hK
          simp [planNeedsD, VDAt, eqD, Region.binds] at hn
          simp only [VDAt, eqD, List.getD_cons_zero, List.getD_cons_succ, Act.put, List.setIfInBounds_toArray, List.set_cons_zero, List.set_cons_succ, Nat.reduceAdd, Nat.zero_add] at hK
          simp only [hn] at hK ⊢
          go_wp2_with fail
          refine (kname_calls nn HN1.out HN2.out _).mono ?_
          rw [HNM.out]; rintro e w8 ⟨rfl, hb8⟩
          go_wp2
          exact hK _ _ ⟨fun h => absurd h (by decide), fun _ => hb8⟩ rfl
        · intro vs wx hJ hn K hK
          simp [planNeedsD, VDAt, eqD, Region.binds] at hn
          simp only [VDAt, eqD, List.getD_cons_zero, List.getD_cons_succ, Act.put, List.setIfInBounds_toArray, List.set_cons_zero, List.set_cons_succ, Nat.reduceAdd, Nat.zero_add] at hK
          simp only [hn] at hK ⊢
          go_wp2_with fail
          refine (prGet_calls T.pairs nm _ _ _ (HT.out.pair.below rPair_ok (by decide) hJ) HPK.out).mono ?_
          rw [HGT.out]; rintro e w9 ⟨rfl, hb9⟩
          go_wp2
          exact hK _ _ ⟨fun h => absurd h (by decide), fun _ => hb9⟩ rfl
        · intro vs wx hJ hn K hK
          simp [planNeedsD, VDAt, eqD, Region.binds] at hn
          simp only [VDAt, eqD, List.getD_cons_zero, List.getD_cons_succ, Act.put, List.setIfInBounds_toArray, List.set_cons_zero, List.set_cons_succ, Nat.reduceAdd, Nat.zero_add] at hK
          simp only [hn] at hK ⊢
          go_wp2
          exact hK _ _ ⟨fun h => absurd h (by decide), fun _ => Below.refl _ _⟩ rfl
        · intro vs wx hJ hn K hK
          simp [planNeedsD, VDAt, eqD, Region.binds] at hn
          simp only [VDAt, eqD, List.getD_cons_zero, List.getD_cons_succ, Act.put, List.setIfInBounds_toArray, List.set_cons_zero, List.set_cons_succ, Nat.reduceAdd, Nat.zero_add] at hK
          simp only [hn] at hK ⊢
          go_wp2
          exact hK _ _ ⟨fun h => absurd h (by decide), fun _ => Below.refl _ _⟩ rfl
        · intro vs wx hJ hn K hK
          simp [planNeedsD, VDAt, eqD, Region.binds] at hn
          simp only [VDAt, eqD, List.getD_cons_zero, List.getD_cons_succ, Act.put, List.setIfInBounds_toArray, List.set_cons_zero, List.set_cons_succ, Nat.reduceAdd, Nat.zero_add] at hK
          simp only [hn] at hK ⊢
          go_wp2
          exact hK _ _ ⟨fun h => absurd h (by decide), fun _ => Below.refl _ _⟩ rfl
        · intro vs wx hJ hn K hK
          simp only [VDAt, eqD, List.getD_cons_zero, List.getD_cons_succ, Act.put, List.setIfInBounds_toArray, List.set_cons_zero, List.set_cons_succ, Nat.reduceAdd, Nat.zero_add] at hK
          go_wp2
          exact hK _ _ ⟨fun h => absurd h (by decide), fun _ => below_alloc wx _⟩ (BoxN.new _ [.int .i64 0, .int .i64 0, .string ⟨#[]⟩] _ hJ.size)
        · intro vs wx hJ hn K hK
          simp only [VDAt, eqD, List.getD_cons_zero, List.getD_cons_succ, Act.put, List.setIfInBounds_toArray, List.set_cons_zero, List.set_cons_succ, Nat.reduceAdd, Nat.zero_add] at hK
          obtain ⟨hA, hB, -⟩ := hn
          obtain ⟨b, cs, hcl, e1, hL, hbx⟩ : BoxN w16.heap.size 3 (vs 8) wx := hA rfl (by decide)
          have e2 : vs 6 = .agg #[.int .i64 0, .int .i64 R.n, .string ⟨#[110, 101, 119]⟩] := hB rfl (by decide)
          obtain ⟨z0, z1, z2, rfl⟩ : ∃ z0 z1 z2, cs = [z0, z1, z2] := by
            match cs, hcl with
            | [z0, z1, z2], _ => exact ⟨z0, z1, z2, rfl⟩
          simp only [e1, e2] at hK ⊢
          have c0 := hbx.cell 0 _ rfl; have t0 := hbx.thaw 0; have c1 := hbx.cell 1 _ rfl; have t1 := hbx.thaw 1; have c2 := hbx.cell 2 _ rfl; have t2 := hbx.thaw 2
          have hsc : StoreB w16.heap.size 3 wx (((wx.setCell ⟨b, 0, none⟩ (.int .i64 0)).setCell ⟨b, 1, none⟩ (.int .i64 R.n)).setCell ⟨b, 2, none⟩ (.string ⟨#[110, 101, 119]⟩)) := ⟨b, [.int .i64 0, .int .i64 R.n, .string ⟨#[110, 101, 119]⟩], rfl, hL, rfl⟩
          have hp := (((hbx.set 0 (by simp) (.int .i64 0)).set 1 (by simp) (.int .i64 R.n)).set 2 (by simp) (.string ⟨#[110, 101, 119]⟩))
          go_wp2
          exact hK undef _ ⟨fun _ => hsc, fun h => absurd rfl h⟩ ⟨b, e1, hL, hp⟩
        · intro vs wx hJ hn K hK
          simp [planNeedsD, VDAt, eqD, Region.binds] at hn
          simp only [VDAt, eqD, List.getD_cons_zero, List.getD_cons_succ, Act.put, List.setIfInBounds_toArray, List.set_cons_zero, List.set_cons_succ, Nat.reduceAdd, Nat.zero_add] at hK
          simp only [hn] at hK ⊢
          go_wp2
          exact hK _ _ ⟨fun h => absurd h (by decide), fun _ => Below.refl _ _⟩ rfl
      case hend =>
        intro vs wx hJ hv
        obtain ⟨e0, e1, e2, e3, e4, e5, e6, e7, -, ⟨b, e8, hbL, hbx⟩, e10, -⟩ := hv
        simp only [eqD] at e0 e1 e2 e3 e4 e5 e6 e7 e10
        simp only [List.take_succ_cons, List.take_zero, List.drop_succ_cons, List.drop_zero, planPut, Act.put, List.setIfInBounds_toArray, List.set_cons_zero, List.set_cons_succ, Nat.reduceAdd, Nat.zero_add]
        rw [e0, e1, e2, e3, e4, e5, e6, e7, e8, e10]
        clear e0 e1 e2 e3 e4 e5 e6 e7 e8 e10
        rename World => w17
        replace HB := Lib.hid (below_step HB.out hJ)
        replace HS := Lib.hid (HS.out.below hJ)
        replace HX := Lib.hid (HX.out.below hJ)
        replace HC := Lib.hid (HC.out.below hJ)
        replace HL := Lib.hid (HL.out.below rKept_ok (by decide) hJ)
        replace HY := Lib.hid (HY.out.below hJ)
        replace HT := Lib.hid (HT.out.below hJ)
        replace HTX := Lib.hid (HTX.out.below hJ)
        replace HRX := Lib.hid (HRX.out.below hJ)
        clear hJ hbL
        have r0 := HRX.out.cell 0 _ rfl; have r1 := HRX.out.cell 1 _ rfl
        have z1 := hbx.cell 1 _ rfl; have z2 := hbx.cell 2 _ rfl
        rw [HRC.out] at r0
        go_wp2
        go_ret
        exact ⟨rfl, HB.out⟩
end Go.Proofs.YtcmmenmjclgjmaaGreatDoor
