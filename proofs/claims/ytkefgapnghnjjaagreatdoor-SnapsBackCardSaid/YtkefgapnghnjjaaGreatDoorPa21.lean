/- A part of the proof, laid together from: SnapF, BSearchLock, BSearchLockW. -/
import Derived.Test.YtkefgapnghnjjaaGreatDoorPa20
import Derived.Test.YtkefgapnghnjjaaGreatDoorRows
import Derived.Test.YtkefgapnghnjjaaGreatDoorPa10
import Derived.Test.YtkefgapnghnjjaaGreatDoorPa02
import Derived.Test.YtkefgapnghnjjaaGreatDoorPa16
import Derived.Test.YtkefgapnghnjjaaGreatDoorPa03
import Derived.WalkLawsBesides
import Derived.BigQuiet
import Derived.Deep.QuietTactic
set_option linter.unusedSimpArgs false
set_option linter.unusedVariables false
/- snap.Decode: of what was written; of what is too short, or has another sum. -/
namespace Go.Proofs.YtkefgapnghnjjaaGreatDoor
open Go.RowKit Go.Tk
set_option linter.unusedSimpArgs false in
set_option maxRecDepth 100000 in
set_option maxHeartbeats 6400000 in
theorem decode_short_calls (b : List UInt8) (hb : b.length < 4) (w : World) : Calls Tryz.prog 29 #[.string ⟨b.toArray⟩] w fun e w' => e = .returned (.tuple #[.agg #[.int .i64 0, .slice none 0 0, .slice none 0 0, .slice none 0 0], .int .i64 5]) ∧ Below w.heap.size w w' := by
  go_enter Tryz.func29, Tryz.ntmps29
  go_upto_region 1 with (fail)
  have HZ := Lib.hid (BoxAt.new (w := w) (cs := [.int .i64 0, .slice none 0 0, .slice none 0 0, .slice none 0 0]) (E := 36))
  have HB := Lib.hid (below_alloc w (.cells #[.int .i64 0, .slice none 0 0, .slice none 0 0, .slice none 0 0] 36))
  generalize w.alloc (.cells #[.int .i64 0, .slice none 0 0, .slice none 0 0, .slice none 0 0] 36) = w1 at *
  have z0 := HZ.out.cell 0 _ rfl; have z1 := HZ.out.cell 1 _ rfl; have z2 := HZ.out.cell 2 _ rfl; have z3 := HZ.out.cell 3 _ rfl
  have t0 := HZ.out.thaw 0; have t1 := HZ.out.thaw 1; have t2 := HZ.out.thaw 2; have t3 := HZ.out.thaw 3
  have HF := Lib.hid ((((HZ.out.set 0 (by simp) (.int .i64 0)).set 1 (by simp) (.slice none 0 0)).set 2 (by simp) (.slice none 0 0)).set 3 (by simp) (.slice none 0 0))
  have HBF := Lib.hid (below_set (below_set (below_set (below_set HB.out (Nat.le_refl _) 0 (.int .i64 0)) (Nat.le_refl _) 1 (.slice none 0 0)) (Nat.le_refl _) 2 (.slice none 0 0)) (Nat.le_refl _) 3 (.slice none 0 0))
  go_wp2
  generalize (((w1.setCell ⟨w.heap.size, 0, none⟩ (.int .i64 0)).setCell ⟨w.heap.size, 1, none⟩ (.slice none 0 0)).setCell ⟨w.heap.size, 2, none⟩ (.slice none 0 0)).setCell ⟨w.heap.size, 3, none⟩ (.slice none 0 0) = wf at *
  have g0 := HF.out.cell 0 _ rfl; have g1 := HF.out.cell 1 _ rfl; have g2 := HF.out.cell 2 _ rfl; have g3 := HF.out.cell 3 _ rfl
  refine bodyPost_ret (v := .tuple #[.agg #[.int .i64 0, .slice none 0 0, .slice none 0 0, .slice none 0 0], .int .i64 5]) (by simp [results, Tryz.results29, go_sem, g0, g1, g2, g3]) rfl ⟨rfl, HBF.out⟩
set_option linter.unusedSimpArgs false in
set_option maxRecDepth 100000 in
set_option maxHeartbeats 6400000 in
theorem decode_sum_calls (b : List UInt8) (k : Nat) (hk : b.length = k + 4) (hl : b.length ≤ 5000) (hne : sealB (b.take k) ≠ b.drop k) (w : World) : Calls Tryz.prog 29 #[.string ⟨b.toArray⟩] w fun e w' => e = .returned (.tuple #[.agg #[.int .i64 0, .slice none 0 0, .slice none 0 0, .slice none 0 0], .int .i64 15]) ∧ Below w.heap.size w w' := by
  have HNE := Lib.hid (show (sealB (b.take k) == (b.take (k + 4)).drop k) = false by rw [List.take_of_length_le (l := b) (i := k + 4) (by omega)]; simpa using hne)
  clear hne
  go_enter Tryz.func29, Tryz.ntmps29
  go_upto_region 1 with (fail)
  have HZ := Lib.hid (BoxAt.new (w := w) (cs := [.int .i64 0, .slice none 0 0, .slice none 0 0, .slice none 0 0]) (E := 36))
  have HB := Lib.hid (below_alloc w (.cells #[.int .i64 0, .slice none 0 0, .slice none 0 0, .slice none 0 0] 36))
  generalize w.alloc (.cells #[.int .i64 0, .slice none 0 0, .slice none 0 0, .slice none 0 0] 36) = w1 at *
  go_upto_region 6 with (fail)
  have hk1 : (b.length : Int) - 4 = (k : Int) := by omega
  refine wp_region_plan 8 (fun wx => Below w1.heap.size w1 wx) (fun wx wy => Below wx.heap.size wx wy) [eqV (.string ⟨b.toArray⟩), eqV (.int .i64 (k : Int)), eqV (.string ⟨(b.take k).toArray⟩), eqV (.string ⟨(sealB (b.take k)).toArray⟩), eqV (.string ⟨b.toArray⟩), eqV (.int .i64 (k : Int)), eqV (.string ⟨((b.take (k + 4)).drop k).toArray⟩), eqV (.bool true)] (by kernel_rfl) (by kernel_rfl) rfl ?hJ ?hJS ?hst ?hobl ?hend
  case hJ => exact Below.drew (Below.refl _ _)
  case hJS =>
    exact fun wx wy h1 h2 => below_step h1 h2
  case hst => exact planStab_at _ ⟨eqV_stab _, eqV_stab _, eqV_stab _, eqV_stab _, eqV_stab _, eqV_stab _, eqV_stab _, eqV_stab _, trivial⟩
  case hobl =>
    simp only [planObls, List.take_succ_cons, List.take_zero, planPut, Act.put, List.setIfInBounds_toArray, List.set_cons_zero, List.set_cons_succ, Nat.reduceAdd, Nat.zero_add]
    refine ⟨?_, ?_, ?_, ?_, ?_, ?_, ?_, ?_, trivial⟩
    · intro vs wx hJ hn K hK
      simp [planNeeds, VAt, eqV, Region.binds] at hn
      simp only [VAt, eqV, List.getD_cons_zero, List.getD_cons_succ, Act.put, List.setIfInBounds_toArray, List.set_cons_zero, List.set_cons_succ, Nat.reduceAdd, Nat.zero_add] at hK
      go_wp2
      exact hK _ _ (Below.refl _ _) rfl
    · intro vs wx hJ hn K hK
      simp [planNeeds, VAt, eqV, Region.binds] at hn
      simp only [VAt, eqV, List.getD_cons_zero, List.getD_cons_succ, Act.put, List.setIfInBounds_toArray, List.set_cons_zero, List.set_cons_succ, Nat.reduceAdd, Nat.zero_add] at hK
      go_wp2
      exact hK _ _ (Below.refl _ _) rfl
    · intro vs wx hJ hn K hK
      simp [planNeeds, VAt, eqV, Region.binds] at hn
      simp only [VAt, eqV, List.getD_cons_zero, List.getD_cons_succ, Act.put, List.setIfInBounds_toArray, List.set_cons_zero, List.set_cons_succ, Nat.reduceAdd, Nat.zero_add] at hK
      simp only [hn] at hK ⊢
      go_wp2
      exact hK _ _ (Below.refl _ _) rfl
    · intro vs wx hJ hn K hK
      simp [planNeeds, VAt, eqV, Region.binds] at hn
      simp only [VAt, eqV, List.getD_cons_zero, List.getD_cons_succ, Act.put, List.setIfInBounds_toArray, List.set_cons_zero, List.set_cons_succ, Nat.reduceAdd, Nat.zero_add] at hK
      simp only [hn] at hK ⊢
      go_wp2_with fail
      refine (seal_calls (b.take k) (by rw [List.length_take]; omega) _).mono ?_
      rintro e w8 ⟨rfl, hb8⟩
      go_wp2
      exact hK _ _ hb8 rfl
    · intro vs wx hJ hn K hK
      simp [planNeeds, VAt, eqV, Region.binds] at hn
      simp only [VAt, eqV, List.getD_cons_zero, List.getD_cons_succ, Act.put, List.setIfInBounds_toArray, List.set_cons_zero, List.set_cons_succ, Nat.reduceAdd, Nat.zero_add] at hK
      go_wp2
      exact hK _ _ (Below.refl _ _) rfl
    · intro vs wx hJ hn K hK
      simp [planNeeds, VAt, eqV, Region.binds] at hn
      simp only [VAt, eqV, List.getD_cons_zero, List.getD_cons_succ, Act.put, List.setIfInBounds_toArray, List.set_cons_zero, List.set_cons_succ, Nat.reduceAdd, Nat.zero_add] at hK
      go_wp2
      exact hK _ _ (Below.refl _ _) rfl
    · intro vs wx hJ hn K hK
      simp [planNeeds, VAt, eqV, Region.binds] at hn
      simp only [VAt, eqV, List.getD_cons_zero, List.getD_cons_succ, Act.put, List.setIfInBounds_toArray, List.set_cons_zero, List.set_cons_succ, Nat.reduceAdd, Nat.zero_add] at hK
      simp only [hn] at hK ⊢
      go_wp2
      exact hK _ _ (Below.refl _ _) rfl
    · intro vs wx hJ hn K hK
      simp [planNeeds, VAt, eqV, Region.binds] at hn
      simp only [VAt, eqV, List.getD_cons_zero, List.getD_cons_succ, Act.put, List.setIfInBounds_toArray, List.set_cons_zero, List.set_cons_succ, Nat.reduceAdd, Nat.zero_add] at hK
      simp only [hn] at hK ⊢
      have hne := HNE.out
      generalize sealB (b.take k) = x0 at *
      generalize (b.take (k + 4)).drop k = x1 at *
      go_wp2
      exact hK _ _ (Below.refl _ _) rfl
  case hend =>
    intro vs wx hJ hv
    simp [planHave, eqV] at hv
    obtain ⟨e0, e1, e2, e3, e4, e5, e6, e7⟩ := hv
    simp only [List.take_succ_cons, List.take_zero, List.drop_succ_cons, List.drop_zero, planPut, Act.put, List.setIfInBounds_toArray, List.set_cons_zero, List.set_cons_succ, Nat.reduceAdd, Nat.zero_add]
    rw [e0, e1, e2, e3, e4, e5, e6, e7]
    clear e0 e1 e2 e3 e4 e5 e6 e7
    have HZ := Lib.hid (HZ.out.below hJ)
    have HB := Lib.hid (below_step HB.out hJ)
    clear hJ
    rename World => w2
    have z0 := HZ.out.cell 0 _ rfl; have z1 := HZ.out.cell 1 _ rfl; have z2 := HZ.out.cell 2 _ rfl; have z3 := HZ.out.cell 3 _ rfl
    have t0 := HZ.out.thaw 0; have t1 := HZ.out.thaw 1; have t2 := HZ.out.thaw 2; have t3 := HZ.out.thaw 3
    have HF := Lib.hid ((((HZ.out.set 0 (by simp) (.int .i64 0)).set 1 (by simp) (.slice none 0 0)).set 2 (by simp) (.slice none 0 0)).set 3 (by simp) (.slice none 0 0))
    have HBF := Lib.hid (below_set (below_set (below_set (below_set HB.out (Nat.le_refl _) 0 (.int .i64 0)) (Nat.le_refl _) 1 (.slice none 0 0)) (Nat.le_refl _) 2 (.slice none 0 0)) (Nat.le_refl _) 3 (.slice none 0 0))
    go_wp2
    generalize (((w2.setCell ⟨w.heap.size, 0, none⟩ (.int .i64 0)).setCell ⟨w.heap.size, 1, none⟩ (.slice none 0 0)).setCell ⟨w.heap.size, 2, none⟩ (.slice none 0 0)).setCell ⟨w.heap.size, 3, none⟩ (.slice none 0 0) = wf at *
    have g0 := HF.out.cell 0 _ rfl; have g1 := HF.out.cell 1 _ rfl; have g2 := HF.out.cell 2 _ rfl; have g3 := HF.out.cell 3 _ rfl
    refine bodyPost_ret (v := .tuple #[.agg #[.int .i64 0, .slice none 0 0, .slice none 0 0, .slice none 0 0], .int .i64 15]) (by simp [results, Tryz.results29, go_sem, g0, g1, g2, g3]) rfl ⟨rfl, HBF.out⟩
set_option linter.unusedSimpArgs false in
set_option maxRecDepth 100000 in
set_option maxHeartbeats 6400000 in
theorem decode_st_calls (s : StateD) (hok : StOk s) (w : World) : Calls Tryz.prog 29 #[.string ⟨(encState s ++ sealB (encState s)).toArray⟩] w fun e w' => ∃ vl vp vs, e = .returned (.tuple #[.agg #[.int .i64 s.index, vl, vp, vs], .int .i64 0]) ∧ StAt w' s vl vp vs (fun b => w.heap.size ≤ b) ∧ Below w.heap.size w w' := by
  obtain ⟨k, hkk⟩ : ∃ k, (encState s).length = k := ⟨_, rfl⟩
  have HTK := Lib.hid (show (encState s ++ sealB (encState s)).take k = encState s by rw [← hkk]; simp)
  have hk : (encState s ++ sealB (encState s)).length = k + 4 := by rw [List.length_append, seal_len, hkk]
  have hl : (encState s ++ sealB (encState s)).length ≤ 5000 := by have := encState_len hok; omega
  have HNE := Lib.hid (show (sealB ((encState s ++ sealB (encState s)).take k) == ((encState s ++ sealB (encState s)).take (k + 4)).drop k) = true by
    rw [List.take_of_length_le (l := encState s ++ sealB (encState s)) (i := k + 4) (by omega), HTK.out, ← hkk]; simp)
  have HOK := Lib.hid hok
  clear hkk hok
  generalize encState s ++ sealB (encState s) = b at *
  go_enter Tryz.func29, Tryz.ntmps29
  go_upto_region 1 with (fail)
  have HZ := Lib.hid (BoxAt.new (w := w) (cs := [.int .i64 0, .slice none 0 0, .slice none 0 0, .slice none 0 0]) (E := 36))
  have HB := Lib.hid (below_alloc w (.cells #[.int .i64 0, .slice none 0 0, .slice none 0 0, .slice none 0 0] 36))
  generalize w.alloc (.cells #[.int .i64 0, .slice none 0 0, .slice none 0 0, .slice none 0 0] 36) = w1 at *
  go_upto_region 6 with (fail)
  have hk1 : (b.length : Int) - 4 = (k : Int) := by omega
  refine wp_region_plan 8 (fun wx => Below w1.heap.size w1 wx) (fun wx wy => Below wx.heap.size wx wy) [eqV (.string ⟨b.toArray⟩), eqV (.int .i64 (k : Int)), eqV (.string ⟨(b.take k).toArray⟩), eqV (.string ⟨(sealB (b.take k)).toArray⟩), eqV (.string ⟨b.toArray⟩), eqV (.int .i64 (k : Int)), eqV (.string ⟨((b.take (k + 4)).drop k).toArray⟩), eqV (.bool false)] (by kernel_rfl) (by kernel_rfl) rfl ?hJ ?hJS ?hst ?hobl ?hend
  case hJ => exact Below.drew (Below.refl _ _)
  case hJS =>
    exact fun wx wy h1 h2 => below_step h1 h2
  case hst => exact planStab_at _ ⟨eqV_stab _, eqV_stab _, eqV_stab _, eqV_stab _, eqV_stab _, eqV_stab _, eqV_stab _, eqV_stab _, trivial⟩
  case hobl =>
    simp only [planObls, List.take_succ_cons, List.take_zero, planPut, Act.put, List.setIfInBounds_toArray, List.set_cons_zero, List.set_cons_succ, Nat.reduceAdd, Nat.zero_add]
    refine ⟨?_, ?_, ?_, ?_, ?_, ?_, ?_, ?_, trivial⟩
    · intro vs wx hJ hn K hK
      simp [planNeeds, VAt, eqV, Region.binds] at hn
      simp only [VAt, eqV, List.getD_cons_zero, List.getD_cons_succ, Act.put, List.setIfInBounds_toArray, List.set_cons_zero, List.set_cons_succ, Nat.reduceAdd, Nat.zero_add] at hK
      go_wp2
      exact hK _ _ (Below.refl _ _) rfl
    · intro vs wx hJ hn K hK
      simp [planNeeds, VAt, eqV, Region.binds] at hn
      simp only [VAt, eqV, List.getD_cons_zero, List.getD_cons_succ, Act.put, List.setIfInBounds_toArray, List.set_cons_zero, List.set_cons_succ, Nat.reduceAdd, Nat.zero_add] at hK
      go_wp2
      exact hK _ _ (Below.refl _ _) rfl
    · intro vs wx hJ hn K hK
      simp [planNeeds, VAt, eqV, Region.binds] at hn
      simp only [VAt, eqV, List.getD_cons_zero, List.getD_cons_succ, Act.put, List.setIfInBounds_toArray, List.set_cons_zero, List.set_cons_succ, Nat.reduceAdd, Nat.zero_add] at hK
      simp only [hn] at hK ⊢
      go_wp2
      exact hK _ _ (Below.refl _ _) rfl
    · intro vs wx hJ hn K hK
      simp [planNeeds, VAt, eqV, Region.binds] at hn
      simp only [VAt, eqV, List.getD_cons_zero, List.getD_cons_succ, Act.put, List.setIfInBounds_toArray, List.set_cons_zero, List.set_cons_succ, Nat.reduceAdd, Nat.zero_add] at hK
      simp only [hn] at hK ⊢
      go_wp2_with fail
      refine (seal_calls (b.take k) (by rw [List.length_take]; omega) _).mono ?_
      rintro e w8 ⟨rfl, hb8⟩
      go_wp2
      exact hK _ _ hb8 rfl
    · intro vs wx hJ hn K hK
      simp [planNeeds, VAt, eqV, Region.binds] at hn
      simp only [VAt, eqV, List.getD_cons_zero, List.getD_cons_succ, Act.put, List.setIfInBounds_toArray, List.set_cons_zero, List.set_cons_succ, Nat.reduceAdd, Nat.zero_add] at hK
      go_wp2
      exact hK _ _ (Below.refl _ _) rfl
    · intro vs wx hJ hn K hK
      simp [planNeeds, VAt, eqV, Region.binds] at hn
      simp only [VAt, eqV, List.getD_cons_zero, List.getD_cons_succ, Act.put, List.setIfInBounds_toArray, List.set_cons_zero, List.set_cons_succ, Nat.reduceAdd, Nat.zero_add] at hK
      go_wp2
      exact hK _ _ (Below.refl _ _) rfl
    · intro vs wx hJ hn K hK
      simp [planNeeds, VAt, eqV, Region.binds] at hn
      simp only [VAt, eqV, List.getD_cons_zero, List.getD_cons_succ, Act.put, List.setIfInBounds_toArray, List.set_cons_zero, List.set_cons_succ, Nat.reduceAdd, Nat.zero_add] at hK
      simp only [hn] at hK ⊢
      go_wp2
      exact hK _ _ (Below.refl _ _) rfl
    · intro vs wx hJ hn K hK
      simp [planNeeds, VAt, eqV, Region.binds] at hn
      simp only [VAt, eqV, List.getD_cons_zero, List.getD_cons_succ, Act.put, List.setIfInBounds_toArray, List.set_cons_zero, List.set_cons_succ, Nat.reduceAdd, Nat.zero_add] at hK
      simp only [hn] at hK ⊢
      have hne := HNE.out
      generalize sealB (b.take k) = x0 at *
      generalize (b.take (k + 4)).drop k = x1 at *
      go_wp2
      exact hK _ _ (Below.refl _ _) rfl
  case hend =>
    intro vs wx hJ hv
    simp [planHave, eqV] at hv
    obtain ⟨e0, e1, e2, e3, e4, e5, e6, e7⟩ := hv
    simp only [List.take_succ_cons, List.take_zero, List.drop_succ_cons, List.drop_zero, planPut, Act.put, List.setIfInBounds_toArray, List.set_cons_zero, List.set_cons_succ, Nat.reduceAdd, Nat.zero_add]
    rw [e0, e1, e2, e3, e4, e5, e6, e7]
    clear e0 e1 e2 e3 e4 e5 e6 e7
    have HZ := Lib.hid (HZ.out.below hJ)
    have HB := Lib.hid (below_step HB.out hJ)
    clear hJ
    rename World => w2
    have HR := Lib.hid (BoxAt.new (w := w2) (cs := [.string ⟨(b.take k).toArray⟩, .int .i64 0]) (E := 150))
    have hba := below_alloc w2 (.cells #[.string ⟨(b.take k).toArray⟩, .int .i64 0] 150)
    have hz2 := HZ.out.lt
    have hB2 := HB.out.size
    replace HZ := Lib.hid (HZ.out.below hba)
    replace HB := Lib.hid (below_step HB.out hba)
    clear hba
    go_upto_region 9 with (fail)
    generalize w2.alloc (.cells #[.string ⟨(b.take k).toArray⟩, .int .i64 0] 150) = w3 at *
    obtain ⟨R, hRe⟩ : ∃ R, w2.heap.size = R := ⟨_, rfl⟩
    rw [hRe] at HR hz2 hB2 ⊢
    clear hRe
    have hr0 := HR.out
    rw [HTK.out, ← List.append_nil (encState s)] at hr0
    have HST := Lib.hid (rstate_calls s HOK.out [] R w3 hr0 (by rw [List.append_nil]; have := encState_len HOK.out; omega))
    clear hr0
    go_wp2_with fail
    refine HST.out.mono ?_
    rintro e w4 ⟨vl, vp, vs, rfl, hst, hr4, hg4⟩
    obtain ⟨a1, c1, rfl, -, -, -, -⟩ := id hst.lock; obtain ⟨a2, c2, rfl, -, -, -, -⟩ := id hst.pair; obtain ⟨a3, c3, rfl, -, -, -, -⟩ := id hst.sess
    replace HZ := Lib.hid (HZ.out.grown hg4 (fun e => by have := Option.some.inj e; omega))
    replace HB := Lib.hid (HB.out.grown hg4 HB.out.size (fun q e => by have := Option.some.inj e; omega))
    have HX := Lib.hid (BoxAt.new (w := w4) (cs := [.int .i64 s.index, .slice a1 s.locks.length c1, .slice a2 s.pairs.length c2, .slice a3 s.sessions.length c3]) (E := 36))
    have hba := below_alloc w4 (.cells #[.int .i64 s.index, .slice a1 s.locks.length c1, .slice a2 s.pairs.length c2, .slice a3 s.sessions.length c3] 36)
    replace HZ := Lib.hid (HZ.out.below hba)
    replace HB := Lib.hid (below_step HB.out hba)
    have HRX := Lib.hid (hr4.below hba)
    have HS := Lib.hid ((hst.sub (S' := fun b => w.heap.size + 1 ≤ b) (fun b hb _ => by show _ ≤ _; have : w3.heap.size ≤ b := hb; have := HR.out.lt; omega)).below hba)
    clear hba hst hr4 hg4 HST HR
    go_upto_region 10 with (fail)
    generalize w4.alloc (.cells #[.int .i64 s.index, .slice a1 s.locks.length c1, .slice a2 s.pairs.length c2, .slice a3 s.sessions.length c3] 36) = w5 at *
    generalize w4.heap.size = X at *
    have r0 := HRX.out.cell 0 _ rfl; have r1 := HRX.out.cell 1 _ rfl
    have x0 := HX.out.cell 0 _ rfl; have x1 := HX.out.cell 1 _ rfl; have x2 := HX.out.cell 2 _ rfl; have x3 := HX.out.cell 3 _ rfl
    go_wp2_with fail
    refine (maCheck_calls s _ _ _ _ w5 HS.out HOK.out.fits).mono ?_
    rw [maCheck_ok.2 HOK.out]
    rintro e w6 ⟨rfl, hb6⟩
    clear r0 r1 x0 x1 x2 x3
    replace HZ := Lib.hid (HZ.out.below hb6); replace HB := Lib.hid (below_step HB.out hb6); replace HX := Lib.hid (HX.out.below hb6); replace HS := Lib.hid (HS.out.below hb6)
    have x0 := HX.out.cell 0 _ rfl; have x1 := HX.out.cell 1 _ rfl; have x2 := HX.out.cell 2 _ rfl; have x3 := HX.out.cell 3 _ rfl
    have z0 := HZ.out.cell 0 _ rfl; have z1 := HZ.out.cell 1 _ rfl; have z2 := HZ.out.cell 2 _ rfl; have z3 := HZ.out.cell 3 _ rfl
    have t0 := HZ.out.thaw 0; have t1 := HZ.out.thaw 1; have t2 := HZ.out.thaw 2; have t3 := HZ.out.thaw 3
    have HF := Lib.hid ((((HZ.out.set 0 (by simp) (.int .i64 s.index)).set 1 (by simp) (.slice a1 s.locks.length c1)).set 2 (by simp) (.slice a2 s.pairs.length c2)).set 3 (by simp) (.slice a3 s.sessions.length c3))
    have HBF := Lib.hid (below_set (below_set (below_set (below_set HB.out (Nat.le_refl _) 0 (.int .i64 s.index)) (Nat.le_refl _) 1 (.slice a1 s.locks.length c1)) (Nat.le_refl _) 2 (.slice a2 s.pairs.length c2)) (Nat.le_refl _) 3 (.slice a3 s.sessions.length c3))
    have HSF := Lib.hid (HS.out.move (w' := ((((w6.setCell ⟨w.heap.size, 0, none⟩ (.int .i64 s.index)).setCell ⟨w.heap.size, 1, none⟩ (.slice a1 s.locks.length c1)).setCell ⟨w.heap.size, 2, none⟩ (.slice a2 s.pairs.length c2)).setCell ⟨w.heap.size, 3, none⟩ (.slice a3 s.sessions.length c3))) (S' := fun b => w.heap.size ≤ b) fun q hq _ => ⟨(heap_far (by omega)).trans ((heap_far (by omega)).trans ((heap_far (by omega)).trans (heap_far (by omega)))), by show _ ≤ _; have : w.heap.size + 1 ≤ q := hq; omega⟩)
    go_wp2
    generalize ((((w6.setCell ⟨w.heap.size, 0, none⟩ (.int .i64 s.index)).setCell ⟨w.heap.size, 1, none⟩ (.slice a1 s.locks.length c1)).setCell ⟨w.heap.size, 2, none⟩ (.slice a2 s.pairs.length c2)).setCell ⟨w.heap.size, 3, none⟩ (.slice a3 s.sessions.length c3)) = wf at *
    have g0 := HF.out.cell 0 _ rfl; have g1 := HF.out.cell 1 _ rfl; have g2 := HF.out.cell 2 _ rfl; have g3 := HF.out.cell 3 _ rfl
    refine bodyPost_ret (v := .tuple #[.agg #[.int .i64 s.index, .slice a1 s.locks.length c1, .slice a2 s.pairs.length c2, .slice a3 s.sessions.length c3], .int .i64 0]) (by simp [results, Tryz.results29, go_sem, g0, g1, g2, g3]) rfl ⟨_, _, _, rfl, HSF.out, HBF.out⟩
end Go.Proofs.YtkefgapnghnjjaaGreatDoor

/- slices.BinarySearchFunc over locks, with the program's own comparison. -/
namespace Go.Proofs.YtkefgapnghnjjaaGreatDoor
open Go.RowKit Go.Tk

set_option maxRecDepth 100000 in
theorem cmpLock_calls (w : World) (x : LockD) (t : List UInt8) (rv : Value) (hrv : rv.oneCell' = true) :
    Calls Tryz.prog 154 #[.agg #[.string ⟨x.name.toArray⟩, .int .i64 x.holder, .int .i64 x.fence, rv], .string ⟨t.toArray⟩] w fun e w' => e = .returned (.int .i64 (lockCmp x t)) ∧ Below w.heap.size w w' := by
  go_enter Tryz.func154, Tryz.ntmps154
  go_wp2_with fail
  refine (compare_calls x.name t _).mono ?_; rintro e w' ⟨rfl, rfl⟩
  go_wp2
  go_ret
  exact ⟨rfl, (Below.refl _ _).alloc (Nat.le_refl _) _⟩
set_option maxRecDepth 100000 in
set_option maxHeartbeats 400000 in
theorem searchLock_calls (w : World) (v : Value) (l : List LockD) (S : Nat → Prop) (h : SlR 4 rLock w v l S) (hn : l.length ≤ 1000000) (t : List UInt8) :
    Calls Tryz.prog 53 #[v, .string ⟨t.toArray⟩, .func (.func 154) #[] #[]] w fun e w' =>
      e = .returned (.tuple #[.int .i64 (bs (fun i => lockCmp (l.getD i noLock) t) l.length : Nat), .bool (bsFound (fun i => lockCmp (l.getD i noLock) t) l.length)]) ∧ Below w.heap.size w w' := by
  obtain ⟨a, cap, hv, hl, hm, hnil, -⟩ := id h
  subst hv
  unfold maxLen at hm
  go_enter Tryz.func53, Tryz.ntmps53
  go_wp2
  go_loopw [9, 10, 11] (fun i j _ wr => ∃ p q : Nat, p ≤ q ∧ q ≤ l.length ∧ i = .int .i64 p ∧ j = .int .i64 q ∧ Hid (bsGo (fun i => lockCmp (l.getD i noLock) t) (q - p) p q = bs (fun i => lockCmp (l.getD i noLock) t) l.length) ∧ Below w.heap.size w wr)
    (fun i j _ _ => (intOf j).toNat - (intOf i).toNat)
  case atStart => exact ⟨0, l.length, by omega, by omega, rfl, rfl, rfl, Below.refl _ _⟩
  case round =>
    obtain ⟨p, q, hpq, hql, rfl, rfl, hgo, hb⟩ := hrel
    by_cases hlt : p < q
    · have hml : (p + q) / 2 < l.length := by omega
      obtain ⟨b, off, cap', row, hv, hS, hrow, hcells⟩ := (h.below rLock_ok (by decide) hb).row ((p + q) / 2) hml
      simp only [Value.slice.injEq] at hv
      obtain ⟨rfl, _, rfl⟩ := hv
      have hg : l.getD ((p + q) / 2) noLock = l[(p + q) / 2] := by simp [List.getD, hml]

      have HL : Hid (lockCmp l[(p + q) / 2] t < 0 → bsGo (fun i => lockCmp (l.getD i noLock) t) (q - ((p + q) / 2 + 1)) ((p + q) / 2 + 1) q = bs (fun i => lockCmp (l.getD i noLock) t) l.length) := fun hf => by
        rw [← bsGo_less _ hlt (by show lockCmp (l.getD ((p + q) / 2) noLock) t < 0; rw [hg]; exact hf)]; exact hgo.out
      have HM : Hid (¬ lockCmp l[(p + q) / 2] t < 0 → bsGo (fun i => lockCmp (l.getD i noLock) t) ((p + q) / 2 - p) p ((p + q) / 2) = bs (fun i => lockCmp (l.getD i noLock) t) l.length) := fun hf => by
        rw [← bsGo_more _ hlt (by show ¬ lockCmp (l.getD ((p + q) / 2) noLock) t < 0; rw [hg]; exact hf)]; exact hgo.out
      clear hgo hg
      generalize l[(p + q) / 2] = x at *
      obtain ⟨rv, rfl, hrv⟩ := hrow
      obtain ⟨ra, rcap, rfl, -⟩ := id hrv
      have q0 := hcells 0 _ rfl
      have q1 := hcells 1 _ rfl
      have q2 := hcells 2 _ rfl
      have q3 := hcells 3 _ rfl
      simp only [Nat.add_zero] at q0
      clear hcells
      have hws := hb.size
      by_cases hf : lockCmp x t < 0
      all_goals (have HF := Lib.hid hf)
      · go_wp2_with (go_at_call 154; refine (cmpLock_calls _ x t _ rfl).mono ?_; rintro e w2 ⟨rfl, hb2⟩)
        go_roundw
        case rel => exact ⟨(p + q) / 2 + 1, q, by omega, hql, by go_num, rfl, HL.out HF.out, hb.trans (hb2.mono hws)⟩
        case measure => simp [intOf]; omega
      · go_wp2_with (go_at_call 154; refine (cmpLock_calls _ x t _ rfl).mono ?_; rintro e w2 ⟨rfl, hb2⟩)
        go_roundw
        case rel => exact ⟨p, (p + q) / 2, by omega, by omega, rfl, by go_num, HM.out HF.out, hb.trans (hb2.mono hws)⟩
        case measure => simp [intOf]; omega
    · obtain rfl : p = q := by omega
      have HP : Hid (bs (fun i => lockCmp (l.getD i noLock) t) l.length = p) := by have := hgo.out; rw [Nat.sub_self] at this; exact this.symm
      clear hgo
      have hws := hb.size
      by_cases hml : p < l.length
      · obtain ⟨b, off, cap', row, hv, hS, hrow, hcells⟩ := (h.below rLock_ok (by decide) hb).row p hml
        simp only [Value.slice.injEq] at hv
        obtain ⟨rfl, _, rfl⟩ := hv
        have HG : Hid (bsFound (fun i => lockCmp (l.getD i noLock) t) l.length = (lockCmp l[p] t == 0)) := by
          show _ = _
          rw [bsFound, HP.out, decide_eq_true hml, show l.getD p noLock = l[p] by simp [List.getD, hml]]; rfl
        skip
        clear h
        generalize l[p] = x at *
        obtain ⟨rv, rfl, hrv⟩ := hrow
        obtain ⟨ra, rcap, rfl, -⟩ := id hrv
        have q0 := hcells 0 _ rfl
        have q1 := hcells 1 _ rfl
        have q2 := hcells 2 _ rfl
        have q3 := hcells 3 _ rfl
        simp only [Nat.add_zero] at q0
        clear hcells
        go_wp2_with (go_at_call 154; refine (cmpLock_calls _ x t _ rfl).mono ?_; rintro e w2 ⟨rfl, hb2⟩)
        go_ret2
        exact ⟨ends2 (by rw [HP.out]; rfl) (by rw [HG.out]; rfl), hb.trans (hb2.mono hws)⟩
      · have HG : Hid (bsFound (fun i => lockCmp (l.getD i noLock) t) l.length = false) := by
          show _ = _
          rw [bsFound, HP.out, decide_eq_false hml]; rfl
        clear h
        go_wp2
        go_ret2
        exact ⟨ends2 (by rw [HP.out]; rfl) (by rw [HG.out]; rfl), hb⟩
end Go.Proofs.YtkefgapnghnjjaaGreatDoor

/- slices.BinarySearchFunc over locks, with the program's own comparison. -/
namespace Go.Proofs.YtkefgapnghnjjaaGreatDoor
open Go.RowKit Go.Tk

set_option maxRecDepth 100000 in
theorem cmpLockW_calls (w : World) (x : LockD) (t : List UInt8) (rv : Value) (hrv : rv.oneCell' = true) :
    Calls Tryz.prog 54 #[.agg #[.string ⟨x.name.toArray⟩, .int .i64 x.holder, .int .i64 x.fence, rv], .string ⟨t.toArray⟩] w fun e w' => e = .returned (.int .i64 (lockCmp x t)) ∧ Below w.heap.size w w' := by
  go_enter Tryz.func54, Tryz.ntmps54
  go_wp2_with fail
  refine (compare_calls x.name t _).mono ?_; rintro e w' ⟨rfl, rfl⟩
  go_wp2
  go_ret
  exact ⟨rfl, (Below.refl _ _).alloc (Nat.le_refl _) _⟩
set_option maxRecDepth 100000 in
set_option maxHeartbeats 400000 in
theorem searchLockW_calls (w : World) (v : Value) (l : List LockD) (S : Nat → Prop) (h : SlR 4 rLock w v l S) (hn : l.length ≤ 1000000) (t : List UInt8) :
    Calls Tryz.prog 53 #[v, .string ⟨t.toArray⟩, .func (.func 54) #[] #[]] w fun e w' =>
      e = .returned (.tuple #[.int .i64 (bs (fun i => lockCmp (l.getD i noLock) t) l.length : Nat), .bool (bsFound (fun i => lockCmp (l.getD i noLock) t) l.length)]) ∧ Below w.heap.size w w' := by
  obtain ⟨a, cap, hv, hl, hm, hnil, -⟩ := id h
  subst hv
  unfold maxLen at hm
  go_enter Tryz.func53, Tryz.ntmps53
  go_wp2
  go_loopw [9, 10, 11] (fun i j _ wr => ∃ p q : Nat, p ≤ q ∧ q ≤ l.length ∧ i = .int .i64 p ∧ j = .int .i64 q ∧ Hid (bsGo (fun i => lockCmp (l.getD i noLock) t) (q - p) p q = bs (fun i => lockCmp (l.getD i noLock) t) l.length) ∧ Below w.heap.size w wr)
    (fun i j _ _ => (intOf j).toNat - (intOf i).toNat)
  case atStart => exact ⟨0, l.length, by omega, by omega, rfl, rfl, rfl, Below.refl _ _⟩
  case round =>
    obtain ⟨p, q, hpq, hql, rfl, rfl, hgo, hb⟩ := hrel
    by_cases hlt : p < q
    · have hml : (p + q) / 2 < l.length := by omega
      obtain ⟨b, off, cap', row, hv, hS, hrow, hcells⟩ := (h.below rLock_ok (by decide) hb).row ((p + q) / 2) hml
      simp only [Value.slice.injEq] at hv
      obtain ⟨rfl, _, rfl⟩ := hv
      have hg : l.getD ((p + q) / 2) noLock = l[(p + q) / 2] := by simp [List.getD, hml]

      have HL : Hid (lockCmp l[(p + q) / 2] t < 0 → bsGo (fun i => lockCmp (l.getD i noLock) t) (q - ((p + q) / 2 + 1)) ((p + q) / 2 + 1) q = bs (fun i => lockCmp (l.getD i noLock) t) l.length) := fun hf => by
        rw [← bsGo_less _ hlt (by show lockCmp (l.getD ((p + q) / 2) noLock) t < 0; rw [hg]; exact hf)]; exact hgo.out
      have HM : Hid (¬ lockCmp l[(p + q) / 2] t < 0 → bsGo (fun i => lockCmp (l.getD i noLock) t) ((p + q) / 2 - p) p ((p + q) / 2) = bs (fun i => lockCmp (l.getD i noLock) t) l.length) := fun hf => by
        rw [← bsGo_more _ hlt (by show ¬ lockCmp (l.getD ((p + q) / 2) noLock) t < 0; rw [hg]; exact hf)]; exact hgo.out
      clear hgo hg
      generalize l[(p + q) / 2] = x at *
      obtain ⟨rv, rfl, hrv⟩ := hrow
      obtain ⟨ra, rcap, rfl, -⟩ := id hrv
      have q0 := hcells 0 _ rfl
      have q1 := hcells 1 _ rfl
      have q2 := hcells 2 _ rfl
      have q3 := hcells 3 _ rfl
      simp only [Nat.add_zero] at q0
      clear hcells
      have hws := hb.size
      by_cases hf : lockCmp x t < 0
      all_goals (have HF := Lib.hid hf)
      · go_wp2_with (go_at_call 54; refine (cmpLockW_calls _ x t _ rfl).mono ?_; rintro e w2 ⟨rfl, hb2⟩)
        go_roundw
        case rel => exact ⟨(p + q) / 2 + 1, q, by omega, hql, by go_num, rfl, HL.out HF.out, hb.trans (hb2.mono hws)⟩
        case measure => simp [intOf]; omega
      · go_wp2_with (go_at_call 54; refine (cmpLockW_calls _ x t _ rfl).mono ?_; rintro e w2 ⟨rfl, hb2⟩)
        go_roundw
        case rel => exact ⟨p, (p + q) / 2, by omega, by omega, rfl, by go_num, HM.out HF.out, hb.trans (hb2.mono hws)⟩
        case measure => simp [intOf]; omega
    · obtain rfl : p = q := by omega
      have HP : Hid (bs (fun i => lockCmp (l.getD i noLock) t) l.length = p) := by have := hgo.out; rw [Nat.sub_self] at this; exact this.symm
      clear hgo
      have hws := hb.size
      by_cases hml : p < l.length
      · obtain ⟨b, off, cap', row, hv, hS, hrow, hcells⟩ := (h.below rLock_ok (by decide) hb).row p hml
        simp only [Value.slice.injEq] at hv
        obtain ⟨rfl, _, rfl⟩ := hv
        have HG : Hid (bsFound (fun i => lockCmp (l.getD i noLock) t) l.length = (lockCmp l[p] t == 0)) := by
          show _ = _
          rw [bsFound, HP.out, decide_eq_true hml, show l.getD p noLock = l[p] by simp [List.getD, hml]]; rfl
        skip
        clear h
        generalize l[p] = x at *
        obtain ⟨rv, rfl, hrv⟩ := hrow
        obtain ⟨ra, rcap, rfl, -⟩ := id hrv
        have q0 := hcells 0 _ rfl
        have q1 := hcells 1 _ rfl
        have q2 := hcells 2 _ rfl
        have q3 := hcells 3 _ rfl
        simp only [Nat.add_zero] at q0
        clear hcells
        go_wp2_with (go_at_call 54; refine (cmpLockW_calls _ x t _ rfl).mono ?_; rintro e w2 ⟨rfl, hb2⟩)
        go_ret2
        exact ⟨ends2 (by rw [HP.out]; rfl) (by rw [HG.out]; rfl), hb.trans (hb2.mono hws)⟩
      · have HG : Hid (bsFound (fun i => lockCmp (l.getD i noLock) t) l.length = false) := by
          show _ = _
          rw [bsFound, HP.out, decide_eq_false hml]; rfl
        clear h
        go_wp2
        go_ret2
        exact ⟨ends2 (by rw [HP.out]; rfl) (by rw [HG.out]; rfl), hb⟩
end Go.Proofs.YtkefgapnghnjjaaGreatDoor
