/- A part of the proof, laid together from: RepA. -/
import Derived.Test.YtkefgapnghnjjaaGreatDoorPa18
import Derived.Test.YtkefgapnghnjjaaGreatDoorPa21
import Derived.Test.YtkefgapnghnjjaaGreatDoorPa09
set_option linter.unusedSimpArgs false
set_option linter.unusedVariables false
namespace Go.Tk
open Go Go.RowKit
theorem SnapOf.long {b : Int} {s : Bytes} {ks : StateD} (h : SnapOf b s ks) (hb : b ≠ 0) : StOk ks ∧ ks.index = b ∧ s = snapB ks := by
  rcases h with ⟨h, -⟩ | ⟨-, h⟩
  · exact absurd h hb
  · exact h
theorem SnapOf.short {b : Int} {s : Bytes} {ks : StateD} (h : SnapOf b s ks) (hb : b = 0) : s = [] ∧ ks = noState := by
  rcases h with ⟨-, h⟩ | ⟨h, -⟩
  · exact h
  · exact absurd hb h
end Go.Tk
namespace Go.Proofs.YtkefgapnghnjjaaGreatDoor
open Go.RowKit Go.Tk
set_option linter.unusedSimpArgs false in
set_option maxRecDepth 100000 in
set_option maxHeartbeats 3200000 in
theorem kept_calls (r : ReplicaD) (ks : StateD) (ve vl vp vz : Value) (h1 : ve.oneCell' = true) (h2 : vl.oneCell' = true) (h3 : vp.oneCell' = true) (h4 : vz.oneCell' = true) (hk : SnapOf r.log.base r.snap ks) (w : World) :
    Calls Tryz.prog 70 #[.agg #[.int .i64 r.log.base, ve, .string ⟨r.snap.toArray⟩, .int .i64 r.state.index, vl, vp, vz]] w fun e w' => ∃ ul up us, e = .returned (.tuple #[.agg #[.int .i64 ks.index, ul, up, us], .int .i64 0]) ∧ StAt w' ks ul up us (fun b => w.heap.size ≤ b) ∧ Below w.heap.size w w' := by
  go_enter Tryz.func70, Tryz.ntmps70
  go_upto_region 1 with (fail)
  have HX := Lib.hid ((BoxAt.new (w := w) (cs := [.int .i64 r.log.base, ve, .string ⟨r.snap.toArray⟩, .int .i64 r.state.index, vl, vp, vz]) (E := 67)).below (below_alloc _ (.cells #[.int .i64 0, .slice none 0 0, .slice none 0 0, .slice none 0 0] 36)))
  have hz := BoxAt.new (w := w.alloc (.cells #[.int .i64 r.log.base, ve, .string ⟨r.snap.toArray⟩, .int .i64 r.state.index, vl, vp, vz] 67)) (cs := [.int .i64 0, .slice none 0 0, .slice none 0 0, .slice none 0 0]) (E := 36)
  rw [World.size_alloc] at hz
  have HZ := Lib.hid hz
  clear hz
  have HB := Lib.hid (below_alloc2 w (.cells #[.int .i64 r.log.base, ve, .string ⟨r.snap.toArray⟩, .int .i64 r.state.index, vl, vp, vz] 67) (.cells #[.int .i64 0, .slice none 0 0, .slice none 0 0, .slice none 0 0] 36))
  generalize (w.alloc (.cells #[.int .i64 r.log.base, ve, .string ⟨r.snap.toArray⟩, .int .i64 r.state.index, vl, vp, vz] 67)).alloc (.cells #[.int .i64 0, .slice none 0 0, .slice none 0 0, .slice none 0 0] 36) = w0 at *
  have x0 := HX.out.cell 0 _ rfl; have x2 := HX.out.cell 2 _ rfl
  by_cases hb : r.log.base = 0
  · obtain ⟨hs, rfl⟩ := hk.short hb
    rw [hs] at x2
    rw [hb] at x0
    have z0 := HZ.out.cell 0 _ rfl; have zt0 := HZ.out.thaw 0; have z1 := HZ.out.cell 1 _ rfl; have zt1 := HZ.out.thaw 1; have z2 := HZ.out.cell 2 _ rfl; have zt2 := HZ.out.thaw 2; have z3 := HZ.out.cell 3 _ rfl; have zt3 := HZ.out.thaw 3
    have HF : Hid (BoxAt ((((w0.setCell ⟨w.heap.size + 1, 0, none⟩ (.int .i64 0)).setCell ⟨w.heap.size + 1, 1, none⟩ (.slice none 0 0)).setCell ⟨w.heap.size + 1, 2, none⟩ (.slice none 0 0)).setCell ⟨w.heap.size + 1, 3, none⟩ (.slice none 0 0)) (w.heap.size + 1) [.int .i64 0, .slice none 0 0, .slice none 0 0, .slice none 0 0]) := Lib.hid (HZ.out.storeAll [.int .i64 0, .slice none 0 0, .slice none 0 0, .slice none 0 0] rfl)
    have HBF : Hid (Below w.heap.size w ((((w0.setCell ⟨w.heap.size + 1, 0, none⟩ (.int .i64 0)).setCell ⟨w.heap.size + 1, 1, none⟩ (.slice none 0 0)).setCell ⟨w.heap.size + 1, 2, none⟩ (.slice none 0 0)).setCell ⟨w.heap.size + 1, 3, none⟩ (.slice none 0 0))) := Lib.hid (below_sets (by omega) [.int .i64 0, .slice none 0 0, .slice none 0 0, .slice none 0 0] 0 _ HB.out)
    go_wp2
    generalize ((((w0.setCell ⟨w.heap.size + 1, 0, none⟩ (.int .i64 0)).setCell ⟨w.heap.size + 1, 1, none⟩ (.slice none 0 0)).setCell ⟨w.heap.size + 1, 2, none⟩ (.slice none 0 0)).setCell ⟨w.heap.size + 1, 3, none⟩ (.slice none 0 0)) = wf at *
    have g0 := HF.out.cell 0 _ rfl; have g1 := HF.out.cell 1 _ rfl; have g2 := HF.out.cell 2 _ rfl; have g3 := HF.out.cell 3 _ rfl
    refine bodyPost_ret (v := .tuple #[.agg #[.int .i64 0, .slice none 0 0, .slice none 0 0, .slice none 0 0], .int .i64 0]) (by simp [results, Tryz.results70, go_sem, g0, g1, g2, g3]) rfl ⟨_, _, _, rfl, ⟨SlR.nil _ _, SlR.nil _ _, SlR.nil _ _⟩, HBF.out⟩
  · obtain ⟨hko, hki, hks⟩ := hk.long hb
    have HKI := Lib.hid (show (ks.index != r.log.base) = false by simpa using hki)
    clear hki
    have hD := decode_st_calls ks hko w0
    rw [show encState ks ++ sealB (encState ks) = r.snap from hks.symm] at hD
    have HD := Lib.hid hD
    clear hD hks hk
    have hb0 : (r.log.base == 0) = false := by simpa using hb
    go_wp2_with fail
    refine HD.out.mono ?_
    clear HD
    rintro e w1 ⟨ul, up, us, rfl, hst, hb1⟩
    obtain ⟨a1, c1, rfl, -, -, -, -⟩ := id hst.lock; obtain ⟨a2, c2, rfl, -, -, -, -⟩ := id hst.pair; obtain ⟨a3, c3, rfl, -, -, -, -⟩ := id hst.sess
    have HS := Lib.hid (hst.sub (S' := fun b => w.heap.size + 2 ≤ b) fun b hb _ => by show _ ≤ _; have : w0.heap.size ≤ b := hb; have := HZ.out.lt; omega)
    clear hst
    clear x0 x2
    replace HX := Lib.hid (HX.out.below hb1)
    replace HZ := Lib.hid (HZ.out.below hb1)
    replace HB := Lib.hid (below_step HB.out hb1)
    clear hb1
    go_upto_region 6 with (fail)
    have hwz := HZ.out.lt
    have HY := Lib.hid (BoxAt.new (w := w1) (cs := [.int .i64 ks.index, .slice a1 ks.locks.length c1, .slice a2 ks.pairs.length c2, .slice a3 ks.sessions.length c3]) (E := 36))
    have hba := below_alloc w1 (.cells #[.int .i64 ks.index, .slice a1 ks.locks.length c1, .slice a2 ks.pairs.length c2, .slice a3 ks.sessions.length c3] 36)
    replace HX := Lib.hid (HX.out.below hba)
    replace HZ := Lib.hid (HZ.out.below hba)
    replace HB := Lib.hid (below_step HB.out hba)
    replace HS := Lib.hid (HS.out.below hba)
    clear hba
    generalize w1.alloc (.cells #[.int .i64 ks.index, .slice a1 ks.locks.length c1, .slice a2 ks.pairs.length c2, .slice a3 ks.sessions.length c3] 36) = w2 at *
    generalize w1.heap.size = B at *
    have x0 := HX.out.cell 0 _ rfl
    have y0 := HY.out.cell 0 _ rfl; have y1 := HY.out.cell 1 _ rfl; have y2 := HY.out.cell 2 _ rfl; have y3 := HY.out.cell 3 _ rfl
    have z0 := HZ.out.cell 0 _ rfl; have zt0 := HZ.out.thaw 0; have z1 := HZ.out.cell 1 _ rfl; have zt1 := HZ.out.thaw 1; have z2 := HZ.out.cell 2 _ rfl; have zt2 := HZ.out.thaw 2; have z3 := HZ.out.cell 3 _ rfl; have zt3 := HZ.out.thaw 3
    have HF : Hid (BoxAt ((((w2.setCell ⟨w.heap.size + 1, 0, none⟩ (.int .i64 ks.index)).setCell ⟨w.heap.size + 1, 1, none⟩ (.slice a1 ks.locks.length c1)).setCell ⟨w.heap.size + 1, 2, none⟩ (.slice a2 ks.pairs.length c2)).setCell ⟨w.heap.size + 1, 3, none⟩ (.slice a3 ks.sessions.length c3)) (w.heap.size + 1) [.int .i64 ks.index, .slice a1 ks.locks.length c1, .slice a2 ks.pairs.length c2, .slice a3 ks.sessions.length c3]) := Lib.hid (HZ.out.storeAll [.int .i64 ks.index, .slice a1 ks.locks.length c1, .slice a2 ks.pairs.length c2, .slice a3 ks.sessions.length c3] rfl)
    have HBF : Hid (Below w.heap.size w ((((w2.setCell ⟨w.heap.size + 1, 0, none⟩ (.int .i64 ks.index)).setCell ⟨w.heap.size + 1, 1, none⟩ (.slice a1 ks.locks.length c1)).setCell ⟨w.heap.size + 1, 2, none⟩ (.slice a2 ks.pairs.length c2)).setCell ⟨w.heap.size + 1, 3, none⟩ (.slice a3 ks.sessions.length c3))) := Lib.hid (below_sets (by omega) [.int .i64 ks.index, .slice a1 ks.locks.length c1, .slice a2 ks.pairs.length c2, .slice a3 ks.sessions.length c3] 0 _ HB.out)
    have HSF : Hid (StAt ((((w2.setCell ⟨w.heap.size + 1, 0, none⟩ (.int .i64 ks.index)).setCell ⟨w.heap.size + 1, 1, none⟩ (.slice a1 ks.locks.length c1)).setCell ⟨w.heap.size + 1, 2, none⟩ (.slice a2 ks.pairs.length c2)).setCell ⟨w.heap.size + 1, 3, none⟩ (.slice a3 ks.sessions.length c3)) ks (.slice a1 ks.locks.length c1) (.slice a2 ks.pairs.length c2) (.slice a3 ks.sessions.length c3) (fun b => w.heap.size ≤ b)) := Lib.hid (HS.out.store 0 [.int .i64 ks.index, .slice a1 ks.locks.length c1, .slice a2 ks.pairs.length c2, .slice a3 ks.sessions.length c3] fun k hk => ⟨by have : w.heap.size + 2 ≤ k := hk; omega, by show _ ≤ _; have : w.heap.size + 2 ≤ k := hk; omega⟩)
    have hki2 := HKI.out
    go_wp2
    generalize ((((w2.setCell ⟨w.heap.size + 1, 0, none⟩ (.int .i64 ks.index)).setCell ⟨w.heap.size + 1, 1, none⟩ (.slice a1 ks.locks.length c1)).setCell ⟨w.heap.size + 1, 2, none⟩ (.slice a2 ks.pairs.length c2)).setCell ⟨w.heap.size + 1, 3, none⟩ (.slice a3 ks.sessions.length c3)) = wf at *
    have g0 := HF.out.cell 0 _ rfl; have g1 := HF.out.cell 1 _ rfl; have g2 := HF.out.cell 2 _ rfl; have g3 := HF.out.cell 3 _ rfl
    refine bodyPost_ret (v := .tuple #[.agg #[.int .i64 ks.index, .slice a1 ks.locks.length c1, .slice a2 ks.pairs.length c2, .slice a3 ks.sessions.length c3], .int .i64 0]) (by simp [results, Tryz.results70, go_sem, g0, g1, g2, g3]) rfl ⟨_, _, _, rfl, HSF.out, HBF.out⟩
set_option linter.unusedSimpArgs false in
set_option maxRecDepth 100000 in
set_option maxHeartbeats 3200000 in
theorem rcheck_calls (r : ReplicaD) (ks : StateD) (ve vl vp vz : Value) (S : Nat → Prop) (w : World) (h : RpAt w r ve vl vp vz S) (hr : RepFine r ks) :
    Calls Tryz.prog 37 #[.agg #[.int .i64 r.log.base, ve, .string ⟨r.snap.toArray⟩, .int .i64 r.state.index, vl, vp, vz]] w fun e w' => e = .returned (.int .i64 0) ∧ Below w.heap.size w w' := by
  obtain ⟨o1, o2, o3, o4⟩ := h.ones
  have HR := Lib.hid h
  have HF := Lib.hid hr
  obtain ⟨hb0, hb1⟩ := hr.log.base
  have hln := hr.log.len
  obtain ⟨hi0, hi1⟩ := hr.at_
  unfold logLast at hi1
  clear h hr
  go_enter Tryz.func37, Tryz.ntmps37
  go_upto_region 1 with (fail)
  have HB := Lib.hid (Below.refl w.heap.size w)
  have HX := Lib.hid (BoxAt.new (w := w) (cs := [.int .i64 r.log.base, ve, .string ⟨r.snap.toArray⟩, .int .i64 r.state.index, vl, vp, vz]) (E := 67))
  have hba := below_alloc w (.cells #[.int .i64 r.log.base, ve, .string ⟨r.snap.toArray⟩, .int .i64 r.state.index, vl, vp, vz] 67)
  replace HR := Lib.hid (HR.out.below hba)
  replace HB := Lib.hid (below_step HB.out hba)
  clear hba
  generalize w.alloc (.cells #[.int .i64 r.log.base, ve, .string ⟨r.snap.toArray⟩, .int .i64 r.state.index, vl, vp, vz] 67) = w0 at *
  obtain ⟨B, hB⟩ : ∃ B, w.heap.size = B := ⟨_, rfl⟩
  rw [hB] at HX ⊢
  have x0 := HX.out.cell 0 _ rfl; have x1 := HX.out.cell 1 _ rfl; have x2 := HX.out.cell 2 _ rfl; have x3 := HX.out.cell 3 _ rfl; have x4 := HX.out.cell 4 _ rfl; have x5 := HX.out.cell 5 _ rfl; have x6 := HX.out.cell 6 _ rfl
  go_wp2_with fail
  refine (logCheck_calls r.log _ S _ HR.out.ents HF.out.log.small).mono ?_
  rw [logCheck_ok.2 HF.out.log]
  rintro e w1 ⟨rfl, hb1⟩
  clear x0 x1 x2 x3 x4 x5 x6
  replace HR := Lib.hid (HR.out.below hb1)
  replace HB := Lib.hid (below_step HB.out hb1)
  replace HX := Lib.hid (HX.out.below hb1)
  clear hb1
  have x0 := HX.out.cell 0 _ rfl; have x1 := HX.out.cell 1 _ rfl; have x2 := HX.out.cell 2 _ rfl; have x3 := HX.out.cell 3 _ rfl; have x4 := HX.out.cell 4 _ rfl; have x5 := HX.out.cell 5 _ rfl; have x6 := HX.out.cell 6 _ rfl
  go_wp2_with fail
  refine (maCheck_calls r.state _ _ _ _ _ HR.out.st HF.out.st.fits).mono ?_
  rw [maCheck_ok.2 HF.out.st]
  rintro e w2 ⟨rfl, hb2⟩
  clear x0 x1 x2 x3 x4 x5 x6
  replace HR := Lib.hid (HR.out.below hb2)
  replace HB := Lib.hid (below_step HB.out hb2)
  replace HX := Lib.hid (HX.out.below hb2)
  clear hb2
  have x0 := HX.out.cell 0 _ rfl; have x1 := HX.out.cell 1 _ rfl; have x2 := HX.out.cell 2 _ rfl; have x3 := HX.out.cell 3 _ rfl; have x4 := HX.out.cell 4 _ rfl; have x5 := HX.out.cell 5 _ rfl; have x6 := HX.out.cell 6 _ rfl
  clear x0 x1 x2 x3 x4 x5 x6
  go_upto_region 7 with (fail)
  refine wp_region_plan 16 (fun wx => Below w2.heap.size w2 wx) (fun wx wy => Below wx.heap.size wx wy) [eqV (.pointer (some ⟨B, 3, none⟩)), eqV (.pointer (some ⟨B, 3, none⟩)), eqV (.int .i64 r.state.index), eqV (.pointer (some ⟨B, 0, none⟩)), eqV (.pointer (some ⟨B, 0, none⟩)), eqV (.int .i64 r.log.base), eqV (.bool false), eqV (.bool false), eqV (.pointer (some ⟨B, 3, none⟩)), eqV (.pointer (some ⟨B, 3, none⟩)), eqV (.int .i64 r.state.index), eqV (.pointer (some ⟨B, 0, none⟩)), eqV (.agg #[.int .i64 r.log.base, ve]), eqV (.int .i64 (r.log.base + (r.log.entries.length : Int))), eqV (.bool false), eqV (.bool false)] (by kernel_rfl) (by kernel_rfl) rfl ?hJ ?hJS ?hst ?hobl ?hend
  case hJ => exact Below.drew (Below.refl _ _)
  case hJS =>
    exact fun wx wy h1 h2 => below_step h1 h2
  case hst => exact planStab_at _ ⟨eqV_stab _, eqV_stab _, eqV_stab _, eqV_stab _, eqV_stab _, eqV_stab _, eqV_stab _, eqV_stab _, eqV_stab _, eqV_stab _, eqV_stab _, eqV_stab _, eqV_stab _, eqV_stab _, eqV_stab _, eqV_stab _, trivial⟩
  case hobl =>
    simp only [planObls, List.take_succ_cons, List.take_zero, planPut, Act.put, List.setIfInBounds_toArray, List.set_cons_zero, List.set_cons_succ, Nat.reduceAdd, Nat.zero_add]
    refine ⟨?_, ?_, ?_, ?_, ?_, ?_, ?_, ?_, ?_, ?_, ?_, ?_, ?_, ?_, ?_, ?_, trivial⟩
    · intro vs1 wx hJ hn K hK
      simp [planNeeds, VAt, eqV, Region.binds] at hn
      simp only [VAt, eqV, List.getD_cons_zero, List.getD_cons_succ, Act.put, List.setIfInBounds_toArray, List.set_cons_zero, List.set_cons_succ, Nat.reduceAdd, Nat.zero_add] at hK
      go_wp2
      exact hK _ _ (Below.refl _ _) rfl
    · intro vs1 wx hJ hn K hK
      simp [planNeeds, VAt, eqV, Region.binds] at hn
      simp only [VAt, eqV, List.getD_cons_zero, List.getD_cons_succ, Act.put, List.setIfInBounds_toArray, List.set_cons_zero, List.set_cons_succ, Nat.reduceAdd, Nat.zero_add] at hK
      simp only [hn] at hK ⊢
      go_wp2
      exact hK _ _ (Below.refl _ _) rfl
    · intro vs1 wx hJ hn K hK
      simp [planNeeds, VAt, eqV, Region.binds] at hn
      simp only [VAt, eqV, List.getD_cons_zero, List.getD_cons_succ, Act.put, List.setIfInBounds_toArray, List.set_cons_zero, List.set_cons_succ, Nat.reduceAdd, Nat.zero_add] at hK
      simp only [hn] at hK ⊢
      have hx := HX.out.below hJ
      have x3 := hx.cell 3 _ rfl
      go_wp2
      exact hK _ _ (Below.refl _ _) rfl
    · intro vs1 wx hJ hn K hK
      simp [planNeeds, VAt, eqV, Region.binds] at hn
      simp only [VAt, eqV, List.getD_cons_zero, List.getD_cons_succ, Act.put, List.setIfInBounds_toArray, List.set_cons_zero, List.set_cons_succ, Nat.reduceAdd, Nat.zero_add] at hK
      go_wp2
      exact hK _ _ (Below.refl _ _) rfl
    · intro vs1 wx hJ hn K hK
      simp [planNeeds, VAt, eqV, Region.binds] at hn
      simp only [VAt, eqV, List.getD_cons_zero, List.getD_cons_succ, Act.put, List.setIfInBounds_toArray, List.set_cons_zero, List.set_cons_succ, Nat.reduceAdd, Nat.zero_add] at hK
      simp only [hn] at hK ⊢
      go_wp2
      exact hK _ _ (Below.refl _ _) rfl
    · intro vs1 wx hJ hn K hK
      simp [planNeeds, VAt, eqV, Region.binds] at hn
      simp only [VAt, eqV, List.getD_cons_zero, List.getD_cons_succ, Act.put, List.setIfInBounds_toArray, List.set_cons_zero, List.set_cons_succ, Nat.reduceAdd, Nat.zero_add] at hK
      simp only [hn] at hK ⊢
      have hx := HX.out.below hJ
      have x0 := hx.cell 0 _ rfl
      go_wp2
      exact hK _ _ (Below.refl _ _) rfl
    · intro vs1 wx hJ hn K hK
      simp [planNeeds, VAt, eqV, Region.binds] at hn
      simp only [VAt, eqV, List.getD_cons_zero, List.getD_cons_succ, Act.put, List.setIfInBounds_toArray, List.set_cons_zero, List.set_cons_succ, Nat.reduceAdd, Nat.zero_add] at hK
      simp only [hn] at hK ⊢
      have hd1 : decide (r.state.index < r.log.base) = false := decide_eq_false (by omega)
      go_wp2
      exact hK _ _ (Below.refl _ _) rfl
    · intro vs1 wx hJ hn K hK
      simp [planNeeds, VAt, eqV, Region.binds] at hn
      simp only [VAt, eqV, List.getD_cons_zero, List.getD_cons_succ, Act.put, List.setIfInBounds_toArray, List.set_cons_zero, List.set_cons_succ, Nat.reduceAdd, Nat.zero_add] at hK
      simp only [hn] at hK ⊢
      go_wp2
      exact hK _ _ (Below.refl _ _) rfl
    · intro vs1 wx hJ hn K hK
      simp [planNeeds, VAt, eqV, Region.binds] at hn
      simp only [VAt, eqV, List.getD_cons_zero, List.getD_cons_succ, Act.put, List.setIfInBounds_toArray, List.set_cons_zero, List.set_cons_succ, Nat.reduceAdd, Nat.zero_add] at hK
      simp only [hn] at hK ⊢
      go_wp2
      exact hK _ _ (Below.refl _ _) rfl
    · intro vs1 wx hJ hn K hK
      simp [planNeeds, VAt, eqV, Region.binds] at hn
      simp only [VAt, eqV, List.getD_cons_zero, List.getD_cons_succ, Act.put, List.setIfInBounds_toArray, List.set_cons_zero, List.set_cons_succ, Nat.reduceAdd, Nat.zero_add] at hK
      simp only [hn] at hK ⊢
      go_wp2
      exact hK _ _ (Below.refl _ _) rfl
    · intro vs1 wx hJ hn K hK
      simp [planNeeds, VAt, eqV, Region.binds] at hn
      simp only [VAt, eqV, List.getD_cons_zero, List.getD_cons_succ, Act.put, List.setIfInBounds_toArray, List.set_cons_zero, List.set_cons_succ, Nat.reduceAdd, Nat.zero_add] at hK
      simp only [hn] at hK ⊢
      have hx := HX.out.below hJ
      have x3 := hx.cell 3 _ rfl
      go_wp2
      exact hK _ _ (Below.refl _ _) rfl
    · intro vs1 wx hJ hn K hK
      simp [planNeeds, VAt, eqV, Region.binds] at hn
      simp only [VAt, eqV, List.getD_cons_zero, List.getD_cons_succ, Act.put, List.setIfInBounds_toArray, List.set_cons_zero, List.set_cons_succ, Nat.reduceAdd, Nat.zero_add] at hK
      simp only [hn] at hK ⊢
      go_wp2
      exact hK _ _ (Below.refl _ _) rfl
    · intro vs1 wx hJ hn K hK
      simp [planNeeds, VAt, eqV, Region.binds] at hn
      simp only [VAt, eqV, List.getD_cons_zero, List.getD_cons_succ, Act.put, List.setIfInBounds_toArray, List.set_cons_zero, List.set_cons_succ, Nat.reduceAdd, Nat.zero_add] at hK
      simp only [hn] at hK ⊢
      have hx := HX.out.below hJ
      have x0 := hx.cell 0 _ rfl; have x1 := hx.cell 1 _ rfl
      go_wp2
      exact hK _ _ (Below.refl _ _) rfl
    · intro vs1 wx hJ hn K hK
      simp [planNeeds, VAt, eqV, Region.binds] at hn
      simp only [VAt, eqV, List.getD_cons_zero, List.getD_cons_succ, Act.put, List.setIfInBounds_toArray, List.set_cons_zero, List.set_cons_succ, Nat.reduceAdd, Nat.zero_add] at hK
      simp only [hn] at hK ⊢
      have hsx := HR.out.below hJ
      go_wp2_with fail
      refine (logLast_calls r.log _ S wx hsx.ents (by omega) (by omega)).mono ?_; rintro e w5 ⟨rfl, hb5⟩
      go_wp2
      exact hK _ _ hb5 rfl
    · intro vs1 wx hJ hn K hK
      simp [planNeeds, VAt, eqV, Region.binds] at hn
      simp only [VAt, eqV, List.getD_cons_zero, List.getD_cons_succ, Act.put, List.setIfInBounds_toArray, List.set_cons_zero, List.set_cons_succ, Nat.reduceAdd, Nat.zero_add] at hK
      simp only [hn] at hK ⊢
      have hd2 : decide (r.log.base + (r.log.entries.length : Int) < r.state.index) = false := decide_eq_false (by omega)
      go_wp2
      exact hK _ _ (Below.refl _ _) rfl
    · intro vs1 wx hJ hn K hK
      simp [planNeeds, VAt, eqV, Region.binds] at hn
      simp only [VAt, eqV, List.getD_cons_zero, List.getD_cons_succ, Act.put, List.setIfInBounds_toArray, List.set_cons_zero, List.set_cons_succ, Nat.reduceAdd, Nat.zero_add] at hK
      simp only [hn] at hK ⊢
      go_wp2
      exact hK _ _ (Below.refl _ _) rfl
  case hend =>
    intro vs1 wx hJ hv
    simp [planHave, eqV] at hv
    obtain ⟨e0, e1, e2, e3, e4, e5, e6, e7, e8, e9, e10, e11, e12, e13, e14, e15⟩ := hv
    simp only [List.take_succ_cons, List.take_zero, List.drop_succ_cons, List.drop_zero, planPut, Act.put, List.setIfInBounds_toArray, List.set_cons_zero, List.set_cons_succ, Nat.reduceAdd, Nat.zero_add]
    rw [e0, e1, e2, e3, e4, e5, e6, e7, e8, e9, e10, e11, e12, e13, e14, e15]
    clear e0 e1 e2 e3 e4 e5 e6 e7 e8 e9 e10 e11 e12 e13 e14 e15
    replace HR := Lib.hid (HR.out.below hJ)
    replace HB := Lib.hid (below_step HB.out hJ)
    replace HX := Lib.hid (HX.out.below hJ)
    clear hJ
    rename World => w3
    have x0 := HX.out.cell 0 _ rfl; have x1 := HX.out.cell 1 _ rfl; have x2 := HX.out.cell 2 _ rfl; have x3 := HX.out.cell 3 _ rfl; have x4 := HX.out.cell 4 _ rfl; have x5 := HX.out.cell 5 _ rfl; have x6 := HX.out.cell 6 _ rfl
    go_wp2_with fail
    refine (kept_calls r ks _ _ _ _ o1 o2 o3 o4 HF.out.kept w3).mono ?_
    rintro e w4 ⟨ul, up, uz, rfl, hst, hb4⟩
    obtain ⟨a1, c1, rfl, -, -, -, -⟩ := id hst.lock; obtain ⟨a2, c2, rfl, -, -, -, -⟩ := id hst.pair; obtain ⟨a3, c3, rfl, -, -, -, -⟩ := id hst.sess
    clear x0 x1 x2 x3 x4 x5 x6
    replace HR := Lib.hid (HR.out.below hb4)
    replace HB := Lib.hid (below_step HB.out hb4)
    replace HX := Lib.hid (HX.out.below hb4)
    clear hb4
    have hba := below_alloc w4 (.cells #[.int .i64 ks.index, .slice a1 ks.locks.length c1, .slice a2 ks.pairs.length c2, .slice a3 ks.sessions.length c3] 36)
    replace HR := Lib.hid (HR.out.below hba)
    replace HB := Lib.hid (below_step HB.out hba)
    replace HX := Lib.hid (HX.out.below hba)
    clear hba
    go_wp2
    go_ret
    exact ⟨rfl, HB.out⟩
set_option linter.unusedSimpArgs false in
set_option maxRecDepth 100000 in
set_option maxHeartbeats 3200000 in
theorem rcopy_calls (r : ReplicaD) (ve vl vp vz : Value) (S : Nat → Prop) (w : World) (h : RpAt w r ve vl vp vz S) (hl : LogOk r.log) (hst : StOk r.state) :
    Calls Tryz.prog 60 #[.agg #[.int .i64 r.log.base, ve, .string ⟨r.snap.toArray⟩, .int .i64 r.state.index, vl, vp, vz]] w fun e w' => ∃ ue ul up uz, e = .returned (.agg #[.int .i64 r.log.base, ue, .string ⟨r.snap.toArray⟩, .int .i64 r.state.index, ul, up, uz]) ∧ RpAt w' r ue ul up uz (fun b => w.heap.size ≤ b) ∧ Below w.heap.size w w' := by
  obtain ⟨o1, o2, o3, o4⟩ := h.ones
  have HR := Lib.hid h
  have HSO := Lib.hid hst
  have hln := hl.len
  clear h hl hst
  go_enter Tryz.func60, Tryz.ntmps60
  go_upto_region 1 with (fail)
  have HX := Lib.hid ((BoxAt.new (w := w) (cs := [.int .i64 r.log.base, ve, .string ⟨r.snap.toArray⟩, .int .i64 r.state.index, vl, vp, vz]) (E := 67)).below (below_alloc _ (.cells #[.int .i64 0, .slice none 0 0, .string ⟨#[]⟩, .int .i64 0, .slice none 0 0, .slice none 0 0, .slice none 0 0] 67)))
  have hz := BoxAt.new (w := w.alloc (.cells #[.int .i64 r.log.base, ve, .string ⟨r.snap.toArray⟩, .int .i64 r.state.index, vl, vp, vz] 67)) (cs := [.int .i64 0, .slice none 0 0, .string ⟨#[]⟩, .int .i64 0, .slice none 0 0, .slice none 0 0, .slice none 0 0]) (E := 67)
  rw [World.size_alloc] at hz
  have HZ := Lib.hid hz
  clear hz
  have HB := Lib.hid (below_alloc2 w (.cells #[.int .i64 r.log.base, ve, .string ⟨r.snap.toArray⟩, .int .i64 r.state.index, vl, vp, vz] 67) (.cells #[.int .i64 0, .slice none 0 0, .string ⟨#[]⟩, .int .i64 0, .slice none 0 0, .slice none 0 0, .slice none 0 0] 67))
  replace HR := Lib.hid (HR.out.below HB.out)
  generalize (w.alloc (.cells #[.int .i64 r.log.base, ve, .string ⟨r.snap.toArray⟩, .int .i64 r.state.index, vl, vp, vz] 67)).alloc (.cells #[.int .i64 0, .slice none 0 0, .string ⟨#[]⟩, .int .i64 0, .slice none 0 0, .slice none 0 0, .slice none 0 0] 67) = w0 at *
  have hzl := HZ.out.lt
  refine wp_region_plan 8 (fun wx => Below w0.heap.size w0 wx) (fun wx wy => Below wx.heap.size wx wy) [eqV (.pointer (some ⟨w.heap.size, 0, none⟩)), eqV (.agg #[.int .i64 r.log.base, ve]), fun v wx => ∃ ue, v = .agg #[.int .i64 r.log.base, ue] ∧ SlR 1 rStr wx ue r.log.entries (fun b => w0.heap.size ≤ b), eqV (.pointer (some ⟨w.heap.size, 2, none⟩)), eqV (.string ⟨r.snap.toArray⟩), eqV (.pointer (some ⟨w.heap.size, 3, none⟩)), eqV (.agg #[.int .i64 r.state.index, vl, vp, vz]), fun v wx => ∃ ul up uz, v = .agg #[.int .i64 r.state.index, ul, up, uz] ∧ StAt wx r.state ul up uz (fun b => w0.heap.size ≤ b)] (by kernel_rfl) (by kernel_rfl) rfl ?hJ ?hJS ?hst ?hobl ?hend
  case hJ => exact Below.drew (Below.refl _ _)
  case hJS =>
    exact fun wx wy h1 h2 => below_step h1 h2
  case hst => exact planStab_at _ ⟨eqV_stab _, eqV_stab _, (by rintro v wx wy - h2 ⟨ue, e, h3⟩; exact ⟨ue, e, h3.below rStr_ok (by decide) h2⟩), eqV_stab _, eqV_stab _, eqV_stab _, eqV_stab _, (by rintro v wx wy - h2 ⟨ul, up, uz, e, h3⟩; exact ⟨ul, up, uz, e, h3.below h2⟩), trivial⟩
  case hobl =>
    simp only [planObls, List.take_succ_cons, List.take_zero, planPut, Act.put, List.setIfInBounds_toArray, List.set_cons_zero, List.set_cons_succ, Nat.reduceAdd, Nat.zero_add]
    refine ⟨?_, ?_, ?_, ?_, ?_, ?_, ?_, ?_, trivial⟩
    · intro vs1 wx hJ hn K hK
      simp [planNeeds, VAt, eqV, Region.binds] at hn
      simp only [VAt, eqV, List.getD_cons_zero, List.getD_cons_succ, Act.put, List.setIfInBounds_toArray, List.set_cons_zero, List.set_cons_succ, Nat.reduceAdd, Nat.zero_add] at hK
      go_wp2
      exact hK _ _ (Below.refl _ _) rfl
    · intro vs1 wx hJ hn K hK
      simp [planNeeds, VAt, eqV, Region.binds] at hn
      simp only [VAt, eqV, List.getD_cons_zero, List.getD_cons_succ, Act.put, List.setIfInBounds_toArray, List.set_cons_zero, List.set_cons_succ, Nat.reduceAdd, Nat.zero_add] at hK
      simp only [hn] at hK ⊢
      have hx := HX.out.below hJ
      have x0 := hx.cell 0 _ rfl; have x1 := hx.cell 1 _ rfl
      go_wp2
      exact hK _ _ (Below.refl _ _) rfl
    · intro vs1 wx hJ hn K hK
      simp [planNeeds, VAt, eqV, Region.binds] at hn
      simp only [VAt, eqV, List.getD_cons_zero, List.getD_cons_succ, Act.put, List.setIfInBounds_toArray, List.set_cons_zero, List.set_cons_succ, Nat.reduceAdd, Nat.zero_add] at hK
      simp only [hn] at hK ⊢
      have hsx := HR.out.below hJ
      go_wp2_with fail
      refine (logCopy_calls r.log _ S wx hsx.ents (by omega)).mono ?_; rintro e w5 ⟨ue, rfl, ho5, hg5, hb5⟩
      have hone5 := ho5.oneCell
      go_wp2
      exact hK _ _ hb5 ⟨ue, rfl, ho5.strRead fun g hg => Nat.le_trans hJ.size (hg5 g hg)⟩
    · intro vs1 wx hJ hn K hK
      simp [planNeeds, VAt, eqV, Region.binds] at hn
      simp only [VAt, eqV, List.getD_cons_zero, List.getD_cons_succ, Act.put, List.setIfInBounds_toArray, List.set_cons_zero, List.set_cons_succ, Nat.reduceAdd, Nat.zero_add] at hK
      go_wp2
      exact hK _ _ (Below.refl _ _) rfl
    · intro vs1 wx hJ hn K hK
      simp [planNeeds, VAt, eqV, Region.binds] at hn
      simp only [VAt, eqV, List.getD_cons_zero, List.getD_cons_succ, Act.put, List.setIfInBounds_toArray, List.set_cons_zero, List.set_cons_succ, Nat.reduceAdd, Nat.zero_add] at hK
      simp only [hn] at hK ⊢
      have hx := HX.out.below hJ
      have x2 := hx.cell 2 _ rfl
      go_wp2
      exact hK _ _ (Below.refl _ _) rfl
    · intro vs1 wx hJ hn K hK
      simp [planNeeds, VAt, eqV, Region.binds] at hn
      simp only [VAt, eqV, List.getD_cons_zero, List.getD_cons_succ, Act.put, List.setIfInBounds_toArray, List.set_cons_zero, List.set_cons_succ, Nat.reduceAdd, Nat.zero_add] at hK
      go_wp2
      exact hK _ _ (Below.refl _ _) rfl
    · intro vs1 wx hJ hn K hK
      simp [planNeeds, VAt, eqV, Region.binds] at hn
      simp only [VAt, eqV, List.getD_cons_zero, List.getD_cons_succ, Act.put, List.setIfInBounds_toArray, List.set_cons_zero, List.set_cons_succ, Nat.reduceAdd, Nat.zero_add] at hK
      simp only [hn] at hK ⊢
      have hx := HX.out.below hJ
      have x3 := hx.cell 3 _ rfl; have x4 := hx.cell 4 _ rfl; have x5 := hx.cell 5 _ rfl; have x6 := hx.cell 6 _ rfl
      go_wp2
      exact hK _ _ (Below.refl _ _) rfl
    · intro vs1 wx hJ hn K hK
      simp [planNeeds, VAt, eqV, Region.binds] at hn
      simp only [VAt, eqV, List.getD_cons_zero, List.getD_cons_succ, Act.put, List.setIfInBounds_toArray, List.set_cons_zero, List.set_cons_succ, Nat.reduceAdd, Nat.zero_add] at hK
      simp only [hn] at hK ⊢
      have hsx := HR.out.below hJ
      go_wp2_with fail
      refine (maCopy_calls r.state _ _ _ S wx hsx.st HSO.out.fits).mono ?_; rintro e w5 ⟨ul, up, uz, rfl, hst5, hb5⟩
      go_wp2
      exact hK _ _ hb5 ⟨ul, up, uz, rfl, hst5.sub fun b hb _ => Nat.le_trans hJ.size hb⟩
  case hend =>
    intro vs1 wx hJ hv
    simp [planHave, eqV] at hv
    obtain ⟨e0, e1, h2, e3, e4, e5, e6, h7⟩ := hv
    simp only [List.take_succ_cons, List.take_zero, List.drop_succ_cons, List.drop_zero, planPut, Act.put, List.setIfInBounds_toArray, List.set_cons_zero, List.set_cons_succ, Nat.reduceAdd, Nat.zero_add]
    rw [e0, e1, e3, e4, e5, e6]
    clear e0 e1 e3 e4 e5 e6
    obtain ⟨ue, e2, h2⟩ := h2; obtain ⟨ul, up, uz, e7, h7⟩ := h7
    rw [e2, e7]
    clear e2 e7
    have HE := Lib.hid h2; have HS := Lib.hid h7
    clear h2 h7
    replace HX := Lib.hid (HX.out.below hJ)
    replace HZ := Lib.hid (HZ.out.below hJ)
    replace HB := Lib.hid (below_step HB.out hJ)
    clear hJ
    rename World => w1
    obtain ⟨a1, c1, rfl, -, -, -, -⟩ := id HE.out; obtain ⟨a2, c2, rfl, -, -, -, -⟩ := id HS.out.lock; obtain ⟨a3, c3, rfl, -, -, -, -⟩ := id HS.out.pair; obtain ⟨a4, c4, rfl, -, -, -, -⟩ := id HS.out.sess
    have z0 := HZ.out.cell 0 _ rfl; have zt0 := HZ.out.thaw 0; have z1 := HZ.out.cell 1 _ rfl; have zt1 := HZ.out.thaw 1; have z2 := HZ.out.cell 2 _ rfl; have zt2 := HZ.out.thaw 2; have z3 := HZ.out.cell 3 _ rfl; have zt3 := HZ.out.thaw 3; have z4 := HZ.out.cell 4 _ rfl; have zt4 := HZ.out.thaw 4; have z5 := HZ.out.cell 5 _ rfl; have zt5 := HZ.out.thaw 5; have z6 := HZ.out.cell 6 _ rfl; have zt6 := HZ.out.thaw 6
    have HF : Hid (BoxAt (((((((w1.setCell ⟨w.heap.size + 1, 0, none⟩ (.int .i64 r.log.base)).setCell ⟨w.heap.size + 1, 1, none⟩ (.slice a1 r.log.entries.length c1)).setCell ⟨w.heap.size + 1, 2, none⟩ (.string ⟨r.snap.toArray⟩)).setCell ⟨w.heap.size + 1, 3, none⟩ (.int .i64 r.state.index)).setCell ⟨w.heap.size + 1, 4, none⟩ (.slice a2 r.state.locks.length c2)).setCell ⟨w.heap.size + 1, 5, none⟩ (.slice a3 r.state.pairs.length c3)).setCell ⟨w.heap.size + 1, 6, none⟩ (.slice a4 r.state.sessions.length c4)) (w.heap.size + 1) [.int .i64 r.log.base, .slice a1 r.log.entries.length c1, .string ⟨r.snap.toArray⟩, .int .i64 r.state.index, .slice a2 r.state.locks.length c2, .slice a3 r.state.pairs.length c3, .slice a4 r.state.sessions.length c4]) := Lib.hid (HZ.out.storeAll [.int .i64 r.log.base, .slice a1 r.log.entries.length c1, .string ⟨r.snap.toArray⟩, .int .i64 r.state.index, .slice a2 r.state.locks.length c2, .slice a3 r.state.pairs.length c3, .slice a4 r.state.sessions.length c4] rfl)
    have HBF : Hid (Below w.heap.size w (((((((w1.setCell ⟨w.heap.size + 1, 0, none⟩ (.int .i64 r.log.base)).setCell ⟨w.heap.size + 1, 1, none⟩ (.slice a1 r.log.entries.length c1)).setCell ⟨w.heap.size + 1, 2, none⟩ (.string ⟨r.snap.toArray⟩)).setCell ⟨w.heap.size + 1, 3, none⟩ (.int .i64 r.state.index)).setCell ⟨w.heap.size + 1, 4, none⟩ (.slice a2 r.state.locks.length c2)).setCell ⟨w.heap.size + 1, 5, none⟩ (.slice a3 r.state.pairs.length c3)).setCell ⟨w.heap.size + 1, 6, none⟩ (.slice a4 r.state.sessions.length c4))) := Lib.hid (below_sets (by omega) [.int .i64 r.log.base, .slice a1 r.log.entries.length c1, .string ⟨r.snap.toArray⟩, .int .i64 r.state.index, .slice a2 r.state.locks.length c2, .slice a3 r.state.pairs.length c3, .slice a4 r.state.sessions.length c4] 0 _ HB.out)
    have HRF : Hid (RpAt (((((((w1.setCell ⟨w.heap.size + 1, 0, none⟩ (.int .i64 r.log.base)).setCell ⟨w.heap.size + 1, 1, none⟩ (.slice a1 r.log.entries.length c1)).setCell ⟨w.heap.size + 1, 2, none⟩ (.string ⟨r.snap.toArray⟩)).setCell ⟨w.heap.size + 1, 3, none⟩ (.int .i64 r.state.index)).setCell ⟨w.heap.size + 1, 4, none⟩ (.slice a2 r.state.locks.length c2)).setCell ⟨w.heap.size + 1, 5, none⟩ (.slice a3 r.state.pairs.length c3)).setCell ⟨w.heap.size + 1, 6, none⟩ (.slice a4 r.state.sessions.length c4)) r (.slice a1 r.log.entries.length c1) (.slice a2 r.state.locks.length c2) (.slice a3 r.state.pairs.length c3) (.slice a4 r.state.sessions.length c4) (fun b => w.heap.size ≤ b)) := Lib.hid (RpAt.store (S := fun b => w0.heap.size ≤ b) ⟨HE.out, HS.out⟩ 0 [.int .i64 r.log.base, .slice a1 r.log.entries.length c1, .string ⟨r.snap.toArray⟩, .int .i64 r.state.index, .slice a2 r.state.locks.length c2, .slice a3 r.state.pairs.length c3, .slice a4 r.state.sessions.length c4] fun k hk => ⟨by have : w0.heap.size ≤ k := hk; omega, by show _ ≤ _; have : w0.heap.size ≤ k := hk; omega⟩)
    go_wp2
    generalize (((((((w1.setCell ⟨w.heap.size + 1, 0, none⟩ (.int .i64 r.log.base)).setCell ⟨w.heap.size + 1, 1, none⟩ (.slice a1 r.log.entries.length c1)).setCell ⟨w.heap.size + 1, 2, none⟩ (.string ⟨r.snap.toArray⟩)).setCell ⟨w.heap.size + 1, 3, none⟩ (.int .i64 r.state.index)).setCell ⟨w.heap.size + 1, 4, none⟩ (.slice a2 r.state.locks.length c2)).setCell ⟨w.heap.size + 1, 5, none⟩ (.slice a3 r.state.pairs.length c3)).setCell ⟨w.heap.size + 1, 6, none⟩ (.slice a4 r.state.sessions.length c4)) = wf at *
    have g0 := HF.out.cell 0 _ rfl; have g1 := HF.out.cell 1 _ rfl; have g2 := HF.out.cell 2 _ rfl; have g3 := HF.out.cell 3 _ rfl; have g4 := HF.out.cell 4 _ rfl; have g5 := HF.out.cell 5 _ rfl; have g6 := HF.out.cell 6 _ rfl
    refine bodyPost_ret (v := .agg #[.int .i64 r.log.base, .slice a1 r.log.entries.length c1, .string ⟨r.snap.toArray⟩, .int .i64 r.state.index, .slice a2 r.state.locks.length c2, .slice a3 r.state.pairs.length c3, .slice a4 r.state.sessions.length c4]) (by simp [results, Tryz.results60, go_sem, g0, g1, g2, g3, g4, g5, g6]) rfl ⟨_, _, _, _, rfl, HRF.out, HBF.out⟩
end Go.Proofs.YtkefgapnghnjjaaGreatDoor
