/- A part of the proof, laid together from: RepC. -/
import Derived.Test.YtkefgapnghnjjaaGreatDoorPa23
set_option linter.unusedSimpArgs false
set_option linter.unusedVariables false
namespace Go.Proofs.YtkefgapnghnjjaaGreatDoor
open Go.RowKit Go.Tk
set_option linter.unusedSimpArgs false in
set_option maxRecDepth 100000 in
set_option maxHeartbeats 3200000 in
theorem rinstall_calls (r : ReplicaD) (ks : StateD) (ve vl vp vz : Value) (S : Nat → Prop) (w : World) (h : RpAt w r ve vl vp vz S) (hr : RepFine r ks) (t : StateD) (ht : StOk t) (h1 : r.state.index < t.index) (h2 : t.index ≤ 1073741424) :
    Calls Tryz.prog 35 #[.agg #[.int .i64 r.log.base, ve, .string ⟨r.snap.toArray⟩, .int .i64 r.state.index, vl, vp, vz], .string ⟨(snapB t).toArray⟩] w (RetRep w ⟨⟨t.index, if t.index ≤ logLast r.log then r.log.entries.drop (t.index - r.log.base).toNat else []⟩, snapB t, t⟩ 0) := by
  obtain ⟨o1, o2, o3, o4⟩ := h.ones
  have HR := Lib.hid (h.sub (S' := fun b => b < w.heap.size) fun b _ hlt => hlt)
  have HF := Lib.hid hr
  obtain ⟨hb0, hb1⟩ := hr.log.base
  have hln := hr.log.len
  obtain ⟨hi0, hi1⟩ := hr.at_
  unfold logLast at hi1
  clear h hr
  have HT := Lib.hid ht
  have HDEC := Lib.hid (fun w => decode_st_calls t ht w)
  rw [show encState t ++ sealB (encState t) = snapB t from rfl] at HDEC
  clear ht
  obtain ⟨LL, hLL⟩ : ∃ LL, (if t.index ≤ logLast r.log then r.log.entries.drop (t.index - r.log.base).toNat else []) = LL := ⟨_, rfl⟩
  rw [hLL]
  have HLL := Lib.hid hLL
  clear hLL
  go_enter Tryz.func35, Tryz.ntmps35
  go_upto_region 1 with (fail)
  have HX := Lib.hid ((BoxAt.new (w := w) (cs := [.int .i64 r.log.base, ve, .string ⟨r.snap.toArray⟩, .int .i64 r.state.index, vl, vp, vz]) (E := 67)).below (below_alloc _ (.cells #[.int .i64 0, .slice none 0 0, .string ⟨#[]⟩, .int .i64 0, .slice none 0 0, .slice none 0 0, .slice none 0 0] 67)))
  have hz := BoxAt.new (w := w.alloc (.cells #[.int .i64 r.log.base, ve, .string ⟨r.snap.toArray⟩, .int .i64 r.state.index, vl, vp, vz] 67)) (cs := [.int .i64 0, .slice none 0 0, .string ⟨#[]⟩, .int .i64 0, .slice none 0 0, .slice none 0 0, .slice none 0 0]) (E := 67)
  rw [World.size_alloc] at hz
  have HZ := Lib.hid hz
  clear hz
  have HB := Lib.hid (below_alloc2 w (.cells #[.int .i64 r.log.base, ve, .string ⟨r.snap.toArray⟩, .int .i64 r.state.index, vl, vp, vz] 67) (.cells #[.int .i64 0, .slice none 0 0, .string ⟨#[]⟩, .int .i64 0, .slice none 0 0, .slice none 0 0, .slice none 0 0] 67))
  replace HR := Lib.hid (HR.out.below HB.out)
  generalize (w.alloc (.cells #[.int .i64 r.log.base, ve, .string ⟨r.snap.toArray⟩, .int .i64 r.state.index, vl, vp, vz] 67)).alloc (.cells #[.int .i64 0, .slice none 0 0, .string ⟨#[]⟩, .int .i64 0, .slice none 0 0, .slice none 0 0, .slice none 0 0] 67) = w0 at *
  have x0 := HX.out.cell 0 _ rfl; have x1 := HX.out.cell 1 _ rfl; have x2 := HX.out.cell 2 _ rfl; have x3 := HX.out.cell 3 _ rfl; have x4 := HX.out.cell 4 _ rfl; have x5 := HX.out.cell 5 _ rfl; have x6 := HX.out.cell 6 _ rfl
  go_wp2_with fail
  refine (rcheck_calls r ks _ _ _ _ _ w0 HR.out HF.out).mono ?_
  rintro e w1 ⟨rfl, hb1⟩
  clear x0 x1 x2 x3 x4 x5 x6
  replace HR := Lib.hid (HR.out.below hb1)
  replace HX := Lib.hid (HX.out.below hb1)
  replace HZ := Lib.hid (HZ.out.below hb1)
  replace HB := Lib.hid (below_step HB.out hb1)
  clear hb1
  go_wp2_with fail
  refine (HDEC.out w1).mono ?_
  rintro e w2 ⟨ul, up, uz, rfl, hst, hb2⟩
  obtain ⟨a5, c5, rfl, -, -, -, -⟩ := id hst.lock; obtain ⟨a6, c6, rfl, -, -, -, -⟩ := id hst.pair; obtain ⟨a7, c7, rfl, -, -, -, -⟩ := id hst.sess
  have HS := Lib.hid (hst.sub (S' := fun b => w.heap.size + 2 ≤ b) fun b hb _ => by show _ ≤ _; have : w1.heap.size ≤ b := hb; have := HZ.out.lt; omega)
  clear hst HDEC
  replace HR := Lib.hid (HR.out.below hb2)
  replace HX := Lib.hid (HX.out.below hb2)
  replace HZ := Lib.hid (HZ.out.below hb2)
  replace HB := Lib.hid (below_step HB.out hb2)
  clear hb2
  go_upto_region 5 with (fail)
  have hzq := HZ.out.lt
  have hby : w.heap.size + 1 < w2.heap.size := hzq
  clear hzq
  have HY := Lib.hid (BoxAt.new (w := w2) (cs := [.int .i64 t.index, .slice a5 t.locks.length c5, .slice a6 t.pairs.length c6, .slice a7 t.sessions.length c7]) (E := 36))
  have hba := below_alloc w2 (.cells #[.int .i64 t.index, .slice a5 t.locks.length c5, .slice a6 t.pairs.length c6, .slice a7 t.sessions.length c7] 36)
  replace HR := Lib.hid (HR.out.below hba)
  replace HX := Lib.hid (HX.out.below hba)
  replace HZ := Lib.hid (HZ.out.below hba)
  replace HB := Lib.hid (below_step HB.out hba)
  replace HS := Lib.hid (HS.out.below hba)
  clear hba
  generalize w2.alloc (.cells #[.int .i64 t.index, .slice a5 t.locks.length c5, .slice a6 t.pairs.length c6, .slice a7 t.sessions.length c7] 36) = w3 at *
  generalize w2.heap.size = BY at *
  have y0 := HY.out.cell 0 _ rfl
  have x3 := HX.out.cell 3 _ rfl
  have hd1 : decide (t.index ≤ r.state.index) = false := decide_eq_false (by omega)
  have hd2 : decide (1073741424 < t.index) = false := decide_eq_false (by omega)
  go_upto_region 12 with (fail)
  clear hd1 hd2 y0 x3
  have hzq := HZ.out.lt
  have hyq := HY.out.lt
  have hbl : w.heap.size + 1 < w3.heap.size := hzq
  have hbyl : BY < w3.heap.size := hyq
  clear hzq hyq
  replace HS := Lib.hid (HS.out.sub (S' := fun b => w.heap.size + 2 ≤ b ∧ b ≠ w3.heap.size) fun b hb hl => ⟨hb, by omega⟩)
  have HL := Lib.hid (BoxAt.new (w := w3) (cs := [.int .i64 t.index, .slice none 0 0]) (E := 65))
  have hba := below_alloc w3 (.cells #[.int .i64 t.index, .slice none 0 0] 65)
  replace HR := Lib.hid (HR.out.below hba)
  replace HX := Lib.hid (HX.out.below hba)
  replace HZ := Lib.hid (HZ.out.below hba)
  replace HB := Lib.hid (below_step HB.out hba)
  replace HS := Lib.hid (HS.out.below hba)
  replace HY := Lib.hid (HY.out.below hba)
  clear hba
  generalize w3.alloc (.cells #[.int .i64 t.index, .slice none 0 0] 65) = w4 at *
  generalize w3.heap.size = BL at *
  by_cases hc : t.index ≤ logLast r.log
  · refine wp_region_plan 6 (fun wx => Below w4.heap.size w4 wx) (fun wx wy => Below wx.heap.size wx wy) [eqV (.pointer (some ⟨BY, 0, none⟩)), eqV (.int .i64 t.index), eqV (.pointer (some ⟨w.heap.size, 0, none⟩)), eqV (.agg #[.int .i64 r.log.base, ve]), eqV (.int .i64 (logLast r.log)), eqV (.bool true)] (by kernel_rfl) (by kernel_rfl) rfl ?hJ ?hJS ?hst ?hobl ?hend
    case hJ => exact Below.drew (Below.refl _ _)
    case hJS =>
      exact fun wx wy h1 h2 => below_step h1 h2
    case hst => exact planStab_at _ ⟨eqV_stab _, eqV_stab _, eqV_stab _, eqV_stab _, eqV_stab _, eqV_stab _, trivial⟩
    case hobl =>
      simp only [planObls, List.take_succ_cons, List.take_zero, planPut, Act.put, List.setIfInBounds_toArray, List.set_cons_zero, List.set_cons_succ, Nat.reduceAdd, Nat.zero_add]
      refine ⟨?_, ?_, ?_, ?_, ?_, ?_, trivial⟩
      · intro vs1 wx hJ hn K hK
        simp [planNeeds, VAt, eqV, Region.binds] at hn
        simp only [VAt, eqV, List.getD_cons_zero, List.getD_cons_succ, Act.put, List.setIfInBounds_toArray, List.set_cons_zero, List.set_cons_succ, Nat.reduceAdd, Nat.zero_add] at hK
        go_wp2
        exact hK _ _ (Below.refl _ _) rfl
      · intro vs1 wx hJ hn K hK
        simp [planNeeds, VAt, eqV, Region.binds] at hn
        simp only [VAt, eqV, List.getD_cons_zero, List.getD_cons_succ, Act.put, List.setIfInBounds_toArray, List.set_cons_zero, List.set_cons_succ, Nat.reduceAdd, Nat.zero_add] at hK
        simp only [hn] at hK ⊢
        have hy := HY.out.below hJ
        have y0 := hy.cell 0 _ rfl
        go_wp2
        exact hK _ _ (Below.refl _ _) rfl
      · intro vs1 wx hJ hn K hK
        simp [planNeeds, VAt, eqV, Region.binds] at hn
        simp only [VAt, eqV, List.getD_cons_zero, List.getD_cons_succ, Act.put, List.setIfInBounds_toArray, List.set_cons_zero, List.set_cons_succ, Nat.reduceAdd, Nat.zero_add] at hK
        go_wp2
        exact hK _ _ (Below.refl _ _) rfl
      · intro vs1 wx hJ hn K hK
        simp [planNeeds, VAt, eqV, Region.binds] at hn
        simp only [VAt, eqV, List.getD_cons_zero, List.getD_cons_succ, Act.put, List.setIfInBounds_toArray, List.set_cons_zero, List.set_cons_succ, Nat.reduceAdd, Nat.zero_add] at hK
        simp only [hn] at hK ⊢
        have hx := HX.out.below hJ
        have x0 := hx.cell 0 _ rfl; have x1 := hx.cell 1 _ rfl
        go_wp2
        exact hK _ _ (Below.refl _ _) rfl
      · intro vs1 wx hJ hn K hK
        simp [planNeeds, VAt, eqV, Region.binds] at hn
        simp only [VAt, eqV, List.getD_cons_zero, List.getD_cons_succ, Act.put, List.setIfInBounds_toArray, List.set_cons_zero, List.set_cons_succ, Nat.reduceAdd, Nat.zero_add] at hK
        simp only [hn] at hK ⊢
        have hsx := HR.out.below hJ
        go_wp2_with fail
        refine (logLast_calls r.log _ _ wx hsx.ents (by omega) (by omega)).mono ?_; rintro e w5 ⟨rfl, hb5⟩
        go_wp2
        exact hK _ _ hb5 rfl
      · intro vs1 wx hJ hn K hK
        simp [planNeeds, VAt, eqV, Region.binds] at hn
        simp only [VAt, eqV, List.getD_cons_zero, List.getD_cons_succ, Act.put, List.setIfInBounds_toArray, List.set_cons_zero, List.set_cons_succ, Nat.reduceAdd, Nat.zero_add] at hK
        simp only [hn] at hK ⊢
        have hd : decide (t.index ≤ logLast r.log) = true := decide_eq_true hc
        generalize logLast r.log = la at *
        go_wp2
        exact hK _ _ (Below.refl _ _) rfl
    case hend =>
      intro vs1 wx hJ hv
      simp [planHave, eqV] at hv
      obtain ⟨e0, e1, e2, e3, e4, e5⟩ := hv
      simp only [List.take_succ_cons, List.take_zero, List.drop_succ_cons, List.drop_zero, planPut, Act.put, List.setIfInBounds_toArray, List.set_cons_zero, List.set_cons_succ, Nat.reduceAdd, Nat.zero_add]
      rw [e0, e1, e2, e3, e4, e5]
      clear e0 e1 e2 e3 e4 e5
      replace HR := Lib.hid (HR.out.below hJ)
      replace HX := Lib.hid (HX.out.below hJ)
      replace HZ := Lib.hid (HZ.out.below hJ)
      replace HB := Lib.hid (below_step HB.out hJ)
      replace HS := Lib.hid (HS.out.below hJ)
      replace HY := Lib.hid (HY.out.below hJ)
      replace HL := Lib.hid (HL.out.below hJ)
      clear hJ
      rename World => w5
      have HV := Lib.hid (show logCut r.log t.index = (⟨t.index, r.log.entries.drop (t.index - r.log.base).toNat⟩, 0) by
        rw [logCut, if_neg (by simp [logCheck_ok.2 HF.out.log]), if_neg (by omega), if_neg (by omega)])
      have HIF := Lib.hid (show LL = r.log.entries.drop (t.index - r.log.base).toNat from HLL.out.symm.trans (if_pos hc))
      obtain ⟨d, hd⟩ : ∃ d, r.log.entries.drop (t.index - r.log.base).toNat = d := ⟨_, rfl⟩
      rw [hd] at HV HIF
      clear hd hc HLL
      have y0 := HY.out.cell 0 _ rfl
      have x0 := HX.out.cell 0 _ rfl; have x1 := HX.out.cell 1 _ rfl; have x2 := HX.out.cell 2 _ rfl; have x3 := HX.out.cell 3 _ rfl; have x4 := HX.out.cell 4 _ rfl; have x5 := HX.out.cell 5 _ rfl; have x6 := HX.out.cell 6 _ rfl
      go_wp2_with fail
      refine (logCut_calls r.log _ _ w5 HR.out.ents HF.out.log HF.out.log.small t.index ⟨by omega, by omega⟩).mono ?_
      rw [HV.out]
      rintro e w6 ⟨ve2, rfl, hs2, hb6⟩
      obtain ⟨b5, d5, rfl, -, -, -, -⟩ := id hs2
      have HE := Lib.hid (SlR.sub rStr_ok (by decide) hs2 (S' := fun b => w.heap.size + 2 ≤ b ∧ b ≠ BL) fun b hb _ => by have h1 : w5.heap.size ≤ b := hb; have h2 := HZ.out.lt; have h3 := HL.out.lt; exact ⟨by omega, by omega⟩)
      clear hs2 y0
      clear x0 x1 x2 x3 x4 x5 x6
      replace HR := Lib.hid (HR.out.below hb6)
      replace HX := Lib.hid (HX.out.below hb6)
      replace HZ := Lib.hid (HZ.out.below hb6)
      replace HB := Lib.hid (below_step HB.out hb6)
      replace HS := Lib.hid (HS.out.below hb6)
      replace HY := Lib.hid (HY.out.below hb6)
      replace HL := Lib.hid (HL.out.below hb6)
      clear hb6
      replace HE := Lib.hid (show SlR 1 rStr w6 (.slice b5 d.length d5) d (fun b => w.heap.size + 2 ≤ b ∧ b ≠ BL) from HE.out)
      clear HR
      have l0 := HL.out.cell 0 _ rfl; have lt0 := HL.out.thaw 0; have l1 := HL.out.cell 1 _ rfl; have lt1 := HL.out.thaw 1
      have hzl := HZ.out.lt
      have hyl := HY.out.lt
      have HX9 : Hid (BoxAt ((w6.setCell ⟨BL, 0, none⟩ (.int .i64 t.index)).setCell ⟨BL, 1, none⟩ (.slice b5 d.length d5)) (w.heap.size) [.int .i64 r.log.base, ve, .string ⟨r.snap.toArray⟩, .int .i64 r.state.index, vl, vp, vz]) := Lib.hid (BoxAt.farAll (by omega) [.int .i64 t.index, .slice b5 d.length d5] 0 HX.out)
      have HZ9 : Hid (BoxAt ((w6.setCell ⟨BL, 0, none⟩ (.int .i64 t.index)).setCell ⟨BL, 1, none⟩ (.slice b5 d.length d5)) (w.heap.size + 1) [.int .i64 0, .slice none 0 0, .string ⟨#[]⟩, .int .i64 0, .slice none 0 0, .slice none 0 0, .slice none 0 0]) := Lib.hid (BoxAt.farAll (by omega) [.int .i64 t.index, .slice b5 d.length d5] 0 HZ.out)
      have HB9 : Hid (Below w.heap.size w ((w6.setCell ⟨BL, 0, none⟩ (.int .i64 t.index)).setCell ⟨BL, 1, none⟩ (.slice b5 d.length d5))) := Lib.hid (below_sets (by omega) [.int .i64 t.index, .slice b5 d.length d5] 0 _ HB.out)
      have HS9 : Hid (StAt ((w6.setCell ⟨BL, 0, none⟩ (.int .i64 t.index)).setCell ⟨BL, 1, none⟩ (.slice b5 d.length d5)) t (.slice a5 t.locks.length c5) (.slice a6 t.pairs.length c6) (.slice a7 t.sessions.length c7) (fun b => w.heap.size + 2 ≤ b ∧ b ≠ BL)) := Lib.hid (StAt.store HS.out 0 [.int .i64 t.index, .slice b5 d.length d5] fun k hk => ⟨hk.2, hk⟩)
      have HY9 : Hid (BoxAt ((w6.setCell ⟨BL, 0, none⟩ (.int .i64 t.index)).setCell ⟨BL, 1, none⟩ (.slice b5 d.length d5)) (BY) [.int .i64 t.index, .slice a5 t.locks.length c5, .slice a6 t.pairs.length c6, .slice a7 t.sessions.length c7]) := Lib.hid (BoxAt.farAll (by omega) [.int .i64 t.index, .slice b5 d.length d5] 0 HY.out)
      have HL9 : Hid (BoxAt ((w6.setCell ⟨BL, 0, none⟩ (.int .i64 t.index)).setCell ⟨BL, 1, none⟩ (.slice b5 d.length d5)) (BL) [.int .i64 t.index, .slice b5 d.length d5]) := Lib.hid (BoxAt.store (w := w6) [.int .i64 t.index, .slice b5 d.length d5] [.int .i64 t.index, .slice none 0 0] 0 HL.out (by simp))
      have HE9 : Hid (SlR 1 rStr ((w6.setCell ⟨BL, 0, none⟩ (.int .i64 t.index)).setCell ⟨BL, 1, none⟩ (.slice b5 d.length d5)) (.slice b5 d.length d5) d (fun b => w.heap.size + 2 ≤ b ∧ b ≠ BL)) := Lib.hid (SlR.store rStr_ok (by decide) HE.out 0 [.int .i64 t.index, .slice b5 d.length d5] fun k hk => ⟨hk.2, hk⟩)
      clear hzl hyl
      go_upto_region 14 with (fail)
      generalize ((w6.setCell ⟨BL, 0, none⟩ (.int .i64 t.index)).setCell ⟨BL, 1, none⟩ (.slice b5 d.length d5)) = w7 at *
      replace HX := HX9; clear HX9
      replace HZ := HZ9; clear HZ9
      replace HB := HB9; clear HB9
      replace HS := HS9; clear HS9
      replace HY := HY9; clear HY9
      replace HL := HL9; clear HL9
      replace HE := HE9; clear HE9
      clear l0 lt0 l1 lt1
      have l0 := HL.out.cell 0 _ rfl; have l1 := HL.out.cell 1 _ rfl
      have y0 := HY.out.cell 0 _ rfl; have y1 := HY.out.cell 1 _ rfl; have y2 := HY.out.cell 2 _ rfl; have y3 := HY.out.cell 3 _ rfl
      have z0 := HZ.out.cell 0 _ rfl; have zt0 := HZ.out.thaw 0; have z1 := HZ.out.cell 1 _ rfl; have zt1 := HZ.out.thaw 1; have z2 := HZ.out.cell 2 _ rfl; have zt2 := HZ.out.thaw 2; have z3 := HZ.out.cell 3 _ rfl; have zt3 := HZ.out.thaw 3; have z4 := HZ.out.cell 4 _ rfl; have zt4 := HZ.out.thaw 4; have z5 := HZ.out.cell 5 _ rfl; have zt5 := HZ.out.thaw 5; have z6 := HZ.out.cell 6 _ rfl; have zt6 := HZ.out.thaw 6
      have hzl := HZ.out.lt
      have HX9 : Hid (BoxAt (((((((w7.setCell ⟨w.heap.size + 1, 0, none⟩ (.int .i64 t.index)).setCell ⟨w.heap.size + 1, 1, none⟩ (.slice b5 d.length d5)).setCell ⟨w.heap.size + 1, 2, none⟩ (.string ⟨(snapB t).toArray⟩)).setCell ⟨w.heap.size + 1, 3, none⟩ (.int .i64 t.index)).setCell ⟨w.heap.size + 1, 4, none⟩ (.slice a5 t.locks.length c5)).setCell ⟨w.heap.size + 1, 5, none⟩ (.slice a6 t.pairs.length c6)).setCell ⟨w.heap.size + 1, 6, none⟩ (.slice a7 t.sessions.length c7)) (w.heap.size) [.int .i64 r.log.base, ve, .string ⟨r.snap.toArray⟩, .int .i64 r.state.index, vl, vp, vz]) := Lib.hid (BoxAt.farAll (by omega) [.int .i64 t.index, .slice b5 d.length d5, .string ⟨(snapB t).toArray⟩, .int .i64 t.index, .slice a5 t.locks.length c5, .slice a6 t.pairs.length c6, .slice a7 t.sessions.length c7] 0 HX.out)
      have HZ9 : Hid (BoxAt (((((((w7.setCell ⟨w.heap.size + 1, 0, none⟩ (.int .i64 t.index)).setCell ⟨w.heap.size + 1, 1, none⟩ (.slice b5 d.length d5)).setCell ⟨w.heap.size + 1, 2, none⟩ (.string ⟨(snapB t).toArray⟩)).setCell ⟨w.heap.size + 1, 3, none⟩ (.int .i64 t.index)).setCell ⟨w.heap.size + 1, 4, none⟩ (.slice a5 t.locks.length c5)).setCell ⟨w.heap.size + 1, 5, none⟩ (.slice a6 t.pairs.length c6)).setCell ⟨w.heap.size + 1, 6, none⟩ (.slice a7 t.sessions.length c7)) (w.heap.size + 1) [.int .i64 t.index, .slice b5 d.length d5, .string ⟨(snapB t).toArray⟩, .int .i64 t.index, .slice a5 t.locks.length c5, .slice a6 t.pairs.length c6, .slice a7 t.sessions.length c7]) := Lib.hid (BoxAt.store (w := w7) [.int .i64 t.index, .slice b5 d.length d5, .string ⟨(snapB t).toArray⟩, .int .i64 t.index, .slice a5 t.locks.length c5, .slice a6 t.pairs.length c6, .slice a7 t.sessions.length c7] [.int .i64 0, .slice none 0 0, .string ⟨#[]⟩, .int .i64 0, .slice none 0 0, .slice none 0 0, .slice none 0 0] 0 HZ.out (by simp))
      have HB9 : Hid (Below w.heap.size w (((((((w7.setCell ⟨w.heap.size + 1, 0, none⟩ (.int .i64 t.index)).setCell ⟨w.heap.size + 1, 1, none⟩ (.slice b5 d.length d5)).setCell ⟨w.heap.size + 1, 2, none⟩ (.string ⟨(snapB t).toArray⟩)).setCell ⟨w.heap.size + 1, 3, none⟩ (.int .i64 t.index)).setCell ⟨w.heap.size + 1, 4, none⟩ (.slice a5 t.locks.length c5)).setCell ⟨w.heap.size + 1, 5, none⟩ (.slice a6 t.pairs.length c6)).setCell ⟨w.heap.size + 1, 6, none⟩ (.slice a7 t.sessions.length c7))) := Lib.hid (below_sets (by omega) [.int .i64 t.index, .slice b5 d.length d5, .string ⟨(snapB t).toArray⟩, .int .i64 t.index, .slice a5 t.locks.length c5, .slice a6 t.pairs.length c6, .slice a7 t.sessions.length c7] 0 _ HB.out)
      have HS9 : Hid (StAt (((((((w7.setCell ⟨w.heap.size + 1, 0, none⟩ (.int .i64 t.index)).setCell ⟨w.heap.size + 1, 1, none⟩ (.slice b5 d.length d5)).setCell ⟨w.heap.size + 1, 2, none⟩ (.string ⟨(snapB t).toArray⟩)).setCell ⟨w.heap.size + 1, 3, none⟩ (.int .i64 t.index)).setCell ⟨w.heap.size + 1, 4, none⟩ (.slice a5 t.locks.length c5)).setCell ⟨w.heap.size + 1, 5, none⟩ (.slice a6 t.pairs.length c6)).setCell ⟨w.heap.size + 1, 6, none⟩ (.slice a7 t.sessions.length c7)) t (.slice a5 t.locks.length c5) (.slice a6 t.pairs.length c6) (.slice a7 t.sessions.length c7) (fun b => w.heap.size + 2 ≤ b ∧ b ≠ BL)) := Lib.hid (StAt.store HS.out 0 [.int .i64 t.index, .slice b5 d.length d5, .string ⟨(snapB t).toArray⟩, .int .i64 t.index, .slice a5 t.locks.length c5, .slice a6 t.pairs.length c6, .slice a7 t.sessions.length c7] fun k hk => ⟨by have := hk.1; omega, hk⟩)
      have HY9 : Hid (BoxAt (((((((w7.setCell ⟨w.heap.size + 1, 0, none⟩ (.int .i64 t.index)).setCell ⟨w.heap.size + 1, 1, none⟩ (.slice b5 d.length d5)).setCell ⟨w.heap.size + 1, 2, none⟩ (.string ⟨(snapB t).toArray⟩)).setCell ⟨w.heap.size + 1, 3, none⟩ (.int .i64 t.index)).setCell ⟨w.heap.size + 1, 4, none⟩ (.slice a5 t.locks.length c5)).setCell ⟨w.heap.size + 1, 5, none⟩ (.slice a6 t.pairs.length c6)).setCell ⟨w.heap.size + 1, 6, none⟩ (.slice a7 t.sessions.length c7)) (BY) [.int .i64 t.index, .slice a5 t.locks.length c5, .slice a6 t.pairs.length c6, .slice a7 t.sessions.length c7]) := Lib.hid (BoxAt.farAll (by omega) [.int .i64 t.index, .slice b5 d.length d5, .string ⟨(snapB t).toArray⟩, .int .i64 t.index, .slice a5 t.locks.length c5, .slice a6 t.pairs.length c6, .slice a7 t.sessions.length c7] 0 HY.out)
      have HL9 : Hid (BoxAt (((((((w7.setCell ⟨w.heap.size + 1, 0, none⟩ (.int .i64 t.index)).setCell ⟨w.heap.size + 1, 1, none⟩ (.slice b5 d.length d5)).setCell ⟨w.heap.size + 1, 2, none⟩ (.string ⟨(snapB t).toArray⟩)).setCell ⟨w.heap.size + 1, 3, none⟩ (.int .i64 t.index)).setCell ⟨w.heap.size + 1, 4, none⟩ (.slice a5 t.locks.length c5)).setCell ⟨w.heap.size + 1, 5, none⟩ (.slice a6 t.pairs.length c6)).setCell ⟨w.heap.size + 1, 6, none⟩ (.slice a7 t.sessions.length c7)) (BL) [.int .i64 t.index, .slice b5 d.length d5]) := Lib.hid (BoxAt.farAll (by omega) [.int .i64 t.index, .slice b5 d.length d5, .string ⟨(snapB t).toArray⟩, .int .i64 t.index, .slice a5 t.locks.length c5, .slice a6 t.pairs.length c6, .slice a7 t.sessions.length c7] 0 HL.out)
      have HE9 : Hid (SlR 1 rStr (((((((w7.setCell ⟨w.heap.size + 1, 0, none⟩ (.int .i64 t.index)).setCell ⟨w.heap.size + 1, 1, none⟩ (.slice b5 d.length d5)).setCell ⟨w.heap.size + 1, 2, none⟩ (.string ⟨(snapB t).toArray⟩)).setCell ⟨w.heap.size + 1, 3, none⟩ (.int .i64 t.index)).setCell ⟨w.heap.size + 1, 4, none⟩ (.slice a5 t.locks.length c5)).setCell ⟨w.heap.size + 1, 5, none⟩ (.slice a6 t.pairs.length c6)).setCell ⟨w.heap.size + 1, 6, none⟩ (.slice a7 t.sessions.length c7)) (.slice b5 d.length d5) d (fun b => w.heap.size + 2 ≤ b ∧ b ≠ BL)) := Lib.hid (SlR.store rStr_ok (by decide) HE.out 0 [.int .i64 t.index, .slice b5 d.length d5, .string ⟨(snapB t).toArray⟩, .int .i64 t.index, .slice a5 t.locks.length c5, .slice a6 t.pairs.length c6, .slice a7 t.sessions.length c7] fun k hk => ⟨by have := hk.1; omega, hk⟩)
      go_wp2
      generalize (((((((w7.setCell ⟨w.heap.size + 1, 0, none⟩ (.int .i64 t.index)).setCell ⟨w.heap.size + 1, 1, none⟩ (.slice b5 d.length d5)).setCell ⟨w.heap.size + 1, 2, none⟩ (.string ⟨(snapB t).toArray⟩)).setCell ⟨w.heap.size + 1, 3, none⟩ (.int .i64 t.index)).setCell ⟨w.heap.size + 1, 4, none⟩ (.slice a5 t.locks.length c5)).setCell ⟨w.heap.size + 1, 5, none⟩ (.slice a6 t.pairs.length c6)).setCell ⟨w.heap.size + 1, 6, none⟩ (.slice a7 t.sessions.length c7)) = wf at *
      replace HX := HX9; clear HX9
      replace HZ := HZ9; clear HZ9
      replace HB := HB9; clear HB9
      replace HS := HS9; clear HS9
      replace HY := HY9; clear HY9
      replace HL := HL9; clear HL9
      replace HE := HE9; clear HE9
      have g0 := HZ.out.cell 0 _ rfl; have g1 := HZ.out.cell 1 _ rfl; have g2 := HZ.out.cell 2 _ rfl; have g3 := HZ.out.cell 3 _ rfl; have g4 := HZ.out.cell 4 _ rfl; have g5 := HZ.out.cell 5 _ rfl; have g6 := HZ.out.cell 6 _ rfl
      refine bodyPost_ret (v := .tuple #[.agg #[.int .i64 t.index, .slice b5 d.length d5, .string ⟨(snapB t).toArray⟩, .int .i64 t.index, .slice a5 t.locks.length c5, .slice a6 t.pairs.length c6, .slice a7 t.sessions.length c7], .int .i64 0]) (by simp [results, Tryz.results35, go_sem, g0, g1, g2, g3, g4, g5, g6]) rfl ⟨_, _, _, _, rfl, ⟨by rw [HIF.out]; exact HE.out.sub rStr_ok (by decide) fun b hb _ => by show _ ≤ _; have := hb.1; omega, HS.out.sub fun b hb _ => by show _ ≤ _; have := hb.1; omega⟩, HB.out⟩
  · refine wp_region_plan 6 (fun wx => Below w4.heap.size w4 wx) (fun wx wy => Below wx.heap.size wx wy) [eqV (.pointer (some ⟨BY, 0, none⟩)), eqV (.int .i64 t.index), eqV (.pointer (some ⟨w.heap.size, 0, none⟩)), eqV (.agg #[.int .i64 r.log.base, ve]), eqV (.int .i64 (logLast r.log)), eqV (.bool false)] (by kernel_rfl) (by kernel_rfl) rfl ?hJ ?hJS ?hst ?hobl ?hend
    case hJ => exact Below.drew (Below.refl _ _)
    case hJS =>
      exact fun wx wy h1 h2 => below_step h1 h2
    case hst => exact planStab_at _ ⟨eqV_stab _, eqV_stab _, eqV_stab _, eqV_stab _, eqV_stab _, eqV_stab _, trivial⟩
    case hobl =>
      simp only [planObls, List.take_succ_cons, List.take_zero, planPut, Act.put, List.setIfInBounds_toArray, List.set_cons_zero, List.set_cons_succ, Nat.reduceAdd, Nat.zero_add]
      refine ⟨?_, ?_, ?_, ?_, ?_, ?_, trivial⟩
      · intro vs1 wx hJ hn K hK
        simp [planNeeds, VAt, eqV, Region.binds] at hn
        simp only [VAt, eqV, List.getD_cons_zero, List.getD_cons_succ, Act.put, List.setIfInBounds_toArray, List.set_cons_zero, List.set_cons_succ, Nat.reduceAdd, Nat.zero_add] at hK
        go_wp2
        exact hK _ _ (Below.refl _ _) rfl
      · intro vs1 wx hJ hn K hK
        simp [planNeeds, VAt, eqV, Region.binds] at hn
        simp only [VAt, eqV, List.getD_cons_zero, List.getD_cons_succ, Act.put, List.setIfInBounds_toArray, List.set_cons_zero, List.set_cons_succ, Nat.reduceAdd, Nat.zero_add] at hK
        simp only [hn] at hK ⊢
        have hy := HY.out.below hJ
        have y0 := hy.cell 0 _ rfl
        go_wp2
        exact hK _ _ (Below.refl _ _) rfl
      · intro vs1 wx hJ hn K hK
        simp [planNeeds, VAt, eqV, Region.binds] at hn
        simp only [VAt, eqV, List.getD_cons_zero, List.getD_cons_succ, Act.put, List.setIfInBounds_toArray, List.set_cons_zero, List.set_cons_succ, Nat.reduceAdd, Nat.zero_add] at hK
        go_wp2
        exact hK _ _ (Below.refl _ _) rfl
      · intro vs1 wx hJ hn K hK
        simp [planNeeds, VAt, eqV, Region.binds] at hn
        simp only [VAt, eqV, List.getD_cons_zero, List.getD_cons_succ, Act.put, List.setIfInBounds_toArray, List.set_cons_zero, List.set_cons_succ, Nat.reduceAdd, Nat.zero_add] at hK
        simp only [hn] at hK ⊢
        have hx := HX.out.below hJ
        have x0 := hx.cell 0 _ rfl; have x1 := hx.cell 1 _ rfl
        go_wp2
        exact hK _ _ (Below.refl _ _) rfl
      · intro vs1 wx hJ hn K hK
        simp [planNeeds, VAt, eqV, Region.binds] at hn
        simp only [VAt, eqV, List.getD_cons_zero, List.getD_cons_succ, Act.put, List.setIfInBounds_toArray, List.set_cons_zero, List.set_cons_succ, Nat.reduceAdd, Nat.zero_add] at hK
        simp only [hn] at hK ⊢
        have hsx := HR.out.below hJ
        go_wp2_with fail
        refine (logLast_calls r.log _ _ wx hsx.ents (by omega) (by omega)).mono ?_; rintro e w5 ⟨rfl, hb5⟩
        go_wp2
        exact hK _ _ hb5 rfl
      · intro vs1 wx hJ hn K hK
        simp [planNeeds, VAt, eqV, Region.binds] at hn
        simp only [VAt, eqV, List.getD_cons_zero, List.getD_cons_succ, Act.put, List.setIfInBounds_toArray, List.set_cons_zero, List.set_cons_succ, Nat.reduceAdd, Nat.zero_add] at hK
        simp only [hn] at hK ⊢
        have hd : decide (t.index ≤ logLast r.log) = false := decide_eq_false hc
        generalize logLast r.log = la at *
        go_wp2
        exact hK _ _ (Below.refl _ _) rfl
    case hend =>
      intro vs1 wx hJ hv
      simp [planHave, eqV] at hv
      obtain ⟨e0, e1, e2, e3, e4, e5⟩ := hv
      simp only [List.take_succ_cons, List.take_zero, List.drop_succ_cons, List.drop_zero, planPut, Act.put, List.setIfInBounds_toArray, List.set_cons_zero, List.set_cons_succ, Nat.reduceAdd, Nat.zero_add]
      rw [e0, e1, e2, e3, e4, e5]
      clear e0 e1 e2 e3 e4 e5
      replace HR := Lib.hid (HR.out.below hJ)
      replace HX := Lib.hid (HX.out.below hJ)
      replace HZ := Lib.hid (HZ.out.below hJ)
      replace HB := Lib.hid (below_step HB.out hJ)
      replace HS := Lib.hid (HS.out.below hJ)
      replace HY := Lib.hid (HY.out.below hJ)
      replace HL := Lib.hid (HL.out.below hJ)
      clear hJ
      rename World => w5
      have HIF := Lib.hid (show LL = [] from HLL.out.symm.trans (if_neg hc))
      clear hc HLL
      clear HR
      have l0 := HL.out.cell 0 _ rfl; have l1 := HL.out.cell 1 _ rfl
      have y0 := HY.out.cell 0 _ rfl; have y1 := HY.out.cell 1 _ rfl; have y2 := HY.out.cell 2 _ rfl; have y3 := HY.out.cell 3 _ rfl
      have z0 := HZ.out.cell 0 _ rfl; have zt0 := HZ.out.thaw 0; have z1 := HZ.out.cell 1 _ rfl; have zt1 := HZ.out.thaw 1; have z2 := HZ.out.cell 2 _ rfl; have zt2 := HZ.out.thaw 2; have z3 := HZ.out.cell 3 _ rfl; have zt3 := HZ.out.thaw 3; have z4 := HZ.out.cell 4 _ rfl; have zt4 := HZ.out.thaw 4; have z5 := HZ.out.cell 5 _ rfl; have zt5 := HZ.out.thaw 5; have z6 := HZ.out.cell 6 _ rfl; have zt6 := HZ.out.thaw 6
      have hzl := HZ.out.lt
      have HX9 : Hid (BoxAt (((((((w5.setCell ⟨w.heap.size + 1, 0, none⟩ (.int .i64 t.index)).setCell ⟨w.heap.size + 1, 1, none⟩ (.slice none 0 0)).setCell ⟨w.heap.size + 1, 2, none⟩ (.string ⟨(snapB t).toArray⟩)).setCell ⟨w.heap.size + 1, 3, none⟩ (.int .i64 t.index)).setCell ⟨w.heap.size + 1, 4, none⟩ (.slice a5 t.locks.length c5)).setCell ⟨w.heap.size + 1, 5, none⟩ (.slice a6 t.pairs.length c6)).setCell ⟨w.heap.size + 1, 6, none⟩ (.slice a7 t.sessions.length c7)) (w.heap.size) [.int .i64 r.log.base, ve, .string ⟨r.snap.toArray⟩, .int .i64 r.state.index, vl, vp, vz]) := Lib.hid (BoxAt.farAll (by omega) [.int .i64 t.index, .slice none 0 0, .string ⟨(snapB t).toArray⟩, .int .i64 t.index, .slice a5 t.locks.length c5, .slice a6 t.pairs.length c6, .slice a7 t.sessions.length c7] 0 HX.out)
      have HZ9 : Hid (BoxAt (((((((w5.setCell ⟨w.heap.size + 1, 0, none⟩ (.int .i64 t.index)).setCell ⟨w.heap.size + 1, 1, none⟩ (.slice none 0 0)).setCell ⟨w.heap.size + 1, 2, none⟩ (.string ⟨(snapB t).toArray⟩)).setCell ⟨w.heap.size + 1, 3, none⟩ (.int .i64 t.index)).setCell ⟨w.heap.size + 1, 4, none⟩ (.slice a5 t.locks.length c5)).setCell ⟨w.heap.size + 1, 5, none⟩ (.slice a6 t.pairs.length c6)).setCell ⟨w.heap.size + 1, 6, none⟩ (.slice a7 t.sessions.length c7)) (w.heap.size + 1) [.int .i64 t.index, .slice none 0 0, .string ⟨(snapB t).toArray⟩, .int .i64 t.index, .slice a5 t.locks.length c5, .slice a6 t.pairs.length c6, .slice a7 t.sessions.length c7]) := Lib.hid (BoxAt.store (w := w5) [.int .i64 t.index, .slice none 0 0, .string ⟨(snapB t).toArray⟩, .int .i64 t.index, .slice a5 t.locks.length c5, .slice a6 t.pairs.length c6, .slice a7 t.sessions.length c7] [.int .i64 0, .slice none 0 0, .string ⟨#[]⟩, .int .i64 0, .slice none 0 0, .slice none 0 0, .slice none 0 0] 0 HZ.out (by simp))
      have HB9 : Hid (Below w.heap.size w (((((((w5.setCell ⟨w.heap.size + 1, 0, none⟩ (.int .i64 t.index)).setCell ⟨w.heap.size + 1, 1, none⟩ (.slice none 0 0)).setCell ⟨w.heap.size + 1, 2, none⟩ (.string ⟨(snapB t).toArray⟩)).setCell ⟨w.heap.size + 1, 3, none⟩ (.int .i64 t.index)).setCell ⟨w.heap.size + 1, 4, none⟩ (.slice a5 t.locks.length c5)).setCell ⟨w.heap.size + 1, 5, none⟩ (.slice a6 t.pairs.length c6)).setCell ⟨w.heap.size + 1, 6, none⟩ (.slice a7 t.sessions.length c7))) := Lib.hid (below_sets (by omega) [.int .i64 t.index, .slice none 0 0, .string ⟨(snapB t).toArray⟩, .int .i64 t.index, .slice a5 t.locks.length c5, .slice a6 t.pairs.length c6, .slice a7 t.sessions.length c7] 0 _ HB.out)
      have HS9 : Hid (StAt (((((((w5.setCell ⟨w.heap.size + 1, 0, none⟩ (.int .i64 t.index)).setCell ⟨w.heap.size + 1, 1, none⟩ (.slice none 0 0)).setCell ⟨w.heap.size + 1, 2, none⟩ (.string ⟨(snapB t).toArray⟩)).setCell ⟨w.heap.size + 1, 3, none⟩ (.int .i64 t.index)).setCell ⟨w.heap.size + 1, 4, none⟩ (.slice a5 t.locks.length c5)).setCell ⟨w.heap.size + 1, 5, none⟩ (.slice a6 t.pairs.length c6)).setCell ⟨w.heap.size + 1, 6, none⟩ (.slice a7 t.sessions.length c7)) t (.slice a5 t.locks.length c5) (.slice a6 t.pairs.length c6) (.slice a7 t.sessions.length c7) (fun b => w.heap.size + 2 ≤ b ∧ b ≠ BL)) := Lib.hid (StAt.store HS.out 0 [.int .i64 t.index, .slice none 0 0, .string ⟨(snapB t).toArray⟩, .int .i64 t.index, .slice a5 t.locks.length c5, .slice a6 t.pairs.length c6, .slice a7 t.sessions.length c7] fun k hk => ⟨by have := hk.1; omega, hk⟩)
      have HY9 : Hid (BoxAt (((((((w5.setCell ⟨w.heap.size + 1, 0, none⟩ (.int .i64 t.index)).setCell ⟨w.heap.size + 1, 1, none⟩ (.slice none 0 0)).setCell ⟨w.heap.size + 1, 2, none⟩ (.string ⟨(snapB t).toArray⟩)).setCell ⟨w.heap.size + 1, 3, none⟩ (.int .i64 t.index)).setCell ⟨w.heap.size + 1, 4, none⟩ (.slice a5 t.locks.length c5)).setCell ⟨w.heap.size + 1, 5, none⟩ (.slice a6 t.pairs.length c6)).setCell ⟨w.heap.size + 1, 6, none⟩ (.slice a7 t.sessions.length c7)) (BY) [.int .i64 t.index, .slice a5 t.locks.length c5, .slice a6 t.pairs.length c6, .slice a7 t.sessions.length c7]) := Lib.hid (BoxAt.farAll (by omega) [.int .i64 t.index, .slice none 0 0, .string ⟨(snapB t).toArray⟩, .int .i64 t.index, .slice a5 t.locks.length c5, .slice a6 t.pairs.length c6, .slice a7 t.sessions.length c7] 0 HY.out)
      have HL9 : Hid (BoxAt (((((((w5.setCell ⟨w.heap.size + 1, 0, none⟩ (.int .i64 t.index)).setCell ⟨w.heap.size + 1, 1, none⟩ (.slice none 0 0)).setCell ⟨w.heap.size + 1, 2, none⟩ (.string ⟨(snapB t).toArray⟩)).setCell ⟨w.heap.size + 1, 3, none⟩ (.int .i64 t.index)).setCell ⟨w.heap.size + 1, 4, none⟩ (.slice a5 t.locks.length c5)).setCell ⟨w.heap.size + 1, 5, none⟩ (.slice a6 t.pairs.length c6)).setCell ⟨w.heap.size + 1, 6, none⟩ (.slice a7 t.sessions.length c7)) (BL) [.int .i64 t.index, .slice none 0 0]) := Lib.hid (BoxAt.farAll (by omega) [.int .i64 t.index, .slice none 0 0, .string ⟨(snapB t).toArray⟩, .int .i64 t.index, .slice a5 t.locks.length c5, .slice a6 t.pairs.length c6, .slice a7 t.sessions.length c7] 0 HL.out)
      go_wp2
      generalize (((((((w5.setCell ⟨w.heap.size + 1, 0, none⟩ (.int .i64 t.index)).setCell ⟨w.heap.size + 1, 1, none⟩ (.slice none 0 0)).setCell ⟨w.heap.size + 1, 2, none⟩ (.string ⟨(snapB t).toArray⟩)).setCell ⟨w.heap.size + 1, 3, none⟩ (.int .i64 t.index)).setCell ⟨w.heap.size + 1, 4, none⟩ (.slice a5 t.locks.length c5)).setCell ⟨w.heap.size + 1, 5, none⟩ (.slice a6 t.pairs.length c6)).setCell ⟨w.heap.size + 1, 6, none⟩ (.slice a7 t.sessions.length c7)) = wf at *
      replace HX := HX9; clear HX9
      replace HZ := HZ9; clear HZ9
      replace HB := HB9; clear HB9
      replace HS := HS9; clear HS9
      replace HY := HY9; clear HY9
      replace HL := HL9; clear HL9
      have g0 := HZ.out.cell 0 _ rfl; have g1 := HZ.out.cell 1 _ rfl; have g2 := HZ.out.cell 2 _ rfl; have g3 := HZ.out.cell 3 _ rfl; have g4 := HZ.out.cell 4 _ rfl; have g5 := HZ.out.cell 5 _ rfl; have g6 := HZ.out.cell 6 _ rfl
      refine bodyPost_ret (v := .tuple #[.agg #[.int .i64 t.index, .slice none 0 0, .string ⟨(snapB t).toArray⟩, .int .i64 t.index, .slice a5 t.locks.length c5, .slice a6 t.pairs.length c6, .slice a7 t.sessions.length c7], .int .i64 0]) (by simp [results, Tryz.results35, go_sem, g0, g1, g2, g3, g4, g5, g6]) rfl ⟨_, _, _, _, rfl, ⟨by rw [HIF.out]; exact SlR.nil _ _, HS.out.sub fun b hb _ => by show _ ≤ _; have := hb.1; omega⟩, HB.out⟩
end Go.Proofs.YtkefgapnghnjjaaGreatDoor
