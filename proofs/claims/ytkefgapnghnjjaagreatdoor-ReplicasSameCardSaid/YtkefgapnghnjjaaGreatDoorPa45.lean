/- A part of the proof, laid together from: RepSame. -/
import Derived.Test.YtkefgapnghnjjaaGreatDoorPa40
import Derived.Test.YtkefgapnghnjjaaGreatDoorPa41
import Derived.Test.YtkefgapnghnjjaaGreatDoorPa44
import Derived.Deep.RegionLaw
set_option linter.unusedSimpArgs false
set_option linter.unusedVariables false
namespace Go.Proofs.YtkefgapnghnjjaaGreatDoor
open Go.RowKit Go.Tk
set_option linter.unusedSimpArgs false in
set_option maxRecDepth 100000 in
set_option maxHeartbeats 12800000 in
theorem replicasSame_calls (w : World) (l : List RawD) (v : Value) (S : Nat → Prop) (h : SlR 4 rRaw w v l S) (hr : ∀ x ∈ l, RawOk x) (at_ : Int) (ha1 : -9223372036854775808 ≤ at_) (ha2 : at_ ≤ 9223372036854775807) :
    Calls Tryz.prog 7 #[v, .int .i64 at_] w fun e w' => e = .returned (.bool true) ∧ Below w.heap.size w w' := by
  obtain ⟨a0, cap0, hv, -, hm0, -, -⟩ := id h
  subst hv
  unfold maxLen at hm0
  have HH := Lib.hid h
  have HRR := Lib.hid hr
  clear h hr
  go_enter Tryz.func7, Tryz.ntmps7
  go_wp2_with fail
  refine (commands_calls l 50 (by omega) _ S _ HH.out HRR.out).mono ?_
  rintro e w1 ⟨v1, rfl, hs1, hb1⟩
  have hone1 := hs1.oneCell
  have HCL := Lib.hid (commandsP_len l 50 (by omega))
  have HAL := Lib.hid (commandsP_ok l 50 (by omega))
  have HB := Lib.hid hb1
  have HS1 := Lib.hid hs1
  clear hs1 hb1 HH HRR
  generalize commandsP l 50 = cs at *
  go_wp2_with fail
  refine (entries_calls cs HAL.out (by have := HCL.out; omega) v1 _ _ HS1.out).mono ?_
  rintro e w2 ⟨v2, rfl, hs2, hb2⟩
  have HDE := Lib.hid (entries_ok HAL.out)
  have hAl : (entriesP cs).length ≤ 50 := by rw [entriesP_len]; have := HCL.out; omega
  generalize entriesP cs = A at *
  obtain ⟨aA, cA, rfl, hcA, hmA, hnA, -⟩ := id hs2
  unfold maxLen at hmA
  have HKO := Lib.hid (show KOk A from ⟨HDE.out, by omega⟩)
  replace HB := Lib.hid (below_step HB.out hb2)
  have HA := Lib.hid (SlR.sub (S' := fun b => b < w2.heap.size) rStr_ok (by decide) hs2 fun b _ hl => hl)
  clear hb2 hs2 HS1 HAL HCL
  obtain ⟨k, hk⟩ : ∃ k : Nat, picked at_ ((A.length : Int) + 1) = k := ⟨(picked at_ ((A.length : Int) + 1)).toNat, by have := (picked_in at_ ((A.length : Int) + 1) (by omega)).1; omega⟩
  have hkA : k ≤ A.length := by have := (picked_in at_ ((A.length : Int) + 1) (by omega)).2; omega
  have HPK := Lib.hid (picked_calls at_ ((A.length : Int) + 1) (by omega) (by omega) ha1 ha2 w2)
  rw [hk] at HPK
  clear hk
  have ew : IntKind.i64.wrap ((A.length : Int) + 1) = (A.length : Int) + 1 := IntWalk.i64_in _ (by omega)
  go_wp2_with fail
  refine HPK.out.mono ?_
  rintro e w' ⟨rfl, rfl⟩
  clear HPK ew
  go_wp2_with fail
  refine (rhear_calls noReplica noState _ _ _ _ _ w2 (RpAt.none _ (fun _ => False)) noReplica_fine 0 A A _ _ HA.out HDE.out (by decide) (put_first HDE.out (by omega)) (by omega) (by simp [noReplica, noState, noLog]) (fun j hj => by simp [noReplica, noState, noLog] at hj; omega)).mono ?_
  rw [rs_first A]
  rintro e w3 ⟨ve, vl, vp, vz, rfl, hrp, hb⟩
  obtain ⟨e1, f1, rfl, -, -, -, -⟩ := id hrp.ents; obtain ⟨g1, h1, rfl, -, -, -, -⟩ := id hrp.st.lock; obtain ⟨i1, j1, rfl, -, -, -, -⟩ := id hrp.st.pair; obtain ⟨k1, l1, rfl, -, -, -, -⟩ := id hrp.st.sess
  have HR1 := Lib.hid (hrp.sub (S' := fun b => b < w3.heap.size) fun _ _ hl => hl)
  clear hrp
  replace HB := Lib.hid (below_step HB.out hb)
  replace HA := Lib.hid (HA.out.below rStr_ok (by decide) hb)
  clear hb
  go_upto_region 4 with (fail)
  have hwB := HB.out.size
  replace HA := Lib.hid (SlR.sub (S' := fun b => b < w3.heap.size) rStr_ok (by decide) HA.out fun b _ hl => hl)
  have HX := Lib.hid (BoxAt.new (w := w3) (cs := [.int .i64 (rsR A 0).log.base, .slice e1 (rsR A 0).log.entries.length f1, .string ⟨(rsR A 0).snap.toArray⟩, .int .i64 (rsR A 0).state.index, .slice g1 (rsR A 0).state.locks.length h1, .slice i1 (rsR A 0).state.pairs.length j1, .slice k1 (rsR A 0).state.sessions.length l1]) (E := 67))
  have hba := below_alloc w3 (.cells #[.int .i64 (rsR A 0).log.base, .slice e1 (rsR A 0).log.entries.length f1, .string ⟨(rsR A 0).snap.toArray⟩, .int .i64 (rsR A 0).state.index, .slice g1 (rsR A 0).state.locks.length h1, .slice i1 (rsR A 0).state.pairs.length j1, .slice k1 (rsR A 0).state.sessions.length l1] 67)
  replace HB := Lib.hid (below_step HB.out hba)
  replace HA := Lib.hid (HA.out.below rStr_ok (by decide) hba)
  replace HR1 := Lib.hid (HR1.out.below hba)
  clear hba
  generalize w3.alloc (.cells #[.int .i64 (rsR A 0).log.base, .slice e1 (rsR A 0).log.entries.length f1, .string ⟨(rsR A 0).snap.toArray⟩, .int .i64 (rsR A 0).state.index, .slice g1 (rsR A 0).state.locks.length h1, .slice i1 (rsR A 0).state.pairs.length j1, .slice k1 (rsR A 0).state.sessions.length l1] 67) = w4 at *
  generalize w3.heap.size = B1 at *
  have x0 := HX.out.cell 0 _ rfl; have x1 := HX.out.cell 1 _ rfl; have x2 := HX.out.cell 2 _ rfl; have x3 := HX.out.cell 3 _ rfl; have x4 := HX.out.cell 4 _ rfl; have x5 := HX.out.cell 5 _ rfl; have x6 := HX.out.cell 6 _ rfl
  go_wp2_with fail
  refine (rapply_calls (rsR A 0) noState _ _ _ _ _ w4 HR1.out (rsR_fine HKO.out (by omega)) A HKO.out 0 0 k rfl rfl (by omega) (by omega) hkA (by simp only [rsR]; omega) (fun j _ _ => by simp [rsR])).mono ?_
  rw [rs_apply A 0 k]
  rintro e w5 ⟨ve, vl, vp, vz, vm1, rfl, hrp, hms, hb⟩
  obtain ⟨e2, f2, rfl, -, -, -, -⟩ := id hrp.ents; obtain ⟨g2, h2, rfl, -, -, -, -⟩ := id hrp.st.lock; obtain ⟨i2, j2, rfl, -, -, -, -⟩ := id hrp.st.pair; obtain ⟨k2, l2, rfl, -, -, -, -⟩ := id hrp.st.sess
  have hone1 := hms.oneCell
  clear hms
  have HR2 := Lib.hid (hrp.sub (S' := fun b => B1 < b) fun b hb _ => by show _ < _; have : w4.heap.size ≤ b := hb; have := HX.out.lt; omega)
  clear hrp
  clear x0 x1 x2 x3 x4 x5 x6
  replace HB := Lib.hid (below_step HB.out hb)
  replace HA := Lib.hid (HA.out.below rStr_ok (by decide) hb)
  replace HR1 := Lib.hid (HR1.out.below hb)
  replace HX := Lib.hid (HX.out.below hb)
  clear hb
  clear HR1
  have x0 := HX.out.cell 0 _ rfl; have xt0 := HX.out.thaw 0; have x1 := HX.out.cell 1 _ rfl; have xt1 := HX.out.thaw 1; have x2 := HX.out.cell 2 _ rfl; have xt2 := HX.out.thaw 2; have x3 := HX.out.cell 3 _ rfl; have xt3 := HX.out.thaw 3; have x4 := HX.out.cell 4 _ rfl; have xt4 := HX.out.thaw 4; have x5 := HX.out.cell 5 _ rfl; have xt5 := HX.out.thaw 5; have x6 := HX.out.cell 6 _ rfl; have xt6 := HX.out.thaw 6
  have HX9 : Hid (BoxAt (((((((w5.setCell ⟨B1, 0, none⟩ (.int .i64 (rsR A k).log.base)).setCell ⟨B1, 1, none⟩ (.slice e2 (rsR A k).log.entries.length f2)).setCell ⟨B1, 2, none⟩ (.string ⟨(rsR A k).snap.toArray⟩)).setCell ⟨B1, 3, none⟩ (.int .i64 (rsR A k).state.index)).setCell ⟨B1, 4, none⟩ (.slice g2 (rsR A k).state.locks.length h2)).setCell ⟨B1, 5, none⟩ (.slice i2 (rsR A k).state.pairs.length j2)).setCell ⟨B1, 6, none⟩ (.slice k2 (rsR A k).state.sessions.length l2)) B1 [.int .i64 (rsR A k).log.base, .slice e2 (rsR A k).log.entries.length f2, .string ⟨(rsR A k).snap.toArray⟩, .int .i64 (rsR A k).state.index, .slice g2 (rsR A k).state.locks.length h2, .slice i2 (rsR A k).state.pairs.length j2, .slice k2 (rsR A k).state.sessions.length l2]) := Lib.hid (HX.out.storeAll [.int .i64 (rsR A k).log.base, .slice e2 (rsR A k).log.entries.length f2, .string ⟨(rsR A k).snap.toArray⟩, .int .i64 (rsR A k).state.index, .slice g2 (rsR A k).state.locks.length h2, .slice i2 (rsR A k).state.pairs.length j2, .slice k2 (rsR A k).state.sessions.length l2] rfl)
  have HB9 : Hid (Below w.heap.size w (((((((w5.setCell ⟨B1, 0, none⟩ (.int .i64 (rsR A k).log.base)).setCell ⟨B1, 1, none⟩ (.slice e2 (rsR A k).log.entries.length f2)).setCell ⟨B1, 2, none⟩ (.string ⟨(rsR A k).snap.toArray⟩)).setCell ⟨B1, 3, none⟩ (.int .i64 (rsR A k).state.index)).setCell ⟨B1, 4, none⟩ (.slice g2 (rsR A k).state.locks.length h2)).setCell ⟨B1, 5, none⟩ (.slice i2 (rsR A k).state.pairs.length j2)).setCell ⟨B1, 6, none⟩ (.slice k2 (rsR A k).state.sessions.length l2))) := Lib.hid (below_sets (by omega) [.int .i64 (rsR A k).log.base, .slice e2 (rsR A k).log.entries.length f2, .string ⟨(rsR A k).snap.toArray⟩, .int .i64 (rsR A k).state.index, .slice g2 (rsR A k).state.locks.length h2, .slice i2 (rsR A k).state.pairs.length j2, .slice k2 (rsR A k).state.sessions.length l2] 0 _ HB.out)
  have HA9 : Hid (SlR 1 rStr (((((((w5.setCell ⟨B1, 0, none⟩ (.int .i64 (rsR A k).log.base)).setCell ⟨B1, 1, none⟩ (.slice e2 (rsR A k).log.entries.length f2)).setCell ⟨B1, 2, none⟩ (.string ⟨(rsR A k).snap.toArray⟩)).setCell ⟨B1, 3, none⟩ (.int .i64 (rsR A k).state.index)).setCell ⟨B1, 4, none⟩ (.slice g2 (rsR A k).state.locks.length h2)).setCell ⟨B1, 5, none⟩ (.slice i2 (rsR A k).state.pairs.length j2)).setCell ⟨B1, 6, none⟩ (.slice k2 (rsR A k).state.sessions.length l2)) (.slice aA A.length cA) A (fun _ => True)) := Lib.hid (SlR.store rStr_ok (by decide) HA.out 0 [.int .i64 (rsR A k).log.base, .slice e2 (rsR A k).log.entries.length f2, .string ⟨(rsR A k).snap.toArray⟩, .int .i64 (rsR A k).state.index, .slice g2 (rsR A k).state.locks.length h2, .slice i2 (rsR A k).state.pairs.length j2, .slice k2 (rsR A k).state.sessions.length l2] fun b hb => ⟨by have : b < B1 := hb; omega, trivial⟩)
  have HR9 : Hid (RpAt (((((((w5.setCell ⟨B1, 0, none⟩ (.int .i64 (rsR A k).log.base)).setCell ⟨B1, 1, none⟩ (.slice e2 (rsR A k).log.entries.length f2)).setCell ⟨B1, 2, none⟩ (.string ⟨(rsR A k).snap.toArray⟩)).setCell ⟨B1, 3, none⟩ (.int .i64 (rsR A k).state.index)).setCell ⟨B1, 4, none⟩ (.slice g2 (rsR A k).state.locks.length h2)).setCell ⟨B1, 5, none⟩ (.slice i2 (rsR A k).state.pairs.length j2)).setCell ⟨B1, 6, none⟩ (.slice k2 (rsR A k).state.sessions.length l2)) (rsR A k) (.slice e2 (rsR A k).log.entries.length f2) (.slice g2 (rsR A k).state.locks.length h2) (.slice i2 (rsR A k).state.pairs.length j2) (.slice k2 (rsR A k).state.sessions.length l2) (fun _ => True)) := Lib.hid (RpAt.store HR2.out 0 [.int .i64 (rsR A k).log.base, .slice e2 (rsR A k).log.entries.length f2, .string ⟨(rsR A k).snap.toArray⟩, .int .i64 (rsR A k).state.index, .slice g2 (rsR A k).state.locks.length h2, .slice i2 (rsR A k).state.pairs.length j2, .slice k2 (rsR A k).state.sessions.length l2] fun b hb => ⟨by have : B1 < b := hb; omega, trivial⟩)
  go_upto_region 5 with (fail)
  generalize (((((((w5.setCell ⟨B1, 0, none⟩ (.int .i64 (rsR A k).log.base)).setCell ⟨B1, 1, none⟩ (.slice e2 (rsR A k).log.entries.length f2)).setCell ⟨B1, 2, none⟩ (.string ⟨(rsR A k).snap.toArray⟩)).setCell ⟨B1, 3, none⟩ (.int .i64 (rsR A k).state.index)).setCell ⟨B1, 4, none⟩ (.slice g2 (rsR A k).state.locks.length h2)).setCell ⟨B1, 5, none⟩ (.slice i2 (rsR A k).state.pairs.length j2)).setCell ⟨B1, 6, none⟩ (.slice k2 (rsR A k).state.sessions.length l2)) = w6 at *
  replace HX := HX9; replace HB := HB9; replace HA := HA9; have HR := HR9
  clear HX9 HB9 HA9 HR9 HR2
  clear x0 xt0 x1 xt1 x2 xt2 x3 xt3 x4 xt4 x5 xt5 x6 xt6
  by_cases hk0 : k = 0
  · subst hk0
    have x0 := HX.out.cell 0 _ rfl; have x1 := HX.out.cell 1 _ rfl; have x2 := HX.out.cell 2 _ rfl; have x3 := HX.out.cell 3 _ rfl; have x4 := HX.out.cell 4 _ rfl; have x5 := HX.out.cell 5 _ rfl; have x6 := HX.out.cell 6 _ rfl
    go_wp2_with fail
    refine (rcompact_old_calls (rsR A 0) noState _ _ _ _ _ w6 HR.out (rsR_fine HKO.out hkA) (rsR_index HKO.out hkA)).mono ?_
    rintro e w7 ⟨ve, vl, vp, vz, rfl, hrp, hb⟩
    obtain ⟨e3, f3, rfl, -, -, -, -⟩ := id hrp.ents; obtain ⟨g3, h3, rfl, -, -, -, -⟩ := id hrp.st.lock; obtain ⟨i3, j3, rfl, -, -, -, -⟩ := id hrp.st.pair; obtain ⟨k3, l3, rfl, -, -, -, -⟩ := id hrp.st.sess
    clear hrp
    clear x0 x1 x2 x3 x4 x5 x6
    replace HB := Lib.hid (below_step HB.out hb)
    replace HA := Lib.hid (HA.out.below rStr_ok (by decide) hb)
    replace HX := Lib.hid (HX.out.below hb)
    replace HR := Lib.hid (HR.out.below hb)
    clear hb
    have hba := below_alloc w7 (.cells #[.int .i64 noReplica.log.base, .slice e3 noReplica.log.entries.length f3, .string ⟨noReplica.snap.toArray⟩, .int .i64 noReplica.state.index, .slice g3 noReplica.state.locks.length h3, .slice i3 noReplica.state.pairs.length j3, .slice k3 noReplica.state.sessions.length l3] 67)
    replace HB := Lib.hid (below_step HB.out hba)
    replace HA := Lib.hid (HA.out.below rStr_ok (by decide) hba)
    replace HX := Lib.hid (HX.out.below hba)
    replace HR := Lib.hid (HR.out.below hba)
    clear hba
    go_wp2
    go_ret
    exact ⟨rfl, HB.out⟩
  · have hk1 : 0 < k := by omega
    have hk2 : ((k : Int) == 0) = false := by simpa using hk0
    clear hk0
    have x0 := HX.out.cell 0 _ rfl; have x1 := HX.out.cell 1 _ rfl; have x2 := HX.out.cell 2 _ rfl; have x3 := HX.out.cell 3 _ rfl; have x4 := HX.out.cell 4 _ rfl; have x5 := HX.out.cell 5 _ rfl; have x6 := HX.out.cell 6 _ rfl
    go_wp2_with fail
    refine (rcompact_calls (rsR A k) noState _ _ _ _ _ w6 HR.out (rsR_fine HKO.out hkA) (by rw [rsR_index HKO.out hkA]; show (k : Int) ≠ 0; omega) (by rw [rsR_index HKO.out hkA]; omega)).mono ?_
    rw [rs_compact HKO.out hkA]
    rintro e w7 ⟨ve, vl, vp, vz, rfl, hrp, hb⟩
    obtain ⟨e3, f3, rfl, -, -, -, -⟩ := id hrp.ents; obtain ⟨g3, h3, rfl, -, -, -, -⟩ := id hrp.st.lock; obtain ⟨i3, j3, rfl, -, -, -, -⟩ := id hrp.st.pair; obtain ⟨k3, l3, rfl, -, -, -, -⟩ := id hrp.st.sess
    have HR3 := Lib.hid (hrp.sub (S' := fun _ => True) fun _ _ _ => trivial)
    clear hrp
    clear x0 x1 x2 x3 x4 x5 x6
    replace HB := Lib.hid (below_step HB.out hb)
    replace HA := Lib.hid (HA.out.below rStr_ok (by decide) hb)
    replace HX := Lib.hid (HX.out.below hb)
    replace HR := Lib.hid (HR.out.below hb)
    clear hb
    go_upto_region 6 with (fail)
    have HC := Lib.hid (BoxAt.new (w := w7) (cs := [.int .i64 (rsC A k k).log.base, .slice e3 (rsC A k k).log.entries.length f3, .string ⟨(rsC A k k).snap.toArray⟩, .int .i64 (rsC A k k).state.index, .slice g3 (rsC A k k).state.locks.length h3, .slice i3 (rsC A k k).state.pairs.length j3, .slice k3 (rsC A k k).state.sessions.length l3]) (E := 67))
    have hba := below_alloc w7 (.cells #[.int .i64 (rsC A k k).log.base, .slice e3 (rsC A k k).log.entries.length f3, .string ⟨(rsC A k k).snap.toArray⟩, .int .i64 (rsC A k k).state.index, .slice g3 (rsC A k k).state.locks.length h3, .slice i3 (rsC A k k).state.pairs.length j3, .slice k3 (rsC A k k).state.sessions.length l3] 67)
    replace HB := Lib.hid (below_step HB.out hba)
    replace HA := Lib.hid (HA.out.below rStr_ok (by decide) hba)
    replace HX := Lib.hid (HX.out.below hba)
    replace HR := Lib.hid (HR.out.below hba)
    replace HR3 := Lib.hid (HR3.out.below hba)
    clear hba
    generalize w7.alloc (.cells #[.int .i64 (rsC A k k).log.base, .slice e3 (rsC A k k).log.entries.length f3, .string ⟨(rsC A k k).snap.toArray⟩, .int .i64 (rsC A k k).state.index, .slice g3 (rsC A k k).state.locks.length h3, .slice i3 (rsC A k k).state.pairs.length j3, .slice k3 (rsC A k k).state.sessions.length l3] 67) = w8 at *
    generalize w7.heap.size = B3 at *
    go_upto_region 8 with (fail)
    clear hk2
    have c0 := HC.out.cell 0 _ rfl; have c1 := HC.out.cell 1 _ rfl; have c2 := HC.out.cell 2 _ rfl; have c3 := HC.out.cell 3 _ rfl; have c4 := HC.out.cell 4 _ rfl; have c5 := HC.out.cell 5 _ rfl; have c6 := HC.out.cell 6 _ rfl
    go_wp2_with fail
    refine (rrestart_calls (rsC A k k) (stK A k) _ _ _ _ _ w8 HR3.out (rsC_fine HKO.out hk1 (Nat.le_refl _) hkA)).mono ?_
    rw [rs_applyC A k k k]
    rintro e w9 ⟨ve, vl, vp, vz, rfl, hrp, hb⟩
    obtain ⟨e4, f4, rfl, -, -, -, -⟩ := id hrp.ents; obtain ⟨g4, h4, rfl, -, -, -, -⟩ := id hrp.st.lock; obtain ⟨i4, j4, rfl, -, -, -, -⟩ := id hrp.st.pair; obtain ⟨k4, l4, rfl, -, -, -, -⟩ := id hrp.st.sess
    have HR4 := Lib.hid (hrp.sub (S' := fun _ => True) fun _ _ _ => trivial)
    clear hrp
    clear c0 c1 c2 c3 c4 c5 c6
    replace HB := Lib.hid (below_step HB.out hb)
    replace HA := Lib.hid (HA.out.below rStr_ok (by decide) hb)
    replace HX := Lib.hid (HX.out.below hb)
    replace HR := Lib.hid (HR.out.below hb)
    replace HR3 := Lib.hid (HR3.out.below hb)
    replace HC := Lib.hid (HC.out.below hb)
    clear hb
    go_upto_region 9 with (fail)
    have HD := Lib.hid (BoxAt.new (w := w9) (cs := [.int .i64 (rsC A k k).log.base, .slice e4 (rsC A k k).log.entries.length f4, .string ⟨(rsC A k k).snap.toArray⟩, .int .i64 (rsC A k k).state.index, .slice g4 (rsC A k k).state.locks.length h4, .slice i4 (rsC A k k).state.pairs.length j4, .slice k4 (rsC A k k).state.sessions.length l4]) (E := 67))
    have hba := below_alloc w9 (.cells #[.int .i64 (rsC A k k).log.base, .slice e4 (rsC A k k).log.entries.length f4, .string ⟨(rsC A k k).snap.toArray⟩, .int .i64 (rsC A k k).state.index, .slice g4 (rsC A k k).state.locks.length h4, .slice i4 (rsC A k k).state.pairs.length j4, .slice k4 (rsC A k k).state.sessions.length l4] 67)
    replace HB := Lib.hid (below_step HB.out hba)
    replace HA := Lib.hid (HA.out.below rStr_ok (by decide) hba)
    replace HX := Lib.hid (HX.out.below hba)
    replace HR := Lib.hid (HR.out.below hba)
    replace HR3 := Lib.hid (HR3.out.below hba)
    replace HC := Lib.hid (HC.out.below hba)
    replace HR4 := Lib.hid (HR4.out.below hba)
    clear hba
    generalize w9.alloc (.cells #[.int .i64 (rsC A k k).log.base, .slice e4 (rsC A k k).log.entries.length f4, .string ⟨(rsC A k k).snap.toArray⟩, .int .i64 (rsC A k k).state.index, .slice g4 (rsC A k k).state.locks.length h4, .slice i4 (rsC A k k).state.pairs.length j4, .slice k4 (rsC A k k).state.sessions.length l4] 67) = w10 at *
    generalize w9.heap.size = B4 at *
    have d0 := HD.out.cell 0 _ rfl; have d1 := HD.out.cell 1 _ rfl; have d2 := HD.out.cell 2 _ rfl; have d3 := HD.out.cell 3 _ rfl; have d4 := HD.out.cell 4 _ rfl; have d5 := HD.out.cell 5 _ rfl; have d6 := HD.out.cell 6 _ rfl
    go_wp2_with fail
    refine (rapply_calls (rsC A k k) (stK A k) _ _ _ _ _ w10 HR4.out (rsC_fine HKO.out hk1 (Nat.le_refl _) hkA) A HKO.out k k A.length rfl rfl (Nat.le_refl _) hkA (Nat.le_refl _) (by simp only [rsC, List.length_drop]; omega) (fun j h1 h2 => by simp only [rsC, List.getD, List.getElem?_drop]; rw [show k + (j - k) = j by omega])).mono ?_
    rw [rs_applyC A k k A.length]
    rintro e w11 ⟨ve, vl, vp, vz, vm5, rfl, hrp, hms, hb⟩
    obtain ⟨e5, f5, rfl, -, -, -, -⟩ := id hrp.ents; obtain ⟨g5, h5, rfl, -, -, -, -⟩ := id hrp.st.lock; obtain ⟨i5, j5, rfl, -, -, -, -⟩ := id hrp.st.pair; obtain ⟨k5, l5, rfl, -, -, -, -⟩ := id hrp.st.sess
    have hone5 := hms.oneCell
    clear hms
    have HR5 := Lib.hid (hrp.sub (S' := fun _ => True) fun _ _ _ => trivial)
    clear hrp
    clear d0 d1 d2 d3 d4 d5 d6
    replace HB := Lib.hid (below_step HB.out hb)
    replace HA := Lib.hid (HA.out.below rStr_ok (by decide) hb)
    replace HX := Lib.hid (HX.out.below hb)
    replace HR := Lib.hid (HR.out.below hb)
    replace HR3 := Lib.hid (HR3.out.below hb)
    replace HC := Lib.hid (HC.out.below hb)
    replace HR4 := Lib.hid (HR4.out.below hb)
    replace HD := Lib.hid (HD.out.below hb)
    clear hb
    go_upto_region 10 with (fail)
    have HE := Lib.hid (BoxAt.new (w := w11) (cs := [.int .i64 (rsC A k A.length).log.base, .slice e5 (rsC A k A.length).log.entries.length f5, .string ⟨(rsC A k A.length).snap.toArray⟩, .int .i64 (rsC A k A.length).state.index, .slice g5 (rsC A k A.length).state.locks.length h5, .slice i5 (rsC A k A.length).state.pairs.length j5, .slice k5 (rsC A k A.length).state.sessions.length l5]) (E := 67))
    have hba := below_alloc w11 (.cells #[.int .i64 (rsC A k A.length).log.base, .slice e5 (rsC A k A.length).log.entries.length f5, .string ⟨(rsC A k A.length).snap.toArray⟩, .int .i64 (rsC A k A.length).state.index, .slice g5 (rsC A k A.length).state.locks.length h5, .slice i5 (rsC A k A.length).state.pairs.length j5, .slice k5 (rsC A k A.length).state.sessions.length l5] 67)
    replace HB := Lib.hid (below_step HB.out hba)
    replace HA := Lib.hid (HA.out.below rStr_ok (by decide) hba)
    replace HX := Lib.hid (HX.out.below hba)
    replace HR := Lib.hid (HR.out.below hba)
    replace HR3 := Lib.hid (HR3.out.below hba)
    replace HC := Lib.hid (HC.out.below hba)
    replace HR4 := Lib.hid (HR4.out.below hba)
    replace HD := Lib.hid (HD.out.below hba)
    replace HR5 := Lib.hid (HR5.out.below hba)
    clear hba
    generalize w11.alloc (.cells #[.int .i64 (rsC A k A.length).log.base, .slice e5 (rsC A k A.length).log.entries.length f5, .string ⟨(rsC A k A.length).snap.toArray⟩, .int .i64 (rsC A k A.length).state.index, .slice g5 (rsC A k A.length).state.locks.length h5, .slice i5 (rsC A k A.length).state.pairs.length j5, .slice k5 (rsC A k A.length).state.sessions.length l5] 67) = w12 at *
    generalize w11.heap.size = B5 at *
    have x0 := HX.out.cell 0 _ rfl; have x1 := HX.out.cell 1 _ rfl; have x2 := HX.out.cell 2 _ rfl; have x3 := HX.out.cell 3 _ rfl; have x4 := HX.out.cell 4 _ rfl; have x5 := HX.out.cell 5 _ rfl; have x6 := HX.out.cell 6 _ rfl
    go_wp2_with fail
    refine (rapply_calls (rsR A k) noState _ _ _ _ _ w12 HR.out (rsR_fine HKO.out hkA) A HKO.out 0 k A.length rfl rfl (by omega) hkA (Nat.le_refl _) (by simp only [rsR]; omega) (fun j _ _ => by simp [rsR])).mono ?_
    rw [rs_apply A k A.length]
    rintro e w13 ⟨ve, vl, vp, vz, vm6, rfl, hrp, hms, hb⟩
    obtain ⟨e6, f6, rfl, -, -, -, -⟩ := id hrp.ents; obtain ⟨g6, h6, rfl, -, -, -, -⟩ := id hrp.st.lock; obtain ⟨i6, j6, rfl, -, -, -, -⟩ := id hrp.st.pair; obtain ⟨k6, l6, rfl, -, -, -, -⟩ := id hrp.st.sess
    have hone6 := hms.oneCell
    clear hms
    have HR6 := Lib.hid (hrp.sub (S' := fun _ => True) fun _ _ _ => trivial)
    clear hrp
    clear x0 x1 x2 x3 x4 x5 x6
    replace HB := Lib.hid (below_step HB.out hb)
    replace HA := Lib.hid (HA.out.below rStr_ok (by decide) hb)
    replace HX := Lib.hid (HX.out.below hb)
    replace HR := Lib.hid (HR.out.below hb)
    replace HR3 := Lib.hid (HR3.out.below hb)
    replace HC := Lib.hid (HC.out.below hb)
    replace HR4 := Lib.hid (HR4.out.below hb)
    replace HD := Lib.hid (HD.out.below hb)
    replace HR5 := Lib.hid (HR5.out.below hb)
    replace HE := Lib.hid (HE.out.below hb)
    clear hb
    go_upto_region 11 with (fail)
    have HY := Lib.hid (BoxAt.new (w := w13) (cs := [.int .i64 (rsR A A.length).log.base, .slice e6 (rsR A A.length).log.entries.length f6, .string ⟨(rsR A A.length).snap.toArray⟩, .int .i64 (rsR A A.length).state.index, .slice g6 (rsR A A.length).state.locks.length h6, .slice i6 (rsR A A.length).state.pairs.length j6, .slice k6 (rsR A A.length).state.sessions.length l6]) (E := 67))
    have hba := below_alloc w13 (.cells #[.int .i64 (rsR A A.length).log.base, .slice e6 (rsR A A.length).log.entries.length f6, .string ⟨(rsR A A.length).snap.toArray⟩, .int .i64 (rsR A A.length).state.index, .slice g6 (rsR A A.length).state.locks.length h6, .slice i6 (rsR A A.length).state.pairs.length j6, .slice k6 (rsR A A.length).state.sessions.length l6] 67)
    replace HB := Lib.hid (below_step HB.out hba)
    replace HA := Lib.hid (HA.out.below rStr_ok (by decide) hba)
    replace HX := Lib.hid (HX.out.below hba)
    replace HR := Lib.hid (HR.out.below hba)
    replace HR3 := Lib.hid (HR3.out.below hba)
    replace HC := Lib.hid (HC.out.below hba)
    replace HR4 := Lib.hid (HR4.out.below hba)
    replace HD := Lib.hid (HD.out.below hba)
    replace HR5 := Lib.hid (HR5.out.below hba)
    replace HE := Lib.hid (HE.out.below hba)
    replace HR6 := Lib.hid (HR6.out.below hba)
    clear hba
    generalize w13.alloc (.cells #[.int .i64 (rsR A A.length).log.base, .slice e6 (rsR A A.length).log.entries.length f6, .string ⟨(rsR A A.length).snap.toArray⟩, .int .i64 (rsR A A.length).state.index, .slice g6 (rsR A A.length).state.locks.length h6, .slice i6 (rsR A A.length).state.pairs.length j6, .slice k6 (rsR A A.length).state.sessions.length l6] 67) = w14 at *
    generalize w13.heap.size = B6 at *
    have c2 := HC.out.cell 2 _ rfl
    rw [show (rsC A k k).snap = snapB (stK A k) from rfl] at c2
    go_wp2_with fail
    refine (rinstall_calls noReplica noState _ _ _ _ _ w14 (RpAt.none _ (fun _ => False)) noReplica_fine (stK A k) (stK_ok HKO.out hkA).1 (by rw [(stK_ok HKO.out hkA).2]; show (0 : Int) < _; omega) (by rw [(stK_ok HKO.out hkA).2]; omega)).mono ?_
    rw [rs_install HKO.out hk1 hkA]
    rintro e w15 ⟨ve, vl, vp, vz, rfl, hrp, hb⟩
    obtain ⟨e7, f7, rfl, -, -, -, -⟩ := id hrp.ents; obtain ⟨g7, h7, rfl, -, -, -, -⟩ := id hrp.st.lock; obtain ⟨i7, j7, rfl, -, -, -, -⟩ := id hrp.st.pair; obtain ⟨k7, l7, rfl, -, -, -, -⟩ := id hrp.st.sess
    have HR7 := Lib.hid (hrp.sub (S' := fun _ => True) fun _ _ _ => trivial)
    clear hrp
    replace HB := Lib.hid (below_step HB.out hb)
    replace HA := Lib.hid (HA.out.below rStr_ok (by decide) hb)
    replace HX := Lib.hid (HX.out.below hb)
    replace HR := Lib.hid (HR.out.below hb)
    replace HR3 := Lib.hid (HR3.out.below hb)
    replace HC := Lib.hid (HC.out.below hb)
    replace HR4 := Lib.hid (HR4.out.below hb)
    replace HD := Lib.hid (HD.out.below hb)
    replace HR5 := Lib.hid (HR5.out.below hb)
    replace HE := Lib.hid (HE.out.below hb)
    replace HR6 := Lib.hid (HR6.out.below hb)
    replace HY := Lib.hid (HY.out.below hb)
    clear hb
    clear c2
    go_upto_region 12 with (fail)
    have HT := Lib.hid (BoxAt.new (w := w15) (cs := [.int .i64 (rsT A k).log.base, .slice e7 (rsT A k).log.entries.length f7, .string ⟨(rsT A k).snap.toArray⟩, .int .i64 (rsT A k).state.index, .slice g7 (rsT A k).state.locks.length h7, .slice i7 (rsT A k).state.pairs.length j7, .slice k7 (rsT A k).state.sessions.length l7]) (E := 67))
    have hba := below_alloc w15 (.cells #[.int .i64 (rsT A k).log.base, .slice e7 (rsT A k).log.entries.length f7, .string ⟨(rsT A k).snap.toArray⟩, .int .i64 (rsT A k).state.index, .slice g7 (rsT A k).state.locks.length h7, .slice i7 (rsT A k).state.pairs.length j7, .slice k7 (rsT A k).state.sessions.length l7] 67)
    replace HB := Lib.hid (below_step HB.out hba)
    replace HA := Lib.hid (HA.out.below rStr_ok (by decide) hba)
    replace HX := Lib.hid (HX.out.below hba)
    replace HR := Lib.hid (HR.out.below hba)
    replace HR3 := Lib.hid (HR3.out.below hba)
    replace HC := Lib.hid (HC.out.below hba)
    replace HR4 := Lib.hid (HR4.out.below hba)
    replace HD := Lib.hid (HD.out.below hba)
    replace HR5 := Lib.hid (HR5.out.below hba)
    replace HE := Lib.hid (HE.out.below hba)
    replace HR6 := Lib.hid (HR6.out.below hba)
    replace HY := Lib.hid (HY.out.below hba)
    replace HR7 := Lib.hid (HR7.out.below hba)
    clear hba
    generalize w15.alloc (.cells #[.int .i64 (rsT A k).log.base, .slice e7 (rsT A k).log.entries.length f7, .string ⟨(rsT A k).snap.toArray⟩, .int .i64 (rsT A k).state.index, .slice g7 (rsT A k).state.locks.length h7, .slice i7 (rsT A k).state.pairs.length j7, .slice k7 (rsT A k).state.sessions.length l7] 67) = w16 at *
    generalize w15.heap.size = B7 at *
    obtain ⟨bA, oA, capA, rowA, hvA, -, -, -⟩ := HA.out.row 0 (by omega)
    simp only [Value.slice.injEq] at hvA
    obtain ⟨rfl, -, rfl⟩ := hvA
    obtain ⟨V4, hV4⟩ : ∃ V4, (if cA = k then Value.slice (some ⟨bA, oA, none⟩) 0 0 else .slice (some ⟨bA, oA + k, none⟩) (A.length - k) (cA - k)) = V4 := ⟨_, rfl⟩
    have HSL := Lib.hid (show SlR 1 rStr w16 V4 (A.drop k) (fun _ => True) from by
      rw [← hV4]
      by_cases hck : cA = k
      · rw [if_pos hck, show A.drop k = [] from List.drop_of_length_le (by omega)]
        exact SlR.empty _ _ (by decide) (fun h => by cases h)
      · rw [if_neg hck]
        have := HA.out.drop k hkA
        rwa [Nat.mul_one] at this)
    have HV4 := Lib.hid hV4
    have hone4 := HSL.out.oneCell
    clear hV4
    refine wp_region_planE 11 (fun wx => Below w16.heap.size w16 wx) (fun i vs x wx wy => (i = 10 → ∃ (b : Nat) (us : List Value), vs 9 = .pointer (some ⟨b, 0, none⟩) ∧ us.length = 7 ∧ w16.heap.size ≤ b ∧ wy = wx.setCells b 0 us) ∧ (i = 9 → x = .pointer (some ⟨wx.heap.size, 0, none⟩) ∧ wy = wx.alloc (.cells #[.int .i64 0, .slice none 0 0, .string ⟨#[]⟩, .int .i64 0, .slice none 0 0, .slice none 0 0, .slice none 0 0] 67)) ∧ (i ≠ 10 → Below wx.heap.size wx wy)) [eqE (.agg #[.int .i64 (rsT A k).log.base, .slice e7 (rsT A k).log.entries.length f7, .string ⟨(rsT A k).snap.toArray⟩, .int .i64 (rsT A k).state.index, .slice g7 (rsT A k).state.locks.length h7, .slice i7 (rsT A k).state.pairs.length j7, .slice k7 (rsT A k).state.sessions.length l7]), eqE (.int .i64 (k : Int)), eqE (.slice (some ⟨bA, oA, none⟩) A.length cA), eqE (.int .i64 (k : Int)), eqE (V4), (fun done vs v wx => ∃ (ea la pa za : Option Addr) (ec lc pc zc : Nat) (lo hi : Nat), v = .tuple #[.agg #[.int .i64 (rsC A k k).log.base, .slice ea (rsC A k k).log.entries.length ec, .string ⟨(rsC A k k).snap.toArray⟩, .int .i64 (rsC A k k).state.index, .slice la (rsC A k k).state.locks.length lc, .slice pa (rsC A k k).state.pairs.length pc, .slice za (rsC A k k).state.sessions.length zc], .int .i64 0] ∧ RpAt wx (rsC A k k) (.slice ea (rsC A k k).log.entries.length ec) (.slice la (rsC A k k).state.locks.length lc) (.slice pa (rsC A k k).state.pairs.length pc) (.slice za (rsC A k k).state.sessions.length zc) (fun q => lo ≤ q ∧ q < hi) ∧ w16.heap.size ≤ lo ∧ hi ≤ wx.heap.size ∧ (done 9 = true → ∀ b, vs 9 = .pointer (some ⟨b, 0, none⟩) → b < lo ∨ hi ≤ b)), (fun _ vs v _ => v = vs 5 ∧ ∃ (ea la pa za : Option Addr) (ec lc pc zc : Nat), v = .tuple #[.agg #[.int .i64 (rsC A k k).log.base, .slice ea (rsC A k k).log.entries.length ec, .string ⟨(rsC A k k).snap.toArray⟩, .int .i64 (rsC A k k).state.index, .slice la (rsC A k k).state.locks.length lc, .slice pa (rsC A k k).state.pairs.length pc, .slice za (rsC A k k).state.sessions.length zc], .int .i64 0]), (fun _ vs v _ => ∃ (ea la pa za : Option Addr) (ec lc pc zc : Nat), vs 6 = .tuple #[.agg #[.int .i64 (rsC A k k).log.base, .slice ea (rsC A k k).log.entries.length ec, .string ⟨(rsC A k k).snap.toArray⟩, .int .i64 (rsC A k k).state.index, .slice la (rsC A k k).state.locks.length lc, .slice pa (rsC A k k).state.pairs.length pc, .slice za (rsC A k k).state.sessions.length zc], .int .i64 0] ∧ v = .agg #[.int .i64 (rsC A k k).log.base, .slice ea (rsC A k k).log.entries.length ec, .string ⟨(rsC A k k).snap.toArray⟩, .int .i64 (rsC A k k).state.index, .slice la (rsC A k k).state.locks.length lc, .slice pa (rsC A k k).state.pairs.length pc, .slice za (rsC A k k).state.sessions.length zc]), eqE (.int .i64 0), (fun _ _ v wx => BoxN w16.heap.size 7 v wx), (fun _ vs _ wx => ∃ (ea la pa za : Option Addr) (ec lc pc zc : Nat) (lo hi b : Nat), vs 5 = .tuple #[.agg #[.int .i64 (rsC A k k).log.base, .slice ea (rsC A k k).log.entries.length ec, .string ⟨(rsC A k k).snap.toArray⟩, .int .i64 (rsC A k k).state.index, .slice la (rsC A k k).state.locks.length lc, .slice pa (rsC A k k).state.pairs.length pc, .slice za (rsC A k k).state.sessions.length zc], .int .i64 0] ∧ vs 9 = .pointer (some ⟨b, 0, none⟩) ∧ BoxAt wx b [.int .i64 (rsC A k k).log.base, .slice ea (rsC A k k).log.entries.length ec, .string ⟨(rsC A k k).snap.toArray⟩, .int .i64 (rsC A k k).state.index, .slice la (rsC A k k).state.locks.length lc, .slice pa (rsC A k k).state.pairs.length pc, .slice za (rsC A k k).state.sessions.length zc] ∧ RpAt wx (rsC A k k) (.slice ea (rsC A k k).log.entries.length ec) (.slice la (rsC A k k).state.locks.length lc) (.slice pa (rsC A k k).state.pairs.length pc) (.slice za (rsC A k k).state.sessions.length zc) (fun q => lo ≤ q ∧ q < hi) ∧ w16.heap.size ≤ lo ∧ hi ≤ wx.heap.size ∧ (b < lo ∨ hi ≤ b) ∧ w16.heap.size ≤ b)] (by kernel_rfl) (by kernel_rfl) rfl ?hJ ?hJS ?hst ?hself ?hobl ?hend
    case hJ => exact Below.drew (Below.refl _ _)
    case hJS =>
      intro i vs1 x wx wy hi h1 h2
      by_cases h : i = 10
      · obtain ⟨b, us, -, -, hL, rfl⟩ := h2.1 h
        exact below_sets hL us 0 _ h1
      · exact below_step h1 (h2.2.2 h)
    case hst =>
      intro i j done vs1 x wa wb hi hj hne hdi hdj hwf hJ hS hVi hV
      match j, hj with
      | 0, _ => exact hV
      | 1, _ => exact hV
      | 2, _ => exact hV
      | 3, _ => exact hV
      | 4, _ => exact hV
      | 5, _ =>
        by_cases hs : i = 10
        · subst hs
          obtain ⟨ea, la, pa, za, ec, lc, pc, zc, lo, hi, b, e1, e2, -, h3, h4, h5, h6, -⟩ := hVi
          refine ⟨ea, la, pa, za, ec, lc, pc, zc, lo, hi, e1, h3, h4, h5, fun hd b2 hb2 => ?_⟩
          have hb3 : vs1 9 = .pointer (some ⟨b2, 0, none⟩) := hb2
          rw [e2] at hb3
          simp only [Value.pointer.injEq, Option.some.injEq, Addr.mk.injEq, and_true] at hb3
          subst hb3
          exact h6
        · obtain ⟨ea, la, pa, za, ec, lc, pc, zc, lo, hi, e1, h3, h4, h5, h6⟩ := hV
          have hb := hS.2.2 hs
          refine ⟨ea, la, pa, za, ec, lc, pc, zc, lo, hi, e1, h3.below hb, h4, Nat.le_trans h5 hb.size, fun hd b2 hb2 => ?_⟩
          by_cases ha : i = 9
          · subst ha
            have hx := (hS.2.1 rfl).1
            have hb3 : x = .pointer (some ⟨b2, 0, none⟩) := hb2
            rw [hx] at hb3
            simp only [Value.pointer.injEq, Option.some.injEq, Addr.mk.injEq, and_true] at hb3
            exact .inr (by omega)
          · have hd2 : done 9 = true := by simpa [doneAt, Ne.symm ha] using hd
            have hb3 : vs1 9 = .pointer (some ⟨b2, 0, none⟩) := by simpa [upd1, Ne.symm ha] using hb2
            exact h6 hd2 b2 hb3
      | 6, _ =>
        have h2 : ¬ 5 = i := by
          intro h; subst h
          exact absurd (Eq.trans (show false = Region.waitsFor Region.Mode.any _ 6 5 from hwf.symm) (show _ = true by kernel_rfl)) (by decide)
        exact ⟨Eq.trans hV.1 (by simp [upd1, h2]), hV.2⟩
      | 7, _ =>
        have h2 : ¬ 6 = i := by
          intro h; subst h
          exact absurd (Eq.trans (show false = Region.waitsFor Region.Mode.any _ 7 6 from hwf.symm) (show _ = true by kernel_rfl)) (by decide)
        obtain ⟨ea, la, pa, za, ec, lc, pc, zc, e1, e2⟩ := hV
        exact ⟨ea, la, pa, za, ec, lc, pc, zc, by simp [upd1, h2]; exact e1, e2⟩
      | 8, _ => exact hV
      | 9, _ =>
        by_cases h : i = 10
        · obtain ⟨b, us, -, hl, hL, e⟩ := hS.1 h
          exact BoxN.store hV ⟨b, us, hl, hL, e⟩
        · exact BoxN.below hV (hS.2.2 h)
      | 10, _ =>
        have h1 : i ≠ 10 := fun h => hne h
        have h2 : ¬ 5 = i := by
          intro h; subst h
          exact absurd (Eq.trans (show false = Region.waitsFor Region.Mode.any _ 10 5 from hwf.symm) (show _ = true by kernel_rfl)) (by decide)
        have h3 : ¬ 9 = i := by
          intro h; subst h
          exact absurd (Eq.trans (show false = Region.waitsFor Region.Mode.any _ 10 9 from hwf.symm) (show _ = true by kernel_rfl)) (by decide)
        have hb := hS.2.2 h1
        obtain ⟨ea, la, pa, za, ec, lc, pc, zc, lo, hi, b, e1, e2, g1, g2, g3, g4, g5, g6⟩ := hV
        exact ⟨ea, la, pa, za, ec, lc, pc, zc, lo, hi, b, by simp [upd1, h2]; exact e1, by simp [upd1, h3]; exact e2, g1.below hb, g2.below hb, g3, Nat.le_trans g4 hb.size, g5, g6⟩
      | n + 11, hj => exact absurd hj (by omega)
    case hself =>
      intro i done vs1 v w hi hV
      match i, hi with
      | 0, _ => exact hV
      | 1, _ => exact hV
      | 2, _ => exact hV
      | 3, _ => exact hV
      | 4, _ => exact hV
      | 5, _ =>
        obtain ⟨ea, la, pa, za, ec, lc, pc, zc, lo, hi, e1, h3, h4, h5, h6⟩ := hV
        exact ⟨ea, la, pa, za, ec, lc, pc, zc, lo, hi, e1, h3, h4, h5, fun hd b hb => h6 (by simpa [doneAt] using hd) b (by simpa [upd1] using hb)⟩
      | 6, _ => exact ⟨Eq.trans hV.1 (by simp [upd1]), hV.2⟩
      | 7, _ =>
        obtain ⟨ea, la, pa, za, ec, lc, pc, zc, e1, e2⟩ := hV
        exact ⟨ea, la, pa, za, ec, lc, pc, zc, by simp [upd1]; exact e1, e2⟩
      | 8, _ => exact hV
      | 9, _ => exact hV
      | 10, _ =>
        obtain ⟨ea, la, pa, za, ec, lc, pc, zc, lo, hi, b, e1, e2, g⟩ := hV
        exact ⟨ea, la, pa, za, ec, lc, pc, zc, lo, hi, b, by simp [upd1]; exact e1, by simp [upd1]; exact e2, g⟩
      | n + 11, hi => exact absurd hi (by omega)
    case hobl =>
      simp only [planOblsE, List.take_succ_cons, List.take_zero, planPut, Act.put, List.setIfInBounds_toArray, List.set_cons_zero, List.set_cons_succ, Nat.reduceAdd, Nat.zero_add]
      refine ⟨?_, ?_, ?_, ?_, ?_, ?_, ?_, ?_, ?_, ?_, ?_, trivial⟩
      · intro done vs1 wx hJ hd hall hn K hK
        simp [Region.binds] at hn
        simp only [VEAt, eqE, List.getD_cons_zero, List.getD_cons_succ, Act.put, List.setIfInBounds_toArray, List.set_cons_zero, List.set_cons_succ, Nat.reduceAdd, Nat.zero_add] at hK
        have ht := HT.out.below hJ
        have x0 := ht.cell 0 _ rfl; have x1 := ht.cell 1 _ rfl; have x2 := ht.cell 2 _ rfl; have x3 := ht.cell 3 _ rfl; have x4 := ht.cell 4 _ rfl; have x5 := ht.cell 5 _ rfl; have x6 := ht.cell 6 _ rfl
        go_wp2
        exact hK _ _ ⟨fun h => absurd h (by decide), fun h => absurd h (by decide), fun _ => Below.refl _ _⟩ rfl
      · intro done vs1 wx hJ hd hall hn K hK
        simp [Region.binds] at hn
        simp only [VEAt, eqE, List.getD_cons_zero, List.getD_cons_succ, Act.put, List.setIfInBounds_toArray, List.set_cons_zero, List.set_cons_succ, Nat.reduceAdd, Nat.zero_add] at hK
        go_wp2
        exact hK _ _ ⟨fun h => absurd h (by decide), fun h => absurd h (by decide), fun _ => Below.refl _ _⟩ rfl
      · intro done vs1 wx hJ hd hall hn K hK
        simp [Region.binds] at hn
        simp only [VEAt, eqE, List.getD_cons_zero, List.getD_cons_succ, Act.put, List.setIfInBounds_toArray, List.set_cons_zero, List.set_cons_succ, Nat.reduceAdd, Nat.zero_add] at hK
        go_wp2
        exact hK _ _ ⟨fun h => absurd h (by decide), fun h => absurd h (by decide), fun _ => Below.refl _ _⟩ rfl
      · intro done vs1 wx hJ hd hall hn K hK
        simp [Region.binds] at hn
        simp only [VEAt, eqE, List.getD_cons_zero, List.getD_cons_succ, Act.put, List.setIfInBounds_toArray, List.set_cons_zero, List.set_cons_succ, Nat.reduceAdd, Nat.zero_add] at hK
        go_wp2
        exact hK _ _ ⟨fun h => absurd h (by decide), fun h => absurd h (by decide), fun _ => Below.refl _ _⟩ rfl
      · intro done vs1 wx hJ hd hall hn K hK
        simp [Region.binds] at hn
        simp only [VEAt, eqE, List.getD_cons_zero, List.getD_cons_succ, Act.put, List.setIfInBounds_toArray, List.set_cons_zero, List.set_cons_succ, Nat.reduceAdd, Nat.zero_add] at hK
        have e2 : vs1 2 = .slice (some ⟨bA, oA, none⟩) A.length cA := hall 2 (by omega) (by simp [hn])
        have e3 : vs1 3 = .int .i64 (k : Int) := hall 3 (by omega) (by simp [hn])
        simp only [e2, e3] at hK ⊢
        by_cases hck : cA = k
        · have HE4 := Lib.hid (HV4.out.symm.trans (if_pos hck))
          subst hck
          go_wp2
          exact hK _ _ ⟨fun h => absurd h (by decide), fun h => absurd h (by decide), fun _ => Below.refl _ _⟩ HE4.out.symm
        · have HE4 := Lib.hid (HV4.out.symm.trans (if_neg hck))
          go_wp2
          exact hK _ _ ⟨fun h => absurd h (by decide), fun h => absurd h (by decide), fun _ => Below.refl _ _⟩ HE4.out.symm
      · intro done vs1 wx hJ hd hall hn K hK
        simp [Region.binds] at hn
        simp only [VEAt, eqE, List.getD_cons_zero, List.getD_cons_succ, Act.put, List.setIfInBounds_toArray, List.set_cons_zero, List.set_cons_succ, Nat.reduceAdd, Nat.zero_add] at hK
        have e0 : vs1 0 = .agg #[.int .i64 (rsT A k).log.base, .slice e7 (rsT A k).log.entries.length f7, .string ⟨(rsT A k).snap.toArray⟩, .int .i64 (rsT A k).state.index, .slice g7 (rsT A k).state.locks.length h7, .slice i7 (rsT A k).state.pairs.length j7, .slice k7 (rsT A k).state.sessions.length l7] := hall 0 (by omega) (by simp [hn])
        have e1 : vs1 1 = .int .i64 (k : Int) := hall 1 (by omega) (by simp [hn])
        have e4 : vs1 4 = V4 := hall 4 (by omega) (by simp [hn])
        simp only [e0, e1, e4] at hK ⊢
        have hsx := HSL.out.below rStr_ok (by decide) hJ
        go_wp2_with fail
        refine (rhear_calls (rsT A k) (stK A k) _ _ _ _ _ wx (HR7.out.below hJ) (rsT_fine HKO.out hk1 hkA) k (A.drop k) (A.drop k) V4 _ hsx (fun s hs => HKO.out.dec s (List.mem_of_mem_drop hs)) ⟨Int.le_refl _, by omega⟩ (put_last (rsT_fine HKO.out hk1 hkA).log (fun s hs => HKO.out.dec s (List.mem_of_mem_drop hs)) (by simp [rsT]) (by simp [rsT]; omega)) (by simp; omega) (by rw [show (rsT A k).state.index = (k : Int) from (stK_ok HKO.out hkA).2]; simp [rsT]; omega) (fun j hj => by rw [show (rsT A k).state.index = (k : Int) from (stK_ok HKO.out hkA).2] at hj; simp [rsT] at hj; omega)).mono ?_
        rw [rs_hear A k]
        rintro e w9 ⟨ve, vl, vp, vz, rfl, hrp, hb9⟩
        obtain ⟨ea, ec, rfl, -, -, -, -⟩ := id hrp.ents; obtain ⟨la, lc, rfl, -, -, -, -⟩ := id hrp.st.lock; obtain ⟨pa, pc, rfl, -, -, -, -⟩ := id hrp.st.pair; obtain ⟨za, zc, rfl, -, -, -, -⟩ := id hrp.st.sess
        have hr : RpAt w9 (rsC A k k) (.slice ea (rsC A k k).log.entries.length ec) (.slice la (rsC A k k).state.locks.length lc) (.slice pa (rsC A k k).state.pairs.length pc) (.slice za (rsC A k k).state.sessions.length zc) (fun q => wx.heap.size ≤ q ∧ q < w9.heap.size) := hrp.sub fun b hb hl => ⟨hb, hl⟩
        go_wp2
        refine hK _ _ ⟨fun h => absurd h (by decide), fun h => absurd h (by decide), fun _ => hb9⟩ ⟨ea, la, pa, za, ec, lc, pc, zc, wx.heap.size, w9.heap.size, rfl, hr, hJ.size, Nat.le_refl _, fun hd b hb => ?_⟩
        obtain ⟨b2, cs2, -, e2, -, hbx⟩ : BoxN w16.heap.size 7 (vs1 9) wx := hall 9 (by omega) hd
        rw [hb] at e2
        simp only [Value.pointer.injEq, Option.some.injEq, Addr.mk.injEq, and_true] at e2
        subst e2
        exact .inl hbx.lt
      · intro done vs1 wx hJ hd hall hn K hK
        simp [Region.binds] at hn
        obtain ⟨ea, la, pa, za, ec, lc, pc, zc, lo, hi, e5, -⟩ : ((fun done vs v wx => ∃ (ea la pa za : Option Addr) (ec lc pc zc : Nat) (lo hi : Nat), v = .tuple #[.agg #[.int .i64 (rsC A k k).log.base, .slice ea (rsC A k k).log.entries.length ec, .string ⟨(rsC A k k).snap.toArray⟩, .int .i64 (rsC A k k).state.index, .slice la (rsC A k k).state.locks.length lc, .slice pa (rsC A k k).state.pairs.length pc, .slice za (rsC A k k).state.sessions.length zc], .int .i64 0] ∧ RpAt wx (rsC A k k) (.slice ea (rsC A k k).log.entries.length ec) (.slice la (rsC A k k).state.locks.length lc) (.slice pa (rsC A k k).state.pairs.length pc) (.slice za (rsC A k k).state.sessions.length zc) (fun q => lo ≤ q ∧ q < hi) ∧ w16.heap.size ≤ lo ∧ hi ≤ wx.heap.size ∧ (done 9 = true → ∀ b, vs 9 = .pointer (some ⟨b, 0, none⟩) → b < lo ∨ hi ≤ b)) : VE) done vs1 (vs1 5) wx := hall 5 (by omega) (by simp [hn])
        simp only [VEAt, eqE, List.getD_cons_zero, List.getD_cons_succ, Act.put, List.setIfInBounds_toArray, List.set_cons_zero, List.set_cons_succ, Nat.reduceAdd, Nat.zero_add] at hK
        simp only [e5] at hK ⊢
        go_wp2
        exact hK _ _ ⟨fun h => absurd h (by decide), fun h => absurd h (by decide), fun _ => Below.refl _ _⟩ ⟨rfl, ea, la, pa, za, ec, lc, pc, zc, rfl⟩
      · intro done vs1 wx hJ hd hall hn K hK
        simp [Region.binds] at hn
        simp only [VEAt, eqE, List.getD_cons_zero, List.getD_cons_succ, Act.put, List.setIfInBounds_toArray, List.set_cons_zero, List.set_cons_succ, Nat.reduceAdd, Nat.zero_add] at hK
        obtain ⟨ea, la, pa, za, ec, lc, pc, zc, e6⟩ : ∃ (ea la pa za : Option Addr) (ec lc pc zc : Nat), vs1 6 = .tuple #[.agg #[.int .i64 (rsC A k k).log.base, .slice ea (rsC A k k).log.entries.length ec, .string ⟨(rsC A k k).snap.toArray⟩, .int .i64 (rsC A k k).state.index, .slice la (rsC A k k).state.locks.length lc, .slice pa (rsC A k k).state.pairs.length pc, .slice za (rsC A k k).state.sessions.length zc], .int .i64 0] := (hall 6 (by omega) (by simp [hn])).2
        simp only [e6] at hK ⊢
        go_wp2
        exact hK _ _ ⟨fun h => absurd h (by decide), fun h => absurd h (by decide), fun _ => Below.refl _ _⟩ ⟨ea, la, pa, za, ec, lc, pc, zc, rfl, rfl⟩
      · intro done vs1 wx hJ hd hall hn K hK
        simp [Region.binds] at hn
        simp only [VEAt, eqE, List.getD_cons_zero, List.getD_cons_succ, Act.put, List.setIfInBounds_toArray, List.set_cons_zero, List.set_cons_succ, Nat.reduceAdd, Nat.zero_add] at hK
        obtain ⟨ea, la, pa, za, ec, lc, pc, zc, e6⟩ : ∃ (ea la pa za : Option Addr) (ec lc pc zc : Nat), vs1 6 = .tuple #[.agg #[.int .i64 (rsC A k k).log.base, .slice ea (rsC A k k).log.entries.length ec, .string ⟨(rsC A k k).snap.toArray⟩, .int .i64 (rsC A k k).state.index, .slice la (rsC A k k).state.locks.length lc, .slice pa (rsC A k k).state.pairs.length pc, .slice za (rsC A k k).state.sessions.length zc], .int .i64 0] := (hall 6 (by omega) (by simp [hn])).2
        simp only [e6] at hK ⊢
        go_wp2
        exact hK _ _ ⟨fun h => absurd h (by decide), fun h => absurd h (by decide), fun _ => Below.refl _ _⟩ rfl
      · intro done vs1 wx hJ hd hall hn K hK
        simp [Region.binds] at hn
        simp only [VEAt, eqE, List.getD_cons_zero, List.getD_cons_succ, Act.put, List.setIfInBounds_toArray, List.set_cons_zero, List.set_cons_succ, Nat.reduceAdd, Nat.zero_add] at hK
        go_wp2
        exact hK _ _ ⟨fun h => absurd h (by decide), fun _ => ⟨rfl, rfl⟩, fun _ => below_alloc wx _⟩ (BoxN.new _ [.int .i64 0, .slice none 0 0, .string ⟨#[]⟩, .int .i64 0, .slice none 0 0, .slice none 0 0, .slice none 0 0] _ hJ.size)
      · intro done vs1 wx hJ hd hall hn K hK
        simp [Region.binds] at hn
        simp only [VEAt, eqE, List.getD_cons_zero, List.getD_cons_succ, Act.put, List.setIfInBounds_toArray, List.set_cons_zero, List.set_cons_succ, Nat.reduceAdd, Nat.zero_add] at hK
        obtain ⟨ea, la, pa, za, ec, lc, pc, zc, lo, hi, e5, h3, h4, h5, h6⟩ : ((fun done vs v wx => ∃ (ea la pa za : Option Addr) (ec lc pc zc : Nat) (lo hi : Nat), v = .tuple #[.agg #[.int .i64 (rsC A k k).log.base, .slice ea (rsC A k k).log.entries.length ec, .string ⟨(rsC A k k).snap.toArray⟩, .int .i64 (rsC A k k).state.index, .slice la (rsC A k k).state.locks.length lc, .slice pa (rsC A k k).state.pairs.length pc, .slice za (rsC A k k).state.sessions.length zc], .int .i64 0] ∧ RpAt wx (rsC A k k) (.slice ea (rsC A k k).log.entries.length ec) (.slice la (rsC A k k).state.locks.length lc) (.slice pa (rsC A k k).state.pairs.length pc) (.slice za (rsC A k k).state.sessions.length zc) (fun q => lo ≤ q ∧ q < hi) ∧ w16.heap.size ≤ lo ∧ hi ≤ wx.heap.size ∧ (done 9 = true → ∀ b, vs 9 = .pointer (some ⟨b, 0, none⟩) → b < lo ∨ hi ≤ b)) : VE) done vs1 (vs1 5) wx := hall 5 (by omega) (by simp [hn])
        have e6 : vs1 6 = vs1 5 := (hall 6 (by omega) (by simp [hn])).1
        obtain ⟨ea', la', pa', za', ec', lc', pc', zc', f6, e7⟩ : ((fun _ vs v _ => ∃ (ea la pa za : Option Addr) (ec lc pc zc : Nat), vs 6 = .tuple #[.agg #[.int .i64 (rsC A k k).log.base, .slice ea (rsC A k k).log.entries.length ec, .string ⟨(rsC A k k).snap.toArray⟩, .int .i64 (rsC A k k).state.index, .slice la (rsC A k k).state.locks.length lc, .slice pa (rsC A k k).state.pairs.length pc, .slice za (rsC A k k).state.sessions.length zc], .int .i64 0] ∧ v = .agg #[.int .i64 (rsC A k k).log.base, .slice ea (rsC A k k).log.entries.length ec, .string ⟨(rsC A k k).snap.toArray⟩, .int .i64 (rsC A k k).state.index, .slice la (rsC A k k).state.locks.length lc, .slice pa (rsC A k k).state.pairs.length pc, .slice za (rsC A k k).state.sessions.length zc]) : VE) done vs1 (vs1 7) wx := hall 7 (by omega) (by simp [hn])
        rw [e6, e5] at f6
        simp [and_assoc] at f6
        obtain ⟨rfl, rfl, rfl, rfl, rfl, rfl, rfl, rfl⟩ := f6
        obtain ⟨b, cs, hcl, e9, hL, hbx⟩ : BoxN w16.heap.size 7 (vs1 9) wx := hall 9 (by omega) (by simp [hn])
        obtain ⟨z0, z1, z2, z3, z4, z5, z6, rfl⟩ : ∃ z0 z1 z2 z3 z4 z5 z6, cs = [z0, z1, z2, z3, z4, z5, z6] := by
          match cs, hcl with
          | [z0, z1, z2, z3, z4, z5, z6], _ => exact ⟨z0, z1, z2, z3, z4, z5, z6, rfl⟩
        have hap := h6 (by simp [hn]) b e9
        simp only [e7, e9] at hK ⊢
        have y0 := hbx.cell 0 _ rfl; have t0 := hbx.thaw 0; have y1 := hbx.cell 1 _ rfl; have t1 := hbx.thaw 1; have y2 := hbx.cell 2 _ rfl; have t2 := hbx.thaw 2; have y3 := hbx.cell 3 _ rfl; have t3 := hbx.thaw 3; have y4 := hbx.cell 4 _ rfl; have t4 := hbx.thaw 4; have y5 := hbx.cell 5 _ rfl; have t5 := hbx.thaw 5; have y6 := hbx.cell 6 _ rfl; have t6 := hbx.thaw 6
        have hsc : ∃ (b2 : Nat) (us : List Value), Value.pointer (some ⟨b, 0, none⟩) = .pointer (some ⟨b2, 0, none⟩) ∧ us.length = 7 ∧ w16.heap.size ≤ b2 ∧ (((((((wx.setCell ⟨b, 0, none⟩ (.int .i64 (rsC A k k).log.base)).setCell ⟨b, 1, none⟩ (.slice ea (rsC A k k).log.entries.length ec)).setCell ⟨b, 2, none⟩ (.string ⟨(rsC A k k).snap.toArray⟩)).setCell ⟨b, 3, none⟩ (.int .i64 (rsC A k k).state.index)).setCell ⟨b, 4, none⟩ (.slice la (rsC A k k).state.locks.length lc)).setCell ⟨b, 5, none⟩ (.slice pa (rsC A k k).state.pairs.length pc)).setCell ⟨b, 6, none⟩ (.slice za (rsC A k k).state.sessions.length zc)) = wx.setCells b2 0 us := ⟨b, [.int .i64 (rsC A k k).log.base, .slice ea (rsC A k k).log.entries.length ec, .string ⟨(rsC A k k).snap.toArray⟩, .int .i64 (rsC A k k).state.index, .slice la (rsC A k k).state.locks.length lc, .slice pa (rsC A k k).state.pairs.length pc, .slice za (rsC A k k).state.sessions.length zc], rfl, rfl, hL, rfl⟩
        have hp : BoxAt (((((((wx.setCell ⟨b, 0, none⟩ (.int .i64 (rsC A k k).log.base)).setCell ⟨b, 1, none⟩ (.slice ea (rsC A k k).log.entries.length ec)).setCell ⟨b, 2, none⟩ (.string ⟨(rsC A k k).snap.toArray⟩)).setCell ⟨b, 3, none⟩ (.int .i64 (rsC A k k).state.index)).setCell ⟨b, 4, none⟩ (.slice la (rsC A k k).state.locks.length lc)).setCell ⟨b, 5, none⟩ (.slice pa (rsC A k k).state.pairs.length pc)).setCell ⟨b, 6, none⟩ (.slice za (rsC A k k).state.sessions.length zc)) b [.int .i64 (rsC A k k).log.base, .slice ea (rsC A k k).log.entries.length ec, .string ⟨(rsC A k k).snap.toArray⟩, .int .i64 (rsC A k k).state.index, .slice la (rsC A k k).state.locks.length lc, .slice pa (rsC A k k).state.pairs.length pc, .slice za (rsC A k k).state.sessions.length zc] := hbx.storeAll [.int .i64 (rsC A k k).log.base, .slice ea (rsC A k k).log.entries.length ec, .string ⟨(rsC A k k).snap.toArray⟩, .int .i64 (rsC A k k).state.index, .slice la (rsC A k k).state.locks.length lc, .slice pa (rsC A k k).state.pairs.length pc, .slice za (rsC A k k).state.sessions.length zc] rfl
        have hr : RpAt (((((((wx.setCell ⟨b, 0, none⟩ (.int .i64 (rsC A k k).log.base)).setCell ⟨b, 1, none⟩ (.slice ea (rsC A k k).log.entries.length ec)).setCell ⟨b, 2, none⟩ (.string ⟨(rsC A k k).snap.toArray⟩)).setCell ⟨b, 3, none⟩ (.int .i64 (rsC A k k).state.index)).setCell ⟨b, 4, none⟩ (.slice la (rsC A k k).state.locks.length lc)).setCell ⟨b, 5, none⟩ (.slice pa (rsC A k k).state.pairs.length pc)).setCell ⟨b, 6, none⟩ (.slice za (rsC A k k).state.sessions.length zc)) (rsC A k k) (.slice ea (rsC A k k).log.entries.length ec) (.slice la (rsC A k k).state.locks.length lc) (.slice pa (rsC A k k).state.pairs.length pc) (.slice za (rsC A k k).state.sessions.length zc) (fun q => lo ≤ q ∧ q < hi) := RpAt.store h3 0 [.int .i64 (rsC A k k).log.base, .slice ea (rsC A k k).log.entries.length ec, .string ⟨(rsC A k k).snap.toArray⟩, .int .i64 (rsC A k k).state.index, .slice la (rsC A k k).state.locks.length lc, .slice pa (rsC A k k).state.pairs.length pc, .slice za (rsC A k k).state.sessions.length zc] fun q hq => ⟨by have h1 := hq.1; have h2 := hq.2; omega, hq⟩
        have hsz : ((((((((wx.setCell ⟨b, 0, none⟩ (.int .i64 (rsC A k k).log.base)).setCell ⟨b, 1, none⟩ (.slice ea (rsC A k k).log.entries.length ec)).setCell ⟨b, 2, none⟩ (.string ⟨(rsC A k k).snap.toArray⟩)).setCell ⟨b, 3, none⟩ (.int .i64 (rsC A k k).state.index)).setCell ⟨b, 4, none⟩ (.slice la (rsC A k k).state.locks.length lc)).setCell ⟨b, 5, none⟩ (.slice pa (rsC A k k).state.pairs.length pc)).setCell ⟨b, 6, none⟩ (.slice za (rsC A k k).state.sessions.length zc))).heap.size = wx.heap.size := by simp only [World.size_setCell]
        go_wp2
        exact hK undef _ ⟨fun _ => hsc, fun h => absurd h (by decide), fun h => absurd rfl h⟩ ⟨ea, la, pa, za, ec, lc, pc, zc, lo, hi, b, e5, rfl, hp, hr, h4, by rw [hsz]; exact h5, hap, hL⟩
    case hend =>
      intro done vs1 wx hJ hdn hv
      obtain ⟨e0, e1, e2, e3, e4, e5, -, -, e8, -, ⟨ea, la, pa, za, ec, lc, pc, zc, lo, hi, b, eC, eA, hbx, hrl, hlo, hhi, hap, hbL⟩, -⟩ := hv
      simp only [eqE] at e0 e1 e2 e3 e4 e8
      simp only [List.take_succ_cons, List.take_zero, List.drop_succ_cons, List.drop_zero, planPut, Act.put, List.setIfInBounds_toArray, List.set_cons_zero, List.set_cons_succ, Nat.reduceAdd, Nat.zero_add]
      rw [eA, e0, e1, e2, e3, e4, e8]
      clear eA eC e0 e1 e2 e3 e4 e8
      replace HB := Lib.hid (below_step HB.out hJ)
      replace HA := Lib.hid (HA.out.below rStr_ok (by decide) hJ)
      replace HX := Lib.hid (HX.out.below hJ)
      replace HR := Lib.hid (HR.out.below hJ)
      replace HR3 := Lib.hid (HR3.out.below hJ)
      replace HC := Lib.hid (HC.out.below hJ)
      replace HR4 := Lib.hid (HR4.out.below hJ)
      replace HD := Lib.hid (HD.out.below hJ)
      replace HR5 := Lib.hid (HR5.out.below hJ)
      replace HE := Lib.hid (HE.out.below hJ)
      replace HR6 := Lib.hid (HR6.out.below hJ)
      replace HY := Lib.hid (HY.out.below hJ)
      replace HT := Lib.hid (HT.out.below hJ)
      clear hJ
      clear HSL HV4
      have HR8 := Lib.hid (hrl.sub (S' := fun _ => True) fun _ _ _ => trivial)
      have HU := Lib.hid hbx
      clear hbx hrl hlo hhi hap
      rename World => w17
      go_upto_region 13 with (fail)
      have u0 := HU.out.cell 0 _ rfl; have u1 := HU.out.cell 1 _ rfl; have u2 := HU.out.cell 2 _ rfl; have u3 := HU.out.cell 3 _ rfl; have u4 := HU.out.cell 4 _ rfl; have u5 := HU.out.cell 5 _ rfl; have u6 := HU.out.cell 6 _ rfl
      go_wp2_with fail
      refine (rapply_calls (rsC A k k) (stK A k) _ _ _ _ _ w17 HR8.out (rsC_fine HKO.out hk1 (Nat.le_refl _) hkA) A HKO.out k k A.length rfl rfl (Nat.le_refl _) hkA (Nat.le_refl _) (by simp only [rsC, List.length_drop]; omega) (fun j h1 h2 => by simp only [rsC, List.getD, List.getElem?_drop]; rw [show k + (j - k) = j by omega])).mono ?_
      rw [rs_applyC A k k A.length]
      rintro e w18 ⟨ve, vl, vp, vz, vm9, rfl, hrp, hms, hb⟩
      obtain ⟨e9, f9, rfl, -, -, -, -⟩ := id hrp.ents; obtain ⟨g9, h9, rfl, -, -, -, -⟩ := id hrp.st.lock; obtain ⟨i9, j9, rfl, -, -, -, -⟩ := id hrp.st.pair; obtain ⟨k9, l9, rfl, -, -, -, -⟩ := id hrp.st.sess
      have hone9 := hms.oneCell
      clear hms
      have HR9 := Lib.hid (hrp.sub (S' := fun _ => True) fun _ _ _ => trivial)
      clear hrp
      clear u0 u1 u2 u3 u4 u5 u6
      replace HB := Lib.hid (below_step HB.out hb)
      replace HA := Lib.hid (HA.out.below rStr_ok (by decide) hb)
      replace HX := Lib.hid (HX.out.below hb)
      replace HR := Lib.hid (HR.out.below hb)
      replace HR3 := Lib.hid (HR3.out.below hb)
      replace HC := Lib.hid (HC.out.below hb)
      replace HR4 := Lib.hid (HR4.out.below hb)
      replace HD := Lib.hid (HD.out.below hb)
      replace HR5 := Lib.hid (HR5.out.below hb)
      replace HE := Lib.hid (HE.out.below hb)
      replace HR6 := Lib.hid (HR6.out.below hb)
      replace HY := Lib.hid (HY.out.below hb)
      replace HT := Lib.hid (HT.out.below hb)
      replace HR8 := Lib.hid (HR8.out.below hb)
      replace HU := Lib.hid (HU.out.below hb)
      clear hb
      go_upto_region 14 with (fail)
      have HV := Lib.hid (BoxAt.new (w := w18) (cs := [.int .i64 (rsC A k A.length).log.base, .slice e9 (rsC A k A.length).log.entries.length f9, .string ⟨(rsC A k A.length).snap.toArray⟩, .int .i64 (rsC A k A.length).state.index, .slice g9 (rsC A k A.length).state.locks.length h9, .slice i9 (rsC A k A.length).state.pairs.length j9, .slice k9 (rsC A k A.length).state.sessions.length l9]) (E := 67))
      have hba := below_alloc w18 (.cells #[.int .i64 (rsC A k A.length).log.base, .slice e9 (rsC A k A.length).log.entries.length f9, .string ⟨(rsC A k A.length).snap.toArray⟩, .int .i64 (rsC A k A.length).state.index, .slice g9 (rsC A k A.length).state.locks.length h9, .slice i9 (rsC A k A.length).state.pairs.length j9, .slice k9 (rsC A k A.length).state.sessions.length l9] 67)
      replace HB := Lib.hid (below_step HB.out hba)
      replace HA := Lib.hid (HA.out.below rStr_ok (by decide) hba)
      replace HX := Lib.hid (HX.out.below hba)
      replace HR := Lib.hid (HR.out.below hba)
      replace HR3 := Lib.hid (HR3.out.below hba)
      replace HC := Lib.hid (HC.out.below hba)
      replace HR4 := Lib.hid (HR4.out.below hba)
      replace HD := Lib.hid (HD.out.below hba)
      replace HR5 := Lib.hid (HR5.out.below hba)
      replace HE := Lib.hid (HE.out.below hba)
      replace HR6 := Lib.hid (HR6.out.below hba)
      replace HY := Lib.hid (HY.out.below hba)
      replace HT := Lib.hid (HT.out.below hba)
      replace HR8 := Lib.hid (HR8.out.below hba)
      replace HU := Lib.hid (HU.out.below hba)
      replace HR9 := Lib.hid (HR9.out.below hba)
      clear hba
      generalize w18.alloc (.cells #[.int .i64 (rsC A k A.length).log.base, .slice e9 (rsC A k A.length).log.entries.length f9, .string ⟨(rsC A k A.length).snap.toArray⟩, .int .i64 (rsC A k A.length).state.index, .slice g9 (rsC A k A.length).state.locks.length h9, .slice i9 (rsC A k A.length).state.pairs.length j9, .slice k9 (rsC A k A.length).state.sessions.length l9] 67) = w19 at *
      generalize w18.heap.size = B9 at *
      simp only [List.append_eq, List.cons_append, List.nil_append]
      have p3 := HD.out.cell 3 _ rfl; have p4 := HD.out.cell 4 _ rfl; have p5 := HD.out.cell 5 _ rfl; have p6 := HD.out.cell 6 _ rfl
      have q3 := HX.out.cell 3 _ rfl; have q4 := HX.out.cell 4 _ rfl; have q5 := HX.out.cell 5 _ rfl; have q6 := HX.out.cell 6 _ rfl
      go_wp2_with fail
      refine (ksame_calls (stK A k) ((stK_ok HKO.out hkA).1) _ _ _ _ _ _ _ _ w19 HR4.out.st HR.out.st).mono ?_
      rintro e w20 ⟨rfl, hb⟩
      clear p3 p4 p5 p6
      clear q3 q4 q5 q6
      replace HB := Lib.hid (below_step HB.out hb)
      replace HA := Lib.hid (HA.out.below rStr_ok (by decide) hb)
      replace HX := Lib.hid (HX.out.below hb)
      replace HR := Lib.hid (HR.out.below hb)
      replace HR3 := Lib.hid (HR3.out.below hb)
      replace HC := Lib.hid (HC.out.below hb)
      replace HR4 := Lib.hid (HR4.out.below hb)
      replace HD := Lib.hid (HD.out.below hb)
      replace HR5 := Lib.hid (HR5.out.below hb)
      replace HE := Lib.hid (HE.out.below hb)
      replace HR6 := Lib.hid (HR6.out.below hb)
      replace HY := Lib.hid (HY.out.below hb)
      replace HT := Lib.hid (HT.out.below hb)
      replace HR8 := Lib.hid (HR8.out.below hb)
      replace HU := Lib.hid (HU.out.below hb)
      replace HR9 := Lib.hid (HR9.out.below hb)
      replace HV := Lib.hid (HV.out.below hb)
      clear hb
      have p3 := HE.out.cell 3 _ rfl; have p4 := HE.out.cell 4 _ rfl; have p5 := HE.out.cell 5 _ rfl; have p6 := HE.out.cell 6 _ rfl
      have q3 := HY.out.cell 3 _ rfl; have q4 := HY.out.cell 4 _ rfl; have q5 := HY.out.cell 5 _ rfl; have q6 := HY.out.cell 6 _ rfl
      go_wp2_with fail
      refine (ksame_calls (stK A A.length) ((stK_ok HKO.out (Nat.le_refl _)).1) _ _ _ _ _ _ _ _ w20 HR5.out.st HR6.out.st).mono ?_
      rintro e w21 ⟨rfl, hb⟩
      clear p3 p4 p5 p6
      clear q3 q4 q5 q6
      replace HB := Lib.hid (below_step HB.out hb)
      replace HA := Lib.hid (HA.out.below rStr_ok (by decide) hb)
      replace HX := Lib.hid (HX.out.below hb)
      replace HR := Lib.hid (HR.out.below hb)
      replace HR3 := Lib.hid (HR3.out.below hb)
      replace HC := Lib.hid (HC.out.below hb)
      replace HR4 := Lib.hid (HR4.out.below hb)
      replace HD := Lib.hid (HD.out.below hb)
      replace HR5 := Lib.hid (HR5.out.below hb)
      replace HE := Lib.hid (HE.out.below hb)
      replace HR6 := Lib.hid (HR6.out.below hb)
      replace HY := Lib.hid (HY.out.below hb)
      replace HT := Lib.hid (HT.out.below hb)
      replace HR8 := Lib.hid (HR8.out.below hb)
      replace HU := Lib.hid (HU.out.below hb)
      replace HR9 := Lib.hid (HR9.out.below hb)
      replace HV := Lib.hid (HV.out.below hb)
      clear hb
      have p3 := HV.out.cell 3 _ rfl; have p4 := HV.out.cell 4 _ rfl; have p5 := HV.out.cell 5 _ rfl; have p6 := HV.out.cell 6 _ rfl
      have q3 := HY.out.cell 3 _ rfl; have q4 := HY.out.cell 4 _ rfl; have q5 := HY.out.cell 5 _ rfl; have q6 := HY.out.cell 6 _ rfl
      go_wp2_with fail
      refine (ksame_calls (stK A A.length) ((stK_ok HKO.out (Nat.le_refl _)).1) _ _ _ _ _ _ _ _ w21 HR9.out.st HR6.out.st).mono ?_
      rintro e w22 ⟨rfl, hb⟩
      clear p3 p4 p5 p6
      clear q3 q4 q5 q6
      replace HB := Lib.hid (below_step HB.out hb)
      replace HA := Lib.hid (HA.out.below rStr_ok (by decide) hb)
      replace HX := Lib.hid (HX.out.below hb)
      replace HR := Lib.hid (HR.out.below hb)
      replace HR3 := Lib.hid (HR3.out.below hb)
      replace HC := Lib.hid (HC.out.below hb)
      replace HR4 := Lib.hid (HR4.out.below hb)
      replace HD := Lib.hid (HD.out.below hb)
      replace HR5 := Lib.hid (HR5.out.below hb)
      replace HE := Lib.hid (HE.out.below hb)
      replace HR6 := Lib.hid (HR6.out.below hb)
      replace HY := Lib.hid (HY.out.below hb)
      replace HT := Lib.hid (HT.out.below hb)
      replace HR8 := Lib.hid (HR8.out.below hb)
      replace HU := Lib.hid (HU.out.below hb)
      replace HR9 := Lib.hid (HR9.out.below hb)
      replace HV := Lib.hid (HV.out.below hb)
      clear hb
      have v0 := HV.out.cell 0 _ rfl; have v1 := HV.out.cell 1 _ rfl; have v2 := HV.out.cell 2 _ rfl; have v3 := HV.out.cell 3 _ rfl; have v4 := HV.out.cell 4 _ rfl; have v5 := HV.out.cell 5 _ rfl; have v6 := HV.out.cell 6 _ rfl
      go_wp2_with fail
      refine (rcheck_calls (rsC A k A.length) (stK A k) _ _ _ _ _ w22 HR9.out (rsC_fine HKO.out hk1 hkA (Nat.le_refl _))).mono ?_
      rintro e w23 ⟨rfl, hb⟩
      clear v0 v1 v2 v3 v4 v5 v6
      replace HB := Lib.hid (below_step HB.out hb)
      replace HA := Lib.hid (HA.out.below rStr_ok (by decide) hb)
      replace HX := Lib.hid (HX.out.below hb)
      replace HR := Lib.hid (HR.out.below hb)
      replace HR3 := Lib.hid (HR3.out.below hb)
      replace HC := Lib.hid (HC.out.below hb)
      replace HR4 := Lib.hid (HR4.out.below hb)
      replace HD := Lib.hid (HD.out.below hb)
      replace HR5 := Lib.hid (HR5.out.below hb)
      replace HE := Lib.hid (HE.out.below hb)
      replace HR6 := Lib.hid (HR6.out.below hb)
      replace HY := Lib.hid (HY.out.below hb)
      replace HT := Lib.hid (HT.out.below hb)
      replace HR8 := Lib.hid (HR8.out.below hb)
      replace HU := Lib.hid (HU.out.below hb)
      replace HR9 := Lib.hid (HR9.out.below hb)
      replace HV := Lib.hid (HV.out.below hb)
      clear hb
      have c1 := HC.out.cell 1 _ rfl
      have hwl : IntKind.i64.wrap ((A.length : Int) - (k : Int)) = ((rsC A k k).log.entries.length : Int) := (IntWalk.i64_in _ (by omega)).trans (by simp [rsC]; omega)
      go_wp2
      go_ret
      exact ⟨rfl, HB.out⟩
end Go.Proofs.YtkefgapnghnjjaaGreatDoor
