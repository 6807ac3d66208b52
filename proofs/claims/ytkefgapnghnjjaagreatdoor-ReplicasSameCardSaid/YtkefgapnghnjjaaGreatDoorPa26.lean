/- A part of the proof, laid together from: RepD. -/
import Derived.Test.YtkefgapnghnjjaaGreatDoorPa24
import Derived.Test.YtkefgapnghnjjaaGreatDoorPa25
set_option linter.unusedSimpArgs false
set_option linter.unusedVariables false
namespace Go.Proofs.YtkefgapnghnjjaaGreatDoor
open Go.RowKit Go.Tk
set_option linter.unusedSimpArgs false in
set_option maxRecDepth 100000 in
set_option maxHeartbeats 3200000 in
theorem rhear_calls (r : ReplicaD) (ks : StateD) (ve vl vp vz : Value) (S : Nat → Prop) (w : World) (h : RpAt w r ve vl vp vz S) (hr : RepFine r ks) (f : Int) (more o : List Bytes) (vm : Value) (Sm : Nat → Prop) (hm : SlR 1 rStr w vm more Sm) (hmd : ∀ s ∈ more, decErr s = 0) (hf : r.log.base ≤ f ∧ f ≤ 1073741824)
    (hput : logPut r.log f more = (⟨r.log.base, o⟩, 0)) (hol : o.length ≤ 400) (hi : r.state.index ≤ r.log.base + o.length) (hsame : ∀ j : Nat, r.log.base + j < r.state.index → o[j]? = r.log.entries[j]?) :
    Calls Tryz.prog 31 #[.agg #[.int .i64 r.log.base, ve, .string ⟨r.snap.toArray⟩, .int .i64 r.state.index, vl, vp, vz], .int .i64 f, vm] w (RetRep w ⟨⟨r.log.base, o⟩, r.snap, r.state⟩ 0) := by
  obtain ⟨o1, o2, o3, o4⟩ := h.ones
  have HR := Lib.hid (h.sub (S' := fun b => b < w.heap.size) fun b _ hlt => hlt)
  have HF := Lib.hid hr
  obtain ⟨hb0, hb1⟩ := hr.log.base
  have hln := hr.log.len
  obtain ⟨hi0, hi1⟩ := hr.at_
  unfold logLast at hi1
  clear h hr
  have hmo := hm.oneCell
  have HM := Lib.hid (SlR.sub (S' := fun b => b < w.heap.size) rStr_ok (by decide) hm fun b _ hlt => hlt)
  have HV := Lib.hid hput
  have HMD := Lib.hid hmd
  have HSM := Lib.hid hsame
  clear hm hput hmd hsame
  go_enter Tryz.func31, Tryz.ntmps31
  go_upto_region 1 with (fail)
  have HX := Lib.hid ((BoxAt.new (w := w) (cs := [.int .i64 r.log.base, ve, .string ⟨r.snap.toArray⟩, .int .i64 r.state.index, vl, vp, vz]) (E := 67)).below (below_alloc _ (.cells #[.int .i64 0, .slice none 0 0, .string ⟨#[]⟩, .int .i64 0, .slice none 0 0, .slice none 0 0, .slice none 0 0] 67)))
  have hz := BoxAt.new (w := w.alloc (.cells #[.int .i64 r.log.base, ve, .string ⟨r.snap.toArray⟩, .int .i64 r.state.index, vl, vp, vz] 67)) (cs := [.int .i64 0, .slice none 0 0, .string ⟨#[]⟩, .int .i64 0, .slice none 0 0, .slice none 0 0, .slice none 0 0]) (E := 67)
  rw [World.size_alloc] at hz
  have HZ := Lib.hid hz
  clear hz
  have HB := Lib.hid (below_alloc2 w (.cells #[.int .i64 r.log.base, ve, .string ⟨r.snap.toArray⟩, .int .i64 r.state.index, vl, vp, vz] 67) (.cells #[.int .i64 0, .slice none 0 0, .string ⟨#[]⟩, .int .i64 0, .slice none 0 0, .slice none 0 0, .slice none 0 0] 67))
  replace HR := Lib.hid (HR.out.below HB.out)
  replace HM := Lib.hid (HM.out.below rStr_ok (by decide) HB.out)
  generalize (w.alloc (.cells #[.int .i64 r.log.base, ve, .string ⟨r.snap.toArray⟩, .int .i64 r.state.index, vl, vp, vz] 67)).alloc (.cells #[.int .i64 0, .slice none 0 0, .string ⟨#[]⟩, .int .i64 0, .slice none 0 0, .slice none 0 0, .slice none 0 0] 67) = w0 at *
  have x0 := HX.out.cell 0 _ rfl; have x1 := HX.out.cell 1 _ rfl; have x2 := HX.out.cell 2 _ rfl; have x3 := HX.out.cell 3 _ rfl; have x4 := HX.out.cell 4 _ rfl; have x5 := HX.out.cell 5 _ rfl; have x6 := HX.out.cell 6 _ rfl
  go_wp2_with fail
  refine (rcheck_calls r ks _ _ _ _ _ w0 HR.out HF.out).mono ?_
  rintro e w1 ⟨rfl, hb1⟩
  clear x0 x1 x2 x3 x4 x5 x6
  replace HR := Lib.hid (HR.out.below hb1)
  replace HM := Lib.hid (HM.out.below rStr_ok (by decide) hb1)
  replace HX := Lib.hid (HX.out.below hb1)
  replace HZ := Lib.hid (HZ.out.below hb1)
  replace HB := Lib.hid (below_step HB.out hb1)
  clear hb1
  have x0 := HX.out.cell 0 _ rfl; have x1 := HX.out.cell 1 _ rfl; have x2 := HX.out.cell 2 _ rfl; have x3 := HX.out.cell 3 _ rfl; have x4 := HX.out.cell 4 _ rfl; have x5 := HX.out.cell 5 _ rfl; have x6 := HX.out.cell 6 _ rfl
  go_wp2_with fail
  refine (logPut_calls r.log more _ _ _ _ w1 HR.out.ents HM.out HF.out.log HF.out.log.small HMD.out (fun s hs => by have := dec_len (HMD.out s hs); omega) f ⟨by omega, by omega⟩ (by omega)).mono ?_
  rw [HV.out]
  rintro e w2 ⟨ve2, rfl, hs2, hb2⟩
  obtain ⟨b5, d5, rfl, -, hm5, -, -⟩ := id hs2
  unfold maxLen at hm5
  have HL := Lib.hid (show SlR 1 rStr w2 (.slice b5 o.length d5) o (fun b => w.heap.size + 2 ≤ b) from SlR.sub rStr_ok (by decide) hs2 fun b hb _ => by show _ ≤ _; have : w1.heap.size ≤ b := hb; have := HZ.out.lt; omega)
  clear hs2
  clear x0 x1 x2 x3 x4 x5 x6
  replace HR := Lib.hid (HR.out.below hb2)
  replace HM := Lib.hid (HM.out.below rStr_ok (by decide) hb2)
  replace HX := Lib.hid (HX.out.below hb2)
  replace HZ := Lib.hid (HZ.out.below hb2)
  replace HB := Lib.hid (below_step HB.out hb2)
  clear hb2
  clear HM HMD HV hmo
  go_upto_region 5 with (fail)
  have hzq := HZ.out.lt
  have hby : w.heap.size + 1 < w2.heap.size := hzq
  clear hzq
  have HY := Lib.hid (BoxAt.new (w := w2) (cs := [.int .i64 r.log.base, .slice b5 o.length d5]) (E := 65))
  have hba := below_alloc w2 (.cells #[.int .i64 r.log.base, .slice b5 o.length d5] 65)
  replace HR := Lib.hid (HR.out.below hba)
  replace HX := Lib.hid (HX.out.below hba)
  replace HZ := Lib.hid (HZ.out.below hba)
  replace HB := Lib.hid (below_step HB.out hba)
  replace HL := Lib.hid (HL.out.below rStr_ok (by decide) hba)
  clear hba
  generalize w2.alloc (.cells #[.int .i64 r.log.base, .slice b5 o.length d5] 65) = w3 at *
  generalize w2.heap.size = BY at *
  have x0 := HX.out.cell 0 _ rfl
  have e0 : IntKind.i64.wrap (r.log.base + 1) = r.log.base + 1 := IntWalk.i64_in _ (by omega)
  go_wp2
  clear x0 e0
  go_loopw [11] (fun i wr => ∃ (n : Nat) (I : Int), r.log.base + n ≤ r.state.index ∧ Hid (I = r.log.base + 1 + n) ∧ i = .int .i64 I ∧ Hid (Below w3.heap.size w3 wr))
    (fun i _ => (r.state.index + 1 - intOf i).toNat)
  case atStart => exact ⟨0, r.log.base + 1, by omega, Lib.hid (by omega), rfl, Lib.hid (Below.refl _ _)⟩
  case round =>
  obtain ⟨n, I, hn, HI, rfl, HBL⟩ := hrel
  replace HR := Lib.hid (HR.out.below HBL.out)
  replace HX := Lib.hid (HX.out.below HBL.out)
  replace HZ := Lib.hid (HZ.out.below HBL.out)
  replace HB := Lib.hid (below_step HB.out HBL.out)
  replace HL := Lib.hid (HL.out.below rStr_ok (by decide) HBL.out)
  replace HY := Lib.hid (HY.out.below HBL.out)
  by_cases hlt : r.log.base + n < r.state.index
  · have x3 := HX.out.cell 3 _ rfl
    have hle : I ≤ r.state.index := by have := HI.out; omega
    obtain ⟨b, off, cap1, row, hv, -, hrow, hcells⟩ := HL.out.row n (by omega)
    simp only [Value.slice.injEq] at hv
    obtain ⟨rfl, -, rfl⟩ := hv
    obtain ⟨b6, off6, cap6, row6, hv6, -, hrow6, hcells6⟩ := HR.out.ents.row n (by omega)
    subst hv6
    have hxe := HSM.out n hlt
    rw [List.getElem?_eq_getElem (by omega), List.getElem?_eq_getElem (by omega)] at hxe
    have hxe2 := Option.some.inj hxe
    rw [hxe2] at hrow
    clear hxe hxe2
    generalize r.log.entries[n] = x at *
    obtain rfl := hrow; obtain rfl := hrow6
    have q0 := hcells 0 _ rfl; have q6 := hcells6 0 _ rfl
    simp only [Nat.mul_one, Nat.add_zero] at q0 q6
    have hq0 := World.block_lt_of_cell? wr _ q0; have hq6 := World.block_lt_of_cell? wr _ q6
    have Q0 := Lib.hid q0; have Q6 := Lib.hid q6
    clear hcells hcells6 q0 q6
    obtain ⟨a6, c6, hve, -, hm6, -, -⟩ := id HR.out.ents
    simp only [Value.slice.injEq] at hve
    obtain ⟨-, -, rfl⟩ := hve
    unfold maxLen at hm6
    go_upto_region 10 with (fail)
    clear x3
    refine wp_region_plan 27 (fun wx => Below wr.heap.size wr wx) (fun wx wy => Below wx.heap.size wx wy) [eqV (.int .i64 I), eqV (.agg #[.int .i64 r.log.base, .slice (some ⟨b, off, none⟩) o.length d5]), eqV (.int .i64 (r.log.base + (o.length : Int))), eqV (.bool false), eqV (.bool false), eqV (.pointer (some ⟨BY, 1, none⟩)), eqV (.slice (some ⟨b, off, none⟩) o.length d5), eqV (.int .i64 I), eqV (.pointer (some ⟨BY, 0, none⟩)), eqV (.int .i64 r.log.base), eqV (.int .i64 ((n : Int) + 1)), eqV (.int .i64 (n : Int)), eqV (.pointer (some ⟨b, off + n, none⟩)), eqV (.string ⟨x.toArray⟩), eqV (.pointer (some ⟨w.heap.size, 0, none⟩)), eqV (.pointer (some ⟨w.heap.size, 1, none⟩)), eqV (.slice (some ⟨b6, off6, none⟩) r.log.entries.length cap6), eqV (.int .i64 I), eqV (.pointer (some ⟨w.heap.size, 0, none⟩)), eqV (.pointer (some ⟨w.heap.size, 0, none⟩)), eqV (.int .i64 r.log.base), eqV (.int .i64 ((n : Int) + 1)), eqV (.int .i64 (n : Int)), eqV (.pointer (some ⟨b6, off6 + n, none⟩)), eqV (.string ⟨x.toArray⟩), eqV (.bool false), eqV (.bool false)] (by kernel_rfl) (by kernel_rfl) rfl ?hJ ?hJS ?hst ?hobl ?hend
    case hJ => exact Below.drew (Below.refl _ _)
    case hJS =>
      exact fun wx wy h1 h2 => below_step h1 h2
    case hst => exact planStab_at _ ⟨eqV_stab _, eqV_stab _, eqV_stab _, eqV_stab _, eqV_stab _, eqV_stab _, eqV_stab _, eqV_stab _, eqV_stab _, eqV_stab _, eqV_stab _, eqV_stab _, eqV_stab _, eqV_stab _, eqV_stab _, eqV_stab _, eqV_stab _, eqV_stab _, eqV_stab _, eqV_stab _, eqV_stab _, eqV_stab _, eqV_stab _, eqV_stab _, eqV_stab _, eqV_stab _, eqV_stab _, trivial⟩
    case hobl =>
      simp only [planObls, List.take_succ_cons, List.take_zero, planPut, Act.put, List.setIfInBounds_toArray, List.set_cons_zero, List.set_cons_succ, Nat.reduceAdd, Nat.zero_add]
      refine ⟨?_, ?_, ?_, ?_, ?_, ?_, ?_, ?_, ?_, ?_, ?_, ?_, ?_, ?_, ?_, ?_, ?_, ?_, ?_, ?_, ?_, ?_, ?_, ?_, ?_, ?_, ?_, trivial⟩
      · intro vs1 wx hJ hn K hK
        simp [planNeeds, VAt, eqV, Region.binds] at hn
        simp only [VAt, eqV, List.getD_cons_zero, List.getD_cons_succ, Act.put, List.setIfInBounds_toArray, List.set_cons_zero, List.set_cons_succ, Nat.reduceAdd, Nat.zero_add] at hK
        go_wp2
        exact hK _ _ (Below.refl _ _) rfl
      · intro vs1 wx hJ hn K hK
        simp [planNeeds, VAt, eqV, Region.binds] at hn
        simp only [VAt, eqV, List.getD_cons_zero, List.getD_cons_succ, Act.put, List.setIfInBounds_toArray, List.set_cons_zero, List.set_cons_succ, Nat.reduceAdd, Nat.zero_add] at hK
        have hy := HY.out.below hJ
        have y0 := hy.cell 0 _ rfl; have y1 := hy.cell 1 _ rfl
        go_wp2
        exact hK _ _ (Below.refl _ _) rfl
      · intro vs1 wx hJ hn K hK
        simp [planNeeds, VAt, eqV, Region.binds] at hn
        simp only [VAt, eqV, List.getD_cons_zero, List.getD_cons_succ, Act.put, List.setIfInBounds_toArray, List.set_cons_zero, List.set_cons_succ, Nat.reduceAdd, Nat.zero_add] at hK
        simp only [hn] at hK ⊢
        have hsx := HL.out.below rStr_ok (by decide) hJ
        go_wp2_with fail
        refine (logLast_calls ⟨r.log.base, o⟩ _ _ wx hsx (by simp only; omega) (by simp only; omega)).mono ?_; rintro e w5 ⟨rfl, hb5⟩
        go_wp2
        exact hK _ _ hb5 rfl
      · intro vs1 wx hJ hn K hK
        simp [planNeeds, VAt, eqV, Region.binds] at hn
        simp only [VAt, eqV, List.getD_cons_zero, List.getD_cons_succ, Act.put, List.setIfInBounds_toArray, List.set_cons_zero, List.set_cons_succ, Nat.reduceAdd, Nat.zero_add] at hK
        simp only [hn] at hK ⊢
        have hd : decide (r.log.base + (o.length : Int) < I) = false := decide_eq_false (by have := HI.out; omega)
        go_wp2
        exact hK _ _ (Below.refl _ _) rfl
      · intro vs1 wx hJ hn K hK
        simp [planNeeds, VAt, eqV, Region.binds] at hn
        simp only [VAt, eqV, List.getD_cons_zero, List.getD_cons_succ, Act.put, List.setIfInBounds_toArray, List.set_cons_zero, List.set_cons_succ, Nat.reduceAdd, Nat.zero_add] at hK
        simp only [hn] at hK ⊢
        go_wp2
        exact hK _ _ (Below.refl _ _) rfl
      · intro vs1 wx hJ hn K hK
        simp [planNeeds, VAt, eqV, Region.binds] at hn
        simp only [VAt, eqV, List.getD_cons_zero, List.getD_cons_succ, Act.put, List.setIfInBounds_toArray, List.set_cons_zero, List.set_cons_succ, Nat.reduceAdd, Nat.zero_add] at hK
        simp only [hn] at hK ⊢
        go_wp2
        exact hK _ _ (Below.refl _ _) rfl
      · intro vs1 wx hJ hn K hK
        simp [planNeeds, VAt, eqV, Region.binds] at hn
        simp only [VAt, eqV, List.getD_cons_zero, List.getD_cons_succ, Act.put, List.setIfInBounds_toArray, List.set_cons_zero, List.set_cons_succ, Nat.reduceAdd, Nat.zero_add] at hK
        simp only [hn] at hK ⊢
        have hy := HY.out.below hJ
        have y1 := hy.cell 1 _ rfl
        go_wp2
        exact hK _ _ (Below.refl _ _) rfl
      · intro vs1 wx hJ hn K hK
        simp [planNeeds, VAt, eqV, Region.binds] at hn
        simp only [VAt, eqV, List.getD_cons_zero, List.getD_cons_succ, Act.put, List.setIfInBounds_toArray, List.set_cons_zero, List.set_cons_succ, Nat.reduceAdd, Nat.zero_add] at hK
        simp only [hn] at hK ⊢
        go_wp2
        exact hK _ _ (Below.refl _ _) rfl
      · intro vs1 wx hJ hn K hK
        simp [planNeeds, VAt, eqV, Region.binds] at hn
        simp only [VAt, eqV, List.getD_cons_zero, List.getD_cons_succ, Act.put, List.setIfInBounds_toArray, List.set_cons_zero, List.set_cons_succ, Nat.reduceAdd, Nat.zero_add] at hK
        simp only [hn] at hK ⊢
        go_wp2
        exact hK _ _ (Below.refl _ _) rfl
      · intro vs1 wx hJ hn K hK
        simp [planNeeds, VAt, eqV, Region.binds] at hn
        simp only [VAt, eqV, List.getD_cons_zero, List.getD_cons_succ, Act.put, List.setIfInBounds_toArray, List.set_cons_zero, List.set_cons_succ, Nat.reduceAdd, Nat.zero_add] at hK
        simp only [hn] at hK ⊢
        have hy := HY.out.below hJ
        have y0 := hy.cell 0 _ rfl
        go_wp2
        exact hK _ _ (Below.refl _ _) rfl
      · intro vs1 wx hJ hn K hK
        simp [planNeeds, VAt, eqV, Region.binds] at hn
        simp only [VAt, eqV, List.getD_cons_zero, List.getD_cons_succ, Act.put, List.setIfInBounds_toArray, List.set_cons_zero, List.set_cons_succ, Nat.reduceAdd, Nat.zero_add] at hK
        simp only [hn] at hK ⊢
        have e1 : IntKind.i64.wrap (I - r.log.base) = (n : Int) + 1 := (IntWalk.i64_in _ (by have := HI.out; omega)).trans (by have := HI.out; omega)
        go_wp2
        exact hK _ _ (Below.refl _ _) rfl
      · intro vs1 wx hJ hn K hK
        simp [planNeeds, VAt, eqV, Region.binds] at hn
        simp only [VAt, eqV, List.getD_cons_zero, List.getD_cons_succ, Act.put, List.setIfInBounds_toArray, List.set_cons_zero, List.set_cons_succ, Nat.reduceAdd, Nat.zero_add] at hK
        simp only [hn] at hK ⊢
        have e2 : IntKind.i64.wrap ((n : Int) + 1 - 1) = (n : Int) := (IntWalk.i64_in _ (by omega)).trans (by omega)
        go_wp2
        exact hK _ _ (Below.refl _ _) rfl
      · intro vs1 wx hJ hn K hK
        simp [planNeeds, VAt, eqV, Region.binds] at hn
        simp only [VAt, eqV, List.getD_cons_zero, List.getD_cons_succ, Act.put, List.setIfInBounds_toArray, List.set_cons_zero, List.set_cons_succ, Nat.reduceAdd, Nat.zero_add] at hK
        simp only [hn] at hK ⊢
        go_wp2
        exact hK _ _ (Below.refl _ _) rfl
      · intro vs1 wx hJ hn K hK
        simp [planNeeds, VAt, eqV, Region.binds] at hn
        simp only [VAt, eqV, List.getD_cons_zero, List.getD_cons_succ, Act.put, List.setIfInBounds_toArray, List.set_cons_zero, List.set_cons_succ, Nat.reduceAdd, Nat.zero_add] at hK
        simp only [hn] at hK ⊢
        have q0 := cell_keep Q0.out (hJ.block _ hq0)
        go_wp2
        exact hK _ _ (Below.refl _ _) rfl
      · intro vs1 wx hJ hn K hK
        simp [planNeeds, VAt, eqV, Region.binds] at hn
        simp only [VAt, eqV, List.getD_cons_zero, List.getD_cons_succ, Act.put, List.setIfInBounds_toArray, List.set_cons_zero, List.set_cons_succ, Nat.reduceAdd, Nat.zero_add] at hK
        simp only [hn] at hK ⊢
        go_wp2
        exact hK _ _ (Below.refl _ _) rfl
      · intro vs1 wx hJ hn K hK
        simp [planNeeds, VAt, eqV, Region.binds] at hn
        simp only [VAt, eqV, List.getD_cons_zero, List.getD_cons_succ, Act.put, List.setIfInBounds_toArray, List.set_cons_zero, List.set_cons_succ, Nat.reduceAdd, Nat.zero_add] at hK
        simp only [hn] at hK ⊢
        go_wp2
        exact hK _ _ (Below.refl _ _) rfl
      · intro vs1 wx hJ hn K hK
        simp [planNeeds, VAt, eqV, Region.binds] at hn
        simp only [VAt, eqV, List.getD_cons_zero, List.getD_cons_succ, Act.put, List.setIfInBounds_toArray, List.set_cons_zero, List.set_cons_succ, Nat.reduceAdd, Nat.zero_add] at hK
        simp only [hn] at hK ⊢
        have hx := HX.out.below hJ
        have x1 := hx.cell 1 _ rfl
        go_wp2
        exact hK _ _ (Below.refl _ _) rfl
      · intro vs1 wx hJ hn K hK
        simp [planNeeds, VAt, eqV, Region.binds] at hn
        simp only [VAt, eqV, List.getD_cons_zero, List.getD_cons_succ, Act.put, List.setIfInBounds_toArray, List.set_cons_zero, List.set_cons_succ, Nat.reduceAdd, Nat.zero_add] at hK
        simp only [hn] at hK ⊢
        go_wp2
        exact hK _ _ (Below.refl _ _) rfl
      · intro vs1 wx hJ hn K hK
        simp [planNeeds, VAt, eqV, Region.binds] at hn
        simp only [VAt, eqV, List.getD_cons_zero, List.getD_cons_succ, Act.put, List.setIfInBounds_toArray, List.set_cons_zero, List.set_cons_succ, Nat.reduceAdd, Nat.zero_add] at hK
        simp only [hn] at hK ⊢
        go_wp2
        exact hK _ _ (Below.refl _ _) rfl
      · intro vs1 wx hJ hn K hK
        simp [planNeeds, VAt, eqV, Region.binds] at hn
        simp only [VAt, eqV, List.getD_cons_zero, List.getD_cons_succ, Act.put, List.setIfInBounds_toArray, List.set_cons_zero, List.set_cons_succ, Nat.reduceAdd, Nat.zero_add] at hK
        simp only [hn] at hK ⊢
        go_wp2
        exact hK _ _ (Below.refl _ _) rfl
      · intro vs1 wx hJ hn K hK
        simp [planNeeds, VAt, eqV, Region.binds] at hn
        simp only [VAt, eqV, List.getD_cons_zero, List.getD_cons_succ, Act.put, List.setIfInBounds_toArray, List.set_cons_zero, List.set_cons_succ, Nat.reduceAdd, Nat.zero_add] at hK
        simp only [hn] at hK ⊢
        have hx := HX.out.below hJ
        have x0 := hx.cell 0 _ rfl
        go_wp2
        exact hK _ _ (Below.refl _ _) rfl
      · intro vs1 wx hJ hn K hK
        simp [planNeeds, VAt, eqV, Region.binds] at hn
        simp only [VAt, eqV, List.getD_cons_zero, List.getD_cons_succ, Act.put, List.setIfInBounds_toArray, List.set_cons_zero, List.set_cons_succ, Nat.reduceAdd, Nat.zero_add] at hK
        simp only [hn] at hK ⊢
        have e1 : IntKind.i64.wrap (I - r.log.base) = (n : Int) + 1 := (IntWalk.i64_in _ (by have := HI.out; omega)).trans (by have := HI.out; omega)
        go_wp2
        exact hK _ _ (Below.refl _ _) rfl
      · intro vs1 wx hJ hn K hK
        simp [planNeeds, VAt, eqV, Region.binds] at hn
        simp only [VAt, eqV, List.getD_cons_zero, List.getD_cons_succ, Act.put, List.setIfInBounds_toArray, List.set_cons_zero, List.set_cons_succ, Nat.reduceAdd, Nat.zero_add] at hK
        simp only [hn] at hK ⊢
        have e2 : IntKind.i64.wrap ((n : Int) + 1 - 1) = (n : Int) := (IntWalk.i64_in _ (by omega)).trans (by omega)
        go_wp2
        exact hK _ _ (Below.refl _ _) rfl
      · intro vs1 wx hJ hn K hK
        simp [planNeeds, VAt, eqV, Region.binds] at hn
        simp only [VAt, eqV, List.getD_cons_zero, List.getD_cons_succ, Act.put, List.setIfInBounds_toArray, List.set_cons_zero, List.set_cons_succ, Nat.reduceAdd, Nat.zero_add] at hK
        simp only [hn] at hK ⊢
        go_wp2
        exact hK _ _ (Below.refl _ _) rfl
      · intro vs1 wx hJ hn K hK
        simp [planNeeds, VAt, eqV, Region.binds] at hn
        simp only [VAt, eqV, List.getD_cons_zero, List.getD_cons_succ, Act.put, List.setIfInBounds_toArray, List.set_cons_zero, List.set_cons_succ, Nat.reduceAdd, Nat.zero_add] at hK
        simp only [hn] at hK ⊢
        have q6 := cell_keep Q6.out (hJ.block _ hq6)
        go_wp2
        exact hK _ _ (Below.refl _ _) rfl
      · intro vs1 wx hJ hn K hK
        simp [planNeeds, VAt, eqV, Region.binds] at hn
        simp only [VAt, eqV, List.getD_cons_zero, List.getD_cons_succ, Act.put, List.setIfInBounds_toArray, List.set_cons_zero, List.set_cons_succ, Nat.reduceAdd, Nat.zero_add] at hK
        simp only [hn] at hK ⊢
        go_wp2
        exact hK _ _ (Below.refl _ _) rfl
      · intro vs1 wx hJ hn K hK
        simp [planNeeds, VAt, eqV, Region.binds] at hn
        simp only [VAt, eqV, List.getD_cons_zero, List.getD_cons_succ, Act.put, List.setIfInBounds_toArray, List.set_cons_zero, List.set_cons_succ, Nat.reduceAdd, Nat.zero_add] at hK
        simp only [hn] at hK ⊢
        go_wp2
        exact hK _ _ (Below.refl _ _) rfl
    case hend =>
      intro vs1 wx hJ hv
      simp [planHave, eqV] at hv
      obtain ⟨e0, e1, e2, e3, e4, e5, e6, e7, e8, e9, e10, e11, e12, e13, e14, e15, e16, e17, e18, e19, e20, e21, e22, e23, e24, e25, e26⟩ := hv
      simp only [List.take_succ_cons, List.take_zero, List.drop_succ_cons, List.drop_zero, planPut, Act.put, List.setIfInBounds_toArray, List.set_cons_zero, List.set_cons_succ, Nat.reduceAdd, Nat.zero_add]
      rw [e0, e1, e2, e3, e4, e5, e6, e7, e8, e9, e10, e11, e12, e13, e14, e15, e16, e17, e18, e19, e20, e21, e22, e23, e24, e25, e26]
      clear e0 e1 e2 e3 e4 e5 e6 e7 e8 e9 e10 e11 e12 e13 e14 e15 e16 e17 e18 e19 e20 e21 e22 e23 e24 e25 e26
      have HBF := Lib.hid (below_step HBL.out hJ)
      rename World => w5
      have e5 : IntKind.i64.wrap (I + 1) = I + 1 := IntWalk.i64_in _ (by have := HI.out; omega)
      go_wp2
      go_roundw
      case rel => exact ⟨n + 1, I + 1, by omega, Lib.hid (by have := HI.out; omega), rfl, HBF⟩
      case measure => simp [intOf]; omega
  · have hgt : r.state.index < I := by have := HI.out; omega
    have x3 := HX.out.cell 3 _ rfl
    go_upto_region 12 with (fail)
    clear x3
    have x0 := HX.out.cell 0 _ rfl; have x1 := HX.out.cell 1 _ rfl; have x2 := HX.out.cell 2 _ rfl; have x3 := HX.out.cell 3 _ rfl; have x4 := HX.out.cell 4 _ rfl; have x5 := HX.out.cell 5 _ rfl; have x6 := HX.out.cell 6 _ rfl
    go_wp2_with fail
    refine (rcopy_calls r _ _ _ _ _ wr HR.out HF.out.log HF.out.st).mono ?_
    rintro e w5 ⟨ue, ul, up, uz, rfl, hrp, hb5⟩
    obtain ⟨a1, c1, rfl, -, -, -, -⟩ := id hrp.ents; obtain ⟨a2, c2, rfl, -, -, -, -⟩ := id hrp.st.lock; obtain ⟨a3, c3, rfl, -, -, -, -⟩ := id hrp.st.pair; obtain ⟨a4, c4, rfl, -, -, -, -⟩ := id hrp.st.sess
    have HC := Lib.hid (hrp.sub (S' := fun b => w.heap.size + 2 ≤ b) fun b hb _ => by show _ ≤ _; have : wr.heap.size ≤ b := hb; have := HZ.out.lt; omega)
    clear hrp
    clear x0 x1 x2 x3 x4 x5 x6
    replace HR := Lib.hid (HR.out.below hb5)
    replace HX := Lib.hid (HX.out.below hb5)
    replace HZ := Lib.hid (HZ.out.below hb5)
    replace HB := Lib.hid (below_step HB.out hb5)
    replace HL := Lib.hid (HL.out.below rStr_ok (by decide) hb5)
    replace HY := Lib.hid (HY.out.below hb5)
    clear hb5
    clear HR
    have x0 := HX.out.cell 0 _ rfl; have xt0 := HX.out.thaw 0; have x1 := HX.out.cell 1 _ rfl; have xt1 := HX.out.thaw 1; have x2 := HX.out.cell 2 _ rfl; have xt2 := HX.out.thaw 2; have x3 := HX.out.cell 3 _ rfl; have xt3 := HX.out.thaw 3; have x4 := HX.out.cell 4 _ rfl; have xt4 := HX.out.thaw 4; have x5 := HX.out.cell 5 _ rfl; have xt5 := HX.out.thaw 5; have x6 := HX.out.cell 6 _ rfl; have xt6 := HX.out.thaw 6
    have hzl := HZ.out.lt
    have HX9 : Hid (BoxAt (((((((w5.setCell ⟨w.heap.size, 0, none⟩ (.int .i64 r.log.base)).setCell ⟨w.heap.size, 1, none⟩ (.slice a1 r.log.entries.length c1)).setCell ⟨w.heap.size, 2, none⟩ (.string ⟨r.snap.toArray⟩)).setCell ⟨w.heap.size, 3, none⟩ (.int .i64 r.state.index)).setCell ⟨w.heap.size, 4, none⟩ (.slice a2 r.state.locks.length c2)).setCell ⟨w.heap.size, 5, none⟩ (.slice a3 r.state.pairs.length c3)).setCell ⟨w.heap.size, 6, none⟩ (.slice a4 r.state.sessions.length c4)) (w.heap.size) [.int .i64 r.log.base, .slice a1 r.log.entries.length c1, .string ⟨r.snap.toArray⟩, .int .i64 r.state.index, .slice a2 r.state.locks.length c2, .slice a3 r.state.pairs.length c3, .slice a4 r.state.sessions.length c4]) := Lib.hid (BoxAt.store (w := w5) [.int .i64 r.log.base, .slice a1 r.log.entries.length c1, .string ⟨r.snap.toArray⟩, .int .i64 r.state.index, .slice a2 r.state.locks.length c2, .slice a3 r.state.pairs.length c3, .slice a4 r.state.sessions.length c4] [.int .i64 r.log.base, ve, .string ⟨r.snap.toArray⟩, .int .i64 r.state.index, vl, vp, vz] 0 HX.out (by simp))
    have HZ9 : Hid (BoxAt (((((((w5.setCell ⟨w.heap.size, 0, none⟩ (.int .i64 r.log.base)).setCell ⟨w.heap.size, 1, none⟩ (.slice a1 r.log.entries.length c1)).setCell ⟨w.heap.size, 2, none⟩ (.string ⟨r.snap.toArray⟩)).setCell ⟨w.heap.size, 3, none⟩ (.int .i64 r.state.index)).setCell ⟨w.heap.size, 4, none⟩ (.slice a2 r.state.locks.length c2)).setCell ⟨w.heap.size, 5, none⟩ (.slice a3 r.state.pairs.length c3)).setCell ⟨w.heap.size, 6, none⟩ (.slice a4 r.state.sessions.length c4)) (w.heap.size + 1) [.int .i64 0, .slice none 0 0, .string ⟨#[]⟩, .int .i64 0, .slice none 0 0, .slice none 0 0, .slice none 0 0]) := Lib.hid (BoxAt.farAll (by omega) [.int .i64 r.log.base, .slice a1 r.log.entries.length c1, .string ⟨r.snap.toArray⟩, .int .i64 r.state.index, .slice a2 r.state.locks.length c2, .slice a3 r.state.pairs.length c3, .slice a4 r.state.sessions.length c4] 0 HZ.out)
    have HB9 : Hid (Below w.heap.size w (((((((w5.setCell ⟨w.heap.size, 0, none⟩ (.int .i64 r.log.base)).setCell ⟨w.heap.size, 1, none⟩ (.slice a1 r.log.entries.length c1)).setCell ⟨w.heap.size, 2, none⟩ (.string ⟨r.snap.toArray⟩)).setCell ⟨w.heap.size, 3, none⟩ (.int .i64 r.state.index)).setCell ⟨w.heap.size, 4, none⟩ (.slice a2 r.state.locks.length c2)).setCell ⟨w.heap.size, 5, none⟩ (.slice a3 r.state.pairs.length c3)).setCell ⟨w.heap.size, 6, none⟩ (.slice a4 r.state.sessions.length c4))) := Lib.hid (below_sets (by omega) [.int .i64 r.log.base, .slice a1 r.log.entries.length c1, .string ⟨r.snap.toArray⟩, .int .i64 r.state.index, .slice a2 r.state.locks.length c2, .slice a3 r.state.pairs.length c3, .slice a4 r.state.sessions.length c4] 0 _ HB.out)
    have HL9 : Hid (SlR 1 rStr (((((((w5.setCell ⟨w.heap.size, 0, none⟩ (.int .i64 r.log.base)).setCell ⟨w.heap.size, 1, none⟩ (.slice a1 r.log.entries.length c1)).setCell ⟨w.heap.size, 2, none⟩ (.string ⟨r.snap.toArray⟩)).setCell ⟨w.heap.size, 3, none⟩ (.int .i64 r.state.index)).setCell ⟨w.heap.size, 4, none⟩ (.slice a2 r.state.locks.length c2)).setCell ⟨w.heap.size, 5, none⟩ (.slice a3 r.state.pairs.length c3)).setCell ⟨w.heap.size, 6, none⟩ (.slice a4 r.state.sessions.length c4)) (.slice b5 o.length d5) o (fun b => w.heap.size + 2 ≤ b)) := Lib.hid (SlR.store rStr_ok (by decide) HL.out 0 [.int .i64 r.log.base, .slice a1 r.log.entries.length c1, .string ⟨r.snap.toArray⟩, .int .i64 r.state.index, .slice a2 r.state.locks.length c2, .slice a3 r.state.pairs.length c3, .slice a4 r.state.sessions.length c4] fun k hk => ⟨by have : w.heap.size + 2 ≤ k := hk; omega, hk⟩)
    have HY9 : Hid (BoxAt (((((((w5.setCell ⟨w.heap.size, 0, none⟩ (.int .i64 r.log.base)).setCell ⟨w.heap.size, 1, none⟩ (.slice a1 r.log.entries.length c1)).setCell ⟨w.heap.size, 2, none⟩ (.string ⟨r.snap.toArray⟩)).setCell ⟨w.heap.size, 3, none⟩ (.int .i64 r.state.index)).setCell ⟨w.heap.size, 4, none⟩ (.slice a2 r.state.locks.length c2)).setCell ⟨w.heap.size, 5, none⟩ (.slice a3 r.state.pairs.length c3)).setCell ⟨w.heap.size, 6, none⟩ (.slice a4 r.state.sessions.length c4)) (BY) [.int .i64 r.log.base, .slice b5 o.length d5]) := Lib.hid (BoxAt.farAll (by omega) [.int .i64 r.log.base, .slice a1 r.log.entries.length c1, .string ⟨r.snap.toArray⟩, .int .i64 r.state.index, .slice a2 r.state.locks.length c2, .slice a3 r.state.pairs.length c3, .slice a4 r.state.sessions.length c4] 0 HY.out)
    have HC9 : Hid (RpAt (((((((w5.setCell ⟨w.heap.size, 0, none⟩ (.int .i64 r.log.base)).setCell ⟨w.heap.size, 1, none⟩ (.slice a1 r.log.entries.length c1)).setCell ⟨w.heap.size, 2, none⟩ (.string ⟨r.snap.toArray⟩)).setCell ⟨w.heap.size, 3, none⟩ (.int .i64 r.state.index)).setCell ⟨w.heap.size, 4, none⟩ (.slice a2 r.state.locks.length c2)).setCell ⟨w.heap.size, 5, none⟩ (.slice a3 r.state.pairs.length c3)).setCell ⟨w.heap.size, 6, none⟩ (.slice a4 r.state.sessions.length c4)) r (.slice a1 r.log.entries.length c1) (.slice a2 r.state.locks.length c2) (.slice a3 r.state.pairs.length c3) (.slice a4 r.state.sessions.length c4) (fun b => w.heap.size + 2 ≤ b)) := Lib.hid (RpAt.store HC.out 0 [.int .i64 r.log.base, .slice a1 r.log.entries.length c1, .string ⟨r.snap.toArray⟩, .int .i64 r.state.index, .slice a2 r.state.locks.length c2, .slice a3 r.state.pairs.length c3, .slice a4 r.state.sessions.length c4] fun k hk => ⟨by have : w.heap.size + 2 ≤ k := hk; omega, hk⟩)
    clear hzl
    go_upto_region 13 with (fail)
    generalize (((((((w5.setCell ⟨w.heap.size, 0, none⟩ (.int .i64 r.log.base)).setCell ⟨w.heap.size, 1, none⟩ (.slice a1 r.log.entries.length c1)).setCell ⟨w.heap.size, 2, none⟩ (.string ⟨r.snap.toArray⟩)).setCell ⟨w.heap.size, 3, none⟩ (.int .i64 r.state.index)).setCell ⟨w.heap.size, 4, none⟩ (.slice a2 r.state.locks.length c2)).setCell ⟨w.heap.size, 5, none⟩ (.slice a3 r.state.pairs.length c3)).setCell ⟨w.heap.size, 6, none⟩ (.slice a4 r.state.sessions.length c4)) = w6 at *
    replace HX := HX9; clear HX9
    replace HZ := HZ9; clear HZ9
    replace HB := HB9; clear HB9
    replace HL := HL9; clear HL9
    replace HY := HY9; clear HY9
    replace HC := HC9; clear HC9
    have y0 := HY.out.cell 0 _ rfl; have y1 := HY.out.cell 1 _ rfl
    have q0 := HX.out.cell 0 _ rfl; have qt0 := HX.out.thaw 0; have q1 := HX.out.cell 1 _ rfl; have qt1 := HX.out.thaw 1
    have hzl := HZ.out.lt
    have HX9 : Hid (BoxAt ((w6.setCell ⟨w.heap.size, 0, none⟩ (.int .i64 r.log.base)).setCell ⟨w.heap.size, 1, none⟩ (.slice b5 o.length d5)) (w.heap.size) [.int .i64 r.log.base, .slice b5 o.length d5, .string ⟨r.snap.toArray⟩, .int .i64 r.state.index, .slice a2 r.state.locks.length c2, .slice a3 r.state.pairs.length c3, .slice a4 r.state.sessions.length c4]) := Lib.hid (BoxAt.store (w := w6) [.int .i64 r.log.base, .slice b5 o.length d5] [.int .i64 r.log.base, .slice a1 r.log.entries.length c1, .string ⟨r.snap.toArray⟩, .int .i64 r.state.index, .slice a2 r.state.locks.length c2, .slice a3 r.state.pairs.length c3, .slice a4 r.state.sessions.length c4] 0 HX.out (by simp))
    have HZ9 : Hid (BoxAt ((w6.setCell ⟨w.heap.size, 0, none⟩ (.int .i64 r.log.base)).setCell ⟨w.heap.size, 1, none⟩ (.slice b5 o.length d5)) (w.heap.size + 1) [.int .i64 0, .slice none 0 0, .string ⟨#[]⟩, .int .i64 0, .slice none 0 0, .slice none 0 0, .slice none 0 0]) := Lib.hid (BoxAt.farAll (by omega) [.int .i64 r.log.base, .slice b5 o.length d5] 0 HZ.out)
    have HB9 : Hid (Below w.heap.size w ((w6.setCell ⟨w.heap.size, 0, none⟩ (.int .i64 r.log.base)).setCell ⟨w.heap.size, 1, none⟩ (.slice b5 o.length d5))) := Lib.hid (below_sets (by omega) [.int .i64 r.log.base, .slice b5 o.length d5] 0 _ HB.out)
    have HL9 : Hid (SlR 1 rStr ((w6.setCell ⟨w.heap.size, 0, none⟩ (.int .i64 r.log.base)).setCell ⟨w.heap.size, 1, none⟩ (.slice b5 o.length d5)) (.slice b5 o.length d5) o (fun b => w.heap.size + 2 ≤ b)) := Lib.hid (SlR.store rStr_ok (by decide) HL.out 0 [.int .i64 r.log.base, .slice b5 o.length d5] fun k hk => ⟨by have : w.heap.size + 2 ≤ k := hk; omega, hk⟩)
    have HY9 : Hid (BoxAt ((w6.setCell ⟨w.heap.size, 0, none⟩ (.int .i64 r.log.base)).setCell ⟨w.heap.size, 1, none⟩ (.slice b5 o.length d5)) (BY) [.int .i64 r.log.base, .slice b5 o.length d5]) := Lib.hid (BoxAt.farAll (by omega) [.int .i64 r.log.base, .slice b5 o.length d5] 0 HY.out)
    have HC9 : Hid (RpAt ((w6.setCell ⟨w.heap.size, 0, none⟩ (.int .i64 r.log.base)).setCell ⟨w.heap.size, 1, none⟩ (.slice b5 o.length d5)) r (.slice a1 r.log.entries.length c1) (.slice a2 r.state.locks.length c2) (.slice a3 r.state.pairs.length c3) (.slice a4 r.state.sessions.length c4) (fun b => w.heap.size + 2 ≤ b)) := Lib.hid (RpAt.store HC.out 0 [.int .i64 r.log.base, .slice b5 o.length d5] fun k hk => ⟨by have : w.heap.size + 2 ≤ k := hk; omega, hk⟩)
    clear hzl
    go_upto_region 14 with (fail)
    generalize ((w6.setCell ⟨w.heap.size, 0, none⟩ (.int .i64 r.log.base)).setCell ⟨w.heap.size, 1, none⟩ (.slice b5 o.length d5)) = w7 at *
    replace HX := HX9; clear HX9
    replace HZ := HZ9; clear HZ9
    replace HB := HB9; clear HB9
    replace HL := HL9; clear HL9
    replace HY := HY9; clear HY9
    replace HC := HC9; clear HC9
    have x0 := HX.out.cell 0 _ rfl; have x1 := HX.out.cell 1 _ rfl; have x2 := HX.out.cell 2 _ rfl; have x3 := HX.out.cell 3 _ rfl; have x4 := HX.out.cell 4 _ rfl; have x5 := HX.out.cell 5 _ rfl; have x6 := HX.out.cell 6 _ rfl
    have z0 := HZ.out.cell 0 _ rfl; have zt0 := HZ.out.thaw 0; have z1 := HZ.out.cell 1 _ rfl; have zt1 := HZ.out.thaw 1; have z2 := HZ.out.cell 2 _ rfl; have zt2 := HZ.out.thaw 2; have z3 := HZ.out.cell 3 _ rfl; have zt3 := HZ.out.thaw 3; have z4 := HZ.out.cell 4 _ rfl; have zt4 := HZ.out.thaw 4; have z5 := HZ.out.cell 5 _ rfl; have zt5 := HZ.out.thaw 5; have z6 := HZ.out.cell 6 _ rfl; have zt6 := HZ.out.thaw 6
    have hzl := HZ.out.lt
    have HX9 : Hid (BoxAt (((((((w7.setCell ⟨w.heap.size + 1, 0, none⟩ (.int .i64 r.log.base)).setCell ⟨w.heap.size + 1, 1, none⟩ (.slice b5 o.length d5)).setCell ⟨w.heap.size + 1, 2, none⟩ (.string ⟨r.snap.toArray⟩)).setCell ⟨w.heap.size + 1, 3, none⟩ (.int .i64 r.state.index)).setCell ⟨w.heap.size + 1, 4, none⟩ (.slice a2 r.state.locks.length c2)).setCell ⟨w.heap.size + 1, 5, none⟩ (.slice a3 r.state.pairs.length c3)).setCell ⟨w.heap.size + 1, 6, none⟩ (.slice a4 r.state.sessions.length c4)) (w.heap.size) [.int .i64 r.log.base, .slice b5 o.length d5, .string ⟨r.snap.toArray⟩, .int .i64 r.state.index, .slice a2 r.state.locks.length c2, .slice a3 r.state.pairs.length c3, .slice a4 r.state.sessions.length c4]) := Lib.hid (BoxAt.farAll (by omega) [.int .i64 r.log.base, .slice b5 o.length d5, .string ⟨r.snap.toArray⟩, .int .i64 r.state.index, .slice a2 r.state.locks.length c2, .slice a3 r.state.pairs.length c3, .slice a4 r.state.sessions.length c4] 0 HX.out)
    have HZ9 : Hid (BoxAt (((((((w7.setCell ⟨w.heap.size + 1, 0, none⟩ (.int .i64 r.log.base)).setCell ⟨w.heap.size + 1, 1, none⟩ (.slice b5 o.length d5)).setCell ⟨w.heap.size + 1, 2, none⟩ (.string ⟨r.snap.toArray⟩)).setCell ⟨w.heap.size + 1, 3, none⟩ (.int .i64 r.state.index)).setCell ⟨w.heap.size + 1, 4, none⟩ (.slice a2 r.state.locks.length c2)).setCell ⟨w.heap.size + 1, 5, none⟩ (.slice a3 r.state.pairs.length c3)).setCell ⟨w.heap.size + 1, 6, none⟩ (.slice a4 r.state.sessions.length c4)) (w.heap.size + 1) [.int .i64 r.log.base, .slice b5 o.length d5, .string ⟨r.snap.toArray⟩, .int .i64 r.state.index, .slice a2 r.state.locks.length c2, .slice a3 r.state.pairs.length c3, .slice a4 r.state.sessions.length c4]) := Lib.hid (BoxAt.store (w := w7) [.int .i64 r.log.base, .slice b5 o.length d5, .string ⟨r.snap.toArray⟩, .int .i64 r.state.index, .slice a2 r.state.locks.length c2, .slice a3 r.state.pairs.length c3, .slice a4 r.state.sessions.length c4] [.int .i64 0, .slice none 0 0, .string ⟨#[]⟩, .int .i64 0, .slice none 0 0, .slice none 0 0, .slice none 0 0] 0 HZ.out (by simp))
    have HB9 : Hid (Below w.heap.size w (((((((w7.setCell ⟨w.heap.size + 1, 0, none⟩ (.int .i64 r.log.base)).setCell ⟨w.heap.size + 1, 1, none⟩ (.slice b5 o.length d5)).setCell ⟨w.heap.size + 1, 2, none⟩ (.string ⟨r.snap.toArray⟩)).setCell ⟨w.heap.size + 1, 3, none⟩ (.int .i64 r.state.index)).setCell ⟨w.heap.size + 1, 4, none⟩ (.slice a2 r.state.locks.length c2)).setCell ⟨w.heap.size + 1, 5, none⟩ (.slice a3 r.state.pairs.length c3)).setCell ⟨w.heap.size + 1, 6, none⟩ (.slice a4 r.state.sessions.length c4))) := Lib.hid (below_sets (by omega) [.int .i64 r.log.base, .slice b5 o.length d5, .string ⟨r.snap.toArray⟩, .int .i64 r.state.index, .slice a2 r.state.locks.length c2, .slice a3 r.state.pairs.length c3, .slice a4 r.state.sessions.length c4] 0 _ HB.out)
    have HL9 : Hid (SlR 1 rStr (((((((w7.setCell ⟨w.heap.size + 1, 0, none⟩ (.int .i64 r.log.base)).setCell ⟨w.heap.size + 1, 1, none⟩ (.slice b5 o.length d5)).setCell ⟨w.heap.size + 1, 2, none⟩ (.string ⟨r.snap.toArray⟩)).setCell ⟨w.heap.size + 1, 3, none⟩ (.int .i64 r.state.index)).setCell ⟨w.heap.size + 1, 4, none⟩ (.slice a2 r.state.locks.length c2)).setCell ⟨w.heap.size + 1, 5, none⟩ (.slice a3 r.state.pairs.length c3)).setCell ⟨w.heap.size + 1, 6, none⟩ (.slice a4 r.state.sessions.length c4)) (.slice b5 o.length d5) o (fun b => w.heap.size + 2 ≤ b)) := Lib.hid (SlR.store rStr_ok (by decide) HL.out 0 [.int .i64 r.log.base, .slice b5 o.length d5, .string ⟨r.snap.toArray⟩, .int .i64 r.state.index, .slice a2 r.state.locks.length c2, .slice a3 r.state.pairs.length c3, .slice a4 r.state.sessions.length c4] fun k hk => ⟨by have : w.heap.size + 2 ≤ k := hk; omega, hk⟩)
    have HY9 : Hid (BoxAt (((((((w7.setCell ⟨w.heap.size + 1, 0, none⟩ (.int .i64 r.log.base)).setCell ⟨w.heap.size + 1, 1, none⟩ (.slice b5 o.length d5)).setCell ⟨w.heap.size + 1, 2, none⟩ (.string ⟨r.snap.toArray⟩)).setCell ⟨w.heap.size + 1, 3, none⟩ (.int .i64 r.state.index)).setCell ⟨w.heap.size + 1, 4, none⟩ (.slice a2 r.state.locks.length c2)).setCell ⟨w.heap.size + 1, 5, none⟩ (.slice a3 r.state.pairs.length c3)).setCell ⟨w.heap.size + 1, 6, none⟩ (.slice a4 r.state.sessions.length c4)) (BY) [.int .i64 r.log.base, .slice b5 o.length d5]) := Lib.hid (BoxAt.farAll (by omega) [.int .i64 r.log.base, .slice b5 o.length d5, .string ⟨r.snap.toArray⟩, .int .i64 r.state.index, .slice a2 r.state.locks.length c2, .slice a3 r.state.pairs.length c3, .slice a4 r.state.sessions.length c4] 0 HY.out)
    have HC9 : Hid (RpAt (((((((w7.setCell ⟨w.heap.size + 1, 0, none⟩ (.int .i64 r.log.base)).setCell ⟨w.heap.size + 1, 1, none⟩ (.slice b5 o.length d5)).setCell ⟨w.heap.size + 1, 2, none⟩ (.string ⟨r.snap.toArray⟩)).setCell ⟨w.heap.size + 1, 3, none⟩ (.int .i64 r.state.index)).setCell ⟨w.heap.size + 1, 4, none⟩ (.slice a2 r.state.locks.length c2)).setCell ⟨w.heap.size + 1, 5, none⟩ (.slice a3 r.state.pairs.length c3)).setCell ⟨w.heap.size + 1, 6, none⟩ (.slice a4 r.state.sessions.length c4)) r (.slice a1 r.log.entries.length c1) (.slice a2 r.state.locks.length c2) (.slice a3 r.state.pairs.length c3) (.slice a4 r.state.sessions.length c4) (fun b => w.heap.size + 2 ≤ b)) := Lib.hid (RpAt.store HC.out 0 [.int .i64 r.log.base, .slice b5 o.length d5, .string ⟨r.snap.toArray⟩, .int .i64 r.state.index, .slice a2 r.state.locks.length c2, .slice a3 r.state.pairs.length c3, .slice a4 r.state.sessions.length c4] fun k hk => ⟨by have : w.heap.size + 2 ≤ k := hk; omega, hk⟩)
    go_wp2
    generalize (((((((w7.setCell ⟨w.heap.size + 1, 0, none⟩ (.int .i64 r.log.base)).setCell ⟨w.heap.size + 1, 1, none⟩ (.slice b5 o.length d5)).setCell ⟨w.heap.size + 1, 2, none⟩ (.string ⟨r.snap.toArray⟩)).setCell ⟨w.heap.size + 1, 3, none⟩ (.int .i64 r.state.index)).setCell ⟨w.heap.size + 1, 4, none⟩ (.slice a2 r.state.locks.length c2)).setCell ⟨w.heap.size + 1, 5, none⟩ (.slice a3 r.state.pairs.length c3)).setCell ⟨w.heap.size + 1, 6, none⟩ (.slice a4 r.state.sessions.length c4)) = wf at *
    replace HX := HX9; clear HX9
    replace HZ := HZ9; clear HZ9
    replace HB := HB9; clear HB9
    replace HL := HL9; clear HL9
    replace HY := HY9; clear HY9
    replace HC := HC9; clear HC9
    have g0 := HZ.out.cell 0 _ rfl; have g1 := HZ.out.cell 1 _ rfl; have g2 := HZ.out.cell 2 _ rfl; have g3 := HZ.out.cell 3 _ rfl; have g4 := HZ.out.cell 4 _ rfl; have g5 := HZ.out.cell 5 _ rfl; have g6 := HZ.out.cell 6 _ rfl
    refine bodyPost_ret (v := .tuple #[.agg #[.int .i64 r.log.base, .slice b5 o.length d5, .string ⟨r.snap.toArray⟩, .int .i64 r.state.index, .slice a2 r.state.locks.length c2, .slice a3 r.state.pairs.length c3, .slice a4 r.state.sessions.length c4], .int .i64 0]) (by simp [results, Tryz.results31, go_sem, g0, g1, g2, g3, g4, g5, g6]) rfl ⟨_, _, _, _, rfl, ⟨HL.out.sub rStr_ok (by decide) fun b hb _ => by show _ ≤ _; have : w.heap.size + 2 ≤ b := hb; omega, HC.out.st.sub fun b hb _ => by show _ ≤ _; have : w.heap.size + 2 ≤ b := hb; omega⟩, HB.out⟩
end Go.Proofs.YtkefgapnghnjjaaGreatDoor
