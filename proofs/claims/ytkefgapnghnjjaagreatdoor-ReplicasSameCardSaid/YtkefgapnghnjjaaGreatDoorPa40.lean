/- A part of the proof, laid together from: RepE. -/
import Derived.Test.YtkefgapnghnjjaaGreatDoorPa26
import Derived.Test.YtkefgapnghnjjaaGreatDoorPa39
import Derived.Test.YtkefgapnghnjjaaGreatDoorPa20
set_option linter.unusedSimpArgs false
set_option linter.unusedVariables false
namespace Go.Proofs.YtkefgapnghnjjaaGreatDoor
open Go.RowKit Go.Tk
theorem Tryz.tyMail : SliceTy Tryz.prog 25 101 5 48 := ⟨Tryz.underlying25, by kernel_rfl, by decide⟩
set_option linter.unusedSimpArgs false in
set_option maxRecDepth 100000 in
set_option maxHeartbeats 6400000 in
theorem rapply_calls (r : ReplicaD) (ks : StateD) (ve vl vp vz : Value) (S : Nat → Prop) (w : World) (h : RpAt w r ve vl vp vz S) (hr : RepFine r ks) (K : List Bytes) (hK : KOk K) (b i u : Nat) (hb : r.log.base = b) (hs : r.state = stK K i) (hbi : b ≤ i) (hu : i ≤ u) (huK : u ≤ K.length) (hul : u ≤ b + r.log.entries.length)
    (hent : ∀ j, i ≤ j → j < u → r.log.entries.getD (j - b) [] = K.getD j []) :
    Calls Tryz.prog 32 #[.agg #[.int .i64 r.log.base, ve, .string ⟨r.snap.toArray⟩, .int .i64 r.state.index, vl, vp, vz], .int .i64 u] w (RetApply w ⟨r.log, r.snap, stK K u⟩ (mailsK K i u)) := by
  obtain ⟨o1, o2, o3, o4⟩ := h.ones
  have HR := Lib.hid (h.sub (S' := fun b => b < w.heap.size) fun b _ hlt => hlt)
  have HF := Lib.hid hr
  obtain ⟨hb0, hb1⟩ := hr.log.base
  have hln := hr.log.len
  obtain ⟨hi0, hi1⟩ := hr.at_
  unfold logLast at hi1
  clear h hr
  have HKO := Lib.hid hK
  have HBE := Lib.hid hb
  have HSE := Lib.hid hs
  have HEN := Lib.hid hent
  have hKl := hK.len
  have HIX := Lib.hid (show r.state.index = (i : Int) from by rw [hs]; exact (stK_ok hK (by omega)).2)
  clear hK hb hs hent
  go_enter Tryz.func32, Tryz.ntmps32
  go_upto_region 1 with (fail)
  have HX := Lib.hid ((BoxAt.new (w := w) (cs := [.int .i64 r.log.base, ve, .string ⟨r.snap.toArray⟩, .int .i64 r.state.index, vl, vp, vz]) (E := 67)).below (below_alloc _ (.cells #[.int .i64 0, .slice none 0 0, .string ⟨#[]⟩, .int .i64 0, .slice none 0 0, .slice none 0 0, .slice none 0 0] 67)))
  have hz := BoxAt.new (w := w.alloc (.cells #[.int .i64 r.log.base, ve, .string ⟨r.snap.toArray⟩, .int .i64 r.state.index, vl, vp, vz] 67)) (cs := [.int .i64 0, .slice none 0 0, .string ⟨#[]⟩, .int .i64 0, .slice none 0 0, .slice none 0 0, .slice none 0 0]) (E := 67)
  rw [World.size_alloc] at hz
  have HZ := Lib.hid hz
  clear hz
  have HB := Lib.hid (below_alloc2 w (.cells #[.int .i64 r.log.base, ve, .string ⟨r.snap.toArray⟩, .int .i64 r.state.index, vl, vp, vz] 67) (.cells #[.int .i64 0, .slice none 0 0, .string ⟨#[]⟩, .int .i64 0, .slice none 0 0, .slice none 0 0, .slice none 0 0] 67))
  replace HR := Lib.hid (HR.out.below HB.out)
  generalize (w.alloc (.cells #[.int .i64 r.log.base, ve, .string ⟨r.snap.toArray⟩, .int .i64 r.state.index, vl, vp, vz] 67)).alloc (.cells #[.int .i64 0, .slice none 0 0, .string ⟨#[]⟩, .int .i64 0, .slice none 0 0, .slice none 0 0, .slice none 0 0] 67) = w0 at *
  have x0 := HX.out.cell 0 _ rfl; have x1 := HX.out.cell 1 _ rfl; have x2 := HX.out.cell 2 _ rfl; have x3 := HX.out.cell 3 _ rfl; have x4 := HX.out.cell 4 _ rfl; have x5 := HX.out.cell 5 _ rfl; have x6 := HX.out.cell 6 _ rfl
  go_wp2_with fail
  refine (rcheck_calls r ks _ _ _ _ _ w0 HR.out HF.out).mono ?_
  rintro e w1 ⟨rfl, hb1⟩
  clear x0 x1 x2 x3 x4 x5 x6
  replace HR := Lib.hid (HR.out.below hb1)
  replace HX := Lib.hid (HX.out.below hb1)
  replace HZ := Lib.hid (HZ.out.below hb1)
  replace HB := Lib.hid (below_step HB.out hb1)
  clear hb1
  have hu1 : decide ((u : Int) < 0) = false := decide_eq_false (by omega)
  have hu2 : decide (1073741824 < (u : Int)) = false := decide_eq_false (by omega)
  have x0 := HX.out.cell 0 _ rfl; have x1 := HX.out.cell 1 _ rfl; have x2 := HX.out.cell 2 _ rfl; have x3 := HX.out.cell 3 _ rfl; have x4 := HX.out.cell 4 _ rfl; have x5 := HX.out.cell 5 _ rfl; have x6 := HX.out.cell 6 _ rfl
  go_wp2_with fail
  refine (rcopy_calls r _ _ _ _ _ w1 HR.out HF.out.log HF.out.st).mono ?_
  rintro e w2 ⟨ue, ul, up, uz, rfl, hrp, hb2⟩
  obtain ⟨a1, c1, rfl, -, -, -, -⟩ := id hrp.ents; obtain ⟨a2, c2, rfl, -, -, -, -⟩ := id hrp.st.lock; obtain ⟨a3, c3, rfl, -, -, -, -⟩ := id hrp.st.pair; obtain ⟨a4, c4, rfl, -, -, -, -⟩ := id hrp.st.sess
  have HC := Lib.hid (hrp.sub (S' := fun b => w.heap.size + 2 ≤ b) fun b hb _ => by show _ ≤ _; have : w1.heap.size ≤ b := hb; have := HZ.out.lt; omega)
  clear hrp
  clear x0 x1 x2 x3 x4 x5 x6
  replace HR := Lib.hid (HR.out.below hb2)
  replace HX := Lib.hid (HX.out.below hb2)
  replace HZ := Lib.hid (HZ.out.below hb2)
  replace HB := Lib.hid (below_step HB.out hb2)
  clear hb2
  clear HR
  have x0 := HX.out.cell 0 _ rfl; have xt0 := HX.out.thaw 0; have x1 := HX.out.cell 1 _ rfl; have xt1 := HX.out.thaw 1; have x2 := HX.out.cell 2 _ rfl; have xt2 := HX.out.thaw 2; have x3 := HX.out.cell 3 _ rfl; have xt3 := HX.out.thaw 3; have x4 := HX.out.cell 4 _ rfl; have xt4 := HX.out.thaw 4; have x5 := HX.out.cell 5 _ rfl; have xt5 := HX.out.thaw 5; have x6 := HX.out.cell 6 _ rfl; have xt6 := HX.out.thaw 6
  have hzl := HZ.out.lt
  have HX9 : Hid (BoxAt (((((((w2.setCell ⟨w.heap.size, 0, none⟩ (.int .i64 r.log.base)).setCell ⟨w.heap.size, 1, none⟩ (.slice a1 r.log.entries.length c1)).setCell ⟨w.heap.size, 2, none⟩ (.string ⟨r.snap.toArray⟩)).setCell ⟨w.heap.size, 3, none⟩ (.int .i64 r.state.index)).setCell ⟨w.heap.size, 4, none⟩ (.slice a2 r.state.locks.length c2)).setCell ⟨w.heap.size, 5, none⟩ (.slice a3 r.state.pairs.length c3)).setCell ⟨w.heap.size, 6, none⟩ (.slice a4 r.state.sessions.length c4)) (w.heap.size) [.int .i64 r.log.base, .slice a1 r.log.entries.length c1, .string ⟨r.snap.toArray⟩, .int .i64 r.state.index, .slice a2 r.state.locks.length c2, .slice a3 r.state.pairs.length c3, .slice a4 r.state.sessions.length c4]) := Lib.hid (BoxAt.store (w := w2) [.int .i64 r.log.base, .slice a1 r.log.entries.length c1, .string ⟨r.snap.toArray⟩, .int .i64 r.state.index, .slice a2 r.state.locks.length c2, .slice a3 r.state.pairs.length c3, .slice a4 r.state.sessions.length c4] [.int .i64 r.log.base, ve, .string ⟨r.snap.toArray⟩, .int .i64 r.state.index, vl, vp, vz] 0 HX.out (by simp))
  have HZ9 : Hid (BoxAt (((((((w2.setCell ⟨w.heap.size, 0, none⟩ (.int .i64 r.log.base)).setCell ⟨w.heap.size, 1, none⟩ (.slice a1 r.log.entries.length c1)).setCell ⟨w.heap.size, 2, none⟩ (.string ⟨r.snap.toArray⟩)).setCell ⟨w.heap.size, 3, none⟩ (.int .i64 r.state.index)).setCell ⟨w.heap.size, 4, none⟩ (.slice a2 r.state.locks.length c2)).setCell ⟨w.heap.size, 5, none⟩ (.slice a3 r.state.pairs.length c3)).setCell ⟨w.heap.size, 6, none⟩ (.slice a4 r.state.sessions.length c4)) (w.heap.size + 1) [.int .i64 0, .slice none 0 0, .string ⟨#[]⟩, .int .i64 0, .slice none 0 0, .slice none 0 0, .slice none 0 0]) := Lib.hid (BoxAt.farAll (by omega) [.int .i64 r.log.base, .slice a1 r.log.entries.length c1, .string ⟨r.snap.toArray⟩, .int .i64 r.state.index, .slice a2 r.state.locks.length c2, .slice a3 r.state.pairs.length c3, .slice a4 r.state.sessions.length c4] 0 HZ.out)
  have HB9 : Hid (Below w.heap.size w (((((((w2.setCell ⟨w.heap.size, 0, none⟩ (.int .i64 r.log.base)).setCell ⟨w.heap.size, 1, none⟩ (.slice a1 r.log.entries.length c1)).setCell ⟨w.heap.size, 2, none⟩ (.string ⟨r.snap.toArray⟩)).setCell ⟨w.heap.size, 3, none⟩ (.int .i64 r.state.index)).setCell ⟨w.heap.size, 4, none⟩ (.slice a2 r.state.locks.length c2)).setCell ⟨w.heap.size, 5, none⟩ (.slice a3 r.state.pairs.length c3)).setCell ⟨w.heap.size, 6, none⟩ (.slice a4 r.state.sessions.length c4))) := Lib.hid (below_sets (by omega) [.int .i64 r.log.base, .slice a1 r.log.entries.length c1, .string ⟨r.snap.toArray⟩, .int .i64 r.state.index, .slice a2 r.state.locks.length c2, .slice a3 r.state.pairs.length c3, .slice a4 r.state.sessions.length c4] 0 _ HB.out)
  have HC9 : Hid (RpAt (((((((w2.setCell ⟨w.heap.size, 0, none⟩ (.int .i64 r.log.base)).setCell ⟨w.heap.size, 1, none⟩ (.slice a1 r.log.entries.length c1)).setCell ⟨w.heap.size, 2, none⟩ (.string ⟨r.snap.toArray⟩)).setCell ⟨w.heap.size, 3, none⟩ (.int .i64 r.state.index)).setCell ⟨w.heap.size, 4, none⟩ (.slice a2 r.state.locks.length c2)).setCell ⟨w.heap.size, 5, none⟩ (.slice a3 r.state.pairs.length c3)).setCell ⟨w.heap.size, 6, none⟩ (.slice a4 r.state.sessions.length c4)) r (.slice a1 r.log.entries.length c1) (.slice a2 r.state.locks.length c2) (.slice a3 r.state.pairs.length c3) (.slice a4 r.state.sessions.length c4) (fun b => w.heap.size + 2 ≤ b)) := Lib.hid (RpAt.store HC.out 0 [.int .i64 r.log.base, .slice a1 r.log.entries.length c1, .string ⟨r.snap.toArray⟩, .int .i64 r.state.index, .slice a2 r.state.locks.length c2, .slice a3 r.state.pairs.length c3, .slice a4 r.state.sessions.length c4] fun k hk => ⟨by have : w.heap.size + 2 ≤ k := hk; omega, hk⟩)
  clear hzl
  go_upto_region 7 with (fail)
  generalize (((((((w2.setCell ⟨w.heap.size, 0, none⟩ (.int .i64 r.log.base)).setCell ⟨w.heap.size, 1, none⟩ (.slice a1 r.log.entries.length c1)).setCell ⟨w.heap.size, 2, none⟩ (.string ⟨r.snap.toArray⟩)).setCell ⟨w.heap.size, 3, none⟩ (.int .i64 r.state.index)).setCell ⟨w.heap.size, 4, none⟩ (.slice a2 r.state.locks.length c2)).setCell ⟨w.heap.size, 5, none⟩ (.slice a3 r.state.pairs.length c3)).setCell ⟨w.heap.size, 6, none⟩ (.slice a4 r.state.sessions.length c4)) = w3 at *
  replace HX := HX9; clear HX9
  replace HZ := HZ9; clear HZ9
  replace HB := HB9; clear HB9
  replace HC := HC9; clear HC9
  clear hu1 hu2
  replace HX := Lib.hid (show BoxAt w3 w.heap.size [.int .i64 r.log.base, .slice a1 r.log.entries.length c1, .string ⟨r.snap.toArray⟩, .int .i64 (i : Int), .slice a2 r.state.locks.length c2, .slice a3 r.state.pairs.length c3, .slice a4 r.state.sessions.length c4] from by rw [← HIX.out]; exact HX.out)
  obtain ⟨M, hM⟩ : ∃ M, w3.heap.size = M := ⟨_, rfl⟩
  have HE := Lib.hid (HC.out.ents.sub (S' := fun b => w.heap.size + 2 ≤ b ∧ b < M) rStr_ok (by decide) fun b hb hl => ⟨hb, by omega⟩)
  have HS := Lib.hid (show StAt w3 (stK K i) (.slice a2 r.state.locks.length c2) (.slice a3 r.state.pairs.length c3) (.slice a4 r.state.sessions.length c4) (fun b => w.heap.size + 2 ≤ b ∧ b < M) from by rw [← HSE.out]; exact HC.out.st.sub fun b hb hl => ⟨hb, by omega⟩)
  have hzM := HZ.out.lt
  rw [hM] at hzM
  obtain ⟨_, _, hm0, -, hm1, -, -⟩ := id HC.out.ents
  simp only [Value.slice.injEq] at hm0
  obtain ⟨-, -, rfl⟩ := hm0
  unfold maxLen at hm1
  clear HC
  go_wp2
  go_loopw [8, 9, 10, 11, 12, 13, 14] (fun out _ _ _ _ _ _ wr => ∃ (j lo hi : Nat) (ul up uz : Value), i ≤ j ∧ j ≤ u ∧ Hid (BoxAt wr w.heap.size [.int .i64 r.log.base, .slice a1 r.log.entries.length c1, .string ⟨r.snap.toArray⟩, .int .i64 (j : Int), ul, up, uz]) ∧ Hid (BoxAt wr (w.heap.size + 1) [.int .i64 0, .slice none 0 0, .string ⟨#[]⟩, .int .i64 0, .slice none 0 0, .slice none 0 0, .slice none 0 0]) ∧ Hid (SlR 1 rStr wr (.slice a1 r.log.entries.length c1) r.log.entries (fun b => w.heap.size + 2 ≤ b ∧ b < M)) ∧ Hid (StAt wr (stK K j) ul up uz (fun b => lo ≤ b ∧ b < hi)) ∧ w.heap.size + 2 ≤ lo ∧ hi ≤ wr.heap.size ∧ M ≤ wr.heap.size ∧ Hid (OwR 101 5 rMail wr out (mailsK K i j) (fun _ => False)) ∧ Hid (∀ g, out.ownBlock = some g → M ≤ g ∧ (g < lo ∨ hi ≤ g)) ∧ Hid (Below w.heap.size w wr))
    (fun _ _ _ _ _ _ _ wr => match wr.cell? ⟨w.heap.size, 3, none⟩ with | some v => (u - (intOf v).toNat) | none => 0)
  case atStart => exact ⟨i, w.heap.size + 2, M, _, _, _, by omega, hu, HX, HZ, HE, HS, by omega, by omega, by omega, Lib.hid (by rw [show mailsK K i i = [] by simp [mailsK]]; exact OwR.nil _ _), Lib.hid (fun g hg => by cases hg), HB⟩
  case round =>
  clear HX HZ HB HE HS hM
  obtain ⟨j, lo, hi, ul, up, uz, hij, hju, HX, HZ, HE, HS, hlo, hhi, hMr, HO, HOG, HB⟩ := hrel
  obtain ⟨a5, c5, rfl, -, -, -, -⟩ := id HS.out.lock; obtain ⟨a6, c6, rfl, -, -, -, -⟩ := id HS.out.pair; obtain ⟨a7, c7, rfl, -, -, -, -⟩ := id HS.out.sess
  have hone := HO.out.oneCell
  go_upto_region 8 with (fail)
  by_cases hlt : j < u
  · refine wp_region_plan 9 (fun wx => Below wr.heap.size wr wx) (fun wx wy => Below wx.heap.size wx wy) [eqV (.pointer (some ⟨w.heap.size, 3, none⟩)), eqV (.pointer (some ⟨w.heap.size, 3, none⟩)), eqV (.int .i64 (j : Int)), eqV (.int .i64 (u : Int)), eqV (.pointer (some ⟨w.heap.size, 0, none⟩)), eqV (.agg #[.int .i64 r.log.base, .slice a1 r.log.entries.length c1]), eqV (.int .i64 (r.log.base + (r.log.entries.length : Int))), eqV (.int .i64 (u : Int)), eqV (.bool true)] (by kernel_rfl) (by kernel_rfl) rfl ?hJ ?hJS ?hst ?hobl ?hend
    case hJ => exact Below.drew (Below.refl _ _)
    case hJS =>
      exact fun wx wy h1 h2 => below_step h1 h2
    case hst => exact planStab_at _ ⟨eqV_stab _, eqV_stab _, eqV_stab _, eqV_stab _, eqV_stab _, eqV_stab _, eqV_stab _, eqV_stab _, eqV_stab _, trivial⟩
    case hobl =>
      simp only [planObls, List.take_succ_cons, List.take_zero, planPut, Act.put, List.setIfInBounds_toArray, List.set_cons_zero, List.set_cons_succ, Nat.reduceAdd, Nat.zero_add]
      refine ⟨?_, ?_, ?_, ?_, ?_, ?_, ?_, ?_, ?_, trivial⟩
      · intro vs1 wx hJ hn K hK
        simp [planNeeds, VAt, eqV, Region.binds] at hn
        simp only [VAt, eqV, List.getD_cons_zero, List.getD_cons_succ, Act.put, List.setIfInBounds_toArray, List.set_cons_zero, List.set_cons_succ, Nat.reduceAdd, Nat.zero_add] at hK
        go_wp2
        exact hK _ _ (Below.refl _ _) rfl
      · intro vs1 wx hJ hn K hK
        simp [planNeeds, VAt, eqV, Region.binds] at hn
        simp only [VAt, eqV, List.getD_cons_zero, List.getD_cons_succ, Act.put, List.setIfInBounds_toArray, List.set_cons_zero, List.set_cons_succ, Nat.reduceAdd, Nat.zero_add] at hK
        simp only [hn] at hK ⊢
        go_wp2
        exact hK _ _ (Below.refl _ _) rfl
      · intro vs1 wx hJ hn K hK
        simp [planNeeds, VAt, eqV, Region.binds] at hn
        simp only [VAt, eqV, List.getD_cons_zero, List.getD_cons_succ, Act.put, List.setIfInBounds_toArray, List.set_cons_zero, List.set_cons_succ, Nat.reduceAdd, Nat.zero_add] at hK
        simp only [hn] at hK ⊢
        have hx := HX.out.below hJ
        have x3 := hx.cell 3 _ rfl
        go_wp2
        exact hK _ _ (Below.refl _ _) rfl
      · intro vs1 wx hJ hn K hK
        simp [planNeeds, VAt, eqV, Region.binds] at hn
        simp only [VAt, eqV, List.getD_cons_zero, List.getD_cons_succ, Act.put, List.setIfInBounds_toArray, List.set_cons_zero, List.set_cons_succ, Nat.reduceAdd, Nat.zero_add] at hK
        go_wp2
        exact hK _ _ (Below.refl _ _) rfl
      · intro vs1 wx hJ hn K hK
        simp [planNeeds, VAt, eqV, Region.binds] at hn
        simp only [VAt, eqV, List.getD_cons_zero, List.getD_cons_succ, Act.put, List.setIfInBounds_toArray, List.set_cons_zero, List.set_cons_succ, Nat.reduceAdd, Nat.zero_add] at hK
        go_wp2
        exact hK _ _ (Below.refl _ _) rfl
      · intro vs1 wx hJ hn K hK
        simp [planNeeds, VAt, eqV, Region.binds] at hn
        simp only [VAt, eqV, List.getD_cons_zero, List.getD_cons_succ, Act.put, List.setIfInBounds_toArray, List.set_cons_zero, List.set_cons_succ, Nat.reduceAdd, Nat.zero_add] at hK
        simp only [hn] at hK ⊢
        have hx := HX.out.below hJ
        have x0 := hx.cell 0 _ rfl; have x1 := hx.cell 1 _ rfl
        go_wp2
        exact hK _ _ (Below.refl _ _) rfl
      · intro vs1 wx hJ hn K hK
        simp [planNeeds, VAt, eqV, Region.binds] at hn
        simp only [VAt, eqV, List.getD_cons_zero, List.getD_cons_succ, Act.put, List.setIfInBounds_toArray, List.set_cons_zero, List.set_cons_succ, Nat.reduceAdd, Nat.zero_add] at hK
        simp only [hn] at hK ⊢
        have hsx := HE.out.below rStr_ok (by decide) hJ
        go_wp2_with fail
        refine (logLast_calls r.log _ _ wx hsx (by omega) (by omega)).mono ?_; rintro e w5 ⟨rfl, hb5⟩
        go_wp2
        exact hK _ _ hb5 rfl
      · intro vs1 wx hJ hn K hK
        simp [planNeeds, VAt, eqV, Region.binds] at hn
        simp only [VAt, eqV, List.getD_cons_zero, List.getD_cons_succ, Act.put, List.setIfInBounds_toArray, List.set_cons_zero, List.set_cons_succ, Nat.reduceAdd, Nat.zero_add] at hK
        simp only [hn] at hK ⊢
        have hle : (u : Int) ≤ r.log.base + (r.log.entries.length : Int) := by have := HBE.out; omega
        rcases Int.lt_or_eq_of_le hle with hm | hm
        · have hd : decide ((u : Int) < r.log.base + (r.log.entries.length : Int)) = true := decide_eq_true hm
          go_wp2
          exact hK _ _ (Below.refl _ _) rfl
        · have hd : decide ((u : Int) < r.log.base + (r.log.entries.length : Int)) = false := decide_eq_false (by omega)
          have hd2 : decide (r.log.base + (r.log.entries.length : Int) < (u : Int)) = false := decide_eq_false (by omega)
          have HM := Lib.hid hm
          clear hm hle
          go_wp2
          all_goals first | exact hK _ _ (Below.refl _ _) rfl | exact hK _ _ (Below.refl _ _) (congrArg (Value.int .i64) HM.out.symm)
        skip
      · intro vs1 wx hJ hn K hK
        simp [planNeeds, VAt, eqV, Region.binds] at hn
        simp only [VAt, eqV, List.getD_cons_zero, List.getD_cons_succ, Act.put, List.setIfInBounds_toArray, List.set_cons_zero, List.set_cons_succ, Nat.reduceAdd, Nat.zero_add] at hK
        simp only [hn] at hK ⊢
        have hd : decide ((j : Int) < (u : Int)) = true := decide_eq_true (by omega)
        go_wp2
        exact hK _ _ (Below.refl _ _) rfl
    case hend =>
      intro vs1 wx hJ hv
      simp [planHave, eqV] at hv
      obtain ⟨e0, e1, e2, e3, e4, e5, e6, e7, e8⟩ := hv
      simp only [List.take_succ_cons, List.take_zero, List.drop_succ_cons, List.drop_zero, planPut, Act.put, List.setIfInBounds_toArray, List.set_cons_zero, List.set_cons_succ, Nat.reduceAdd, Nat.zero_add]
      rw [e0, e1, e2, e3, e4, e5, e6, e7, e8]
      clear e0 e1 e2 e3 e4 e5 e6 e7 e8
      have HX3 := Lib.hid (HX.out.cell 3 _ rfl)
      replace HO := Lib.hid (HO.out.below rMail_ok hJ)
      have hsz := hJ.size
      replace HX := Lib.hid (HX.out.below hJ)
      replace HZ := Lib.hid (HZ.out.below hJ)
      replace HB := Lib.hid (below_step HB.out hJ)
      replace HE := Lib.hid (HE.out.below rStr_ok (by decide) hJ)
      replace HS := Lib.hid (HS.out.below hJ)
      clear hJ
      rename World => w4
      have hzm4 := HZ.out.lt
      have HOL := Lib.hid HO.out.lt
      have HNX := Lib.hid (stK_next HKO.out.dec (by omega) (i := j) (by omega))
      have hgx := HEN.out j hij hlt
      obtain ⟨sk1, sk2⟩ := stK_ok HKO.out (i := j) (by omega)
      have hjb : j - b < r.log.entries.length := by omega
      obtain ⟨bb, off, cap1, row, hv, -, hrow, hcells⟩ := HE.out.row (j - b) hjb
      simp only [Value.slice.injEq] at hv
      obtain ⟨rfl, -, rfl⟩ := hv
      have hge : r.log.entries[j - b] = K.getD j [] := by rw [← hgx]; simp [List.getD, hjb]
      rw [hge] at hrow
      have hdx : decErr (K.getD j []) = 0 := HKO.out.dec _ (getD_mem K j [] (by omega))
      have HMK := Lib.hid (show mailK K j = ⟨(cmdDecode (K.getD j [])).1.client, (cmdDecode (K.getD j [])).1.seq, (maApply (stK K j) (K.getD j [])).2.1⟩ from rfl)
      generalize K.getD j [] = x at *
      obtain rfl := hrow
      have q0 := hcells 0 _ rfl
      simp only [Nat.mul_one, Nat.add_zero] at q0
      clear hcells hgx hge
      have HSK2 := Lib.hid sk2
      have e1 : IntKind.i64.wrap ((j : Int) - r.log.base) = ((j - b : Nat) : Int) := (IntWalk.i64_in _ (by have := HBE.out; omega)).trans (by have := HBE.out; omega)
      have hxl := dec_len hdx
      have HC := Lib.hid (maApply_calls (stK K j) _ _ _ _ x w4 HS.out sk1 (by omega) hdx)
      have HD := Lib.hid (fun w => decode_calls x w (by omega))
      rw [HSK2.out] at HC
      rw [show (cmdDecode x).2 = 0 from hdx] at HD
      clear sk1 sk2 hdx
      have x0 := HX.out.cell 0 _ rfl; have x1 := HX.out.cell 1 _ rfl; have x2 := HX.out.cell 2 _ rfl; have x3 := HX.out.cell 3 _ rfl; have x4 := HX.out.cell 4 _ rfl; have x5 := HX.out.cell 5 _ rfl; have x6 := HX.out.cell 6 _ rfl
      go_wp2_with fail
      refine HC.out.mono ?_
      clear HC
      rintro e w5 ⟨vl2, vp2, vs2, rfl, hst2, hb5⟩
      rw [HNX.out.1]
      obtain ⟨a8, c8, rfl, -, -, -, -⟩ := id hst2.lock; obtain ⟨a9, c9, rfl, -, -, -, -⟩ := id hst2.pair; obtain ⟨a10, c10, rfl, -, -, -, -⟩ := id hst2.sess
      clear x0 x1 x2 x3 x4 x5 x6
      clear q0 e1
      have HT := Lib.hid (hst2.sub (S' := fun b => w4.heap.size ≤ b ∧ b < w5.heap.size) fun b hb hl => ⟨hb, hl⟩)
      clear hst2
      have hb5s := hb5.size
      replace HO := Lib.hid (HO.out.below rMail_ok hb5)
      replace HX := Lib.hid (HX.out.below hb5)
      replace HZ := Lib.hid (HZ.out.below hb5)
      replace HB := Lib.hid (below_step HB.out hb5)
      replace HE := Lib.hid (HE.out.below rStr_ok (by decide) hb5)
      clear hb5
      generalize (maApply (stK K j) x).2.1 = rr at *
      have HNE := Lib.hid HNX.out.2.1
      rw [← HNX.out.2.1] at HT ⊢
      have HTI := Lib.hid (show (stK K (j + 1)).index = (j : Int) + 1 from (stK_ok HKO.out (i := j + 1) (by omega)).2)
      rw [HTI.out]
      clear HNX
      go_upto_region 11 with (fail)
      have hzq := HZ.out.lt
      have hbx : w.heap.size + 1 < w5.heap.size := hzq
      clear hzq
      have hws := hb5s
      have HX5 := HX
      have HN := Lib.hid ((BoxAt.new (w := w5) (cs := [.int .i64 ((j : Int) + 1), .slice a8 (stK K (j + 1)).locks.length c8, .slice a9 (stK K (j + 1)).pairs.length c9, .slice a10 (stK K (j + 1)).sessions.length c10]) (E := 36)).below (below_alloc _ (.cells #[.int .i64 rr.code, .int .i64 rr.n, .string ⟨rr.text.toArray⟩] 39)))
      have hz := BoxAt.new (w := w5.alloc (.cells #[.int .i64 ((j : Int) + 1), .slice a8 (stK K (j + 1)).locks.length c8, .slice a9 (stK K (j + 1)).pairs.length c9, .slice a10 (stK K (j + 1)).sessions.length c10] 36)) (cs := [.int .i64 rr.code, .int .i64 rr.n, .string ⟨rr.text.toArray⟩]) (E := 39)
      rw [World.size_alloc] at hz
      have HP := Lib.hid hz
      have hba := below_alloc2 w5 (.cells #[.int .i64 ((j : Int) + 1), .slice a8 (stK K (j + 1)).locks.length c8, .slice a9 (stK K (j + 1)).pairs.length c9, .slice a10 (stK K (j + 1)).sessions.length c10] 36) (.cells #[.int .i64 rr.code, .int .i64 rr.n, .string ⟨rr.text.toArray⟩] 39)
      replace HO := Lib.hid (HO.out.below rMail_ok hba)
      replace HT := Lib.hid (HT.out.below hba)
      have hbas := hba.size
      replace HX := Lib.hid (HX.out.below hba)
      replace HZ := Lib.hid (HZ.out.below hba)
      replace HB := Lib.hid (below_step HB.out hba)
      replace HE := Lib.hid (HE.out.below rStr_ok (by decide) hba)
      clear hba
      clear hz HX5
      generalize (w5.alloc (.cells #[.int .i64 ((j : Int) + 1), .slice a8 (stK K (j + 1)).locks.length c8, .slice a9 (stK K (j + 1)).pairs.length c9, .slice a10 (stK K (j + 1)).sessions.length c10] 36)).alloc (.cells #[.int .i64 rr.code, .int .i64 rr.n, .string ⟨rr.text.toArray⟩] 39) = w6 at *
      obtain ⟨m5, hm5⟩ : ∃ m5, w5.heap.size = m5 := ⟨_, rfl⟩
      rw [hm5] at HN HP HT hbx hws hbas ⊢
      obtain ⟨m4, hm4⟩ : ∃ m4, w4.heap.size = m4 := ⟨_, rfl⟩
      rw [hm4] at HT HOL hws hsz hzm4
      generalize (cmdDecode x).1 = cc at *
      go_wp2_with fail
      refine (HD.out w6).mono ?_
      clear HD
      rintro e w7 ⟨rfl, hb7⟩
      replace HO := Lib.hid (HO.out.below rMail_ok hb7)
      have hb7s := hb7.size
      replace HX := Lib.hid (HX.out.below hb7)
      replace HZ := Lib.hid (HZ.out.below hb7)
      replace HB := Lib.hid (below_step HB.out hb7)
      replace HE := Lib.hid (HE.out.below rStr_ok (by decide) hb7)
      replace HN := Lib.hid (HN.out.below hb7)
      replace HP := Lib.hid (HP.out.below hb7)
      replace HT := Lib.hid (HT.out.below hb7)
      clear hb7
      unfold valCommand
      go_upto_region 14 with (fail)
      have hpq := HP.out.lt
      have hbc : m5 + 1 < w7.heap.size := hpq
      clear hpq
      replace HO := Lib.hid (HO.out.below rMail_ok (below_alloc w7 (.cells #[.int .i64 cc.kind, .int .i64 cc.client, .int .i64 cc.session, .int .i64 cc.seq, .int .i64 cc.acked, .int .i64 cc.op.kind, .string ⟨cc.op.a.toArray⟩, .string ⟨cc.op.b.toArray⟩, .int .i64 cc.op.n] 45)))
      have hb8s := (below_alloc w7 (.cells #[.int .i64 cc.kind, .int .i64 cc.client, .int .i64 cc.session, .int .i64 cc.seq, .int .i64 cc.acked, .int .i64 cc.op.kind, .string ⟨cc.op.a.toArray⟩, .string ⟨cc.op.b.toArray⟩, .int .i64 cc.op.n] 45)).size
      have HCM := Lib.hid (BoxAt.new (w := w7) (cs := [.int .i64 cc.kind, .int .i64 cc.client, .int .i64 cc.session, .int .i64 cc.seq, .int .i64 cc.acked, .int .i64 cc.op.kind, .string ⟨cc.op.a.toArray⟩, .string ⟨cc.op.b.toArray⟩, .int .i64 cc.op.n]) (E := 45))
      have hba := below_alloc w7 (.cells #[.int .i64 cc.kind, .int .i64 cc.client, .int .i64 cc.session, .int .i64 cc.seq, .int .i64 cc.acked, .int .i64 cc.op.kind, .string ⟨cc.op.a.toArray⟩, .string ⟨cc.op.b.toArray⟩, .int .i64 cc.op.n] 45)
      replace HX := Lib.hid (HX.out.below hba)
      replace HZ := Lib.hid (HZ.out.below hba)
      replace HB := Lib.hid (below_step HB.out hba)
      replace HE := Lib.hid (HE.out.below rStr_ok (by decide) hba)
      replace HN := Lib.hid (HN.out.below hba)
      replace HP := Lib.hid (HP.out.below hba)
      replace HT := Lib.hid (HT.out.below hba)
      clear hba
      generalize w7.alloc (.cells #[.int .i64 cc.kind, .int .i64 cc.client, .int .i64 cc.session, .int .i64 cc.seq, .int .i64 cc.acked, .int .i64 cc.op.kind, .string ⟨cc.op.a.toArray⟩, .string ⟨cc.op.b.toArray⟩, .int .i64 cc.op.n] 45) = w8 at *
      generalize w7.heap.size = BC at *
      have n0 := HN.out.cell 0 _ rfl; have n1 := HN.out.cell 1 _ rfl; have n2 := HN.out.cell 2 _ rfl; have n3 := HN.out.cell 3 _ rfl
      have x3 := HX.out.cell 3 _ rfl; have xt3 := HX.out.thaw 3; have x4 := HX.out.cell 4 _ rfl; have xt4 := HX.out.thaw 4; have x5 := HX.out.cell 5 _ rfl; have xt5 := HX.out.thaw 5; have x6 := HX.out.cell 6 _ rfl; have xt6 := HX.out.thaw 6
      have hzl := HZ.out.lt; have hnl := HN.out.lt; have hpl := HP.out.lt; have hcl := HCM.out.lt
      have HX9 : Hid (BoxAt ((((w8.setCell ⟨w.heap.size, 3, none⟩ (.int .i64 ((j : Int) + 1))).setCell ⟨w.heap.size, 4, none⟩ (.slice a8 (stK K (j + 1)).locks.length c8)).setCell ⟨w.heap.size, 5, none⟩ (.slice a9 (stK K (j + 1)).pairs.length c9)).setCell ⟨w.heap.size, 6, none⟩ (.slice a10 (stK K (j + 1)).sessions.length c10)) (w.heap.size) [.int .i64 r.log.base, .slice (some ⟨bb, off, none⟩) r.log.entries.length c1, .string ⟨r.snap.toArray⟩, .int .i64 ((j : Int) + 1), .slice a8 (stK K (j + 1)).locks.length c8, .slice a9 (stK K (j + 1)).pairs.length c9, .slice a10 (stK K (j + 1)).sessions.length c10]) := Lib.hid (BoxAt.store (w := w8) [.int .i64 ((j : Int) + 1), .slice a8 (stK K (j + 1)).locks.length c8, .slice a9 (stK K (j + 1)).pairs.length c9, .slice a10 (stK K (j + 1)).sessions.length c10] [.int .i64 r.log.base, .slice (some ⟨bb, off, none⟩) r.log.entries.length c1, .string ⟨r.snap.toArray⟩, .int .i64 (j : Int), .slice a5 (stK K j).locks.length c5, .slice a6 (stK K j).pairs.length c6, .slice a7 (stK K j).sessions.length c7] 3 HX.out (by simp))
      have HZ9 : Hid (BoxAt ((((w8.setCell ⟨w.heap.size, 3, none⟩ (.int .i64 ((j : Int) + 1))).setCell ⟨w.heap.size, 4, none⟩ (.slice a8 (stK K (j + 1)).locks.length c8)).setCell ⟨w.heap.size, 5, none⟩ (.slice a9 (stK K (j + 1)).pairs.length c9)).setCell ⟨w.heap.size, 6, none⟩ (.slice a10 (stK K (j + 1)).sessions.length c10)) (w.heap.size + 1) [.int .i64 0, .slice none 0 0, .string ⟨#[]⟩, .int .i64 0, .slice none 0 0, .slice none 0 0, .slice none 0 0]) := Lib.hid (BoxAt.farAll (by omega) [.int .i64 ((j : Int) + 1), .slice a8 (stK K (j + 1)).locks.length c8, .slice a9 (stK K (j + 1)).pairs.length c9, .slice a10 (stK K (j + 1)).sessions.length c10] 3 HZ.out)
      have HB9 : Hid (Below w.heap.size w ((((w8.setCell ⟨w.heap.size, 3, none⟩ (.int .i64 ((j : Int) + 1))).setCell ⟨w.heap.size, 4, none⟩ (.slice a8 (stK K (j + 1)).locks.length c8)).setCell ⟨w.heap.size, 5, none⟩ (.slice a9 (stK K (j + 1)).pairs.length c9)).setCell ⟨w.heap.size, 6, none⟩ (.slice a10 (stK K (j + 1)).sessions.length c10))) := Lib.hid (below_sets (by omega) [.int .i64 ((j : Int) + 1), .slice a8 (stK K (j + 1)).locks.length c8, .slice a9 (stK K (j + 1)).pairs.length c9, .slice a10 (stK K (j + 1)).sessions.length c10] 3 _ HB.out)
      have HE9 : Hid (SlR 1 rStr ((((w8.setCell ⟨w.heap.size, 3, none⟩ (.int .i64 ((j : Int) + 1))).setCell ⟨w.heap.size, 4, none⟩ (.slice a8 (stK K (j + 1)).locks.length c8)).setCell ⟨w.heap.size, 5, none⟩ (.slice a9 (stK K (j + 1)).pairs.length c9)).setCell ⟨w.heap.size, 6, none⟩ (.slice a10 (stK K (j + 1)).sessions.length c10)) (.slice (some ⟨bb, off, none⟩) r.log.entries.length c1) r.log.entries (fun b => w.heap.size + 2 ≤ b ∧ b < M)) := Lib.hid (SlR.store rStr_ok (by decide) HE.out 3 [.int .i64 ((j : Int) + 1), .slice a8 (stK K (j + 1)).locks.length c8, .slice a9 (stK K (j + 1)).pairs.length c9, .slice a10 (stK K (j + 1)).sessions.length c10] fun k hk => ⟨by have := hk.1; omega, hk⟩)
      have HN9 : Hid (BoxAt ((((w8.setCell ⟨w.heap.size, 3, none⟩ (.int .i64 ((j : Int) + 1))).setCell ⟨w.heap.size, 4, none⟩ (.slice a8 (stK K (j + 1)).locks.length c8)).setCell ⟨w.heap.size, 5, none⟩ (.slice a9 (stK K (j + 1)).pairs.length c9)).setCell ⟨w.heap.size, 6, none⟩ (.slice a10 (stK K (j + 1)).sessions.length c10)) (m5) [.int .i64 ((j : Int) + 1), .slice a8 (stK K (j + 1)).locks.length c8, .slice a9 (stK K (j + 1)).pairs.length c9, .slice a10 (stK K (j + 1)).sessions.length c10]) := Lib.hid (BoxAt.farAll (by omega) [.int .i64 ((j : Int) + 1), .slice a8 (stK K (j + 1)).locks.length c8, .slice a9 (stK K (j + 1)).pairs.length c9, .slice a10 (stK K (j + 1)).sessions.length c10] 3 HN.out)
      have HP9 : Hid (BoxAt ((((w8.setCell ⟨w.heap.size, 3, none⟩ (.int .i64 ((j : Int) + 1))).setCell ⟨w.heap.size, 4, none⟩ (.slice a8 (stK K (j + 1)).locks.length c8)).setCell ⟨w.heap.size, 5, none⟩ (.slice a9 (stK K (j + 1)).pairs.length c9)).setCell ⟨w.heap.size, 6, none⟩ (.slice a10 (stK K (j + 1)).sessions.length c10)) (m5 + 1) [.int .i64 rr.code, .int .i64 rr.n, .string ⟨rr.text.toArray⟩]) := Lib.hid (BoxAt.farAll (by omega) [.int .i64 ((j : Int) + 1), .slice a8 (stK K (j + 1)).locks.length c8, .slice a9 (stK K (j + 1)).pairs.length c9, .slice a10 (stK K (j + 1)).sessions.length c10] 3 HP.out)
      have HT9 : Hid (StAt ((((w8.setCell ⟨w.heap.size, 3, none⟩ (.int .i64 ((j : Int) + 1))).setCell ⟨w.heap.size, 4, none⟩ (.slice a8 (stK K (j + 1)).locks.length c8)).setCell ⟨w.heap.size, 5, none⟩ (.slice a9 (stK K (j + 1)).pairs.length c9)).setCell ⟨w.heap.size, 6, none⟩ (.slice a10 (stK K (j + 1)).sessions.length c10)) (stK K (j + 1)) (.slice a8 (stK K (j + 1)).locks.length c8) (.slice a9 (stK K (j + 1)).pairs.length c9) (.slice a10 (stK K (j + 1)).sessions.length c10) (fun b => m4 ≤ b ∧ b < m5)) := Lib.hid (StAt.store HT.out 3 [.int .i64 ((j : Int) + 1), .slice a8 (stK K (j + 1)).locks.length c8, .slice a9 (stK K (j + 1)).pairs.length c9, .slice a10 (stK K (j + 1)).sessions.length c10] fun k hk => ⟨by have := hk.1; omega, hk⟩)
      have HCM9 : Hid (BoxAt ((((w8.setCell ⟨w.heap.size, 3, none⟩ (.int .i64 ((j : Int) + 1))).setCell ⟨w.heap.size, 4, none⟩ (.slice a8 (stK K (j + 1)).locks.length c8)).setCell ⟨w.heap.size, 5, none⟩ (.slice a9 (stK K (j + 1)).pairs.length c9)).setCell ⟨w.heap.size, 6, none⟩ (.slice a10 (stK K (j + 1)).sessions.length c10)) (BC) [.int .i64 cc.kind, .int .i64 cc.client, .int .i64 cc.session, .int .i64 cc.seq, .int .i64 cc.acked, .int .i64 cc.op.kind, .string ⟨cc.op.a.toArray⟩, .string ⟨cc.op.b.toArray⟩, .int .i64 cc.op.n]) := Lib.hid (BoxAt.farAll (by omega) [.int .i64 ((j : Int) + 1), .slice a8 (stK K (j + 1)).locks.length c8, .slice a9 (stK K (j + 1)).pairs.length c9, .slice a10 (stK K (j + 1)).sessions.length c10] 3 HCM.out)
      have HO9 : Hid (OwR 101 5 rMail ((((w8.setCell ⟨w.heap.size, 3, none⟩ (.int .i64 ((j : Int) + 1))).setCell ⟨w.heap.size, 4, none⟩ (.slice a8 (stK K (j + 1)).locks.length c8)).setCell ⟨w.heap.size, 5, none⟩ (.slice a9 (stK K (j + 1)).pairs.length c9)).setCell ⟨w.heap.size, 6, none⟩ (.slice a10 (stK K (j + 1)).sessions.length c10)) u8 (mailsK K i j) (fun _ => False)) := Lib.hid (HO.out.move (S' := fun _ => False) rMail_ok (fun g hg => heap_sets (b := w.heap.size) (by have := (HOG.out g hg).1; omega) [.int .i64 ((j : Int) + 1), .slice a8 (stK K (j + 1)).locks.length c8, .slice a9 (stK K (j + 1)).pairs.length c9, .slice a10 (stK K (j + 1)).sessions.length c10] 3 w8) (fun b hb => hb.elim))
      have HSZ9 := Lib.hid (show (((((w8.setCell ⟨w.heap.size, 3, none⟩ (.int .i64 ((j : Int) + 1))).setCell ⟨w.heap.size, 4, none⟩ (.slice a8 (stK K (j + 1)).locks.length c8)).setCell ⟨w.heap.size, 5, none⟩ (.slice a9 (stK K (j + 1)).pairs.length c9)).setCell ⟨w.heap.size, 6, none⟩ (.slice a10 (stK K (j + 1)).sessions.length c10))).heap.size = w8.heap.size by simp only [World.size_setCell])
      clear hzl hnl hpl hcl
      go_upto_region 15 with (fail)
      generalize ((((w8.setCell ⟨w.heap.size, 3, none⟩ (.int .i64 ((j : Int) + 1))).setCell ⟨w.heap.size, 4, none⟩ (.slice a8 (stK K (j + 1)).locks.length c8)).setCell ⟨w.heap.size, 5, none⟩ (.slice a9 (stK K (j + 1)).pairs.length c9)).setCell ⟨w.heap.size, 6, none⟩ (.slice a10 (stK K (j + 1)).sessions.length c10)) = w9 at *
      replace HX := HX9; clear HX9
      replace HZ := HZ9; clear HZ9
      replace HB := HB9; clear HB9
      replace HE := HE9; clear HE9
      replace HN := HN9; clear HN9
      replace HP := HP9; clear HP9
      replace HT := HT9; clear HT9
      replace HCM := HCM9; clear HCM9
      replace HO := HO9; clear HO9
      clear n0 n1 n2 n3
      have c1 := HCM.out.cell 1 _ rfl; have c3 := HCM.out.cell 3 _ rfl
      have p0 := HP.out.cell 0 _ rfl; have p1 := HP.out.cell 1 _ rfl; have p2 := HP.out.cell 2 _ rfl
      clear x3 x4 x5 x6 xt3 xt4 xt5 xt6
      go_wp2_with (at_builtin; refine wpList_app1 Tryz.tyMail (.tmp 70) (.tmp 77) rfl rfl rMail_ok ⟨cc.client, cc.seq, rr⟩ rfl rfl rfl HO.out rfl (by rw [mailsK_len]; omega) ?_; intro v10 w10 ho10 hg10 hv10)
      rw [← HMK.out, ← mailsK_next K hij] at ho10
      have hg10s := hg10.size
      have HX9 := Lib.hid (HX.out.grown hg10 (fun e => by have := HOG.out _ e.symm; omega))
      have HZ9 := Lib.hid (HZ.out.grown hg10 (fun e => by have := HOG.out _ e.symm; omega))
      have HE9 := Lib.hid (HE.out.move (w' := w10) (S' := fun b => w.heap.size + 2 ≤ b ∧ b < M) rStr_ok (by decide) fun b hb hl => ⟨hg10.block b hl (fun e => by have := HOG.out _ e.symm; have := hb.2; omega), hb⟩)
      have HT9 := Lib.hid (HT.out.move (w' := w10) (S' := fun b => m4 ≤ b ∧ b < m5) fun b hb hl => ⟨hg10.block b hl (fun e => by have := HOL.out _ e.symm; have := hb.1; omega), hb⟩)
      have HB9 := Lib.hid (HB.out.grown hg10 HB.out.size (fun k e => by have := HOG.out _ e; omega))
      have HX39 := Lib.hid (HX9.out.cell 3 _ rfl)
      go_wp2
      have hsz9 := HSZ9.out
      go_roundw
      case rel => exact ⟨j + 1, m4, m5, _, _, _, by omega, by omega, HX9, HZ9, HE9, HT9, by omega, by omega, by omega, Lib.hid ho10, Lib.hid (fun g hg => by
        rcases hv10 with e | ⟨g', e, hge⟩
        · rw [e] at hg; have h1 := HOG.out g hg; have h2 := HOL.out g hg; exact ⟨h1.1, .inl h2⟩
        · rw [e] at hg; cases hg; exact ⟨by omega, by omega⟩), HB9⟩
      case measure => rw [HX39.out, HX3.out]; simp [intOf]; omega
  · refine wp_region_plan 9 (fun wx => Below wr.heap.size wr wx) (fun wx wy => Below wx.heap.size wx wy) [eqV (.pointer (some ⟨w.heap.size, 3, none⟩)), eqV (.pointer (some ⟨w.heap.size, 3, none⟩)), eqV (.int .i64 (j : Int)), eqV (.int .i64 (u : Int)), eqV (.pointer (some ⟨w.heap.size, 0, none⟩)), eqV (.agg #[.int .i64 r.log.base, .slice a1 r.log.entries.length c1]), eqV (.int .i64 (r.log.base + (r.log.entries.length : Int))), eqV (.int .i64 (u : Int)), eqV (.bool false)] (by kernel_rfl) (by kernel_rfl) rfl ?hJ ?hJS ?hst ?hobl ?hend
    case hJ => exact Below.drew (Below.refl _ _)
    case hJS =>
      exact fun wx wy h1 h2 => below_step h1 h2
    case hst => exact planStab_at _ ⟨eqV_stab _, eqV_stab _, eqV_stab _, eqV_stab _, eqV_stab _, eqV_stab _, eqV_stab _, eqV_stab _, eqV_stab _, trivial⟩
    case hobl =>
      simp only [planObls, List.take_succ_cons, List.take_zero, planPut, Act.put, List.setIfInBounds_toArray, List.set_cons_zero, List.set_cons_succ, Nat.reduceAdd, Nat.zero_add]
      refine ⟨?_, ?_, ?_, ?_, ?_, ?_, ?_, ?_, ?_, trivial⟩
      · intro vs1 wx hJ hn K hK
        simp [planNeeds, VAt, eqV, Region.binds] at hn
        simp only [VAt, eqV, List.getD_cons_zero, List.getD_cons_succ, Act.put, List.setIfInBounds_toArray, List.set_cons_zero, List.set_cons_succ, Nat.reduceAdd, Nat.zero_add] at hK
        go_wp2
        exact hK _ _ (Below.refl _ _) rfl
      · intro vs1 wx hJ hn K hK
        simp [planNeeds, VAt, eqV, Region.binds] at hn
        simp only [VAt, eqV, List.getD_cons_zero, List.getD_cons_succ, Act.put, List.setIfInBounds_toArray, List.set_cons_zero, List.set_cons_succ, Nat.reduceAdd, Nat.zero_add] at hK
        simp only [hn] at hK ⊢
        go_wp2
        exact hK _ _ (Below.refl _ _) rfl
      · intro vs1 wx hJ hn K hK
        simp [planNeeds, VAt, eqV, Region.binds] at hn
        simp only [VAt, eqV, List.getD_cons_zero, List.getD_cons_succ, Act.put, List.setIfInBounds_toArray, List.set_cons_zero, List.set_cons_succ, Nat.reduceAdd, Nat.zero_add] at hK
        simp only [hn] at hK ⊢
        have hx := HX.out.below hJ
        have x3 := hx.cell 3 _ rfl
        go_wp2
        exact hK _ _ (Below.refl _ _) rfl
      · intro vs1 wx hJ hn K hK
        simp [planNeeds, VAt, eqV, Region.binds] at hn
        simp only [VAt, eqV, List.getD_cons_zero, List.getD_cons_succ, Act.put, List.setIfInBounds_toArray, List.set_cons_zero, List.set_cons_succ, Nat.reduceAdd, Nat.zero_add] at hK
        go_wp2
        exact hK _ _ (Below.refl _ _) rfl
      · intro vs1 wx hJ hn K hK
        simp [planNeeds, VAt, eqV, Region.binds] at hn
        simp only [VAt, eqV, List.getD_cons_zero, List.getD_cons_succ, Act.put, List.setIfInBounds_toArray, List.set_cons_zero, List.set_cons_succ, Nat.reduceAdd, Nat.zero_add] at hK
        go_wp2
        exact hK _ _ (Below.refl _ _) rfl
      · intro vs1 wx hJ hn K hK
        simp [planNeeds, VAt, eqV, Region.binds] at hn
        simp only [VAt, eqV, List.getD_cons_zero, List.getD_cons_succ, Act.put, List.setIfInBounds_toArray, List.set_cons_zero, List.set_cons_succ, Nat.reduceAdd, Nat.zero_add] at hK
        simp only [hn] at hK ⊢
        have hx := HX.out.below hJ
        have x0 := hx.cell 0 _ rfl; have x1 := hx.cell 1 _ rfl
        go_wp2
        exact hK _ _ (Below.refl _ _) rfl
      · intro vs1 wx hJ hn K hK
        simp [planNeeds, VAt, eqV, Region.binds] at hn
        simp only [VAt, eqV, List.getD_cons_zero, List.getD_cons_succ, Act.put, List.setIfInBounds_toArray, List.set_cons_zero, List.set_cons_succ, Nat.reduceAdd, Nat.zero_add] at hK
        simp only [hn] at hK ⊢
        have hsx := HE.out.below rStr_ok (by decide) hJ
        go_wp2_with fail
        refine (logLast_calls r.log _ _ wx hsx (by omega) (by omega)).mono ?_; rintro e w5 ⟨rfl, hb5⟩
        go_wp2
        exact hK _ _ hb5 rfl
      · intro vs1 wx hJ hn K hK
        simp [planNeeds, VAt, eqV, Region.binds] at hn
        simp only [VAt, eqV, List.getD_cons_zero, List.getD_cons_succ, Act.put, List.setIfInBounds_toArray, List.set_cons_zero, List.set_cons_succ, Nat.reduceAdd, Nat.zero_add] at hK
        simp only [hn] at hK ⊢
        have hle : (u : Int) ≤ r.log.base + (r.log.entries.length : Int) := by have := HBE.out; omega
        rcases Int.lt_or_eq_of_le hle with hm | hm
        · have hd : decide ((u : Int) < r.log.base + (r.log.entries.length : Int)) = true := decide_eq_true hm
          go_wp2
          exact hK _ _ (Below.refl _ _) rfl
        · have hd : decide ((u : Int) < r.log.base + (r.log.entries.length : Int)) = false := decide_eq_false (by omega)
          have hd2 : decide (r.log.base + (r.log.entries.length : Int) < (u : Int)) = false := decide_eq_false (by omega)
          have HM := Lib.hid hm
          clear hm hle
          go_wp2
          all_goals first | exact hK _ _ (Below.refl _ _) rfl | exact hK _ _ (Below.refl _ _) (congrArg (Value.int .i64) HM.out.symm)
        skip
      · intro vs1 wx hJ hn K hK
        simp [planNeeds, VAt, eqV, Region.binds] at hn
        simp only [VAt, eqV, List.getD_cons_zero, List.getD_cons_succ, Act.put, List.setIfInBounds_toArray, List.set_cons_zero, List.set_cons_succ, Nat.reduceAdd, Nat.zero_add] at hK
        simp only [hn] at hK ⊢
        have hd : decide ((j : Int) < (u : Int)) = false := decide_eq_false (by omega)
        go_wp2
        exact hK _ _ (Below.refl _ _) rfl
    case hend =>
      intro vs1 wx hJ hv
      simp [planHave, eqV] at hv
      obtain ⟨e0, e1, e2, e3, e4, e5, e6, e7, e8⟩ := hv
      simp only [List.take_succ_cons, List.take_zero, List.drop_succ_cons, List.drop_zero, planPut, Act.put, List.setIfInBounds_toArray, List.set_cons_zero, List.set_cons_succ, Nat.reduceAdd, Nat.zero_add]
      rw [e0, e1, e2, e3, e4, e5, e6, e7, e8]
      clear e0 e1 e2 e3 e4 e5 e6 e7 e8
      replace HO := Lib.hid (HO.out.below rMail_ok hJ)
      have hsz := hJ.size
      replace HX := Lib.hid (HX.out.below hJ)
      replace HZ := Lib.hid (HZ.out.below hJ)
      replace HB := Lib.hid (below_step HB.out hJ)
      replace HE := Lib.hid (HE.out.below rStr_ok (by decide) hJ)
      replace HS := Lib.hid (HS.out.below hJ)
      clear hJ
      rename World => w4
      obtain rfl : j = u := by omega
      have hji := (stK_ok HKO.out (i := j) huK).2
      have HX4 := Lib.hid (show BoxAt w4 w.heap.size [.int .i64 r.log.base, .slice a1 r.log.entries.length c1, .string ⟨r.snap.toArray⟩, .int .i64 (stK K j).index, .slice a5 (stK K j).locks.length c5, .slice a6 (stK K j).pairs.length c6, .slice a7 (stK K j).sessions.length c7] from by rw [hji]; exact HX.out)
      replace HX := HX4
      clear HX4 hji
      have x0 := HX.out.cell 0 _ rfl; have x1 := HX.out.cell 1 _ rfl; have x2 := HX.out.cell 2 _ rfl; have x3 := HX.out.cell 3 _ rfl; have x4 := HX.out.cell 4 _ rfl; have x5 := HX.out.cell 5 _ rfl; have x6 := HX.out.cell 6 _ rfl
      have z0 := HZ.out.cell 0 _ rfl; have zt0 := HZ.out.thaw 0; have z1 := HZ.out.cell 1 _ rfl; have zt1 := HZ.out.thaw 1; have z2 := HZ.out.cell 2 _ rfl; have zt2 := HZ.out.thaw 2; have z3 := HZ.out.cell 3 _ rfl; have zt3 := HZ.out.thaw 3; have z4 := HZ.out.cell 4 _ rfl; have zt4 := HZ.out.thaw 4; have z5 := HZ.out.cell 5 _ rfl; have zt5 := HZ.out.thaw 5; have z6 := HZ.out.cell 6 _ rfl; have zt6 := HZ.out.thaw 6
      have hzl := HZ.out.lt
      have HX9 : Hid (BoxAt (((((((w4.setCell ⟨w.heap.size + 1, 0, none⟩ (.int .i64 r.log.base)).setCell ⟨w.heap.size + 1, 1, none⟩ (.slice a1 r.log.entries.length c1)).setCell ⟨w.heap.size + 1, 2, none⟩ (.string ⟨r.snap.toArray⟩)).setCell ⟨w.heap.size + 1, 3, none⟩ (.int .i64 (stK K j).index)).setCell ⟨w.heap.size + 1, 4, none⟩ (.slice a5 (stK K j).locks.length c5)).setCell ⟨w.heap.size + 1, 5, none⟩ (.slice a6 (stK K j).pairs.length c6)).setCell ⟨w.heap.size + 1, 6, none⟩ (.slice a7 (stK K j).sessions.length c7)) (w.heap.size) [.int .i64 r.log.base, .slice a1 r.log.entries.length c1, .string ⟨r.snap.toArray⟩, .int .i64 (stK K j).index, .slice a5 (stK K j).locks.length c5, .slice a6 (stK K j).pairs.length c6, .slice a7 (stK K j).sessions.length c7]) := Lib.hid (BoxAt.farAll (by omega) [.int .i64 r.log.base, .slice a1 r.log.entries.length c1, .string ⟨r.snap.toArray⟩, .int .i64 (stK K j).index, .slice a5 (stK K j).locks.length c5, .slice a6 (stK K j).pairs.length c6, .slice a7 (stK K j).sessions.length c7] 0 HX.out)
      have HZ9 : Hid (BoxAt (((((((w4.setCell ⟨w.heap.size + 1, 0, none⟩ (.int .i64 r.log.base)).setCell ⟨w.heap.size + 1, 1, none⟩ (.slice a1 r.log.entries.length c1)).setCell ⟨w.heap.size + 1, 2, none⟩ (.string ⟨r.snap.toArray⟩)).setCell ⟨w.heap.size + 1, 3, none⟩ (.int .i64 (stK K j).index)).setCell ⟨w.heap.size + 1, 4, none⟩ (.slice a5 (stK K j).locks.length c5)).setCell ⟨w.heap.size + 1, 5, none⟩ (.slice a6 (stK K j).pairs.length c6)).setCell ⟨w.heap.size + 1, 6, none⟩ (.slice a7 (stK K j).sessions.length c7)) (w.heap.size + 1) [.int .i64 r.log.base, .slice a1 r.log.entries.length c1, .string ⟨r.snap.toArray⟩, .int .i64 (stK K j).index, .slice a5 (stK K j).locks.length c5, .slice a6 (stK K j).pairs.length c6, .slice a7 (stK K j).sessions.length c7]) := Lib.hid (BoxAt.store (w := w4) [.int .i64 r.log.base, .slice a1 r.log.entries.length c1, .string ⟨r.snap.toArray⟩, .int .i64 (stK K j).index, .slice a5 (stK K j).locks.length c5, .slice a6 (stK K j).pairs.length c6, .slice a7 (stK K j).sessions.length c7] [.int .i64 0, .slice none 0 0, .string ⟨#[]⟩, .int .i64 0, .slice none 0 0, .slice none 0 0, .slice none 0 0] 0 HZ.out (by simp))
      have HB9 : Hid (Below w.heap.size w (((((((w4.setCell ⟨w.heap.size + 1, 0, none⟩ (.int .i64 r.log.base)).setCell ⟨w.heap.size + 1, 1, none⟩ (.slice a1 r.log.entries.length c1)).setCell ⟨w.heap.size + 1, 2, none⟩ (.string ⟨r.snap.toArray⟩)).setCell ⟨w.heap.size + 1, 3, none⟩ (.int .i64 (stK K j).index)).setCell ⟨w.heap.size + 1, 4, none⟩ (.slice a5 (stK K j).locks.length c5)).setCell ⟨w.heap.size + 1, 5, none⟩ (.slice a6 (stK K j).pairs.length c6)).setCell ⟨w.heap.size + 1, 6, none⟩ (.slice a7 (stK K j).sessions.length c7))) := Lib.hid (below_sets (by omega) [.int .i64 r.log.base, .slice a1 r.log.entries.length c1, .string ⟨r.snap.toArray⟩, .int .i64 (stK K j).index, .slice a5 (stK K j).locks.length c5, .slice a6 (stK K j).pairs.length c6, .slice a7 (stK K j).sessions.length c7] 0 _ HB.out)
      have HE9 : Hid (SlR 1 rStr (((((((w4.setCell ⟨w.heap.size + 1, 0, none⟩ (.int .i64 r.log.base)).setCell ⟨w.heap.size + 1, 1, none⟩ (.slice a1 r.log.entries.length c1)).setCell ⟨w.heap.size + 1, 2, none⟩ (.string ⟨r.snap.toArray⟩)).setCell ⟨w.heap.size + 1, 3, none⟩ (.int .i64 (stK K j).index)).setCell ⟨w.heap.size + 1, 4, none⟩ (.slice a5 (stK K j).locks.length c5)).setCell ⟨w.heap.size + 1, 5, none⟩ (.slice a6 (stK K j).pairs.length c6)).setCell ⟨w.heap.size + 1, 6, none⟩ (.slice a7 (stK K j).sessions.length c7)) (.slice a1 r.log.entries.length c1) r.log.entries (fun b => w.heap.size + 2 ≤ b ∧ b < M)) := Lib.hid (SlR.store rStr_ok (by decide) HE.out 0 [.int .i64 r.log.base, .slice a1 r.log.entries.length c1, .string ⟨r.snap.toArray⟩, .int .i64 (stK K j).index, .slice a5 (stK K j).locks.length c5, .slice a6 (stK K j).pairs.length c6, .slice a7 (stK K j).sessions.length c7] fun k hk => ⟨by have := hk.1; omega, hk⟩)
      have HS9 : Hid (StAt (((((((w4.setCell ⟨w.heap.size + 1, 0, none⟩ (.int .i64 r.log.base)).setCell ⟨w.heap.size + 1, 1, none⟩ (.slice a1 r.log.entries.length c1)).setCell ⟨w.heap.size + 1, 2, none⟩ (.string ⟨r.snap.toArray⟩)).setCell ⟨w.heap.size + 1, 3, none⟩ (.int .i64 (stK K j).index)).setCell ⟨w.heap.size + 1, 4, none⟩ (.slice a5 (stK K j).locks.length c5)).setCell ⟨w.heap.size + 1, 5, none⟩ (.slice a6 (stK K j).pairs.length c6)).setCell ⟨w.heap.size + 1, 6, none⟩ (.slice a7 (stK K j).sessions.length c7)) (stK K j) (.slice a5 (stK K j).locks.length c5) (.slice a6 (stK K j).pairs.length c6) (.slice a7 (stK K j).sessions.length c7) (fun b => lo ≤ b ∧ b < hi)) := Lib.hid (StAt.store HS.out 0 [.int .i64 r.log.base, .slice a1 r.log.entries.length c1, .string ⟨r.snap.toArray⟩, .int .i64 (stK K j).index, .slice a5 (stK K j).locks.length c5, .slice a6 (stK K j).pairs.length c6, .slice a7 (stK K j).sessions.length c7] fun k hk => ⟨by have := hk.1; omega, hk⟩)
      have HO9 : Hid (SlR 5 rMail (((((((w4.setCell ⟨w.heap.size + 1, 0, none⟩ (.int .i64 r.log.base)).setCell ⟨w.heap.size + 1, 1, none⟩ (.slice a1 r.log.entries.length c1)).setCell ⟨w.heap.size + 1, 2, none⟩ (.string ⟨r.snap.toArray⟩)).setCell ⟨w.heap.size + 1, 3, none⟩ (.int .i64 (stK K j).index)).setCell ⟨w.heap.size + 1, 4, none⟩ (.slice a5 (stK K j).locks.length c5)).setCell ⟨w.heap.size + 1, 5, none⟩ (.slice a6 (stK K j).pairs.length c6)).setCell ⟨w.heap.size + 1, 6, none⟩ (.slice a7 (stK K j).sessions.length c7)) u8 (mailsK K i j) (fun b => w.heap.size ≤ b)) := Lib.hid (((HO.out.move (S' := fun _ => False) rMail_ok (fun g hg => heap_sets (b := w.heap.size + 1) (by have := (HOG.out g hg).1; omega) [.int .i64 r.log.base, .slice a1 r.log.entries.length c1, .string ⟨r.snap.toArray⟩, .int .i64 (stK K j).index, .slice a5 (stK K j).locks.length c5, .slice a6 (stK K j).pairs.length c6, .slice a7 (stK K j).sessions.length c7] 0 w4) (fun b hb => hb.elim)).forget rMail_any).read rMail_ok (by decide) (fun g hg => by show _ ≤ _; have := (HOG.out g hg).1; omega))
      go_wp2
      generalize (((((((w4.setCell ⟨w.heap.size + 1, 0, none⟩ (.int .i64 r.log.base)).setCell ⟨w.heap.size + 1, 1, none⟩ (.slice a1 r.log.entries.length c1)).setCell ⟨w.heap.size + 1, 2, none⟩ (.string ⟨r.snap.toArray⟩)).setCell ⟨w.heap.size + 1, 3, none⟩ (.int .i64 (stK K j).index)).setCell ⟨w.heap.size + 1, 4, none⟩ (.slice a5 (stK K j).locks.length c5)).setCell ⟨w.heap.size + 1, 5, none⟩ (.slice a6 (stK K j).pairs.length c6)).setCell ⟨w.heap.size + 1, 6, none⟩ (.slice a7 (stK K j).sessions.length c7)) = wf at *
      replace HX := HX9; clear HX9
      replace HZ := HZ9; clear HZ9
      replace HB := HB9; clear HB9
      replace HE := HE9; clear HE9
      replace HS := HS9; clear HS9
      have g0 := HZ.out.cell 0 _ rfl; have g1 := HZ.out.cell 1 _ rfl; have g2 := HZ.out.cell 2 _ rfl; have g3 := HZ.out.cell 3 _ rfl; have g4 := HZ.out.cell 4 _ rfl; have g5 := HZ.out.cell 5 _ rfl; have g6 := HZ.out.cell 6 _ rfl
      refine bodyPost_ret (v := .tuple #[.agg #[.int .i64 r.log.base, .slice a1 r.log.entries.length c1, .string ⟨r.snap.toArray⟩, .int .i64 (stK K j).index, .slice a5 (stK K j).locks.length c5, .slice a6 (stK K j).pairs.length c6, .slice a7 (stK K j).sessions.length c7], u8, .int .i64 0]) (by simp [results, Tryz.results32, go_sem, g0, g1, g2, g3, g4, g5, g6]) rfl ⟨_, _, _, _, _, rfl, ⟨HE.out.sub rStr_ok (by decide) fun b hb _ => by show _ ≤ _; have := hb.1; omega, HS.out.sub fun b hb _ => by show _ ≤ _; have := hb.1; omega⟩, HO9.out, HB.out⟩
end Go.Proofs.YtkefgapnghnjjaaGreatDoor
