/- A part of the proof, laid together from: RepB. -/
import Derived.Test.YtkefgapnghnjjaaGreatDoorPa22
set_option linter.unusedSimpArgs false
set_option linter.unusedVariables false
namespace Go.Proofs.YtkefgapnghnjjaaGreatDoor
open Go.RowKit Go.Tk
set_option linter.unusedSimpArgs false in
set_option maxRecDepth 100000 in
set_option maxHeartbeats 3200000 in
theorem rrestart_calls (r : ReplicaD) (ks : StateD) (ve vl vp vz : Value) (S : Nat → Prop) (w : World) (h : RpAt w r ve vl vp vz S) (hr : RepFine r ks) :
    Calls Tryz.prog 34 #[.agg #[.int .i64 r.log.base, ve, .string ⟨r.snap.toArray⟩, .int .i64 r.state.index, vl, vp, vz]] w (RetRep w ⟨r.log, r.snap, ks⟩ 0) := by
  obtain ⟨o1, o2, o3, o4⟩ := h.ones
  have HR := Lib.hid (h.sub (S' := fun b => b < w.heap.size) fun b _ hlt => hlt)
  have HF := Lib.hid hr
  obtain ⟨hb0, hb1⟩ := hr.log.base
  have hln := hr.log.len
  obtain ⟨hi0, hi1⟩ := hr.at_
  unfold logLast at hi1
  clear h hr
  go_enter Tryz.func34, Tryz.ntmps34
  go_upto_region 1 with (fail)
  have HX := Lib.hid ((BoxAt.new (w := w) (cs := [.int .i64 r.log.base, ve, .string ⟨r.snap.toArray⟩, .int .i64 r.state.index, vl, vp, vz]) (E := 67)).below (below_alloc _ (.cells #[.int .i64 0, .slice none 0 0, .string ⟨#[]⟩, .int .i64 0, .slice none 0 0, .slice none 0 0, .slice none 0 0] 67)))
  have hz := BoxAt.new (w := w.alloc (.cells #[.int .i64 r.log.base, ve, .string ⟨r.snap.toArray⟩, .int .i64 r.state.index, vl, vp, vz] 67)) (cs := [.int .i64 0, .slice none 0 0, .string ⟨#[]⟩, .int .i64 0, .slice none 0 0, .slice none 0 0, .slice none 0 0]) (E := 67)
  rw [World.size_alloc] at hz
  have HZ := Lib.hid hz
  clear hz
  have HB := Lib.hid (below_alloc2 w (.cells #[.int .i64 r.log.base, ve, .string ⟨r.snap.toArray⟩, .int .i64 r.state.index, vl, vp, vz] 67) (.cells #[.int .i64 0, .slice none 0 0, .string ⟨#[]⟩, .int .i64 0, .slice none 0 0, .slice none 0 0, .slice none 0 0] 67))
  replace HR := Lib.hid (HR.out.below HB.out)
  generalize (w.alloc (.cells #[.int .i64 r.log.base, ve, .string ⟨r.snap.toArray⟩, .int .i64 r.state.index, vl, vp, vz] 67)).alloc (.cells #[.int .i64 0, .slice none 0 0, .string ⟨#[]⟩, .int .i64 0, .slice none 0 0, .slice none 0 0, .slice none 0 0] 67) = w0 at *
  have x0 := HX.out.cell 0 _ rfl; have x1 := HX.out.cell 1 _ rfl; have x2 := HX.out.cell 2 _ rfl; have x3 := HX.out.cell 3 _ rfl; have x4 := HX.out.cell 4 _ rfl; have x5 := HX.out.cell 5 _ rfl; have x6 := HX.out.cell 6 _ rfl
  go_wp2_with fail
  refine (rcheck_calls r ks _ _ _ _ _ w0 HR.out HF.out).mono ?_
  rintro e w1 ⟨rfl, hb1⟩
  clear x0 x1 x2 x3 x4 x5 x6
  replace HR := Lib.hid (HR.out.below hb1)
  replace HX := Lib.hid (HX.out.below hb1)
  replace HZ := Lib.hid (HZ.out.below hb1)
  replace HB := Lib.hid (below_step HB.out hb1)
  clear hb1
  have x0 := HX.out.cell 0 _ rfl; have x1 := HX.out.cell 1 _ rfl; have x2 := HX.out.cell 2 _ rfl; have x3 := HX.out.cell 3 _ rfl; have x4 := HX.out.cell 4 _ rfl; have x5 := HX.out.cell 5 _ rfl; have x6 := HX.out.cell 6 _ rfl
  go_wp2_with fail
  refine (rcopy_calls r _ _ _ _ _ w1 HR.out HF.out.log HF.out.st).mono ?_
  rintro e w2 ⟨ue, ul, up, uz, rfl, hrp, hb2⟩
  obtain ⟨a1, c1, rfl, -, -, -, -⟩ := id hrp.ents; obtain ⟨a2, c2, rfl, -, -, -, -⟩ := id hrp.st.lock; obtain ⟨a3, c3, rfl, -, -, -, -⟩ := id hrp.st.pair; obtain ⟨a4, c4, rfl, -, -, -, -⟩ := id hrp.st.sess
  have HC := Lib.hid (hrp.sub (S' := fun b => w.heap.size + 2 ≤ b) fun b hb _ => by show _ ≤ _; have : w1.heap.size ≤ b := hb; have := HZ.out.lt; omega)
  clear hrp
  clear x0 x1 x2 x3 x4 x5 x6
  replace HR := Lib.hid (HR.out.below hb2)
  replace HX := Lib.hid (HX.out.below hb2)
  replace HZ := Lib.hid (HZ.out.below hb2)
  replace HB := Lib.hid (below_step HB.out hb2)
  clear hb2
  clear HR
  have x0 := HX.out.cell 0 _ rfl; have xt0 := HX.out.thaw 0; have x1 := HX.out.cell 1 _ rfl; have xt1 := HX.out.thaw 1; have x2 := HX.out.cell 2 _ rfl; have xt2 := HX.out.thaw 2; have x3 := HX.out.cell 3 _ rfl; have xt3 := HX.out.thaw 3; have x4 := HX.out.cell 4 _ rfl; have xt4 := HX.out.thaw 4; have x5 := HX.out.cell 5 _ rfl; have xt5 := HX.out.thaw 5; have x6 := HX.out.cell 6 _ rfl; have xt6 := HX.out.thaw 6
  have hzl := HZ.out.lt
  have HX9 : Hid (BoxAt (((((((w2.setCell ⟨w.heap.size, 0, none⟩ (.int .i64 r.log.base)).setCell ⟨w.heap.size, 1, none⟩ (.slice a1 r.log.entries.length c1)).setCell ⟨w.heap.size, 2, none⟩ (.string ⟨r.snap.toArray⟩)).setCell ⟨w.heap.size, 3, none⟩ (.int .i64 r.state.index)).setCell ⟨w.heap.size, 4, none⟩ (.slice a2 r.state.locks.length c2)).setCell ⟨w.heap.size, 5, none⟩ (.slice a3 r.state.pairs.length c3)).setCell ⟨w.heap.size, 6, none⟩ (.slice a4 r.state.sessions.length c4)) (w.heap.size) [.int .i64 r.log.base, .slice a1 r.log.entries.length c1, .string ⟨r.snap.toArray⟩, .int .i64 r.state.index, .slice a2 r.state.locks.length c2, .slice a3 r.state.pairs.length c3, .slice a4 r.state.sessions.length c4]) := Lib.hid (BoxAt.store (w := w2) [.int .i64 r.log.base, .slice a1 r.log.entries.length c1, .string ⟨r.snap.toArray⟩, .int .i64 r.state.index, .slice a2 r.state.locks.length c2, .slice a3 r.state.pairs.length c3, .slice a4 r.state.sessions.length c4] [.int .i64 r.log.base, ve, .string ⟨r.snap.toArray⟩, .int .i64 r.state.index, vl, vp, vz] 0 HX.out (by simp))
  have HZ9 : Hid (BoxAt (((((((w2.setCell ⟨w.heap.size, 0, none⟩ (.int .i64 r.log.base)).setCell ⟨w.heap.size, 1, none⟩ (.slice a1 r.log.entries.length c1)).setCell ⟨w.heap.size, 2, none⟩ (.string ⟨r.snap.toArray⟩)).setCell ⟨w.heap.size, 3, none⟩ (.int .i64 r.state.index)).setCell ⟨w.heap.size, 4, none⟩ (.slice a2 r.state.locks.length c2)).setCell ⟨w.heap.size, 5, none⟩ (.slice a3 r.state.pairs.length c3)).setCell ⟨w.heap.size, 6, none⟩ (.slice a4 r.state.sessions.length c4)) (w.heap.size + 1) [.int .i64 0, .slice none 0 0, .string ⟨#[]⟩, .int .i64 0, .slice none 0 0, .slice none 0 0, .slice none 0 0]) := Lib.hid (BoxAt.farAll (by omega) [.int .i64 r.log.base, .slice a1 r.log.entries.length c1, .string ⟨r.snap.toArray⟩, .int .i64 r.state.index, .slice a2 r.state.locks.length c2, .slice a3 r.state.pairs.length c3, .slice a4 r.state.sessions.length c4] 0 HZ.out)
  have HB9 : Hid (Below w.heap.size w (((((((w2.setCell ⟨w.heap.size, 0, none⟩ (.int .i64 r.log.base)).setCell ⟨w.heap.size, 1, none⟩ (.slice a1 r.log.entries.length c1)).setCell ⟨w.heap.size, 2, none⟩ (.string ⟨r.snap.toArray⟩)).setCell ⟨w.heap.size, 3, none⟩ (.int .i64 r.state.index)).setCell ⟨w.heap.size, 4, none⟩ (.slice a2 r.state.locks.length c2)).setCell ⟨w.heap.size, 5, none⟩ (.slice a3 r.state.pairs.length c3)).setCell ⟨w.heap.size, 6, none⟩ (.slice a4 r.state.sessions.length c4))) := Lib.hid (below_sets (by omega) [.int .i64 r.log.base, .slice a1 r.log.entries.length c1, .string ⟨r.snap.toArray⟩, .int .i64 r.state.index, .slice a2 r.state.locks.length c2, .slice a3 r.state.pairs.length c3, .slice a4 r.state.sessions.length c4] 0 _ HB.out)
  have HC9 : Hid (RpAt (((((((w2.setCell ⟨w.heap.size, 0, none⟩ (.int .i64 r.log.base)).setCell ⟨w.heap.size, 1, none⟩ (.slice a1 r.log.entries.length c1)).setCell ⟨w.heap.size, 2, none⟩ (.string ⟨r.snap.toArray⟩)).setCell ⟨w.heap.size, 3, none⟩ (.int .i64 r.state.index)).setCell ⟨w.heap.size, 4, none⟩ (.slice a2 r.state.locks.length c2)).setCell ⟨w.heap.size, 5, none⟩ (.slice a3 r.state.pairs.length c3)).setCell ⟨w.heap.size, 6, none⟩ (.slice a4 r.state.sessions.length c4)) r (.slice a1 r.log.entries.length c1) (.slice a2 r.state.locks.length c2) (.slice a3 r.state.pairs.length c3) (.slice a4 r.state.sessions.length c4) (fun b => w.heap.size + 2 ≤ b)) := Lib.hid (RpAt.store HC.out 0 [.int .i64 r.log.base, .slice a1 r.log.entries.length c1, .string ⟨r.snap.toArray⟩, .int .i64 r.state.index, .slice a2 r.state.locks.length c2, .slice a3 r.state.pairs.length c3, .slice a4 r.state.sessions.length c4] fun k hk => ⟨by have : w.heap.size + 2 ≤ k := hk; omega, hk⟩)
  clear hzl
  go_upto_region 5 with (fail)
  generalize (((((((w2.setCell ⟨w.heap.size, 0, none⟩ (.int .i64 r.log.base)).setCell ⟨w.heap.size, 1, none⟩ (.slice a1 r.log.entries.length c1)).setCell ⟨w.heap.size, 2, none⟩ (.string ⟨r.snap.toArray⟩)).setCell ⟨w.heap.size, 3, none⟩ (.int .i64 r.state.index)).setCell ⟨w.heap.size, 4, none⟩ (.slice a2 r.state.locks.length c2)).setCell ⟨w.heap.size, 5, none⟩ (.slice a3 r.state.pairs.length c3)).setCell ⟨w.heap.size, 6, none⟩ (.slice a4 r.state.sessions.length c4)) = w3 at *
  replace HX := HX9; clear HX9
  replace HZ := HZ9; clear HZ9
  replace HB := HB9; clear HB9
  replace HC := HC9; clear HC9
  have x0 := HX.out.cell 0 _ rfl; have x1 := HX.out.cell 1 _ rfl; have x2 := HX.out.cell 2 _ rfl; have x3 := HX.out.cell 3 _ rfl; have x4 := HX.out.cell 4 _ rfl; have x5 := HX.out.cell 5 _ rfl; have x6 := HX.out.cell 6 _ rfl
  go_wp2_with fail
  refine (kept_calls r ks _ _ _ _ rfl rfl rfl rfl HF.out.kept w3).mono ?_
  rintro e w4 ⟨ul, up, uz, rfl, hst, hb4⟩
  obtain ⟨a5, c5, rfl, -, -, -, -⟩ := id hst.lock; obtain ⟨a6, c6, rfl, -, -, -, -⟩ := id hst.pair; obtain ⟨a7, c7, rfl, -, -, -, -⟩ := id hst.sess
  have HS := Lib.hid (hst.sub (S' := fun b => w.heap.size + 2 ≤ b) fun b hb _ => by show _ ≤ _; have : w3.heap.size ≤ b := hb; have := HZ.out.lt; omega)
  clear hst
  clear x0 x1 x2 x3 x4 x5 x6
  replace HX := Lib.hid (HX.out.below hb4)
  replace HZ := Lib.hid (HZ.out.below hb4)
  replace HB := Lib.hid (below_step HB.out hb4)
  replace HC := Lib.hid (HC.out.below hb4)
  clear hb4
  have x0 := HX.out.cell 0 _ rfl; have xt0 := HX.out.thaw 0; have x1 := HX.out.cell 1 _ rfl; have xt1 := HX.out.thaw 1; have x2 := HX.out.cell 2 _ rfl; have xt2 := HX.out.thaw 2; have x3 := HX.out.cell 3 _ rfl; have xt3 := HX.out.thaw 3; have x4 := HX.out.cell 4 _ rfl; have xt4 := HX.out.thaw 4; have x5 := HX.out.cell 5 _ rfl; have xt5 := HX.out.thaw 5; have x6 := HX.out.cell 6 _ rfl; have xt6 := HX.out.thaw 6
  have hzl := HZ.out.lt
  have HX9 : Hid (BoxAt ((((w4.setCell ⟨w.heap.size, 3, none⟩ (.int .i64 ks.index)).setCell ⟨w.heap.size, 4, none⟩ (.slice a5 ks.locks.length c5)).setCell ⟨w.heap.size, 5, none⟩ (.slice a6 ks.pairs.length c6)).setCell ⟨w.heap.size, 6, none⟩ (.slice a7 ks.sessions.length c7)) (w.heap.size) [.int .i64 r.log.base, .slice a1 r.log.entries.length c1, .string ⟨r.snap.toArray⟩, .int .i64 ks.index, .slice a5 ks.locks.length c5, .slice a6 ks.pairs.length c6, .slice a7 ks.sessions.length c7]) := Lib.hid (BoxAt.store (w := w4) [.int .i64 ks.index, .slice a5 ks.locks.length c5, .slice a6 ks.pairs.length c6, .slice a7 ks.sessions.length c7] [.int .i64 r.log.base, .slice a1 r.log.entries.length c1, .string ⟨r.snap.toArray⟩, .int .i64 r.state.index, .slice a2 r.state.locks.length c2, .slice a3 r.state.pairs.length c3, .slice a4 r.state.sessions.length c4] 3 HX.out (by simp))
  have HZ9 : Hid (BoxAt ((((w4.setCell ⟨w.heap.size, 3, none⟩ (.int .i64 ks.index)).setCell ⟨w.heap.size, 4, none⟩ (.slice a5 ks.locks.length c5)).setCell ⟨w.heap.size, 5, none⟩ (.slice a6 ks.pairs.length c6)).setCell ⟨w.heap.size, 6, none⟩ (.slice a7 ks.sessions.length c7)) (w.heap.size + 1) [.int .i64 0, .slice none 0 0, .string ⟨#[]⟩, .int .i64 0, .slice none 0 0, .slice none 0 0, .slice none 0 0]) := Lib.hid (BoxAt.farAll (by omega) [.int .i64 ks.index, .slice a5 ks.locks.length c5, .slice a6 ks.pairs.length c6, .slice a7 ks.sessions.length c7] 3 HZ.out)
  have HB9 : Hid (Below w.heap.size w ((((w4.setCell ⟨w.heap.size, 3, none⟩ (.int .i64 ks.index)).setCell ⟨w.heap.size, 4, none⟩ (.slice a5 ks.locks.length c5)).setCell ⟨w.heap.size, 5, none⟩ (.slice a6 ks.pairs.length c6)).setCell ⟨w.heap.size, 6, none⟩ (.slice a7 ks.sessions.length c7))) := Lib.hid (below_sets (by omega) [.int .i64 ks.index, .slice a5 ks.locks.length c5, .slice a6 ks.pairs.length c6, .slice a7 ks.sessions.length c7] 3 _ HB.out)
  have HC9 : Hid (RpAt ((((w4.setCell ⟨w.heap.size, 3, none⟩ (.int .i64 ks.index)).setCell ⟨w.heap.size, 4, none⟩ (.slice a5 ks.locks.length c5)).setCell ⟨w.heap.size, 5, none⟩ (.slice a6 ks.pairs.length c6)).setCell ⟨w.heap.size, 6, none⟩ (.slice a7 ks.sessions.length c7)) r (.slice a1 r.log.entries.length c1) (.slice a2 r.state.locks.length c2) (.slice a3 r.state.pairs.length c3) (.slice a4 r.state.sessions.length c4) (fun b => w.heap.size + 2 ≤ b)) := Lib.hid (RpAt.store HC.out 3 [.int .i64 ks.index, .slice a5 ks.locks.length c5, .slice a6 ks.pairs.length c6, .slice a7 ks.sessions.length c7] fun k hk => ⟨by have : w.heap.size + 2 ≤ k := hk; omega, hk⟩)
  have HS9 : Hid (StAt ((((w4.setCell ⟨w.heap.size, 3, none⟩ (.int .i64 ks.index)).setCell ⟨w.heap.size, 4, none⟩ (.slice a5 ks.locks.length c5)).setCell ⟨w.heap.size, 5, none⟩ (.slice a6 ks.pairs.length c6)).setCell ⟨w.heap.size, 6, none⟩ (.slice a7 ks.sessions.length c7)) ks (.slice a5 ks.locks.length c5) (.slice a6 ks.pairs.length c6) (.slice a7 ks.sessions.length c7) (fun b => w.heap.size + 2 ≤ b)) := Lib.hid (StAt.store HS.out 3 [.int .i64 ks.index, .slice a5 ks.locks.length c5, .slice a6 ks.pairs.length c6, .slice a7 ks.sessions.length c7] fun k hk => ⟨by have : w.heap.size + 2 ≤ k := hk; omega, hk⟩)
  clear hzl
  go_upto_region 6 with (fail)
  generalize ((((w4.setCell ⟨w.heap.size, 3, none⟩ (.int .i64 ks.index)).setCell ⟨w.heap.size, 4, none⟩ (.slice a5 ks.locks.length c5)).setCell ⟨w.heap.size, 5, none⟩ (.slice a6 ks.pairs.length c6)).setCell ⟨w.heap.size, 6, none⟩ (.slice a7 ks.sessions.length c7)) = w5 at *
  replace HX := HX9; clear HX9
  replace HZ := HZ9; clear HZ9
  replace HB := HB9; clear HB9
  replace HC := HC9; clear HC9
  replace HS := HS9; clear HS9
  have x0 := HX.out.cell 0 _ rfl; have x1 := HX.out.cell 1 _ rfl; have x2 := HX.out.cell 2 _ rfl; have x3 := HX.out.cell 3 _ rfl; have x4 := HX.out.cell 4 _ rfl; have x5 := HX.out.cell 5 _ rfl; have x6 := HX.out.cell 6 _ rfl
  have z0 := HZ.out.cell 0 _ rfl; have zt0 := HZ.out.thaw 0; have z1 := HZ.out.cell 1 _ rfl; have zt1 := HZ.out.thaw 1; have z2 := HZ.out.cell 2 _ rfl; have zt2 := HZ.out.thaw 2; have z3 := HZ.out.cell 3 _ rfl; have zt3 := HZ.out.thaw 3; have z4 := HZ.out.cell 4 _ rfl; have zt4 := HZ.out.thaw 4; have z5 := HZ.out.cell 5 _ rfl; have zt5 := HZ.out.thaw 5; have z6 := HZ.out.cell 6 _ rfl; have zt6 := HZ.out.thaw 6
  have hzl := HZ.out.lt
  have HX9 : Hid (BoxAt (((((((w5.setCell ⟨w.heap.size + 1, 0, none⟩ (.int .i64 r.log.base)).setCell ⟨w.heap.size + 1, 1, none⟩ (.slice a1 r.log.entries.length c1)).setCell ⟨w.heap.size + 1, 2, none⟩ (.string ⟨r.snap.toArray⟩)).setCell ⟨w.heap.size + 1, 3, none⟩ (.int .i64 ks.index)).setCell ⟨w.heap.size + 1, 4, none⟩ (.slice a5 ks.locks.length c5)).setCell ⟨w.heap.size + 1, 5, none⟩ (.slice a6 ks.pairs.length c6)).setCell ⟨w.heap.size + 1, 6, none⟩ (.slice a7 ks.sessions.length c7)) (w.heap.size) [.int .i64 r.log.base, .slice a1 r.log.entries.length c1, .string ⟨r.snap.toArray⟩, .int .i64 ks.index, .slice a5 ks.locks.length c5, .slice a6 ks.pairs.length c6, .slice a7 ks.sessions.length c7]) := Lib.hid (BoxAt.farAll (by omega) [.int .i64 r.log.base, .slice a1 r.log.entries.length c1, .string ⟨r.snap.toArray⟩, .int .i64 ks.index, .slice a5 ks.locks.length c5, .slice a6 ks.pairs.length c6, .slice a7 ks.sessions.length c7] 0 HX.out)
  have HZ9 : Hid (BoxAt (((((((w5.setCell ⟨w.heap.size + 1, 0, none⟩ (.int .i64 r.log.base)).setCell ⟨w.heap.size + 1, 1, none⟩ (.slice a1 r.log.entries.length c1)).setCell ⟨w.heap.size + 1, 2, none⟩ (.string ⟨r.snap.toArray⟩)).setCell ⟨w.heap.size + 1, 3, none⟩ (.int .i64 ks.index)).setCell ⟨w.heap.size + 1, 4, none⟩ (.slice a5 ks.locks.length c5)).setCell ⟨w.heap.size + 1, 5, none⟩ (.slice a6 ks.pairs.length c6)).setCell ⟨w.heap.size + 1, 6, none⟩ (.slice a7 ks.sessions.length c7)) (w.heap.size + 1) [.int .i64 r.log.base, .slice a1 r.log.entries.length c1, .string ⟨r.snap.toArray⟩, .int .i64 ks.index, .slice a5 ks.locks.length c5, .slice a6 ks.pairs.length c6, .slice a7 ks.sessions.length c7]) := Lib.hid (BoxAt.store (w := w5) [.int .i64 r.log.base, .slice a1 r.log.entries.length c1, .string ⟨r.snap.toArray⟩, .int .i64 ks.index, .slice a5 ks.locks.length c5, .slice a6 ks.pairs.length c6, .slice a7 ks.sessions.length c7] [.int .i64 0, .slice none 0 0, .string ⟨#[]⟩, .int .i64 0, .slice none 0 0, .slice none 0 0, .slice none 0 0] 0 HZ.out (by simp))
  have HB9 : Hid (Below w.heap.size w (((((((w5.setCell ⟨w.heap.size + 1, 0, none⟩ (.int .i64 r.log.base)).setCell ⟨w.heap.size + 1, 1, none⟩ (.slice a1 r.log.entries.length c1)).setCell ⟨w.heap.size + 1, 2, none⟩ (.string ⟨r.snap.toArray⟩)).setCell ⟨w.heap.size + 1, 3, none⟩ (.int .i64 ks.index)).setCell ⟨w.heap.size + 1, 4, none⟩ (.slice a5 ks.locks.length c5)).setCell ⟨w.heap.size + 1, 5, none⟩ (.slice a6 ks.pairs.length c6)).setCell ⟨w.heap.size + 1, 6, none⟩ (.slice a7 ks.sessions.length c7))) := Lib.hid (below_sets (by omega) [.int .i64 r.log.base, .slice a1 r.log.entries.length c1, .string ⟨r.snap.toArray⟩, .int .i64 ks.index, .slice a5 ks.locks.length c5, .slice a6 ks.pairs.length c6, .slice a7 ks.sessions.length c7] 0 _ HB.out)
  have HC9 : Hid (RpAt (((((((w5.setCell ⟨w.heap.size + 1, 0, none⟩ (.int .i64 r.log.base)).setCell ⟨w.heap.size + 1, 1, none⟩ (.slice a1 r.log.entries.length c1)).setCell ⟨w.heap.size + 1, 2, none⟩ (.string ⟨r.snap.toArray⟩)).setCell ⟨w.heap.size + 1, 3, none⟩ (.int .i64 ks.index)).setCell ⟨w.heap.size + 1, 4, none⟩ (.slice a5 ks.locks.length c5)).setCell ⟨w.heap.size + 1, 5, none⟩ (.slice a6 ks.pairs.length c6)).setCell ⟨w.heap.size + 1, 6, none⟩ (.slice a7 ks.sessions.length c7)) r (.slice a1 r.log.entries.length c1) (.slice a2 r.state.locks.length c2) (.slice a3 r.state.pairs.length c3) (.slice a4 r.state.sessions.length c4) (fun b => w.heap.size + 2 ≤ b)) := Lib.hid (RpAt.store HC.out 0 [.int .i64 r.log.base, .slice a1 r.log.entries.length c1, .string ⟨r.snap.toArray⟩, .int .i64 ks.index, .slice a5 ks.locks.length c5, .slice a6 ks.pairs.length c6, .slice a7 ks.sessions.length c7] fun k hk => ⟨by have : w.heap.size + 2 ≤ k := hk; omega, hk⟩)
  have HS9 : Hid (StAt (((((((w5.setCell ⟨w.heap.size + 1, 0, none⟩ (.int .i64 r.log.base)).setCell ⟨w.heap.size + 1, 1, none⟩ (.slice a1 r.log.entries.length c1)).setCell ⟨w.heap.size + 1, 2, none⟩ (.string ⟨r.snap.toArray⟩)).setCell ⟨w.heap.size + 1, 3, none⟩ (.int .i64 ks.index)).setCell ⟨w.heap.size + 1, 4, none⟩ (.slice a5 ks.locks.length c5)).setCell ⟨w.heap.size + 1, 5, none⟩ (.slice a6 ks.pairs.length c6)).setCell ⟨w.heap.size + 1, 6, none⟩ (.slice a7 ks.sessions.length c7)) ks (.slice a5 ks.locks.length c5) (.slice a6 ks.pairs.length c6) (.slice a7 ks.sessions.length c7) (fun b => w.heap.size + 2 ≤ b)) := Lib.hid (StAt.store HS.out 0 [.int .i64 r.log.base, .slice a1 r.log.entries.length c1, .string ⟨r.snap.toArray⟩, .int .i64 ks.index, .slice a5 ks.locks.length c5, .slice a6 ks.pairs.length c6, .slice a7 ks.sessions.length c7] fun k hk => ⟨by have : w.heap.size + 2 ≤ k := hk; omega, hk⟩)
  go_wp2
  generalize (((((((w5.setCell ⟨w.heap.size + 1, 0, none⟩ (.int .i64 r.log.base)).setCell ⟨w.heap.size + 1, 1, none⟩ (.slice a1 r.log.entries.length c1)).setCell ⟨w.heap.size + 1, 2, none⟩ (.string ⟨r.snap.toArray⟩)).setCell ⟨w.heap.size + 1, 3, none⟩ (.int .i64 ks.index)).setCell ⟨w.heap.size + 1, 4, none⟩ (.slice a5 ks.locks.length c5)).setCell ⟨w.heap.size + 1, 5, none⟩ (.slice a6 ks.pairs.length c6)).setCell ⟨w.heap.size + 1, 6, none⟩ (.slice a7 ks.sessions.length c7)) = wf at *
  replace HX := HX9; clear HX9
  replace HZ := HZ9; clear HZ9
  replace HB := HB9; clear HB9
  replace HC := HC9; clear HC9
  replace HS := HS9; clear HS9
  have g0 := HZ.out.cell 0 _ rfl; have g1 := HZ.out.cell 1 _ rfl; have g2 := HZ.out.cell 2 _ rfl; have g3 := HZ.out.cell 3 _ rfl; have g4 := HZ.out.cell 4 _ rfl; have g5 := HZ.out.cell 5 _ rfl; have g6 := HZ.out.cell 6 _ rfl
  refine bodyPost_ret (v := .tuple #[.agg #[.int .i64 r.log.base, .slice a1 r.log.entries.length c1, .string ⟨r.snap.toArray⟩, .int .i64 ks.index, .slice a5 ks.locks.length c5, .slice a6 ks.pairs.length c6, .slice a7 ks.sessions.length c7], .int .i64 0]) (by simp [results, Tryz.results34, go_sem, g0, g1, g2, g3, g4, g5, g6]) rfl ⟨_, _, _, _, rfl, ⟨HC.out.ents.sub rStr_ok (by decide) fun b hb _ => by show _ ≤ _; have : w.heap.size + 2 ≤ b := hb; omega, HS.out.sub fun b hb _ => by show _ ≤ _; have : w.heap.size + 2 ≤ b := hb; omega⟩, HB.out⟩
set_option linter.unusedSimpArgs false in
set_option maxRecDepth 100000 in
set_option maxHeartbeats 3200000 in
theorem rcompact_old_calls (r : ReplicaD) (ks : StateD) (ve vl vp vz : Value) (S : Nat → Prop) (w : World) (h : RpAt w r ve vl vp vz S) (hr : RepFine r ks) (h0 : r.state.index = r.log.base) :
    Calls Tryz.prog 33 #[.agg #[.int .i64 r.log.base, ve, .string ⟨r.snap.toArray⟩, .int .i64 r.state.index, vl, vp, vz]] w (RetRep w noReplica 12) := by
  obtain ⟨o1, o2, o3, o4⟩ := h.ones
  have HR := Lib.hid (h.sub (S' := fun b => b < w.heap.size) fun b _ hlt => hlt)
  have HF := Lib.hid hr
  obtain ⟨hb0, hb1⟩ := hr.log.base
  have hln := hr.log.len
  obtain ⟨hi0, hi1⟩ := hr.at_
  unfold logLast at hi1
  clear h hr
  have h00 : (r.state.index == r.log.base) = true := by simpa using h0
  clear h0
  go_enter Tryz.func33, Tryz.ntmps33
  go_upto_region 1 with (fail)
  have HX := Lib.hid ((BoxAt.new (w := w) (cs := [.int .i64 r.log.base, ve, .string ⟨r.snap.toArray⟩, .int .i64 r.state.index, vl, vp, vz]) (E := 67)).below (below_alloc _ (.cells #[.int .i64 0, .slice none 0 0, .string ⟨#[]⟩, .int .i64 0, .slice none 0 0, .slice none 0 0, .slice none 0 0] 67)))
  have hz := BoxAt.new (w := w.alloc (.cells #[.int .i64 r.log.base, ve, .string ⟨r.snap.toArray⟩, .int .i64 r.state.index, vl, vp, vz] 67)) (cs := [.int .i64 0, .slice none 0 0, .string ⟨#[]⟩, .int .i64 0, .slice none 0 0, .slice none 0 0, .slice none 0 0]) (E := 67)
  rw [World.size_alloc] at hz
  have HZ := Lib.hid hz
  clear hz
  have HB := Lib.hid (below_alloc2 w (.cells #[.int .i64 r.log.base, ve, .string ⟨r.snap.toArray⟩, .int .i64 r.state.index, vl, vp, vz] 67) (.cells #[.int .i64 0, .slice none 0 0, .string ⟨#[]⟩, .int .i64 0, .slice none 0 0, .slice none 0 0, .slice none 0 0] 67))
  replace HR := Lib.hid (HR.out.below HB.out)
  generalize (w.alloc (.cells #[.int .i64 r.log.base, ve, .string ⟨r.snap.toArray⟩, .int .i64 r.state.index, vl, vp, vz] 67)).alloc (.cells #[.int .i64 0, .slice none 0 0, .string ⟨#[]⟩, .int .i64 0, .slice none 0 0, .slice none 0 0, .slice none 0 0] 67) = w0 at *
  have x0 := HX.out.cell 0 _ rfl; have x1 := HX.out.cell 1 _ rfl; have x2 := HX.out.cell 2 _ rfl; have x3 := HX.out.cell 3 _ rfl; have x4 := HX.out.cell 4 _ rfl; have x5 := HX.out.cell 5 _ rfl; have x6 := HX.out.cell 6 _ rfl
  go_wp2_with fail
  refine (rcheck_calls r ks _ _ _ _ _ w0 HR.out HF.out).mono ?_
  rintro e w1 ⟨rfl, hb1⟩
  clear x0 x1 x2 x3 x4 x5 x6
  replace HR := Lib.hid (HR.out.below hb1)
  replace HX := Lib.hid (HX.out.below hb1)
  replace HZ := Lib.hid (HZ.out.below hb1)
  replace HB := Lib.hid (below_step HB.out hb1)
  clear hb1
  have x0 := HX.out.cell 0 _ rfl; have x3 := HX.out.cell 3 _ rfl
  have z0 := HZ.out.cell 0 _ rfl; have zt0 := HZ.out.thaw 0; have z1 := HZ.out.cell 1 _ rfl; have zt1 := HZ.out.thaw 1; have z2 := HZ.out.cell 2 _ rfl; have zt2 := HZ.out.thaw 2; have z3 := HZ.out.cell 3 _ rfl; have zt3 := HZ.out.thaw 3; have z4 := HZ.out.cell 4 _ rfl; have zt4 := HZ.out.thaw 4; have z5 := HZ.out.cell 5 _ rfl; have zt5 := HZ.out.thaw 5; have z6 := HZ.out.cell 6 _ rfl; have zt6 := HZ.out.thaw 6
  have hzl := HZ.out.lt
  have HR9 : Hid (RpAt (((((((w1.setCell ⟨w.heap.size + 1, 0, none⟩ (.int .i64 0)).setCell ⟨w.heap.size + 1, 1, none⟩ (.slice none 0 0)).setCell ⟨w.heap.size + 1, 2, none⟩ (.string ⟨#[]⟩)).setCell ⟨w.heap.size + 1, 3, none⟩ (.int .i64 0)).setCell ⟨w.heap.size + 1, 4, none⟩ (.slice none 0 0)).setCell ⟨w.heap.size + 1, 5, none⟩ (.slice none 0 0)).setCell ⟨w.heap.size + 1, 6, none⟩ (.slice none 0 0)) r ve vl vp vz (fun b => b < w.heap.size)) := Lib.hid (RpAt.store HR.out 0 [.int .i64 0, .slice none 0 0, .string ⟨#[]⟩, .int .i64 0, .slice none 0 0, .slice none 0 0, .slice none 0 0] fun k hk => ⟨by have : k < w.heap.size := hk; omega, hk⟩)
  have HX9 : Hid (BoxAt (((((((w1.setCell ⟨w.heap.size + 1, 0, none⟩ (.int .i64 0)).setCell ⟨w.heap.size + 1, 1, none⟩ (.slice none 0 0)).setCell ⟨w.heap.size + 1, 2, none⟩ (.string ⟨#[]⟩)).setCell ⟨w.heap.size + 1, 3, none⟩ (.int .i64 0)).setCell ⟨w.heap.size + 1, 4, none⟩ (.slice none 0 0)).setCell ⟨w.heap.size + 1, 5, none⟩ (.slice none 0 0)).setCell ⟨w.heap.size + 1, 6, none⟩ (.slice none 0 0)) (w.heap.size) [.int .i64 r.log.base, ve, .string ⟨r.snap.toArray⟩, .int .i64 r.state.index, vl, vp, vz]) := Lib.hid (BoxAt.farAll (by omega) [.int .i64 0, .slice none 0 0, .string ⟨#[]⟩, .int .i64 0, .slice none 0 0, .slice none 0 0, .slice none 0 0] 0 HX.out)
  have HZ9 : Hid (BoxAt (((((((w1.setCell ⟨w.heap.size + 1, 0, none⟩ (.int .i64 0)).setCell ⟨w.heap.size + 1, 1, none⟩ (.slice none 0 0)).setCell ⟨w.heap.size + 1, 2, none⟩ (.string ⟨#[]⟩)).setCell ⟨w.heap.size + 1, 3, none⟩ (.int .i64 0)).setCell ⟨w.heap.size + 1, 4, none⟩ (.slice none 0 0)).setCell ⟨w.heap.size + 1, 5, none⟩ (.slice none 0 0)).setCell ⟨w.heap.size + 1, 6, none⟩ (.slice none 0 0)) (w.heap.size + 1) [.int .i64 0, .slice none 0 0, .string ⟨#[]⟩, .int .i64 0, .slice none 0 0, .slice none 0 0, .slice none 0 0]) := Lib.hid (BoxAt.store (w := w1) [.int .i64 0, .slice none 0 0, .string ⟨#[]⟩, .int .i64 0, .slice none 0 0, .slice none 0 0, .slice none 0 0] [.int .i64 0, .slice none 0 0, .string ⟨#[]⟩, .int .i64 0, .slice none 0 0, .slice none 0 0, .slice none 0 0] 0 HZ.out (by simp))
  have HB9 : Hid (Below w.heap.size w (((((((w1.setCell ⟨w.heap.size + 1, 0, none⟩ (.int .i64 0)).setCell ⟨w.heap.size + 1, 1, none⟩ (.slice none 0 0)).setCell ⟨w.heap.size + 1, 2, none⟩ (.string ⟨#[]⟩)).setCell ⟨w.heap.size + 1, 3, none⟩ (.int .i64 0)).setCell ⟨w.heap.size + 1, 4, none⟩ (.slice none 0 0)).setCell ⟨w.heap.size + 1, 5, none⟩ (.slice none 0 0)).setCell ⟨w.heap.size + 1, 6, none⟩ (.slice none 0 0))) := Lib.hid (below_sets (by omega) [.int .i64 0, .slice none 0 0, .string ⟨#[]⟩, .int .i64 0, .slice none 0 0, .slice none 0 0, .slice none 0 0] 0 _ HB.out)
  go_wp2
  generalize (((((((w1.setCell ⟨w.heap.size + 1, 0, none⟩ (.int .i64 0)).setCell ⟨w.heap.size + 1, 1, none⟩ (.slice none 0 0)).setCell ⟨w.heap.size + 1, 2, none⟩ (.string ⟨#[]⟩)).setCell ⟨w.heap.size + 1, 3, none⟩ (.int .i64 0)).setCell ⟨w.heap.size + 1, 4, none⟩ (.slice none 0 0)).setCell ⟨w.heap.size + 1, 5, none⟩ (.slice none 0 0)).setCell ⟨w.heap.size + 1, 6, none⟩ (.slice none 0 0)) = wf at *
  replace HR := HR9; clear HR9
  replace HX := HX9; clear HX9
  replace HZ := HZ9; clear HZ9
  replace HB := HB9; clear HB9
  have g0 := HZ.out.cell 0 _ rfl; have g1 := HZ.out.cell 1 _ rfl; have g2 := HZ.out.cell 2 _ rfl; have g3 := HZ.out.cell 3 _ rfl; have g4 := HZ.out.cell 4 _ rfl; have g5 := HZ.out.cell 5 _ rfl; have g6 := HZ.out.cell 6 _ rfl
  refine bodyPost_ret (v := .tuple #[.agg #[.int .i64 0, .slice none 0 0, .string ⟨#[]⟩, .int .i64 0, .slice none 0 0, .slice none 0 0, .slice none 0 0], .int .i64 12]) (by simp [results, Tryz.results33, go_sem, g0, g1, g2, g3, g4, g5, g6]) rfl ⟨_, _, _, _, rfl, RpAt.none _ _, HB.out⟩
set_option linter.unusedSimpArgs false in
set_option maxRecDepth 100000 in
set_option maxHeartbeats 3200000 in
theorem rcompact_calls (r : ReplicaD) (ks : StateD) (ve vl vp vz : Value) (S : Nat → Prop) (w : World) (h : RpAt w r ve vl vp vz S) (hr : RepFine r ks) (h0 : r.state.index ≠ r.log.base) (hm : r.state.index ≤ 1073741424) :
    Calls Tryz.prog 33 #[.agg #[.int .i64 r.log.base, ve, .string ⟨r.snap.toArray⟩, .int .i64 r.state.index, vl, vp, vz]] w (RetRep w ⟨⟨r.state.index, r.log.entries.drop (r.state.index - r.log.base).toNat⟩, snapB r.state, r.state⟩ 0) := by
  obtain ⟨o1, o2, o3, o4⟩ := h.ones
  have HR := Lib.hid (h.sub (S' := fun b => b < w.heap.size) fun b _ hlt => hlt)
  have HF := Lib.hid hr
  obtain ⟨hb0, hb1⟩ := hr.log.base
  have hln := hr.log.len
  obtain ⟨hi0, hi1⟩ := hr.at_
  unfold logLast at hi1
  clear h hr
  have h00 : (r.state.index == r.log.base) = false := by simpa using h0
  have HV := Lib.hid (show logCut r.log r.state.index = (⟨r.state.index, r.log.entries.drop (r.state.index - r.log.base).toNat⟩, 0) by
    rw [logCut, if_neg (by simp [logCheck_ok.2 HF.out.log]), if_neg (by unfold logLast; omega), if_neg (by omega)])
  clear h0
  obtain ⟨d, hd⟩ : ∃ d, r.log.entries.drop (r.state.index - r.log.base).toNat = d := ⟨_, rfl⟩
  rw [hd] at HV
  have HD := Lib.hid hd
  clear hd
  go_enter Tryz.func33, Tryz.ntmps33
  go_upto_region 1 with (fail)
  have HX := Lib.hid ((BoxAt.new (w := w) (cs := [.int .i64 r.log.base, ve, .string ⟨r.snap.toArray⟩, .int .i64 r.state.index, vl, vp, vz]) (E := 67)).below (below_alloc _ (.cells #[.int .i64 0, .slice none 0 0, .string ⟨#[]⟩, .int .i64 0, .slice none 0 0, .slice none 0 0, .slice none 0 0] 67)))
  have hz := BoxAt.new (w := w.alloc (.cells #[.int .i64 r.log.base, ve, .string ⟨r.snap.toArray⟩, .int .i64 r.state.index, vl, vp, vz] 67)) (cs := [.int .i64 0, .slice none 0 0, .string ⟨#[]⟩, .int .i64 0, .slice none 0 0, .slice none 0 0, .slice none 0 0]) (E := 67)
  rw [World.size_alloc] at hz
  have HZ := Lib.hid hz
  clear hz
  have HB := Lib.hid (below_alloc2 w (.cells #[.int .i64 r.log.base, ve, .string ⟨r.snap.toArray⟩, .int .i64 r.state.index, vl, vp, vz] 67) (.cells #[.int .i64 0, .slice none 0 0, .string ⟨#[]⟩, .int .i64 0, .slice none 0 0, .slice none 0 0, .slice none 0 0] 67))
  replace HR := Lib.hid (HR.out.below HB.out)
  generalize (w.alloc (.cells #[.int .i64 r.log.base, ve, .string ⟨r.snap.toArray⟩, .int .i64 r.state.index, vl, vp, vz] 67)).alloc (.cells #[.int .i64 0, .slice none 0 0, .string ⟨#[]⟩, .int .i64 0, .slice none 0 0, .slice none 0 0, .slice none 0 0] 67) = w0 at *
  have x0 := HX.out.cell 0 _ rfl; have x1 := HX.out.cell 1 _ rfl; have x2 := HX.out.cell 2 _ rfl; have x3 := HX.out.cell 3 _ rfl; have x4 := HX.out.cell 4 _ rfl; have x5 := HX.out.cell 5 _ rfl; have x6 := HX.out.cell 6 _ rfl
  go_wp2_with fail
  refine (rcheck_calls r ks _ _ _ _ _ w0 HR.out HF.out).mono ?_
  rintro e w1 ⟨rfl, hb1⟩
  clear x0 x1 x2 x3 x4 x5 x6
  replace HR := Lib.hid (HR.out.below hb1)
  replace HX := Lib.hid (HX.out.below hb1)
  replace HZ := Lib.hid (HZ.out.below hb1)
  replace HB := Lib.hid (below_step HB.out hb1)
  clear hb1
  have x0 := HX.out.cell 0 _ rfl; have x1 := HX.out.cell 1 _ rfl; have x2 := HX.out.cell 2 _ rfl; have x3 := HX.out.cell 3 _ rfl; have x4 := HX.out.cell 4 _ rfl; have x5 := HX.out.cell 5 _ rfl; have x6 := HX.out.cell 6 _ rfl
  go_wp2_with fail
  refine (logCut_calls r.log _ _ w1 HR.out.ents HF.out.log HF.out.log.small r.state.index ⟨by omega, by omega⟩).mono ?_
  rw [HV.out]
  rintro e w2 ⟨ve2, rfl, hs2, hb2⟩
  obtain ⟨b5, d5, rfl, -, -, -, -⟩ := id hs2
  have HL := Lib.hid (SlR.sub rStr_ok (by decide) hs2 (S' := fun b => w.heap.size + 2 ≤ b) fun b hb _ => by show _ ≤ _; have : w1.heap.size ≤ b := hb; have := HZ.out.lt; omega)
  clear hs2
  clear x0 x1 x2 x3 x4 x5 x6
  replace HR := Lib.hid (HR.out.below hb2)
  replace HX := Lib.hid (HX.out.below hb2)
  replace HZ := Lib.hid (HZ.out.below hb2)
  replace HB := Lib.hid (below_step HB.out hb2)
  clear hb2
  replace HL := Lib.hid (show SlR 1 rStr w2 (.slice b5 d.length d5) d (fun b => w.heap.size + 2 ≤ b) from HL.out)
  go_upto_region 7 with (fail)
  have hzq := HZ.out.lt
  have HY := Lib.hid (BoxAt.new (w := w2) (cs := [.int .i64 r.state.index, .slice b5 d.length d5]) (E := 65))
  have hba := below_alloc w2 (.cells #[.int .i64 r.state.index, .slice b5 d.length d5] 65)
  replace HR := Lib.hid (HR.out.below hba)
  replace HX := Lib.hid (HX.out.below hba)
  replace HZ := Lib.hid (HZ.out.below hba)
  replace HB := Lib.hid (below_step HB.out hba)
  replace HL := Lib.hid (HL.out.below rStr_ok (by decide) hba)
  clear hba
  generalize w2.alloc (.cells #[.int .i64 r.state.index, .slice b5 d.length d5] 65) = w3 at *
  have hby : w.heap.size + 1 < w2.heap.size := hzq
  generalize w2.heap.size = BY at *
  have hzy := HZ.out.lt
  clear hzy hzq
  have x0 := HX.out.cell 0 _ rfl; have x1 := HX.out.cell 1 _ rfl; have x2 := HX.out.cell 2 _ rfl; have x3 := HX.out.cell 3 _ rfl; have x4 := HX.out.cell 4 _ rfl; have x5 := HX.out.cell 5 _ rfl; have x6 := HX.out.cell 6 _ rfl
  go_wp2_with fail
  refine (encode_st_calls r.state _ _ _ _ w3 HR.out.st HF.out.st).mono ?_
  rw [show encState r.state ++ sealB (encState r.state) = snapB r.state from rfl]
  rintro e w4 ⟨rfl, hb4⟩
  clear x0 x1 x2 x3 x4 x5 x6
  replace HR := Lib.hid (HR.out.below hb4)
  replace HX := Lib.hid (HX.out.below hb4)
  replace HZ := Lib.hid (HZ.out.below hb4)
  replace HB := Lib.hid (below_step HB.out hb4)
  replace HL := Lib.hid (HL.out.below rStr_ok (by decide) hb4)
  replace HY := Lib.hid (HY.out.below hb4)
  clear hb4
  have x0 := HX.out.cell 0 _ rfl; have x1 := HX.out.cell 1 _ rfl; have x2 := HX.out.cell 2 _ rfl; have x3 := HX.out.cell 3 _ rfl; have x4 := HX.out.cell 4 _ rfl; have x5 := HX.out.cell 5 _ rfl; have x6 := HX.out.cell 6 _ rfl
  go_wp2_with fail
  refine (rcopy_calls r _ _ _ _ _ w4 HR.out HF.out.log HF.out.st).mono ?_
  rintro e w5 ⟨ue, ul, up, uz, rfl, hrp, hb5⟩
  obtain ⟨a1, c1, rfl, -, -, -, -⟩ := id hrp.ents; obtain ⟨a2, c2, rfl, -, -, -, -⟩ := id hrp.st.lock; obtain ⟨a3, c3, rfl, -, -, -, -⟩ := id hrp.st.pair; obtain ⟨a4, c4, rfl, -, -, -, -⟩ := id hrp.st.sess
  have HC := Lib.hid (hrp.sub (S' := fun b => w.heap.size + 2 ≤ b) fun b hb _ => by show _ ≤ _; have : w4.heap.size ≤ b := hb; have := HZ.out.lt; omega)
  clear hrp
  clear x0 x1 x2 x3 x4 x5 x6
  replace HR := Lib.hid (HR.out.below hb5)
  replace HX := Lib.hid (HX.out.below hb5)
  replace HZ := Lib.hid (HZ.out.below hb5)
  replace HB := Lib.hid (below_step HB.out hb5)
  replace HL := Lib.hid (HL.out.below rStr_ok (by decide) hb5)
  replace HY := Lib.hid (HY.out.below hb5)
  clear hb5
  clear HR
  have x0 := HX.out.cell 0 _ rfl; have xt0 := HX.out.thaw 0; have x1 := HX.out.cell 1 _ rfl; have xt1 := HX.out.thaw 1; have x2 := HX.out.cell 2 _ rfl; have xt2 := HX.out.thaw 2; have x3 := HX.out.cell 3 _ rfl; have xt3 := HX.out.thaw 3; have x4 := HX.out.cell 4 _ rfl; have xt4 := HX.out.thaw 4; have x5 := HX.out.cell 5 _ rfl; have xt5 := HX.out.thaw 5; have x6 := HX.out.cell 6 _ rfl; have xt6 := HX.out.thaw 6
  have hzl := HZ.out.lt
  have HX9 : Hid (BoxAt (((((((w5.setCell ⟨w.heap.size, 0, none⟩ (.int .i64 r.log.base)).setCell ⟨w.heap.size, 1, none⟩ (.slice a1 r.log.entries.length c1)).setCell ⟨w.heap.size, 2, none⟩ (.string ⟨r.snap.toArray⟩)).setCell ⟨w.heap.size, 3, none⟩ (.int .i64 r.state.index)).setCell ⟨w.heap.size, 4, none⟩ (.slice a2 r.state.locks.length c2)).setCell ⟨w.heap.size, 5, none⟩ (.slice a3 r.state.pairs.length c3)).setCell ⟨w.heap.size, 6, none⟩ (.slice a4 r.state.sessions.length c4)) (w.heap.size) [.int .i64 r.log.base, .slice a1 r.log.entries.length c1, .string ⟨r.snap.toArray⟩, .int .i64 r.state.index, .slice a2 r.state.locks.length c2, .slice a3 r.state.pairs.length c3, .slice a4 r.state.sessions.length c4]) := Lib.hid (BoxAt.store (w := w5) [.int .i64 r.log.base, .slice a1 r.log.entries.length c1, .string ⟨r.snap.toArray⟩, .int .i64 r.state.index, .slice a2 r.state.locks.length c2, .slice a3 r.state.pairs.length c3, .slice a4 r.state.sessions.length c4] [.int .i64 r.log.base, ve, .string ⟨r.snap.toArray⟩, .int .i64 r.state.index, vl, vp, vz] 0 HX.out (by simp))
  have HZ9 : Hid (BoxAt (((((((w5.setCell ⟨w.heap.size, 0, none⟩ (.int .i64 r.log.base)).setCell ⟨w.heap.size, 1, none⟩ (.slice a1 r.log.entries.length c1)).setCell ⟨w.heap.size, 2, none⟩ (.string ⟨r.snap.toArray⟩)).setCell ⟨w.heap.size, 3, none⟩ (.int .i64 r.state.index)).setCell ⟨w.heap.size, 4, none⟩ (.slice a2 r.state.locks.length c2)).setCell ⟨w.heap.size, 5, none⟩ (.slice a3 r.state.pairs.length c3)).setCell ⟨w.heap.size, 6, none⟩ (.slice a4 r.state.sessions.length c4)) (w.heap.size + 1) [.int .i64 0, .slice none 0 0, .string ⟨#[]⟩, .int .i64 0, .slice none 0 0, .slice none 0 0, .slice none 0 0]) := Lib.hid (BoxAt.farAll (by omega) [.int .i64 r.log.base, .slice a1 r.log.entries.length c1, .string ⟨r.snap.toArray⟩, .int .i64 r.state.index, .slice a2 r.state.locks.length c2, .slice a3 r.state.pairs.length c3, .slice a4 r.state.sessions.length c4] 0 HZ.out)
  have HB9 : Hid (Below w.heap.size w (((((((w5.setCell ⟨w.heap.size, 0, none⟩ (.int .i64 r.log.base)).setCell ⟨w.heap.size, 1, none⟩ (.slice a1 r.log.entries.length c1)).setCell ⟨w.heap.size, 2, none⟩ (.string ⟨r.snap.toArray⟩)).setCell ⟨w.heap.size, 3, none⟩ (.int .i64 r.state.index)).setCell ⟨w.heap.size, 4, none⟩ (.slice a2 r.state.locks.length c2)).setCell ⟨w.heap.size, 5, none⟩ (.slice a3 r.state.pairs.length c3)).setCell ⟨w.heap.size, 6, none⟩ (.slice a4 r.state.sessions.length c4))) := Lib.hid (below_sets (by omega) [.int .i64 r.log.base, .slice a1 r.log.entries.length c1, .string ⟨r.snap.toArray⟩, .int .i64 r.state.index, .slice a2 r.state.locks.length c2, .slice a3 r.state.pairs.length c3, .slice a4 r.state.sessions.length c4] 0 _ HB.out)
  have HL9 : Hid (SlR 1 rStr (((((((w5.setCell ⟨w.heap.size, 0, none⟩ (.int .i64 r.log.base)).setCell ⟨w.heap.size, 1, none⟩ (.slice a1 r.log.entries.length c1)).setCell ⟨w.heap.size, 2, none⟩ (.string ⟨r.snap.toArray⟩)).setCell ⟨w.heap.size, 3, none⟩ (.int .i64 r.state.index)).setCell ⟨w.heap.size, 4, none⟩ (.slice a2 r.state.locks.length c2)).setCell ⟨w.heap.size, 5, none⟩ (.slice a3 r.state.pairs.length c3)).setCell ⟨w.heap.size, 6, none⟩ (.slice a4 r.state.sessions.length c4)) (.slice b5 d.length d5) d (fun b => w.heap.size + 2 ≤ b)) := Lib.hid (SlR.store rStr_ok (by decide) HL.out 0 [.int .i64 r.log.base, .slice a1 r.log.entries.length c1, .string ⟨r.snap.toArray⟩, .int .i64 r.state.index, .slice a2 r.state.locks.length c2, .slice a3 r.state.pairs.length c3, .slice a4 r.state.sessions.length c4] fun k hk => ⟨by have : w.heap.size + 2 ≤ k := hk; omega, hk⟩)
  have HY9 : Hid (BoxAt (((((((w5.setCell ⟨w.heap.size, 0, none⟩ (.int .i64 r.log.base)).setCell ⟨w.heap.size, 1, none⟩ (.slice a1 r.log.entries.length c1)).setCell ⟨w.heap.size, 2, none⟩ (.string ⟨r.snap.toArray⟩)).setCell ⟨w.heap.size, 3, none⟩ (.int .i64 r.state.index)).setCell ⟨w.heap.size, 4, none⟩ (.slice a2 r.state.locks.length c2)).setCell ⟨w.heap.size, 5, none⟩ (.slice a3 r.state.pairs.length c3)).setCell ⟨w.heap.size, 6, none⟩ (.slice a4 r.state.sessions.length c4)) (BY) [.int .i64 r.state.index, .slice b5 d.length d5]) := Lib.hid (BoxAt.farAll (by omega) [.int .i64 r.log.base, .slice a1 r.log.entries.length c1, .string ⟨r.snap.toArray⟩, .int .i64 r.state.index, .slice a2 r.state.locks.length c2, .slice a3 r.state.pairs.length c3, .slice a4 r.state.sessions.length c4] 0 HY.out)
  have HC9 : Hid (RpAt (((((((w5.setCell ⟨w.heap.size, 0, none⟩ (.int .i64 r.log.base)).setCell ⟨w.heap.size, 1, none⟩ (.slice a1 r.log.entries.length c1)).setCell ⟨w.heap.size, 2, none⟩ (.string ⟨r.snap.toArray⟩)).setCell ⟨w.heap.size, 3, none⟩ (.int .i64 r.state.index)).setCell ⟨w.heap.size, 4, none⟩ (.slice a2 r.state.locks.length c2)).setCell ⟨w.heap.size, 5, none⟩ (.slice a3 r.state.pairs.length c3)).setCell ⟨w.heap.size, 6, none⟩ (.slice a4 r.state.sessions.length c4)) r (.slice a1 r.log.entries.length c1) (.slice a2 r.state.locks.length c2) (.slice a3 r.state.pairs.length c3) (.slice a4 r.state.sessions.length c4) (fun b => w.heap.size + 2 ≤ b)) := Lib.hid (RpAt.store HC.out 0 [.int .i64 r.log.base, .slice a1 r.log.entries.length c1, .string ⟨r.snap.toArray⟩, .int .i64 r.state.index, .slice a2 r.state.locks.length c2, .slice a3 r.state.pairs.length c3, .slice a4 r.state.sessions.length c4] fun k hk => ⟨by have : w.heap.size + 2 ≤ k := hk; omega, hk⟩)
  clear hzl
  go_upto_region 13 with (fail)
  generalize (((((((w5.setCell ⟨w.heap.size, 0, none⟩ (.int .i64 r.log.base)).setCell ⟨w.heap.size, 1, none⟩ (.slice a1 r.log.entries.length c1)).setCell ⟨w.heap.size, 2, none⟩ (.string ⟨r.snap.toArray⟩)).setCell ⟨w.heap.size, 3, none⟩ (.int .i64 r.state.index)).setCell ⟨w.heap.size, 4, none⟩ (.slice a2 r.state.locks.length c2)).setCell ⟨w.heap.size, 5, none⟩ (.slice a3 r.state.pairs.length c3)).setCell ⟨w.heap.size, 6, none⟩ (.slice a4 r.state.sessions.length c4)) = w6 at *
  replace HX := HX9; clear HX9
  replace HZ := HZ9; clear HZ9
  replace HB := HB9; clear HB9
  replace HL := HL9; clear HL9
  replace HY := HY9; clear HY9
  replace HC := HC9; clear HC9
  have y0 := HY.out.cell 0 _ rfl; have y1 := HY.out.cell 1 _ rfl
  have q0 := HX.out.cell 0 _ rfl; have qt0 := HX.out.thaw 0; have q1 := HX.out.cell 1 _ rfl; have qt1 := HX.out.thaw 1; have q2 := HX.out.cell 2 _ rfl; have qt2 := HX.out.thaw 2
  have hzl := HZ.out.lt
  have HX9 : Hid (BoxAt (((w6.setCell ⟨w.heap.size, 0, none⟩ (.int .i64 r.state.index)).setCell ⟨w.heap.size, 1, none⟩ (.slice b5 d.length d5)).setCell ⟨w.heap.size, 2, none⟩ (.string ⟨(snapB r.state).toArray⟩)) (w.heap.size) [.int .i64 r.state.index, .slice b5 d.length d5, .string ⟨(snapB r.state).toArray⟩, .int .i64 r.state.index, .slice a2 r.state.locks.length c2, .slice a3 r.state.pairs.length c3, .slice a4 r.state.sessions.length c4]) := Lib.hid (BoxAt.store (w := w6) [.int .i64 r.state.index, .slice b5 d.length d5, .string ⟨(snapB r.state).toArray⟩] [.int .i64 r.log.base, .slice a1 r.log.entries.length c1, .string ⟨r.snap.toArray⟩, .int .i64 r.state.index, .slice a2 r.state.locks.length c2, .slice a3 r.state.pairs.length c3, .slice a4 r.state.sessions.length c4] 0 HX.out (by simp))
  have HZ9 : Hid (BoxAt (((w6.setCell ⟨w.heap.size, 0, none⟩ (.int .i64 r.state.index)).setCell ⟨w.heap.size, 1, none⟩ (.slice b5 d.length d5)).setCell ⟨w.heap.size, 2, none⟩ (.string ⟨(snapB r.state).toArray⟩)) (w.heap.size + 1) [.int .i64 0, .slice none 0 0, .string ⟨#[]⟩, .int .i64 0, .slice none 0 0, .slice none 0 0, .slice none 0 0]) := Lib.hid (BoxAt.farAll (by omega) [.int .i64 r.state.index, .slice b5 d.length d5, .string ⟨(snapB r.state).toArray⟩] 0 HZ.out)
  have HB9 : Hid (Below w.heap.size w (((w6.setCell ⟨w.heap.size, 0, none⟩ (.int .i64 r.state.index)).setCell ⟨w.heap.size, 1, none⟩ (.slice b5 d.length d5)).setCell ⟨w.heap.size, 2, none⟩ (.string ⟨(snapB r.state).toArray⟩))) := Lib.hid (below_sets (by omega) [.int .i64 r.state.index, .slice b5 d.length d5, .string ⟨(snapB r.state).toArray⟩] 0 _ HB.out)
  have HL9 : Hid (SlR 1 rStr (((w6.setCell ⟨w.heap.size, 0, none⟩ (.int .i64 r.state.index)).setCell ⟨w.heap.size, 1, none⟩ (.slice b5 d.length d5)).setCell ⟨w.heap.size, 2, none⟩ (.string ⟨(snapB r.state).toArray⟩)) (.slice b5 d.length d5) d (fun b => w.heap.size + 2 ≤ b)) := Lib.hid (SlR.store rStr_ok (by decide) HL.out 0 [.int .i64 r.state.index, .slice b5 d.length d5, .string ⟨(snapB r.state).toArray⟩] fun k hk => ⟨by have : w.heap.size + 2 ≤ k := hk; omega, hk⟩)
  have HY9 : Hid (BoxAt (((w6.setCell ⟨w.heap.size, 0, none⟩ (.int .i64 r.state.index)).setCell ⟨w.heap.size, 1, none⟩ (.slice b5 d.length d5)).setCell ⟨w.heap.size, 2, none⟩ (.string ⟨(snapB r.state).toArray⟩)) (BY) [.int .i64 r.state.index, .slice b5 d.length d5]) := Lib.hid (BoxAt.farAll (by omega) [.int .i64 r.state.index, .slice b5 d.length d5, .string ⟨(snapB r.state).toArray⟩] 0 HY.out)
  have HC9 : Hid (RpAt (((w6.setCell ⟨w.heap.size, 0, none⟩ (.int .i64 r.state.index)).setCell ⟨w.heap.size, 1, none⟩ (.slice b5 d.length d5)).setCell ⟨w.heap.size, 2, none⟩ (.string ⟨(snapB r.state).toArray⟩)) r (.slice a1 r.log.entries.length c1) (.slice a2 r.state.locks.length c2) (.slice a3 r.state.pairs.length c3) (.slice a4 r.state.sessions.length c4) (fun b => w.heap.size + 2 ≤ b)) := Lib.hid (RpAt.store HC.out 0 [.int .i64 r.state.index, .slice b5 d.length d5, .string ⟨(snapB r.state).toArray⟩] fun k hk => ⟨by have : w.heap.size + 2 ≤ k := hk; omega, hk⟩)
  clear hzl
  go_upto_region 14 with (fail)
  generalize (((w6.setCell ⟨w.heap.size, 0, none⟩ (.int .i64 r.state.index)).setCell ⟨w.heap.size, 1, none⟩ (.slice b5 d.length d5)).setCell ⟨w.heap.size, 2, none⟩ (.string ⟨(snapB r.state).toArray⟩)) = w7 at *
  replace HX := HX9; clear HX9
  replace HZ := HZ9; clear HZ9
  replace HB := HB9; clear HB9
  replace HL := HL9; clear HL9
  replace HY := HY9; clear HY9
  replace HC := HC9; clear HC9
  have x0 := HX.out.cell 0 _ rfl; have x1 := HX.out.cell 1 _ rfl; have x2 := HX.out.cell 2 _ rfl; have x3 := HX.out.cell 3 _ rfl; have x4 := HX.out.cell 4 _ rfl; have x5 := HX.out.cell 5 _ rfl; have x6 := HX.out.cell 6 _ rfl
  have z0 := HZ.out.cell 0 _ rfl; have zt0 := HZ.out.thaw 0; have z1 := HZ.out.cell 1 _ rfl; have zt1 := HZ.out.thaw 1; have z2 := HZ.out.cell 2 _ rfl; have zt2 := HZ.out.thaw 2; have z3 := HZ.out.cell 3 _ rfl; have zt3 := HZ.out.thaw 3; have z4 := HZ.out.cell 4 _ rfl; have zt4 := HZ.out.thaw 4; have z5 := HZ.out.cell 5 _ rfl; have zt5 := HZ.out.thaw 5; have z6 := HZ.out.cell 6 _ rfl; have zt6 := HZ.out.thaw 6
  have hzl := HZ.out.lt
  have HX9 : Hid (BoxAt (((((((w7.setCell ⟨w.heap.size + 1, 0, none⟩ (.int .i64 r.state.index)).setCell ⟨w.heap.size + 1, 1, none⟩ (.slice b5 d.length d5)).setCell ⟨w.heap.size + 1, 2, none⟩ (.string ⟨(snapB r.state).toArray⟩)).setCell ⟨w.heap.size + 1, 3, none⟩ (.int .i64 r.state.index)).setCell ⟨w.heap.size + 1, 4, none⟩ (.slice a2 r.state.locks.length c2)).setCell ⟨w.heap.size + 1, 5, none⟩ (.slice a3 r.state.pairs.length c3)).setCell ⟨w.heap.size + 1, 6, none⟩ (.slice a4 r.state.sessions.length c4)) (w.heap.size) [.int .i64 r.state.index, .slice b5 d.length d5, .string ⟨(snapB r.state).toArray⟩, .int .i64 r.state.index, .slice a2 r.state.locks.length c2, .slice a3 r.state.pairs.length c3, .slice a4 r.state.sessions.length c4]) := Lib.hid (BoxAt.farAll (by omega) [.int .i64 r.state.index, .slice b5 d.length d5, .string ⟨(snapB r.state).toArray⟩, .int .i64 r.state.index, .slice a2 r.state.locks.length c2, .slice a3 r.state.pairs.length c3, .slice a4 r.state.sessions.length c4] 0 HX.out)
  have HZ9 : Hid (BoxAt (((((((w7.setCell ⟨w.heap.size + 1, 0, none⟩ (.int .i64 r.state.index)).setCell ⟨w.heap.size + 1, 1, none⟩ (.slice b5 d.length d5)).setCell ⟨w.heap.size + 1, 2, none⟩ (.string ⟨(snapB r.state).toArray⟩)).setCell ⟨w.heap.size + 1, 3, none⟩ (.int .i64 r.state.index)).setCell ⟨w.heap.size + 1, 4, none⟩ (.slice a2 r.state.locks.length c2)).setCell ⟨w.heap.size + 1, 5, none⟩ (.slice a3 r.state.pairs.length c3)).setCell ⟨w.heap.size + 1, 6, none⟩ (.slice a4 r.state.sessions.length c4)) (w.heap.size + 1) [.int .i64 r.state.index, .slice b5 d.length d5, .string ⟨(snapB r.state).toArray⟩, .int .i64 r.state.index, .slice a2 r.state.locks.length c2, .slice a3 r.state.pairs.length c3, .slice a4 r.state.sessions.length c4]) := Lib.hid (BoxAt.store (w := w7) [.int .i64 r.state.index, .slice b5 d.length d5, .string ⟨(snapB r.state).toArray⟩, .int .i64 r.state.index, .slice a2 r.state.locks.length c2, .slice a3 r.state.pairs.length c3, .slice a4 r.state.sessions.length c4] [.int .i64 0, .slice none 0 0, .string ⟨#[]⟩, .int .i64 0, .slice none 0 0, .slice none 0 0, .slice none 0 0] 0 HZ.out (by simp))
  have HB9 : Hid (Below w.heap.size w (((((((w7.setCell ⟨w.heap.size + 1, 0, none⟩ (.int .i64 r.state.index)).setCell ⟨w.heap.size + 1, 1, none⟩ (.slice b5 d.length d5)).setCell ⟨w.heap.size + 1, 2, none⟩ (.string ⟨(snapB r.state).toArray⟩)).setCell ⟨w.heap.size + 1, 3, none⟩ (.int .i64 r.state.index)).setCell ⟨w.heap.size + 1, 4, none⟩ (.slice a2 r.state.locks.length c2)).setCell ⟨w.heap.size + 1, 5, none⟩ (.slice a3 r.state.pairs.length c3)).setCell ⟨w.heap.size + 1, 6, none⟩ (.slice a4 r.state.sessions.length c4))) := Lib.hid (below_sets (by omega) [.int .i64 r.state.index, .slice b5 d.length d5, .string ⟨(snapB r.state).toArray⟩, .int .i64 r.state.index, .slice a2 r.state.locks.length c2, .slice a3 r.state.pairs.length c3, .slice a4 r.state.sessions.length c4] 0 _ HB.out)
  have HL9 : Hid (SlR 1 rStr (((((((w7.setCell ⟨w.heap.size + 1, 0, none⟩ (.int .i64 r.state.index)).setCell ⟨w.heap.size + 1, 1, none⟩ (.slice b5 d.length d5)).setCell ⟨w.heap.size + 1, 2, none⟩ (.string ⟨(snapB r.state).toArray⟩)).setCell ⟨w.heap.size + 1, 3, none⟩ (.int .i64 r.state.index)).setCell ⟨w.heap.size + 1, 4, none⟩ (.slice a2 r.state.locks.length c2)).setCell ⟨w.heap.size + 1, 5, none⟩ (.slice a3 r.state.pairs.length c3)).setCell ⟨w.heap.size + 1, 6, none⟩ (.slice a4 r.state.sessions.length c4)) (.slice b5 d.length d5) d (fun b => w.heap.size + 2 ≤ b)) := Lib.hid (SlR.store rStr_ok (by decide) HL.out 0 [.int .i64 r.state.index, .slice b5 d.length d5, .string ⟨(snapB r.state).toArray⟩, .int .i64 r.state.index, .slice a2 r.state.locks.length c2, .slice a3 r.state.pairs.length c3, .slice a4 r.state.sessions.length c4] fun k hk => ⟨by have : w.heap.size + 2 ≤ k := hk; omega, hk⟩)
  have HY9 : Hid (BoxAt (((((((w7.setCell ⟨w.heap.size + 1, 0, none⟩ (.int .i64 r.state.index)).setCell ⟨w.heap.size + 1, 1, none⟩ (.slice b5 d.length d5)).setCell ⟨w.heap.size + 1, 2, none⟩ (.string ⟨(snapB r.state).toArray⟩)).setCell ⟨w.heap.size + 1, 3, none⟩ (.int .i64 r.state.index)).setCell ⟨w.heap.size + 1, 4, none⟩ (.slice a2 r.state.locks.length c2)).setCell ⟨w.heap.size + 1, 5, none⟩ (.slice a3 r.state.pairs.length c3)).setCell ⟨w.heap.size + 1, 6, none⟩ (.slice a4 r.state.sessions.length c4)) (BY) [.int .i64 r.state.index, .slice b5 d.length d5]) := Lib.hid (BoxAt.farAll (by omega) [.int .i64 r.state.index, .slice b5 d.length d5, .string ⟨(snapB r.state).toArray⟩, .int .i64 r.state.index, .slice a2 r.state.locks.length c2, .slice a3 r.state.pairs.length c3, .slice a4 r.state.sessions.length c4] 0 HY.out)
  have HC9 : Hid (RpAt (((((((w7.setCell ⟨w.heap.size + 1, 0, none⟩ (.int .i64 r.state.index)).setCell ⟨w.heap.size + 1, 1, none⟩ (.slice b5 d.length d5)).setCell ⟨w.heap.size + 1, 2, none⟩ (.string ⟨(snapB r.state).toArray⟩)).setCell ⟨w.heap.size + 1, 3, none⟩ (.int .i64 r.state.index)).setCell ⟨w.heap.size + 1, 4, none⟩ (.slice a2 r.state.locks.length c2)).setCell ⟨w.heap.size + 1, 5, none⟩ (.slice a3 r.state.pairs.length c3)).setCell ⟨w.heap.size + 1, 6, none⟩ (.slice a4 r.state.sessions.length c4)) r (.slice a1 r.log.entries.length c1) (.slice a2 r.state.locks.length c2) (.slice a3 r.state.pairs.length c3) (.slice a4 r.state.sessions.length c4) (fun b => w.heap.size + 2 ≤ b)) := Lib.hid (RpAt.store HC.out 0 [.int .i64 r.state.index, .slice b5 d.length d5, .string ⟨(snapB r.state).toArray⟩, .int .i64 r.state.index, .slice a2 r.state.locks.length c2, .slice a3 r.state.pairs.length c3, .slice a4 r.state.sessions.length c4] fun k hk => ⟨by have : w.heap.size + 2 ≤ k := hk; omega, hk⟩)
  go_wp2
  generalize (((((((w7.setCell ⟨w.heap.size + 1, 0, none⟩ (.int .i64 r.state.index)).setCell ⟨w.heap.size + 1, 1, none⟩ (.slice b5 d.length d5)).setCell ⟨w.heap.size + 1, 2, none⟩ (.string ⟨(snapB r.state).toArray⟩)).setCell ⟨w.heap.size + 1, 3, none⟩ (.int .i64 r.state.index)).setCell ⟨w.heap.size + 1, 4, none⟩ (.slice a2 r.state.locks.length c2)).setCell ⟨w.heap.size + 1, 5, none⟩ (.slice a3 r.state.pairs.length c3)).setCell ⟨w.heap.size + 1, 6, none⟩ (.slice a4 r.state.sessions.length c4)) = wf at *
  replace HX := HX9; clear HX9
  replace HZ := HZ9; clear HZ9
  replace HB := HB9; clear HB9
  replace HL := HL9; clear HL9
  replace HY := HY9; clear HY9
  replace HC := HC9; clear HC9
  have g0 := HZ.out.cell 0 _ rfl; have g1 := HZ.out.cell 1 _ rfl; have g2 := HZ.out.cell 2 _ rfl; have g3 := HZ.out.cell 3 _ rfl; have g4 := HZ.out.cell 4 _ rfl; have g5 := HZ.out.cell 5 _ rfl; have g6 := HZ.out.cell 6 _ rfl
  refine bodyPost_ret (v := .tuple #[.agg #[.int .i64 r.state.index, .slice b5 d.length d5, .string ⟨(snapB r.state).toArray⟩, .int .i64 r.state.index, .slice a2 r.state.locks.length c2, .slice a3 r.state.pairs.length c3, .slice a4 r.state.sessions.length c4], .int .i64 0]) (by simp [results, Tryz.results33, go_sem, g0, g1, g2, g3, g4, g5, g6]) rfl ⟨_, _, _, _, rfl, ⟨by rw [HD.out]; exact HL.out.sub rStr_ok (by decide) fun b hb _ => by show _ ≤ _; have : w.heap.size + 2 ≤ b := hb; omega, HC.out.st.sub fun b hb _ => by show _ ≤ _; have : w.heap.size + 2 ≤ b := hb; omega⟩, HB.out⟩
end Go.Proofs.YtkefgapnghnjjaaGreatDoor
