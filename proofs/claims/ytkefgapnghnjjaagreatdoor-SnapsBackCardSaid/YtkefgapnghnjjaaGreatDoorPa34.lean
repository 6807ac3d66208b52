/- A part of the proof, laid together from: CmdD. -/
import Derived.Test.YtkefgapnghnjjaaGreatDoorPa33
set_option linter.unusedSimpArgs false
set_option linter.unusedVariables false
/- command.Decode. -/
namespace Go.Proofs.YtkefgapnghnjjaaGreatDoor
open Go.RowKit Go.Tk

set_option maxRecDepth 100000 in
set_option maxHeartbeats 1600000 in
theorem decode_calls (s : List UInt8) (w : World) (hs : s.length ≤ 1000000) :
    Calls Tryz.prog 12 #[.string ⟨s.toArray⟩] w fun e w' => e = .returned (.tuple #[valCommand (cmdDecode s).1, .int .i64 (cmdDecode s).2]) ∧ Below w.heap.size w w' := by
  by_cases h5 : 5000 < s.length
  · have HV := Lib.hid (show cmdDecode s = (noCommand, 1) by rw [cmdDecode, if_pos h5])
    go_enter Tryz.func12, Tryz.ntmps12
    go_wp2
    refine bodyPost_ret (v := .tuple #[valCommand noCommand, .int .i64 1]) (by simp [results, Tryz.results12, go_sem, valCommand, noCommand, noOp]) rfl ⟨by rw [HV.out], ?_⟩
    repeat (first | with_reducible exact below_alloc w _ | with_reducible refine below_set ?_ (Nat.le_refl _) _ _)
  match s, hs, h5 with
  | [], _, _ =>
    have HV := Lib.hid (show cmdDecode [] = (noCommand, 5) from rfl)
    go_enter Tryz.func12, Tryz.ntmps12
    go_wp2
    refine bodyPost_ret (v := .tuple #[valCommand noCommand, .int .i64 5]) (by simp [results, Tryz.results12, go_sem, valCommand, noCommand, noOp]) rfl ⟨by rw [HV.out], ?_⟩
    repeat (first | with_reducible exact below_alloc w _ | with_reducible refine below_set ?_ (Nat.le_refl _) _ _)
  | [a], _, _ =>
    have HV := Lib.hid (show cmdDecode [a] = (noCommand, 5) from rfl)
    go_enter Tryz.func12, Tryz.ntmps12
    go_wp2
    refine bodyPost_ret (v := .tuple #[valCommand noCommand, .int .i64 5]) (by simp [results, Tryz.results12, go_sem, valCommand, noCommand, noOp]) rfl ⟨by rw [HV.out], ?_⟩
    repeat (first | with_reducible exact below_alloc w _ | with_reducible refine below_set ?_ (Nat.le_refl _) _ _)
  | a :: b :: r, hs, h5 =>
    have hl : r.length + 2 ≤ 5000 := by simp at h5; omega
    have hx2 : (a = 2) ↔ (a.toNat : Int) = 2 := ⟨fun e => by rw [e]; rfl, fun e => UInt8.toNat_inj.1 (by have e2 : (2 : UInt8).toNat = 2 := rfl; omega)⟩
    have HV : Hid (cmdDecode (a :: b :: r) = if (a.toNat : Int) = 2 then (if (cmdBody ⟨(a.toNat : Int), (b.toNat : Int), 0, 0, 0, noOp⟩ r).2.2 ≠ 0 then (noCommand, (cmdBody ⟨(a.toNat : Int), (b.toNat : Int), 0, 0, 0, noOp⟩ r).2.2)
        else cmdLast (cmdBody ⟨(a.toNat : Int), (b.toNat : Int), 0, 0, 0, noOp⟩ r).1 (cmdBody ⟨(a.toNat : Int), (b.toNat : Int), 0, 0, 0, noOp⟩ r).2.1) else cmdLast ⟨(a.toNat : Int), (b.toNat : Int), 0, 0, 0, noOp⟩ r) := by
      show _ = _
      rw [cmdDecode, if_neg (by simp; omega), if_neg (by simp)]
      simp only [List.getD_cons_zero, List.getD_cons_succ, List.drop_succ_cons, List.drop_zero, hx2]
    clear h5 hs hx2
    have i0 : ∀ wx : World, (Instr.index 9 (.string ⟨(a :: b :: r).toArray⟩) (.int .i64 0)).run Tryz.prog wx = .ok (.int .u8 a.toNat) wx := fun wx => by
      rw [run_index_string wx _ _ _ _ Tryz.underlying9, dif_pos ⟨by decide, by simp [ByteArray.size]; omega⟩]; rfl
    have i1 : ∀ wx : World, (Instr.index 9 (.string ⟨(a :: b :: r).toArray⟩) (.int .i64 1)).run Tryz.prog wx = .ok (.int .u8 b.toNat) wx := fun wx => by
      rw [run_index_string wx _ _ _ _ Tryz.underlying9, dif_pos ⟨by decide, by simp [ByteArray.size]; omega⟩]; rfl
    have hdr : List.drop 2 (a :: b :: r) = r := rfl
    have hgt : ¬ 5000 < (a :: b :: r).length := by simp; omega
    have hge : ¬ (a :: b :: r).length < 2 := by simp
    have ha := a.toNat_lt
    have hb := b.toNat_lt
    obtain ⟨x, hx, hx0, hx1⟩ : ∃ x : Int, (a.toNat : Int) = x ∧ 0 ≤ x ∧ x ≤ 255 := ⟨_, rfl, by omega, by omega⟩
    obtain ⟨y, hy, hy0, hy1⟩ : ∃ x : Int, (b.toNat : Int) = x ∧ 0 ≤ x ∧ x ≤ 255 := ⟨_, rfl, by omega, by omega⟩
    rw [hx, hy] at HV
    rw [hx] at i0
    rw [hy] at i1
    clear hx hy ha hb
    generalize a :: b :: r = s at *
    go_enter Tryz.func12, Tryz.ntmps12
    go_wp2
    go_region
    refine then_abs (fun wx => CmdAt wx w.heap.size noCommand ∧ CmdAt wx (w.heap.size + 1) ⟨x, y, 0, 0, 0, noOp⟩ ∧ Below w.heap.size w wx ∧ w.heap.size + 1 < wx.heap.size) ?_ ?_
    · obtain ⟨g1, g2, g3, g4, g5⟩ := fresh2 (Below.drew (Below.refl (w.heap.size + 2) ((w.alloc (.cells (cmdCells noCommand).toArray 45)).alloc (.cells (cmdCells ⟨x, y, 0, 0, 0, noOp⟩).toArray 45))))
      exact ⟨CmdAt.of rfl g1 g2, CmdAt.of rfl g3 g4, Below.drew (below_alloc2 w _ _), g5⟩
    rintro wx ⟨hR, hC, hbw, hsz⟩
    clear i0 i1
    have hbs := hbw.size
    by_cases h2 : x = 2
    case' pos =>
      subst h2
      have HV2 := Lib.hid (HV.out.trans (if_pos rfl))
      have HR := Lib.hid hR
      have HB := Lib.hid hbw
      have HC := Lib.hid (body_calls ⟨2, y, 0, 0, 0, noOp⟩ r (w.heap.size + 1) wx hC (by omega))
      have k0 : wx.cell? ⟨w.heap.size + 1, 0, none⟩ = some (.int .i64 2) := hC.1 0 _ rfl
      clear HV hC hR hbw
      go_wp2_with fail
      refine HC.out.mono ?_; rintro e w2 ⟨rfl, hg, c1, hc', hce⟩
      have hR := HR.out.keep (hg.block _ (by omega) (by simp))
      have hbw := HB.out.grown hg (by omega) (fun k hk => by cases hk; omega)
      have hsz2 : w.heap.size + 1 < w2.heap.size := by have := hg.size; omega
      clear HC hg HR HB k0 hsz hbs
      generalize cmdBody ⟨2, y, 0, 0, 0, noOp⟩ r = res at hce HV2 ⊢
      obtain ⟨c2, t, e0⟩ := res
      simp only at hce HV2
      by_cases he : e0 = 0
      case neg =>
        have hF := Lib.hid (HV2.out.trans (if_pos he))
        have heb : (e0 != 0) = true := by simpa using he
        clear HV2 he hce hc'
        obtain ⟨hRc, hRf⟩ := hR
        have y0 : w2.cell? ⟨w.heap.size, 0, none⟩ = some (.int .i64 0) := hRc 0 _ rfl
        have y1 : w2.cell? ⟨w.heap.size, 1, none⟩ = some (.int .i64 0) := hRc 1 _ rfl
        have y2 : w2.cell? ⟨w.heap.size, 2, none⟩ = some (.int .i64 0) := hRc 2 _ rfl
        have y3 : w2.cell? ⟨w.heap.size, 3, none⟩ = some (.int .i64 0) := hRc 3 _ rfl
        have y4 : w2.cell? ⟨w.heap.size, 4, none⟩ = some (.int .i64 0) := hRc 4 _ rfl
        have y5 : w2.cell? ⟨w.heap.size, 5, none⟩ = some (.int .i64 0) := hRc 5 _ rfl
        have y6 : w2.cell? ⟨w.heap.size, 6, none⟩ = some (.string ⟨#[]⟩) := hRc 6 _ rfl
        have y7 : w2.cell? ⟨w.heap.size, 7, none⟩ = some (.string ⟨#[]⟩) := hRc 7 _ rfl
        have y8 : w2.cell? ⟨w.heap.size, 8, none⟩ = some (.int .i64 0) := hRc 8 _ rfl
        have f0 := hRf 0; have f1 := hRf 1; have f2 := hRf 2; have f3 := hRf 3; have f4 := hRf 4; have f5 := hRf 5; have f6 := hRf 6; have f7 := hRf 7; have f8 := hRf 8
        clear hRc hRf
        go_wp2
        refine bodyPost_ret (v := .tuple #[valCommand noCommand, .int .i64 e0]) (by simp [results, Tryz.results12, go_sem, valCommand, noCommand, noOp, y0, y1, y2, y3, y4, y5, y6, y7, y8]) rfl ⟨by rw [hF.out], ?_⟩
        repeat (first | with_reducible exact hbw | with_reducible refine below_set ?_ (Nat.le_refl _) _ _)
      subst he
      obtain rfl := hce rfl
      have HW := Lib.hid (HV2.out.trans (if_neg (by simp)))
      clear HV2 hce
      have hC := hc'
      clear hc'
      have hsz := hsz2
      clear hsz2
      clear hl hgt hge
      rename World => wx
    case' neg =>
      obtain ⟨c1, hc1⟩ : ∃ c1 : CommandD, c1 = ⟨x, y, 0, 0, 0, noOp⟩ := ⟨_, rfl⟩
      have h2b : (c1.kind == 2) = false := by rw [hc1]; simpa using h2
      have HW := Lib.hid (HV.out.trans (if_neg h2))
      rw [← hc1] at HW hC
      obtain ⟨t, ht⟩ : ∃ t, t = r := ⟨_, rfl⟩
      subst ht
      clear HV h2 hbs hl hgt hge hc1
    all_goals
      have hbs := hbw.size
      obtain ⟨hRc, hRf⟩ := hR
      obtain ⟨hCc, -⟩ := hC
      have y0 : wx.cell? ⟨w.heap.size, 0, none⟩ = some (.int .i64 0) := hRc 0 _ rfl
      have y1 : wx.cell? ⟨w.heap.size, 1, none⟩ = some (.int .i64 0) := hRc 1 _ rfl
      have y2 : wx.cell? ⟨w.heap.size, 2, none⟩ = some (.int .i64 0) := hRc 2 _ rfl
      have y3 : wx.cell? ⟨w.heap.size, 3, none⟩ = some (.int .i64 0) := hRc 3 _ rfl
      have y4 : wx.cell? ⟨w.heap.size, 4, none⟩ = some (.int .i64 0) := hRc 4 _ rfl
      have y5 : wx.cell? ⟨w.heap.size, 5, none⟩ = some (.int .i64 0) := hRc 5 _ rfl
      have y6 : wx.cell? ⟨w.heap.size, 6, none⟩ = some (.string ⟨#[]⟩) := hRc 6 _ rfl
      have y7 : wx.cell? ⟨w.heap.size, 7, none⟩ = some (.string ⟨#[]⟩) := hRc 7 _ rfl
      have y8 : wx.cell? ⟨w.heap.size, 8, none⟩ = some (.int .i64 0) := hRc 8 _ rfl
      have x0 : wx.cell? ⟨w.heap.size + 1, 0, none⟩ = some (.int .i64 c1.kind) := hCc 0 _ rfl
      have x1 : wx.cell? ⟨w.heap.size + 1, 1, none⟩ = some (.int .i64 c1.client) := hCc 1 _ rfl
      have x2 : wx.cell? ⟨w.heap.size + 1, 2, none⟩ = some (.int .i64 c1.session) := hCc 2 _ rfl
      have x3 : wx.cell? ⟨w.heap.size + 1, 3, none⟩ = some (.int .i64 c1.seq) := hCc 3 _ rfl
      have x4 : wx.cell? ⟨w.heap.size + 1, 4, none⟩ = some (.int .i64 c1.acked) := hCc 4 _ rfl
      have x5 : wx.cell? ⟨w.heap.size + 1, 5, none⟩ = some (.int .i64 c1.op.kind) := hCc 5 _ rfl
      have x6 : wx.cell? ⟨w.heap.size + 1, 6, none⟩ = some (.string ⟨c1.op.a.toArray⟩) := hCc 6 _ rfl
      have x7 : wx.cell? ⟨w.heap.size + 1, 7, none⟩ = some (.string ⟨c1.op.b.toArray⟩) := hCc 7 _ rfl
      have x8 : wx.cell? ⟨w.heap.size + 1, 8, none⟩ = some (.int .i64 c1.op.n) := hCc 8 _ rfl
      have f0 := hRf 0; have f1 := hRf 1; have f2 := hRf 2; have f3 := hRf 3; have f4 := hRf 4; have f5 := hRf 5; have f6 := hRf 6; have f7 := hRf 7; have f8 := hRf 8
      have HRC := Lib.hid hRc
      have HRF := Lib.hid hRf
      have HCC := Lib.hid hCc
      clear hRc hRf hCc
      cases t with
      | cons d q =>
        have HF := Lib.hid (HW.out.trans (show _ = (noCommand, (4 : Int)) from if_pos (by simp)))
        go_wp2
        refine bodyPost_ret (v := .tuple #[valCommand noCommand, .int .i64 4]) (by simp [results, Tryz.results12, go_sem, valCommand, noCommand, noOp, y0, y1, y2, y3, y4, y5, y6, y7, y8]) rfl ⟨by rw [HF.out], ?_⟩
        repeat (first | with_reducible exact hbw | with_reducible refine below_set ?_ (Nat.le_refl _) _ _)
      | nil =>
        have HW2 := Lib.hid (HW.out.trans (show _ = (if cmdCheck c1 ≠ 0 then (noCommand, cmdCheck c1) else (c1, (0 : Int))) from if_neg (by simp)))
        clear HW
        have HB := Lib.hid hbw
        clear hbw
        go_wp2_with fail
        refine (cmdCheck_calls c1 _).mono ?_; rintro e w3 ⟨rfl, hb3⟩
        have hb03 := below_step HB.out hb3
        have hCc : ∀ (j : Nat) (u : Value), (cmdCells c1)[j]? = some u → w3.cell? ⟨w.heap.size + 1, j, none⟩ = some u := fun j u hu => cell_keep (HCC.out j u hu) (hb3.block _ hsz)
        have hRc : ∀ (j : Nat) (u : Value), (cmdCells noCommand)[j]? = some u → w3.cell? ⟨w.heap.size, j, none⟩ = some u := fun j u hu => cell_keep (HRC.out j u hu) (hb3.block _ (by show w.heap.size < _; omega))
        have hRf : ∀ j, w3.frozen? ⟨w.heap.size, j, none⟩ = false := fun j => (World.frozen?_of_block (a := ⟨w.heap.size, j, none⟩) (hb3.block _ (by show w.heap.size < _; omega))).trans (HRF.out j)
        clear y0 y1 y2 y3 y4 y5 y6 y7 y8 x0 x1 x2 x3 x4 x5 x6 x7 x8 f0 f1 f2 f3 f4 f5 f6 f7 f8 hb3
        have y0 : w3.cell? ⟨w.heap.size, 0, none⟩ = some (.int .i64 0) := hRc 0 _ rfl
        have y1 : w3.cell? ⟨w.heap.size, 1, none⟩ = some (.int .i64 0) := hRc 1 _ rfl
        have y2 : w3.cell? ⟨w.heap.size, 2, none⟩ = some (.int .i64 0) := hRc 2 _ rfl
        have y3 : w3.cell? ⟨w.heap.size, 3, none⟩ = some (.int .i64 0) := hRc 3 _ rfl
        have y4 : w3.cell? ⟨w.heap.size, 4, none⟩ = some (.int .i64 0) := hRc 4 _ rfl
        have y5 : w3.cell? ⟨w.heap.size, 5, none⟩ = some (.int .i64 0) := hRc 5 _ rfl
        have y6 : w3.cell? ⟨w.heap.size, 6, none⟩ = some (.string ⟨#[]⟩) := hRc 6 _ rfl
        have y7 : w3.cell? ⟨w.heap.size, 7, none⟩ = some (.string ⟨#[]⟩) := hRc 7 _ rfl
        have y8 : w3.cell? ⟨w.heap.size, 8, none⟩ = some (.int .i64 0) := hRc 8 _ rfl
        have x0 : w3.cell? ⟨w.heap.size + 1, 0, none⟩ = some (.int .i64 c1.kind) := hCc 0 _ rfl
        have x1 : w3.cell? ⟨w.heap.size + 1, 1, none⟩ = some (.int .i64 c1.client) := hCc 1 _ rfl
        have x2 : w3.cell? ⟨w.heap.size + 1, 2, none⟩ = some (.int .i64 c1.session) := hCc 2 _ rfl
        have x3 : w3.cell? ⟨w.heap.size + 1, 3, none⟩ = some (.int .i64 c1.seq) := hCc 3 _ rfl
        have x4 : w3.cell? ⟨w.heap.size + 1, 4, none⟩ = some (.int .i64 c1.acked) := hCc 4 _ rfl
        have x5 : w3.cell? ⟨w.heap.size + 1, 5, none⟩ = some (.int .i64 c1.op.kind) := hCc 5 _ rfl
        have x6 : w3.cell? ⟨w.heap.size + 1, 6, none⟩ = some (.string ⟨c1.op.a.toArray⟩) := hCc 6 _ rfl
        have x7 : w3.cell? ⟨w.heap.size + 1, 7, none⟩ = some (.string ⟨c1.op.b.toArray⟩) := hCc 7 _ rfl
        have x8 : w3.cell? ⟨w.heap.size + 1, 8, none⟩ = some (.int .i64 c1.op.n) := hCc 8 _ rfl
        have f0 := hRf 0; have f1 := hRf 1; have f2 := hRf 2; have f3 := hRf 3; have f4 := hRf 4; have f5 := hRf 5; have f6 := hRf 6; have f7 := hRf 7; have f8 := hRf 8
        clear hRc hRf hCc
        by_cases he : cmdCheck c1 = 0
        · have heb : (cmdCheck c1 != 0) = false := by simpa using he
          have HF := Lib.hid (HW2.out.trans (if_neg (by simp [he])))
          clear HW2 he
          go_wp2
          refine bodyPost_ret (v := .tuple #[valCommand c1, .int .i64 0]) (by simp [results, Tryz.results12, go_sem, valCommand, y0, y1, y2, y3, y4, y5, y6, y7, y8]) rfl ⟨by rw [HF.out], ?_⟩
          repeat (first | with_reducible exact hb03 | with_reducible refine below_set ?_ (Nat.le_refl _) _ _)
        · have heb : (cmdCheck c1 != 0) = true := by simpa using he
          have HF := Lib.hid (HW2.out.trans (if_pos he))
          clear HW2 he
          go_wp2
          refine bodyPost_ret (v := .tuple #[valCommand noCommand, .int .i64 (cmdCheck c1)]) (by simp [results, Tryz.results12, go_sem, valCommand, noCommand, noOp, y0, y1, y2, y3, y4, y5, y6, y7, y8]) rfl ⟨by rw [HF.out], ?_⟩
          repeat (first | with_reducible exact hb03 | with_reducible refine below_set ?_ (Nat.le_refl _) _ _)
end Go.Proofs.YtkefgapnghnjjaaGreatDoor
