/- A part of the proof, laid together from: CmdD, LogA, CloneStr, LogB. -/
import Derived.Test.YtkefgapnghnjjaaGreatDoorPa19
import Derived.Test.YtkefgapnghnjjaaGreatDoorPa18
import Derived.Test.YtkefgapnghnjjaaGreatDoorPa08
import Derived.Test.YtkefgapnghnjjaaGreatDoorRows
import Derived.Test.YtkefgapnghnjjaaGreatDoorPa07
import Derived.Test.YtkefgapnghnjjaaGreatDoorPa01
import Derived.WalkLawsBesides
import Derived.KernelRfl
import Derived.Test.YtkefgapnghnjjaaGreatDoorPa09
import Derived.Deep.RegionLaw
import Derived.BigQuiet
import Derived.Deep.DeepCutAuto
import Derived.Deep.QuietTactic
set_option linter.unusedSimpArgs false
set_option linter.unusedVariables false
namespace Go.Proofs.YtkefgapnghnjjaaGreatDoor
open Go.RowKit Go.Tk
set_option maxRecDepth 100000 in
set_option maxHeartbeats 1600000 in
theorem decode_calls (s : List UInt8) (w : World) (hs : s.length ≤ 1000000) :
    Calls Tryz.prog 12 #[.string ⟨s.toArray⟩] w fun e w' => e = .returned (.tuple #[valCommand (cmdDecode s).1, .int .i64 (cmdDecode s).2]) ∧ Below w.heap.size w w' := by
  by_cases h5 : 5000 < s.length
  · have HV := Lib.hid (show cmdDecode s = (noCommand, 1) by rw [cmdDecode, if_pos h5])
    go_enter Tryz.func12, Tryz.ntmps12
    go_wp2
    refine bodyPost_ret (v := .tuple #[valCommand noCommand, .int .i64 1]) (by simp [results, Tryz.results12, go_sem, valCommand, noCommand, noOp]) rfl ⟨by rw [HV.out], ?_⟩
    repeat (first | with_reducible exact below_alloc w _ | with_reducible refine below_set ?_ (Nat.le_refl _) _ _)
  match s, hs, h5 with
  | [], _, _ =>
    have HV := Lib.hid (show cmdDecode [] = (noCommand, 5) from rfl)
    go_enter Tryz.func12, Tryz.ntmps12
    go_wp2
    refine bodyPost_ret (v := .tuple #[valCommand noCommand, .int .i64 5]) (by simp [results, Tryz.results12, go_sem, valCommand, noCommand, noOp]) rfl ⟨by rw [HV.out], ?_⟩
    repeat (first | with_reducible exact below_alloc w _ | with_reducible refine below_set ?_ (Nat.le_refl _) _ _)
  | [a], _, _ =>
    have HV := Lib.hid (show cmdDecode [a] = (noCommand, 5) from rfl)
    go_enter Tryz.func12, Tryz.ntmps12
    go_wp2
    refine bodyPost_ret (v := .tuple #[valCommand noCommand, .int .i64 5]) (by simp [results, Tryz.results12, go_sem, valCommand, noCommand, noOp]) rfl ⟨by rw [HV.out], ?_⟩
    repeat (first | with_reducible exact below_alloc w _ | with_reducible refine below_set ?_ (Nat.le_refl _) _ _)
  | a :: b :: r, hs, h5 =>
    have hl : r.length + 2 ≤ 5000 := by simp at h5; omega
    have hx2 : (a = 2) ↔ (a.toNat : Int) = 2 := ⟨fun e => by rw [e]; rfl, fun e => UInt8.toNat_inj.1 (by have e2 : (2 : UInt8).toNat = 2 := rfl; omega)⟩
    have HV : Hid (cmdDecode (a :: b :: r) = if (a.toNat : Int) = 2 then (if (cmdBody ⟨(a.toNat : Int), (b.toNat : Int), 0, 0, 0, noOp⟩ r).2.2 ≠ 0 then (noCommand, (cmdBody ⟨(a.toNat : Int), (b.toNat : Int), 0, 0, 0, noOp⟩ r).2.2)
        else cmdLast (cmdBody ⟨(a.toNat : Int), (b.toNat : Int), 0, 0, 0, noOp⟩ r).1 (cmdBody ⟨(a.toNat : Int), (b.toNat : Int), 0, 0, 0, noOp⟩ r).2.1) else cmdLast ⟨(a.toNat : Int), (b.toNat : Int), 0, 0, 0, noOp⟩ r) := by
      show _ = _
      rw [cmdDecode, if_neg (by simp; omega), if_neg (by simp)]
      simp only [List.getD_cons_zero, List.getD_cons_succ, List.drop_succ_cons, List.drop_zero, hx2]
    clear h5 hs hx2
    have i0 : ∀ wx : World, (Instr.index 9 (.string ⟨(a :: b :: r).toArray⟩) (.int .i64 0)).run Tryz.prog wx = .ok (.int .u8 a.toNat) wx := fun wx => by
      rw [run_index_string wx _ _ _ _ Tryz.underlying9, dif_pos ⟨by decide, by simp [ByteArray.size]; omega⟩]; rfl
    have i1 : ∀ wx : World, (Instr.index 9 (.string ⟨(a :: b :: r).toArray⟩) (.int .i64 1)).run Tryz.prog wx = .ok (.int .u8 b.toNat) wx := fun wx => by
      rw [run_index_string wx _ _ _ _ Tryz.underlying9, dif_pos ⟨by decide, by simp [ByteArray.size]; omega⟩]; rfl
    have hdr : List.drop 2 (a :: b :: r) = r := rfl
    have hgt : ¬ 5000 < (a :: b :: r).length := by simp; omega
    have hge : ¬ (a :: b :: r).length < 2 := by simp
    have ha := a.toNat_lt
    have hb := b.toNat_lt
    obtain ⟨x, hx, hx0, hx1⟩ : ∃ x : Int, (a.toNat : Int) = x ∧ 0 ≤ x ∧ x ≤ 255 := ⟨_, rfl, by omega, by omega⟩
    obtain ⟨y, hy, hy0, hy1⟩ : ∃ x : Int, (b.toNat : Int) = x ∧ 0 ≤ x ∧ x ≤ 255 := ⟨_, rfl, by omega, by omega⟩
    rw [hx, hy] at HV
    rw [hx] at i0
    rw [hy] at i1
    clear hx hy ha hb
    generalize a :: b :: r = s at *
    go_enter Tryz.func12, Tryz.ntmps12
    go_wp2
    go_region
    refine then_abs (fun wx => CmdAt wx w.heap.size noCommand ∧ CmdAt wx (w.heap.size + 1) ⟨x, y, 0, 0, 0, noOp⟩ ∧ Below w.heap.size w wx ∧ w.heap.size + 1 < wx.heap.size) ?_ ?_
    · obtain ⟨g1, g2, g3, g4, g5⟩ := fresh2 (Below.drew (Below.refl (w.heap.size + 2) ((w.alloc (.cells (cmdCells noCommand).toArray 45)).alloc (.cells (cmdCells ⟨x, y, 0, 0, 0, noOp⟩).toArray 45))))
      exact ⟨CmdAt.of rfl g1 g2, CmdAt.of rfl g3 g4, Below.drew (below_alloc2 w _ _), g5⟩
    rintro wx ⟨hR, hC, hbw, hsz⟩
    clear i0 i1
    have hbs := hbw.size
    by_cases h2 : x = 2
    case' pos =>
      subst h2
      have HV2 := Lib.hid (HV.out.trans (if_pos rfl))
      have HR := Lib.hid hR
      have HB := Lib.hid hbw
      have HC := Lib.hid (body_calls ⟨2, y, 0, 0, 0, noOp⟩ r (w.heap.size + 1) wx hC (by omega))
      have k0 : wx.cell? ⟨w.heap.size + 1, 0, none⟩ = some (.int .i64 2) := hC.1 0 _ rfl
      clear HV hC hR hbw
      go_wp2_with fail
      refine HC.out.mono ?_; rintro e w2 ⟨rfl, hg, c1, hc', hce⟩
      have hR := HR.out.keep (hg.block _ (by omega) (by simp))
      have hbw := HB.out.grown hg (by omega) (fun k hk => by cases hk; omega)
      have hsz2 : w.heap.size + 1 < w2.heap.size := by have := hg.size; omega
      clear HC hg HR HB k0 hsz hbs
      generalize cmdBody ⟨2, y, 0, 0, 0, noOp⟩ r = res at hce HV2 ⊢
      obtain ⟨c2, t, e0⟩ := res
      simp only at hce HV2
      by_cases he : e0 = 0
      case neg =>
        have hF := Lib.hid (HV2.out.trans (if_pos he))
        have heb : (e0 != 0) = true := by simpa using he
        clear HV2 he hce hc'
        obtain ⟨hRc, hRf⟩ := hR
        have y0 : w2.cell? ⟨w.heap.size, 0, none⟩ = some (.int .i64 0) := hRc 0 _ rfl
        have y1 : w2.cell? ⟨w.heap.size, 1, none⟩ = some (.int .i64 0) := hRc 1 _ rfl
        have y2 : w2.cell? ⟨w.heap.size, 2, none⟩ = some (.int .i64 0) := hRc 2 _ rfl
        have y3 : w2.cell? ⟨w.heap.size, 3, none⟩ = some (.int .i64 0) := hRc 3 _ rfl
        have y4 : w2.cell? ⟨w.heap.size, 4, none⟩ = some (.int .i64 0) := hRc 4 _ rfl
        have y5 : w2.cell? ⟨w.heap.size, 5, none⟩ = some (.int .i64 0) := hRc 5 _ rfl
        have y6 : w2.cell? ⟨w.heap.size, 6, none⟩ = some (.string ⟨#[]⟩) := hRc 6 _ rfl
        have y7 : w2.cell? ⟨w.heap.size, 7, none⟩ = some (.string ⟨#[]⟩) := hRc 7 _ rfl
        have y8 : w2.cell? ⟨w.heap.size, 8, none⟩ = some (.int .i64 0) := hRc 8 _ rfl
        have f0 := hRf 0; have f1 := hRf 1; have f2 := hRf 2; have f3 := hRf 3; have f4 := hRf 4; have f5 := hRf 5; have f6 := hRf 6; have f7 := hRf 7; have f8 := hRf 8
        clear hRc hRf
        go_wp2
        refine bodyPost_ret (v := .tuple #[valCommand noCommand, .int .i64 e0]) (by simp [results, Tryz.results12, go_sem, valCommand, noCommand, noOp, y0, y1, y2, y3, y4, y5, y6, y7, y8]) rfl ⟨by rw [hF.out], ?_⟩
        repeat (first | with_reducible exact hbw | with_reducible refine below_set ?_ (Nat.le_refl _) _ _)
      subst he
      obtain rfl := hce rfl
      have HW := Lib.hid (HV2.out.trans (if_neg (by simp)))
      clear HV2 hce
      have hC := hc'
      clear hc'
      have hsz := hsz2
      clear hsz2
      clear hl hgt hge
      rename World => wx
    case' neg =>
      obtain ⟨c1, hc1⟩ : ∃ c1 : CommandD, c1 = ⟨x, y, 0, 0, 0, noOp⟩ := ⟨_, rfl⟩
      have h2b : (c1.kind == 2) = false := by rw [hc1]; simpa using h2
      have HW := Lib.hid (HV.out.trans (if_neg h2))
      rw [← hc1] at HW hC
      obtain ⟨t, ht⟩ : ∃ t, t = r := ⟨_, rfl⟩
      subst ht
      clear HV h2 hbs hl hgt hge hc1
    all_goals
      have hbs := hbw.size
      obtain ⟨hRc, hRf⟩ := hR
      obtain ⟨hCc, -⟩ := hC
      have y0 : wx.cell? ⟨w.heap.size, 0, none⟩ = some (.int .i64 0) := hRc 0 _ rfl
      have y1 : wx.cell? ⟨w.heap.size, 1, none⟩ = some (.int .i64 0) := hRc 1 _ rfl
      have y2 : wx.cell? ⟨w.heap.size, 2, none⟩ = some (.int .i64 0) := hRc 2 _ rfl
      have y3 : wx.cell? ⟨w.heap.size, 3, none⟩ = some (.int .i64 0) := hRc 3 _ rfl
      have y4 : wx.cell? ⟨w.heap.size, 4, none⟩ = some (.int .i64 0) := hRc 4 _ rfl
      have y5 : wx.cell? ⟨w.heap.size, 5, none⟩ = some (.int .i64 0) := hRc 5 _ rfl
      have y6 : wx.cell? ⟨w.heap.size, 6, none⟩ = some (.string ⟨#[]⟩) := hRc 6 _ rfl
      have y7 : wx.cell? ⟨w.heap.size, 7, none⟩ = some (.string ⟨#[]⟩) := hRc 7 _ rfl
      have y8 : wx.cell? ⟨w.heap.size, 8, none⟩ = some (.int .i64 0) := hRc 8 _ rfl
      have x0 : wx.cell? ⟨w.heap.size + 1, 0, none⟩ = some (.int .i64 c1.kind) := hCc 0 _ rfl
      have x1 : wx.cell? ⟨w.heap.size + 1, 1, none⟩ = some (.int .i64 c1.client) := hCc 1 _ rfl
      have x2 : wx.cell? ⟨w.heap.size + 1, 2, none⟩ = some (.int .i64 c1.session) := hCc 2 _ rfl
      have x3 : wx.cell? ⟨w.heap.size + 1, 3, none⟩ = some (.int .i64 c1.seq) := hCc 3 _ rfl
      have x4 : wx.cell? ⟨w.heap.size + 1, 4, none⟩ = some (.int .i64 c1.acked) := hCc 4 _ rfl
      have x5 : wx.cell? ⟨w.heap.size + 1, 5, none⟩ = some (.int .i64 c1.op.kind) := hCc 5 _ rfl
      have x6 : wx.cell? ⟨w.heap.size + 1, 6, none⟩ = some (.string ⟨c1.op.a.toArray⟩) := hCc 6 _ rfl
      have x7 : wx.cell? ⟨w.heap.size + 1, 7, none⟩ = some (.string ⟨c1.op.b.toArray⟩) := hCc 7 _ rfl
      have x8 : wx.cell? ⟨w.heap.size + 1, 8, none⟩ = some (.int .i64 c1.op.n) := hCc 8 _ rfl
      have f0 := hRf 0; have f1 := hRf 1; have f2 := hRf 2; have f3 := hRf 3; have f4 := hRf 4; have f5 := hRf 5; have f6 := hRf 6; have f7 := hRf 7; have f8 := hRf 8
      have HRC := Lib.hid hRc
      have HRF := Lib.hid hRf
      have HCC := Lib.hid hCc
      clear hRc hRf hCc
      cases t with
      | cons d q =>
        have HF := Lib.hid (HW.out.trans (show _ = (noCommand, (4 : Int)) from if_pos (by simp)))
        go_wp2
        refine bodyPost_ret (v := .tuple #[valCommand noCommand, .int .i64 4]) (by simp [results, Tryz.results12, go_sem, valCommand, noCommand, noOp, y0, y1, y2, y3, y4, y5, y6, y7, y8]) rfl ⟨by rw [HF.out], ?_⟩
        repeat (first | with_reducible exact hbw | with_reducible refine below_set ?_ (Nat.le_refl _) _ _)
      | nil =>
        have HW2 := Lib.hid (HW.out.trans (show _ = (if cmdCheck c1 ≠ 0 then (noCommand, cmdCheck c1) else (c1, (0 : Int))) from if_neg (by simp)))
        clear HW
        have HB := Lib.hid hbw
        clear hbw
        go_wp2_with fail
        refine (cmdCheck_calls c1 _).mono ?_; rintro e w3 ⟨rfl, hb3⟩
        have hb03 := below_step HB.out hb3
        have hCc : ∀ (j : Nat) (u : Value), (cmdCells c1)[j]? = some u → w3.cell? ⟨w.heap.size + 1, j, none⟩ = some u := fun j u hu => cell_keep (HCC.out j u hu) (hb3.block _ hsz)
        have hRc : ∀ (j : Nat) (u : Value), (cmdCells noCommand)[j]? = some u → w3.cell? ⟨w.heap.size, j, none⟩ = some u := fun j u hu => cell_keep (HRC.out j u hu) (hb3.block _ (by show w.heap.size < _; omega))
        have hRf : ∀ j, w3.frozen? ⟨w.heap.size, j, none⟩ = false := fun j => (World.frozen?_of_block (a := ⟨w.heap.size, j, none⟩) (hb3.block _ (by show w.heap.size < _; omega))).trans (HRF.out j)
        clear y0 y1 y2 y3 y4 y5 y6 y7 y8 x0 x1 x2 x3 x4 x5 x6 x7 x8 f0 f1 f2 f3 f4 f5 f6 f7 f8 hb3
        have y0 : w3.cell? ⟨w.heap.size, 0, none⟩ = some (.int .i64 0) := hRc 0 _ rfl
        have y1 : w3.cell? ⟨w.heap.size, 1, none⟩ = some (.int .i64 0) := hRc 1 _ rfl
        have y2 : w3.cell? ⟨w.heap.size, 2, none⟩ = some (.int .i64 0) := hRc 2 _ rfl
        have y3 : w3.cell? ⟨w.heap.size, 3, none⟩ = some (.int .i64 0) := hRc 3 _ rfl
        have y4 : w3.cell? ⟨w.heap.size, 4, none⟩ = some (.int .i64 0) := hRc 4 _ rfl
        have y5 : w3.cell? ⟨w.heap.size, 5, none⟩ = some (.int .i64 0) := hRc 5 _ rfl
        have y6 : w3.cell? ⟨w.heap.size, 6, none⟩ = some (.string ⟨#[]⟩) := hRc 6 _ rfl
        have y7 : w3.cell? ⟨w.heap.size, 7, none⟩ = some (.string ⟨#[]⟩) := hRc 7 _ rfl
        have y8 : w3.cell? ⟨w.heap.size, 8, none⟩ = some (.int .i64 0) := hRc 8 _ rfl
        have x0 : w3.cell? ⟨w.heap.size + 1, 0, none⟩ = some (.int .i64 c1.kind) := hCc 0 _ rfl
        have x1 : w3.cell? ⟨w.heap.size + 1, 1, none⟩ = some (.int .i64 c1.client) := hCc 1 _ rfl
        have x2 : w3.cell? ⟨w.heap.size + 1, 2, none⟩ = some (.int .i64 c1.session) := hCc 2 _ rfl
        have x3 : w3.cell? ⟨w.heap.size + 1, 3, none⟩ = some (.int .i64 c1.seq) := hCc 3 _ rfl
        have x4 : w3.cell? ⟨w.heap.size + 1, 4, none⟩ = some (.int .i64 c1.acked) := hCc 4 _ rfl
        have x5 : w3.cell? ⟨w.heap.size + 1, 5, none⟩ = some (.int .i64 c1.op.kind) := hCc 5 _ rfl
        have x6 : w3.cell? ⟨w.heap.size + 1, 6, none⟩ = some (.string ⟨c1.op.a.toArray⟩) := hCc 6 _ rfl
        have x7 : w3.cell? ⟨w.heap.size + 1, 7, none⟩ = some (.string ⟨c1.op.b.toArray⟩) := hCc 7 _ rfl
        have x8 : w3.cell? ⟨w.heap.size + 1, 8, none⟩ = some (.int .i64 c1.op.n) := hCc 8 _ rfl
        have f0 := hRf 0; have f1 := hRf 1; have f2 := hRf 2; have f3 := hRf 3; have f4 := hRf 4; have f5 := hRf 5; have f6 := hRf 6; have f7 := hRf 7; have f8 := hRf 8
        clear hRc hRf hCc
        by_cases he : cmdCheck c1 = 0
        · have heb : (cmdCheck c1 != 0) = false := by simpa using he
          have HF := Lib.hid (HW2.out.trans (if_neg (by simp [he])))
          clear HW2 he
          go_wp2
          refine bodyPost_ret (v := .tuple #[valCommand c1, .int .i64 0]) (by simp [results, Tryz.results12, go_sem, valCommand, y0, y1, y2, y3, y4, y5, y6, y7, y8]) rfl ⟨by rw [HF.out], ?_⟩
          repeat (first | with_reducible exact hb03 | with_reducible refine below_set ?_ (Nat.le_refl _) _ _)
        · have heb : (cmdCheck c1 != 0) = true := by simpa using he
          have HF := Lib.hid (HW2.out.trans (if_pos he))
          clear HW2 he
          go_wp2
          refine bodyPost_ret (v := .tuple #[valCommand noCommand, .int .i64 (cmdCheck c1)]) (by simp [results, Tryz.results12, go_sem, valCommand, noCommand, noOp, y0, y1, y2, y3, y4, y5, y6, y7, y8]) rfl ⟨by rw [HF.out], ?_⟩
          repeat (first | with_reducible exact hb03 | with_reducible refine below_set ?_ (Nat.le_refl _) _ _)
end Go.Proofs.YtkefgapnghnjjaaGreatDoor

namespace Go.Tk
open Go Go.RowKit
theorem logCheck_mid {l : LogD} (h1 : ¬ (l.base < 0 ∨ 1073741424 < l.base)) (h2 : ¬ 400 < l.entries.length) : logCheck l = firstErr (logErr l.entries) l.entries.length := by
  rw [logCheck, if_neg h1, if_neg h2]
end Go.Tk
namespace Go.Proofs.YtkefgapnghnjjaaGreatDoor
open Go.RowKit Go.Tk
set_option maxRecDepth 100000 in
set_option maxHeartbeats 1600000 in
theorem logCheck_calls (l : LogD) (v : Value) (S : Nat → Prop) (w : World) (h : SlR 1 rStr w v l.entries S) (hs : ∀ s ∈ l.entries, s.length ≤ 1000000) :
    Calls Tryz.prog 71 #[.agg #[.int .i64 l.base, v]] w fun e w' => e = .returned (.int .i64 (logCheck l)) ∧ Below w.heap.size w w' := by
  obtain ⟨a, cap, hv, hl, hm, -, -⟩ := id h
  subst hv
  unfold maxLen at hm
  have HS := Lib.hid h
  have HL := Lib.hid hs
  clear h hs
  by_cases h1 : l.base < 0 ∨ 1073741424 < l.base
  · have HV := Lib.hid (show logCheck l = 2 by rw [logCheck, if_pos h1])
    rcases (show l.base < 0 ∨ (0 ≤ l.base ∧ 1073741424 < l.base) by omega) with h1 | h1
    all_goals
      go_enter Tryz.func71, Tryz.ntmps71
      go_wp2
      go_ret
      exact ⟨by rw [HV.out]; rfl, below_alloc w _⟩
  by_cases h2 : 400 < l.entries.length
  · have HV := Lib.hid (show logCheck l = 1 by rw [logCheck, if_neg h1, if_pos h2])
    have h10 : 0 ≤ l.base ∧ l.base ≤ 1073741424 := by omega
    clear h1
    go_enter Tryz.func71, Tryz.ntmps71
    go_wp2
    go_ret
    exact ⟨by rw [HV.out]; rfl, below_alloc w _⟩
  have HV := Lib.hid (logCheck_mid h1 h2)
  have h10 : 0 ≤ l.base ∧ l.base ≤ 1073741424 := by omega
  clear h1
  go_enter Tryz.func71, Tryz.ntmps71
  go_wp2
  go_loopw [4, 5, 6, 22] (fun _ _ _ i wr => ∃ n : Nat, n ≤ l.entries.length ∧ i = .int .i64 n ∧ Hid (firstErr (logErr l.entries) n = 0) ∧ Hid (Below w.heap.size w wr))
    (fun _ _ _ i _ => l.entries.length - (intOf i).toNat)
  case atStart => exact ⟨0, by omega, rfl, rfl, below_alloc w _⟩
  case round =>
    obtain ⟨n, hn, rfl, hf, hb⟩ := hrel
    by_cases hlt : n < l.entries.length
    case neg =>
      have HF := Lib.hid (show logCheck l = 0 by rw [HV.out, ← hf.out]; congr 1; omega)
      go_wp2
      go_ret
      exact ⟨by rw [HF.out]; rfl, hb.out⟩
    obtain ⟨b, off, cap', row, hv, hSb, hrow, hcells⟩ := (HS.out.below rStr_ok (by decide) hb.out).row n hlt
    simp only [Value.slice.injEq] at hv
    obtain ⟨rfl, _, rfl⟩ := hv
    obtain rfl := hrow
    have q0 := hcells 0 _ rfl
    simp only [Nat.add_zero, Nat.mul_one] at q0
    clear hcells
    have hsz := HL.out l.entries[n] (List.getElem_mem hlt)
    have hle : logErr l.entries n = decErr l.entries[n] := by rw [logErr]; congr 1; simp [List.getD, hlt]
    have HB : Hid (decErr l.entries[n] ≠ 0 → logCheck l = decErr l.entries[n]) := fun hbad => by
      rw [HV.out, ← hle]; exact firstErr_eq hf.out (by rw [hle]; exact hbad) _ hlt
    have HG : Hid (decErr l.entries[n] = 0 → firstErr (logErr l.entries) (n + 1) = 0) := fun hok => firstErr_succ hf.out (by rw [hle]; exact hok)
    clear hle hf
    generalize l.entries[n] = s at *
    go_wp2_with fail
    refine (decode_calls s _ hsz).mono ?_
    rintro e w2 ⟨rfl, hb2⟩
    have HB2 := Lib.hid (below_step hb.out hb2)
    rw [decErr] at HB HG
    generalize cmdDecode s = d at *
    obtain ⟨d, e⟩ := d
    rw [valCommand]
    by_cases he : e = 0
    · subst he
      have HG2 := Lib.hid (HG.out rfl)
      go_wp2
      go_roundw
      case rel => exact ⟨n + 1, by omega, by go_num, HG2, Lib.hid (below_step HB2.out (below_alloc w2 _))⟩
      case measure => simp [intOf]; omega
    · have HG2 := Lib.hid (HB.out he)
      have heb : (e != 0) = true := by simpa using he
      go_wp2
      go_ret
      exact ⟨by rw [HG2.out]; rfl, below_step HB2.out (below_alloc w2 _)⟩
set_option maxRecDepth 100000 in
theorem logLast_calls (l : LogD) (v : Value) (S : Nat → Prop) (w : World) (h : SlR 1 rStr w v l.entries S) (hb : 0 ≤ l.base ∧ l.base ≤ 1000000000000) (hn : l.entries.length ≤ 1000000) :
    Calls Tryz.prog 68 #[.agg #[.int .i64 l.base, v]] w fun e w' => e = .returned (.int .i64 (logLast l)) ∧ Below w.heap.size w w' := by
  obtain ⟨a, cap, hv, hl, hm, -, -⟩ := id h
  subst hv
  unfold maxLen at hm
  clear h
  go_enter Tryz.func68, Tryz.ntmps68
  go_wp2
  go_ret
  exact ⟨rfl, below_alloc w _⟩
end Go.Proofs.YtkefgapnghnjjaaGreatDoor

namespace Go.Proofs.YtkefgapnghnjjaaGreatDoor
open Go.RowKit Go.Tk
theorem Tryz.tycStr : SliceTy Tryz.prog 26 9 1 16 := ⟨Tryz.underlying26, by kernel_rfl, by decide⟩
set_option maxRecDepth 100000 in
set_option maxHeartbeats 400000 in
theorem cloneStr_calls {α : Type} {R : Rel α} (hR : RelOk R 1) (w : World) (v : Value) (l : List α) (S : Nat → Prop) (h : SlR 1 R w v l S) (hn : l.length ≤ 1000000) :
    Calls Tryz.prog 118 #[v] w fun e w' => ∃ v', e = .returned v' ∧ OwR 9 1 R w' v' l S ∧ Below w.heap.size w w' ∧ (∀ g, v'.ownBlock = some g → w.heap.size ≤ g) := by
  obtain ⟨a, cap, hv, hl, hm, hnil, hr⟩ := id h
  subst hv
  have hm' := hm
  unfold maxLen at hm'
  cases a with
  | none =>
    have h0 := hnil rfl
    subst h0
    have hl0 : l = [] := List.eq_nil_of_length_eq_zero (by omega)
    subst hl0
    have he := Lib.run_eql_slice_nil (P := Tryz.prog) (t := 26)
    go_enter Tryz.func118, Tryz.ntmps118
    go_wp2
    go_ret
    exact ⟨_, rfl, OwR.nil w S, Below.refl _ _, by simp [Value.ownBlock]⟩
  | some a =>
    obtain ⟨a', cap', rows, hv, -, -, hrl, hrel, hcells⟩ := h.rows hR (by decide)
    simp only [Value.slice.injEq] at hv
    obtain ⟨rfl, -, rfl⟩ := hv
    have hlen := OwR.rowsLen (E := 9) (v := .slice (some a) l.length cap) hR hrl hrel
    have hone := OwR.cellsOne (E := 9) hR hrl hrel
    have hfl : rows.flatten.length = l.length * 1 := by
      have : ∀ (rs : List (List Value)), (∀ r ∈ rs, r.length = 1) → rs.flatten.length = rs.length * 1 := by
        intro rs
        induction rs with
        | nil => intro _; rfl
        | cons r rs ih => intro hk; rw [List.flatten_cons, List.length_append, hk r (by simp), ih (fun r hr => hk r (by simp [hr]))]; simp; omega
      rw [this rows hlen, hrl]
    have hown0 : (w.alloc (.cells #[] 9)).ownsRow 0 9 1 (.slice (some ⟨w.heap.size, 0, none⟩) 0 0) 0 [] :=
      ⟨rfl, .inr ⟨w.heap.size, 0, #[], rfl, Nat.zero_le _, heap_alloc_new w _, Nat.le_refl _, by decide, rfl, rfl⟩⟩
    obtain ⟨v', w', hrun, g1, g2, g3⟩ := run_append_tk (P := Tryz.prog) (ty := 26) (w.alloc (.cells #[] 9)) Tryz.tycStr _ 0 [] hown0 a l.length cap rows.flatten hfl (fun j u hu => by
      obtain ⟨b, off, ha, _, hc⟩ := hcells j u hu
      simp only [Option.some.injEq] at ha
      subst ha
      have hlt := World.block_lt_of_cell? w _ hc
      rw [Addr.add_lit, World.cell?_alloc_past _ _ _ hlt]; exact hc) hone (by omega)
    have hvb : ∀ g, v'.ownBlock = some g → w.heap.size ≤ g := by
      intro g hg
      rcases g3 with e | ⟨g', e, h⟩
      · rw [e] at hg; cases hg; exact Nat.le_refl _
      · rw [e] at hg; cases hg; simp at h; omega
    have hb : Below w.heap.size w w' := ((Below.refl _ _).alloc (Nat.le_refl _) _).grown g2 (by simp) (fun k hk => by cases hk; exact Nat.le_refl _)
    have hfin : OwR 9 1 R w' v' l S := by
      refine ⟨rows, hrl, by simpa using g1, fun i r x hr hx => hR.move (hrel i r x hr hx) fun b hs hlt => ⟨hb.block b hlt, hs, ?_⟩⟩
      intro hbg
      have := hvb b hbg.symm
      omega
    have HF := Lib.hid hfin
    have HV := Lib.hid hvb
    have he := Lib.run_eql_slice_nil (P := Tryz.prog) (t := 26)
    clear hfin hvb g1 g2 g3 hcells hrel hlen hone hfl hown0 hr h hrl
    go_enter Tryz.func118, Tryz.ntmps118
    go_wp2_with (at_builtin; refine wpList_append_run rfl _ _ _ _ rfl _ _ rfl rfl hrun ?_)
    go_ret
    exact ⟨v', rfl, HF.out, hb, HV.out⟩
end Go.Proofs.YtkefgapnghnjjaaGreatDoor

namespace Go.Tk
open Go Go.RowKit
theorem rStr_any' (w : World) (cs : List Value) (x : List UInt8) (S S' : Nat → Prop) (h : rStr w cs x S) : rStr w cs x S' := h
theorem OwR.strRead {E : Nat} {w : World} {v : Value} {l : List (List UInt8)} {S S' : Nat → Prop} (h : OwR E 1 rStr w v l S) (hS : ∀ g, v.ownBlock = some g → S' g) : SlR 1 rStr w v l S' :=
  (h.forget rStr_any').read rStr_ok (by decide) hS
end Go.Tk
namespace Go.Proofs.YtkefgapnghnjjaaGreatDoor
open Go.RowKit Go.Tk
set_option linter.unusedSimpArgs false in
set_option maxRecDepth 100000 in
set_option maxHeartbeats 1600000 in
theorem logCopy_calls (l : LogD) (v : Value) (S : Nat → Prop) (w : World) (h : SlR 1 rStr w v l.entries S) (hlen : l.entries.length ≤ 1000000) :
    Calls Tryz.prog 109 #[.agg #[.int .i64 l.base, v]] w fun e w' => ∃ v', e = .returned (.agg #[.int .i64 l.base, v']) ∧ OwR 9 1 rStr w' v' l.entries (fun _ => False) ∧ (∀ g, v'.ownBlock = some g → w.heap.size ≤ g) ∧ Below w.heap.size w w' := by
  have hone := h.oneCell
  obtain ⟨a, cap, hv, hl, hm, -, -⟩ := id h
  subst hv
  have HS := Lib.hid h
  clear h
  go_enter Tryz.func109, Tryz.ntmps109
  go_upto_region 1 with (fail)
  refine wp_region_plan 5 (fun wx => Below (w.heap.size + 2) ((w.alloc (.cells #[.int .i64 l.base, .slice a l.entries.length cap] 65)).alloc (.cells #[.int .i64 0, .slice none 0 0] 65)) wx) (fun wx wy => Below wx.heap.size wx wy) [eqV (.pointer (some ⟨w.heap.size, 0, none⟩)), eqV (.int .i64 l.base), eqV (.pointer (some ⟨w.heap.size, 1, none⟩)), eqV (.slice a l.entries.length cap), fun v wx => OwR 9 1 rStr wx v l.entries (fun _ => False) ∧ ∀ g, v.ownBlock = some g → w.heap.size + 2 ≤ g] (by kernel_rfl) (by kernel_rfl) rfl ?hJ ?hJS ?hst ?hobl ?hend
  case hJ => exact Below.drew (Below.refl _ _)
  case hJS =>
    exact fun wx wy h1 h2 => h1.trans (h2.mono (by have := h1.size; rw [size_alloc2] at this; omega))
  case hst => exact planStab_at _ ⟨eqV_stab _, eqV_stab _, eqV_stab _, eqV_stab _, (by rintro v wx wy - h2 ⟨h3, h4⟩; exact ⟨h3.below rStr_ok h2, h4⟩), trivial⟩
  case hobl =>
    simp only [planObls, List.take_succ_cons, List.take_zero, planPut, Act.put, List.setIfInBounds_toArray, List.set_cons_zero, List.set_cons_succ, Nat.reduceAdd, Nat.zero_add]
    refine ⟨?_, ?_, ?_, ?_, ?_, trivial⟩
    · intro vs wx hJ hn K hK
      simp [planNeeds, VAt, eqV, Region.binds] at hn
      simp only [VAt, eqV, List.getD_cons_zero, List.getD_cons_succ, Act.put, List.setIfInBounds_toArray, List.set_cons_zero, List.set_cons_succ, Nat.reduceAdd, Nat.zero_add] at hK
      go_wp2
      exact hK _ _ (Below.refl _ _) rfl
    · intro vs wx hJ hn K hK
      simp [planNeeds, VAt, eqV, Region.binds] at hn
      simp only [VAt, eqV, List.getD_cons_zero, List.getD_cons_succ, Act.put, List.setIfInBounds_toArray, List.set_cons_zero, List.set_cons_succ, Nat.reduceAdd, Nat.zero_add] at hK
      simp only [hn] at hK ⊢
      obtain ⟨hz, -, -, -, -⟩ := fresh2 hJ
      have z0 := hz 0
      clear hz
      go_wp2
      exact hK _ _ (Below.refl _ _) rfl
    · intro vs wx hJ hn K hK
      simp [planNeeds, VAt, eqV, Region.binds] at hn
      simp only [VAt, eqV, List.getD_cons_zero, List.getD_cons_succ, Act.put, List.setIfInBounds_toArray, List.set_cons_zero, List.set_cons_succ, Nat.reduceAdd, Nat.zero_add] at hK
      go_wp2
      exact hK _ _ (Below.refl _ _) rfl
    · intro vs wx hJ hn K hK
      simp [planNeeds, VAt, eqV, Region.binds] at hn
      simp only [VAt, eqV, List.getD_cons_zero, List.getD_cons_succ, Act.put, List.setIfInBounds_toArray, List.set_cons_zero, List.set_cons_succ, Nat.reduceAdd, Nat.zero_add] at hK
      simp only [hn] at hK ⊢
      obtain ⟨hz, -, -, -, -⟩ := fresh2 hJ
      have z1 := hz 1
      clear hz
      go_wp2
      exact hK _ _ (Below.refl _ _) rfl
    · intro vs wx hJ hn K hK
      simp [planNeeds, VAt, eqV, Region.binds] at hn
      simp only [VAt, eqV, List.getD_cons_zero, List.getD_cons_succ, Act.put, List.setIfInBounds_toArray, List.set_cons_zero, List.set_cons_succ, Nat.reduceAdd, Nat.zero_add] at hK
      simp only [hn] at hK ⊢
      have HSX := HS.out.below rStr_ok (by decide) ((below_alloc2 w _ _).trans (hJ.mono (by omega)))
      go_wp2_with fail
      refine (cloneStr_calls rStr_ok wx _ l.entries _ HSX hlen).mono ?_; rintro e w2 ⟨v2, rfl, ho2, hb2, hg2⟩
      have hone2 := ho2.oneCell
      go_wp2
      exact hK _ _ hb2 ⟨ho2.forget rStr_any', fun g hg => Nat.le_trans (by have := hJ.size; rw [size_alloc2] at this; exact this) (hg2 g hg)⟩
  case hend =>
    intro vs wx hJ hv
    simp [planHave, eqV] at hv
    obtain ⟨e0, e1, e2, e3, h4⟩ := hv
    simp only [List.take_succ_cons, List.take_zero, List.drop_succ_cons, List.drop_zero, planPut, Act.put, List.setIfInBounds_toArray, List.set_cons_zero, List.set_cons_succ, Nat.reduceAdd, Nat.zero_add]
    rw [e0, e1, e2, e3]
    clear e0 e1 e2 e3
    obtain ⟨ho4, hg4⟩ := h4
    generalize vs 4 = v4 at *
    obtain ⟨ra, rc, rfl⟩ := ho4.shape
    obtain ⟨-, -, hz, hf, hs⟩ := fresh2 hJ
    have z0 := hz 0
    have z1 := hz 1
    have f0 := hf 0
    have f1 := hf 1
    clear hz hf
    go_wp2
    have hb2 : Below (w.heap.size + 1) wx ((wx.setCell ⟨w.heap.size + 1, 0, none⟩ (.int .i64 l.base)).setCell ⟨w.heap.size + 1, 1, none⟩ (.slice ra l.entries.length rc)) := below_set (below_set (Below.refl _ _) (Nat.le_refl _) 0 _) (Nat.le_refl _) 1 _
    obtain ⟨wf, hwf⟩ : ∃ wf, (wx.setCell ⟨w.heap.size + 1, 0, none⟩ (.int .i64 l.base)).setCell ⟨w.heap.size + 1, 1, none⟩ (.slice ra l.entries.length rc) = wf := ⟨_, rfl⟩
    have p0 : wf.cell? ⟨w.heap.size + 1, 0, none⟩ = some (.int .i64 l.base) := by rw [← hwf]; exact (cell_near (by omega)).trans (World.cell?_setCell_same _ _ _ z0)
    have p1 : wf.cell? ⟨w.heap.size + 1, 1, none⟩ = some (.slice ra l.entries.length rc) := by rw [← hwf]; exact World.cell?_setCell_same _ _ _ ((cell_near (by omega)).trans z1)
    have ho5 : OwR 9 1 rStr wf (.slice ra l.entries.length rc) l.entries (fun _ => False) := by rw [← hwf]; exact ho4.move rStr_ok (fun g hg => (heap_far (by have := hg4 g hg; omega)).trans (heap_far (by have := hg4 g hg; omega))) (fun b hb => hb.elim)
    rw [hwf] at hb2 ⊢
    refine bodyPost_ret (v := .agg #[.int .i64 l.base, .slice ra l.entries.length rc]) (by simp [results, Tryz.results109, go_sem, p0, p1]) rfl ⟨_, rfl, ho5, fun g hg => Nat.le_trans (by omega) (hg4 g hg), ?_⟩
    exact ((below_alloc2 w _ _).trans (hJ.mono (by omega))).trans (hb2.mono (by omega))
end Go.Proofs.YtkefgapnghnjjaaGreatDoor
