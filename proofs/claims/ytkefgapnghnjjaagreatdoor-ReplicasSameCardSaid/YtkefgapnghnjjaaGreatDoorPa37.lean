/- A part of the proof, laid together from: Ready, BSearchKept. -/
import Derived.Test.YtkefgapnghnjjaaGreatDoorPa12
import Derived.Test.YtkefgapnghnjjaaGreatDoorPa35
import Derived.Test.YtkefgapnghnjjaaGreatDoorPa03
import Derived.Test.YtkefgapnghnjjaaGreatDoorPa36
import Derived.Deep.RegionHeld3
import Derived.Deep.RegionLaw
import Derived.Deep.DeepCutAuto
import Derived.Conc.MuLone
import Derived.Test.YtkefgapnghnjjaaGreatDoorRows
import Derived.Test.YtkefgapnghnjjaaGreatDoorPa07
import Derived.Test.YtkefgapnghnjjaaGreatDoorPa01
import Derived.Test.YtkefgapnghnjjaaGreatDoorPa02
import Derived.WalkLawsBesides
import Derived.BigQuiet
import Derived.Deep.QuietTactic
set_option linter.unusedSimpArgs false
set_option linter.unusedVariables false
namespace Go.Tk
open Go Go.RowKit
def RetReady (w : World) (res : List SessionD × ReplyD × Bool × Int) (e : Ending) (w' : World) : Prop :=
  ∃ v', e = .returned (.tuple #[v', .agg #[.int .i64 res.2.1.code, .int .i64 res.2.1.n, .string ⟨res.2.1.text.toArray⟩], .bool res.2.2.1, .int .i64 res.2.2.2]) ∧ SlR 5 rSession w' v' res.1 (fun b => w.heap.size ≤ b) ∧ Below w.heap.size w w'
theorem RetReady.mk {w w' : World} {v : Value} {l : List SessionD} {r : ReplyD} {b : Bool} {c : Int} (h : SlR 5 rSession w' v l (fun b => w.heap.size ≤ b)) (hb : Below w.heap.size w w') : RetReady w (l, r, b, c) (.returned (.tuple #[v, .agg #[.int .i64 r.code, .int .i64 r.n, .string ⟨r.text.toArray⟩], .bool b, .int .i64 c])) w' := ⟨_, rfl, h, hb⟩
def RdInv (E EK : Nat) (W0 : World) (B B2 g n cap fi : Nat) (l : List SessionD) (wx : World) : Prop :=
  OwD E 5 (rSessO EK) wx (.slice (some ⟨g, 0, none⟩) n cap) l (fun b => B ≤ b ∧ b ≠ B2) ∧ Below B W0 wx ∧ wx.cell? ⟨B2, 0, none⟩ = some (.pointer (some ⟨g, fi * 5, none⟩)) ∧ wx.frozen? ⟨B2, 0, none⟩ = false
end Go.Tk
namespace Go.Proofs.YtkefgapnghnjjaaGreatDoor
open Go.RowKit Go.Tk
theorem ready1_calls (w : World) (x : KeptD) (B g o : Nat) (acked : Int) (hc : w.cell? ⟨B, 0, none⟩ = some (.pointer (some ⟨g, o, none⟩))) (ha : w.cell? ⟨g, o + 2, none⟩ = some (.int .i64 acked)) :
    Calls Tryz.prog 87 #[.agg #[.int .i64 x.seq, .int .i64 x.reply.code, .int .i64 x.reply.n, .string ⟨x.reply.text.toArray⟩], .pointer (some ⟨B, 0, none⟩)] w fun e w' => e = .returned (.bool (decide (x.seq ≤ acked))) ∧ Below w.heap.size w w' := by
  have hB := World.block_lt_of_cell? w _ hc
  have hg := World.block_lt_of_cell? w _ ha
  go_enter Tryz.func87, Tryz.ntmps87
  go_wp2
  go_quiet (fail)
  go_wp2
  go_ret
  exact ⟨rfl, below_drewN ((Below.refl _ _).alloc (Nat.le_refl _) _) _⟩
theorem ready2_calls (w : World) (x : KeptD) (B : Nat) (seq : Int) (ha : w.cell? ⟨B, 3, none⟩ = some (.int .i64 seq)) :
    Calls Tryz.prog 89 #[.agg #[.int .i64 x.seq, .int .i64 x.reply.code, .int .i64 x.reply.n, .string ⟨x.reply.text.toArray⟩], .pointer (some ⟨B, 0, none⟩)] w fun e w' => e = .returned (.bool (x.seq == seq)) ∧ Below w.heap.size w w' := by
  have hB := World.block_lt_of_cell? w _ ha
  go_enter Tryz.func89, Tryz.ntmps89
  go_wp2
  go_ret
  exact ⟨rfl, (Below.refl _ _).alloc (Nat.le_refl _) _⟩
set_option maxRecDepth 100000 in
set_option maxHeartbeats 1600000 in
theorem ready_calls (l : List SessionD) (index kind client session seq acked : Int) (o : OpD) (v : Value) (S : Nat → Prop) (w : World) (h : SlR 5 rSession w v l S) (hc : -1000000000000 ≤ client ∧ client ≤ 1000000000000) :
    Calls Tryz.prog 47 #[v, .int .i64 index, .agg #[.int .i64 kind, .int .i64 client, .int .i64 session, .int .i64 seq, .int .i64 acked, .int .i64 o.kind, .string ⟨o.a.toArray⟩, .string ⟨o.b.toArray⟩, .int .i64 o.n]] w (RetReady w (ready l index client session seq acked)) := by
  go_enter Tryz.func47, Tryz.ntmps47
  go_wp2_with fail
  refine (sessCheck_calls l index v S _ (h.below rSession_ok (by decide) (below_alloc2 w _ _))).mono ?_; rintro e w1 ⟨rfl, hb1⟩
  rw [size_alloc2] at hb1
  have hww1 : w.heap.size + 1 < w1.heap.size := by have := hb1.size; rw [size_alloc2] at this; omega
  have hb01 : Below w.heap.size w w1 := (below_alloc2 w _ _).trans (hb1.mono (by omega))
  by_cases he : sessCheck l index = 0
  case neg =>
    have HJ := Lib.hid (show ready l index client session seq acked = ([], noReply, false, sessCheck l index) by rw [ready, if_pos he])
    have he' : (sessCheck l index != 0) = true := by simpa using he
    clear he
    obtain ⟨hz, hzf, hy, hyf, hzs⟩ := fresh2 hb1
    have y0 := hy 0; have y1 := hy 1; have y2 := hy 2
    have yf0 := hyf 0; have yf1 := hyf 1; have yf2 := hyf 2
    clear hz hzf hy hyf
    go_wp2
    refine bodyPost_ret (v := .tuple #[.slice none 0 0, .agg #[.int .i64 0, .int .i64 0, .string ⟨#[]⟩], .bool false, .int .i64 (sessCheck l index)]) (by simp [results, Tryz.results47, go_sem, y0, y1, y2, yf0, yf1, yf2]) rfl ?_
    rw [HJ.out]
    refine RetReady.mk (r := noReply) (SlR.nil _ _) ?_
    repeat (first | exact hb01 | refine below_set ?_ (by omega) _ _)
  have he' : (sessCheck l index != 0) = false := by simpa using he
  have HE := Lib.hid he
  obtain ⟨hz, hzf, hy, hyf, hzs⟩ := fresh2 hb1
  by_cases hbad : index = 1073741824 ∨ seq < 1 ∨ 1048576 < seq ∨ acked < 0 ∨ seq ≤ acked
  case pos =>
    have HJ := Lib.hid (show ready l index client session seq acked = ([], noReply, false, 2) by rw [ready, if_neg (by simpa using he), if_pos hbad])
    have hcases : (index == 1073741824) = true ∨ ((index == 1073741824) = false ∧ seq < 1) ∨ ((index == 1073741824) = false ∧ ¬ seq < 1 ∧ 1048576 < seq) ∨ ((index == 1073741824) = false ∧ ¬ seq < 1 ∧ ¬ 1048576 < seq ∧ acked < 0) ∨
        ((index == 1073741824) = false ∧ ¬ seq < 1 ∧ ¬ 1048576 < seq ∧ ¬ acked < 0 ∧ seq ≤ acked) := by simp only [beq_iff_eq, beq_eq_false_iff_ne]; omega
    have z3 := hz 3; have z4 := hz 4; have y0 := hy 0; have y1 := hy 1; have y2 := hy 2
    have yf0 := hyf 0; have yf1 := hyf 1; have yf2 := hyf 2
    clear hz hzf hy hyf he hbad
    rcases hcases with h1 | ⟨h1, h2⟩ | ⟨h1, h2, h3⟩ | ⟨h1, h2, h3, h4⟩ | ⟨h1, h2, h3, h4, h5⟩
    all_goals go_wp2
    all_goals refine bodyPost_ret (v := .tuple #[.slice none 0 0, .agg #[.int .i64 0, .int .i64 0, .string ⟨#[]⟩], .bool false, .int .i64 2]) (by simp [results, Tryz.results47, go_sem, y0, y1, y2, yf0, yf1, yf2]) rfl ?_
    all_goals rw [HJ.out]
    all_goals refine RetReady.mk (r := noReply) (SlR.nil _ _) ?_
    all_goals (repeat (first | exact hb01 | refine below_set ?_ (by omega) _ _))
  have hok := sessCheck_ok.1 he
  have HB := Lib.hid (show ∀ x ∈ l, -1000000000000 ≤ x.client ∧ x.client ≤ 1000000000000 from fun x hx => by have := hok.bad x hx; unfold sessBad at this; omega)
  have HN := Lib.hid (show ∀ x ∈ l, x.replies.length ≤ 1000000 from fun x hx => by have := replies_len (hok.rep x hx); omega)
  have HO := Lib.hid hok
  have hl4 := hok.len
  have hidx := hok.idx
  have hi0 : (index == 1073741824) = false := by simp; omega
  have h1 : ¬ seq < 1 := by omega
  have h2 : ¬ 1048576 < seq := by omega
  have h3 : ¬ acked < 0 := by omega
  have h4 : ¬ seq ≤ acked := by omega
  have HR0 := Lib.hid (show ready l index client session seq acked = if sThere l client = false ∨ (l.getD (sFind l client) noSession).id ≠ session then (l, ⟨11, 0, []⟩, false, 0) else (l.set (sFind l client) (readyS (l.getD (sFind l client) noSession) index acked), (readyT (readyS (l.getD (sFind l client) noSession) index acked) seq).1, (readyT (readyS (l.getD (sFind l client) noSession) index acked) seq).2, 0) by
    rw [ready, if_neg (by simpa using he), if_neg hbad])
  have z1 := hz 1; have z3 := hz 3; have z4 := hz 4
  clear hz hzf hy hyf he hok hbad
  go_wp2_with fail
  refine (copySess_calls _ v l S (h.below rSession_ok (by decide) hb01) (by omega) HN.out).mono ?_; rintro e w2 ⟨v2, rfl, ho2, hb2, hv2⟩
  have z1' := cell_keep z1 (hb2.block _ (by show w.heap.size < _; omega))
  clear z1 z3 z4
  go_wp2_with fail
  refine (find_calls _ v2 l _ (ho2.readSess hv2) (by omega) client hc HB.out).mono ?_; rintro e w3 ⟨rfl, hb3⟩
  clear z1'
  have hs2 := hb2.size
  have hs3 := hb3.size
  have hb13 : Below w1.heap.size w1 w3 := below_step hb2 hb3
  have hb3w : Below (w.heap.size + 2) ((w.alloc (.cells #[.int .i64 kind, .int .i64 client, .int .i64 session, .int .i64 seq, .int .i64 acked, .int .i64 o.kind, .string ⟨o.a.toArray⟩, .string ⟨o.b.toArray⟩, .int .i64 o.n] 45)).alloc (.cells #[.int .i64 0, .int .i64 0, .string ⟨#[]⟩] 39)) w3 := hb1.trans (hb13.mono (by omega))
  obtain ⟨hz, hzf, hy, hyf, hzs3⟩ := fresh2 hb3w
  have z1 := hz 1; have z2 := hz 2; have z3 := hz 3; have z4 := hz 4; have y0 := hy 0; have y1 := hy 1; have y2 := hy 2
  have yf0 := hyf 0; have yf1 := hyf 1; have yf2 := hyf 2
  clear hz hzf hy hyf
  have HBF := Lib.hid (show Below w.heap.size w w3 from below_step hb01 hb13)
  have HLT := Lib.hid (fun hth : sThere l client = true => sThere_lt hth)
  generalize sThere l client = th at HR0 HLT ⊢
  generalize sFind l client = fi at HR0 HLT ⊢
  have hr3 := (ho2.readSess hv2).below rSession_ok (by decide) hb3
  cases th
  case false =>
    have HJ := Lib.hid (HR0.out.trans (if_pos (.inl rfl)))
    clear HR0
    obtain ⟨ra, rc, rfl⟩ : ∃ a c, v2 = .slice a l.length c := by obtain ⟨a, c, h, _⟩ := ho2.readSess hv2; exact ⟨a, c, h⟩
    go_wp2_with fail
    go_quiet (fail)
    go_wp2
    refine bodyPost_ret (v := .tuple #[.slice ra l.length rc, .agg #[.int .i64 11, .int .i64 0, .string ⟨#[]⟩], .bool false, .int .i64 0]) (by simp [results, Tryz.results47, go_sem, y0, y1, y2, yf0, yf1, yf2]) rfl ?_
    rw [HJ.out]
    refine RetReady.mk (r := ⟨11, 0, []⟩) ((hr3.move rSession_ok (by decide) fun b hb hlt => ⟨?_, ?_⟩)) ?_
    · have hb' : w1.heap.size ≤ b := hb
      (repeat (first | with_reducible rfl | with_reducible assumption | with_reducible refine (Go.Tk.heap_drew _ _).trans ?_ | with_reducible refine (Go.Tk.heap_drewN _ _ _).trans ?_ | with_reducible refine (Go.Tk.heap_far (by omega)).trans ?_))
    · have hb' : w1.heap.size ≤ b := hb
      show _ ≤ _; omega
    · (repeat (first | exact HBF.out | with_reducible refine below_drewN ?_ _ | with_reducible refine Below.drew ?_ | with_reducible refine below_set ?_ (by omega) _ _ | with_reducible refine Below.alloc ?_ (by omega) _))
  have hlt := HLT.out rfl
  clear HLT
  obtain ⟨g, cap2, rfl, hgc, hgm, hg2, hfz⟩ := ho2.shapePos (by omega)
  have hgw := hv2 g rfl
  have hr3' := hr3
  clear hr3
  have ho3 := ho2.below (rSessO_ok _) hb3
  obtain ⟨rv, hcells, hrv, hrg⟩ := ho3.cellsSess fi hlt
  have HGD := Lib.hid (show l.getD fi noSession = l[fi] by simp [List.getD, hlt])
  have HXB := Lib.hid (replies_len (HO.out.rep l[fi] (List.getElem_mem hlt)))
  have HXA := Lib.hid (show 0 ≤ l[fi].acked ∧ l[fi].acked ≤ 1048576 by have := HO.out.bad l[fi] (List.getElem_mem hlt); unfold sessBad at this; omega)
  generalize hxx : l[fi] = x at hcells hrv HGD HXB HXA
  have HXX := Lib.hid hxx
  clear hxx
  have q1 := hcells 1 _ rfl
  clear hcells hrv hrg
  by_cases hid : x.id = session
  case neg =>
    have HJ := Lib.hid (HR0.out.trans (if_pos (.inr (by rw [HGD.out]; exact hid))))
    have hidb : (x.id != session) = true := by simpa using hid
    clear HR0 hid
    have hr3 := hr3'
    clear hr3'
    go_wp2_with fail
    go_quiet (fail)
    go_wp2
    refine bodyPost_ret (v := .tuple #[.slice (some ⟨g, 0, none⟩) l.length cap2, .agg #[.int .i64 11, .int .i64 0, .string ⟨#[]⟩], .bool false, .int .i64 0]) (by simp [results, Tryz.results47, go_sem, y0, y1, y2, yf0, yf1, yf2]) rfl ?_
    rw [HJ.out]
    refine RetReady.mk (r := ⟨11, 0, []⟩) ((hr3.move rSession_ok (by decide) fun b hb hlt => ⟨?_, ?_⟩)) ?_
    · have hb' : w1.heap.size ≤ b := hb
      (repeat (first | with_reducible rfl | with_reducible assumption | with_reducible refine (Go.Tk.heap_drew _ _).trans ?_ | with_reducible refine (Go.Tk.heap_drewN _ _ _).trans ?_ | with_reducible refine (Go.Tk.heap_far (by omega)).trans ?_))
    · have hb' : w1.heap.size ≤ b := hb
      show _ ≤ _; omega
    · (repeat (first | exact HBF.out | with_reducible refine below_drewN ?_ _ | with_reducible refine Below.drew ?_ | with_reducible refine below_set ?_ (by omega) _ _ | with_reducible refine Below.alloc ?_ (by omega) _))
  have HR := Lib.hid (show ready l index client session seq acked = (l.set fi (readyS x index acked), (readyT (readyS x index acked) seq).1, (readyT (readyS x index acked) seq).2, 0) by
    rw [HR0.out, if_neg (by rw [HGD.out]; simp [hid]), HGD.out])
  have hidb : (x.id != session) = false := by simpa using hid
  have hw0 : IntKind.i64.wrap (index + 1) = index + 1 := IntWalk.i64_in _ (by omega)
  clear HR0 hid hr3' HGD
  go_wp2_with fail
  go_quiet (fail)
  have hbd : Below w3.heap.size w3 (w3.drewN nq) := below_drewN (Below.refl _ _) _
  clear z1 z2 z3 z4 y0 y1 y2 yf0 yf1 yf2 q1
  generalize w3.drewN nq = wd at hbd ⊢
  have hsd := hbd.size
  have hod := ho3.below (rSessO_ok _) hbd
  obtain ⟨rv, hcells, hrv, hrg⟩ := hod.cellsSess fi hlt
  have q3 := hcells 3 _ rfl
  clear hcells hrv hrg
  have zfd : wd.frozen? ⟨g, fi * 5 + 3, none⟩ = false := (World.frozen?_of_block (hbd.block g (by omega))).trans ((World.frozen?_of_block (hb3.block g hg2)).trans (hfz _))
  have hgd : g < wd.heap.size := by omega
  have hbwd := hb3w.trans (hbd.mono (by omega))
  have HOD := Lib.hid hod
  have HZF := Lib.hid hfz
  clear hfz hod
  go_upto_region 12 with (fail)
  refine wp_abs (RdInv 144 146 ((w.alloc (.cells #[.int .i64 kind, .int .i64 client, .int .i64 session, .int .i64 seq, .int .i64 acked, .int .i64 o.kind, .string ⟨o.a.toArray⟩, .string ⟨o.b.toArray⟩, .int .i64 o.n] 45)).alloc (.cells #[.int .i64 0, .int .i64 0, .string ⟨#[]⟩] 39)) (w.heap.size + 2) wd.heap.size g l.length cap2 fi (l.set fi ⟨x.client, x.id, x.acked, index + 1, x.replies⟩)) ?_ ?_
  · refine ⟨?_, ?_, ?_, ?_⟩
    · exact ((HOD.out.sub (S' := fun b => w.heap.size + 2 ≤ b ∧ b ≠ wd.heap.size) (rSessO_ok _) (fun b hb hlt => ⟨by omega, by omega⟩)).setSess hlt (j := 3) (by decide) (.int .i64 (index + 1)) ⟨x.client, x.id, x.acked, index + 1, x.replies⟩ (by rw [HXX.out]; rfl) (by rw [HXX.out])).below (rSessO_ok _) (below_alloc _ _)
    · exact (below_set hbwd (by omega) _ _).alloc (by simp [World.setCell]; omega) _
    · exact World.cell?_alloc_at _ _ _ _ (by simp [World.setCell])
    · exact World.frozen?_alloc_at _ _ _ _ (by simp [World.setCell])
  clear HOD hbwd hbd zfd q3 hb3w
  rintro wc ⟨hoc, hbc, hpc, hfc⟩
  obtain ⟨hz, hzf, hy, hyf, hzs4⟩ := fresh2 hbc
  have z4 := hz 4
  clear hz hzf hy hyf
  obtain ⟨rv, hcells, hrv, hrg⟩ := hoc.cellsSess fi (by rw [List.length_set]; exact hlt)
  simp only [List.getElem_set_self] at hcells hrv
  have q2 := hcells 2 _ rfl
  clear hcells hrv hrg
  have hlen : 0 < (l.set fi ⟨x.client, x.id, x.acked, index + 1, x.replies⟩).length := by rw [List.length_set]; omega
  have zf2 := hoc.thaw hlen (fi * 5 + 2)
  have HOC := Lib.hid hoc
  clear hoc hlen
  go_wp2_with fail
  go_quiet (fail)
  go_upto_if 84 with (fail)
  go_cut [] (fun wx => RdInv 144 146 ((w.alloc (.cells #[.int .i64 kind, .int .i64 client, .int .i64 session, .int .i64 seq, .int .i64 acked, .int .i64 o.kind, .string ⟨o.a.toArray⟩, .string ⟨o.b.toArray⟩, .int .i64 o.n] 45)).alloc (.cells #[.int .i64 0, .int .i64 0, .string ⟨#[]⟩] 39)) (w.heap.size + 2) wd.heap.size g l.length cap2 fi (l.set fi (readyS x index acked)) wx)
  case first =>
    by_cases hac : x.acked < acked
    case neg =>
      have HRS := Lib.hid (readyS_same (index := index) hac)
      go_wp2
      go_meet
      rw [HRS.out]
      exact ⟨HOC.out.below (rSessO_ok _) (below_drewN (Below.refl _ _) _), below_drewN hbc _, hpc, hfc⟩
    case pos =>
      have HRS := Lib.hid (readyS_acked (index := index) hac)
      go_upto_region 14 with (fail)
      refine wp_abs (RdInv 144 146 ((w.alloc (.cells #[.int .i64 kind, .int .i64 client, .int .i64 session, .int .i64 seq, .int .i64 acked, .int .i64 o.kind, .string ⟨o.a.toArray⟩, .string ⟨o.b.toArray⟩, .int .i64 o.n] 45)).alloc (.cells #[.int .i64 0, .int .i64 0, .string ⟨#[]⟩] 39)) (w.heap.size + 2) wd.heap.size g l.length cap2 fi (l.set fi ⟨x.client, x.id, acked, index + 1, x.replies⟩)) ?_ ?_
      · refine ⟨?_, below_set (below_drewN hbc _) (by omega) _ _, (cell_far (by omega)).trans hpc, (World.frozen?_of_block (a := ⟨wd.heap.size, 0, none⟩) (heap_far (k := wd.heap.size) (by omega))).trans hfc⟩
        have := (HOC.out.below (rSessO_ok _) (below_drewN (Below.refl _ _) nq)).setSess (i := fi) (by rw [List.length_set]; exact hlt) (j := 2) (by decide) (.int .i64 acked) ⟨x.client, x.id, acked, index + 1, x.replies⟩ (by rw [List.getElem_set_self]; rfl) (by rw [List.getElem_set_self])
        rw [List.set_set] at this
        exact this
      clear HOC hbc hpc hfc z4 q2 zf2
      rintro we ⟨hoe, hbe, hpe, hfe⟩
      obtain ⟨rv, hcells, hrv, hrg⟩ := hoe.cellsSess fi (by rw [List.length_set]; exact hlt)
      simp only [List.getElem_set_self] at hcells hrv
      obtain ⟨ra, rc, rfl⟩ := hrv.shape
      have q2 := hcells 2 _ rfl
      have q4 := hcells 4 _ rfl
      clear hcells
      have hge : g < we.heap.size := World.block_lt_of_cell? we _ q4
      have hwe : wd.heap.size < we.heap.size := World.block_lt_of_cell? we _ hpe
      have hna : (Value.slice ra x.replies.length rc).ownBlock ≠ some g := fun e => (hrg g e).2.1 rfl
      have hnb : (Value.slice ra x.replies.length rc).ownBlock ≠ some wd.heap.size := fun e => (hrg _ e).1.2 rfl
      have hin := fun args w => MuLone.run_callFunc_enter Tryz.func87 (by kernel_rfl) rfl args w
      have hp : TellsKept we.drew (Value.slice ra x.replies.length rc).ownBlock (fun _ => True) 87 (.pointer (some ⟨wd.heap.size, 0, none⟩)) (fun k => decide (k.seq ≤ acked)) := fun w' y hg hr =>
        ready1_calls w' y wd.heap.size g (fi * 5) acked (cell_keep (w := we) hpe (hg.block _ hwe (Ne.symm hnb))) (cell_keep (w := we) q2 (hg.block _ hge (Ne.symm hna)))
      have HD := Lib.hid (deleteFuncKept_calls we.drew _ x.replies (fun _ => True) (hrv.move rKept_ok (fun _ _ => rfl) (fun b hb => hb.elim)) (fun _ _ => trivial) (by have := HXB.out; omega) 87 (.pointer (some ⟨wd.heap.size, 0, none⟩)) (fun k => decide (k.seq ≤ acked)) hin hp)
      have HRV := Lib.hid hrv
      have zf := hoe.thaw (by rw [List.length_set]; omega) (fi * 5 + 4)
      clear hp hin hrv
      go_region_law (go_simp; go_at_call 86; refine HD.out.mono ?_; rintro e w6 ⟨v6, rfl, ho6, hg6, hv6⟩; obtain ⟨ra6, rc6, rfl⟩ := ho6.shape; have u1 := cell_keep (w := we) q4 (hg6.block _ hge (Ne.symm hna)); have u2 := cell_keep (w := we) hpe (hg6.block _ hwe (Ne.symm hnb)); have u5 := (World.frozen?_of_block (w := we) (a := ⟨g, fi * 5 + 4, none⟩) (hg6.block _ hge (Ne.symm hna))).trans zf)
      all_goals
        go_wp2_with fail
        go_meet
        rw [HRS.out]
        refine ⟨?_, below_set (hbe.grown (w' := w6) (row := (Value.slice ra x.replies.length rc).ownBlock) ⟨hg6.os, hg6.tape, hg6.output, hg6.size, hg6.block⟩ (by omega) (fun k hk => (hrg k hk).1.1)) (by omega) _ _, (cell_far (by omega)).trans u2, (World.frozen?_of_block (a := ⟨wd.heap.size, 0, none⟩) (heap_far (k := wd.heap.size) (by omega))).trans ((World.frozen?_of_block (w := we) (a := ⟨wd.heap.size, 0, none⟩) (hg6.block _ hwe (Ne.symm hnb))).trans hfe)⟩
        have := hoe.inSess (i := fi) (w' := w6) (by rw [List.length_set]; exact hlt) q4 ⟨hg6.os, hg6.tape, hg6.output, hg6.size, hg6.block⟩ (ho6.forget (fun _ _ _ _ _ h => h)) (.inl hv6)
        rw [List.set_set, List.getElem_set_self] at this
        exact this
  case rest =>
    obtain ⟨hoc, hbc, hpc, hfc⟩ := hcut
    have hxb : (readyS x index acked).replies.length ≤ 4 := by have := HXB.out; unfold readyS; split; exact Nat.le_trans (List.length_filter_le _ _) this; exact this
    have hxa : 0 ≤ (readyS x index acked).acked ∧ (readyS x index acked).acked ≤ 1048576 := by have := HXA.out; unfold readyS; split <;> simp only <;> omega
    generalize readyS x index acked = y at *
    clear HXX HXA HXB
    obtain ⟨hz, hzf, hy, hyf, hzs5⟩ := fresh2 hbc
    have z3 := hz 3; have y0 := hy 0; have y1 := hy 1; have y2 := hy 2
    have yf0 := hyf 0; have yf1 := hyf 1; have yf2 := hyf 2
    clear hz hzf hy hyf
    obtain ⟨rv, hcells, hrv, hrg⟩ := hoc.cellsSess fi (by rw [List.length_set]; exact hlt)
    simp only [List.getElem_set_self] at hcells hrv
    obtain ⟨ra, rc, rfl⟩ := hrv.shape
    have q2 := hcells 2 _ rfl
    have q4 := hcells 4 _ rfl
    clear hcells
    have hbf : Below w.heap.size w wc := (below_alloc2 w _ _).trans (hbc.mono (by omega))
    have hrl : SlR 5 rSession wc (.slice (some ⟨g, 0, none⟩) l.length cap2) (l.set fi y) (fun b => w.heap.size + 2 ≤ b) := (hoc.readSess (fun b hb => by have e : g = b := (by cases hb; rfl); subst e; exact ⟨by omega, by omega⟩)).sub rSession_ok (by decide) (fun b hb _ => hb.1)
    have HRL := Lib.hid hrl
    have HBF := Lib.hid hbf
    have HRV := Lib.hid ((hrv.forget (S' := fun _ => True) (fun _ _ _ _ _ h => h)).read rKept_ok (by decide) (fun _ _ => trivial))
    have hbc' := hbc
    clear hrl hbf hrv hrg hoc hbc HO HN HB
    have HBC := Lib.hid hbc'
    clear hbc'
    go_wp2_with fail
    go_quiet (fail)
    by_cases t1 : seq ≤ y.acked
    case pos =>
      have HT := Lib.hid (show readyT y seq = (⟨12, 0, []⟩, false) from if_pos t1)
      go_wp2
      refine bodyPost_ret (v := .tuple #[.slice (some ⟨g, 0, none⟩) l.length cap2, .agg #[.int .i64 12, .int .i64 0, .string ⟨#[]⟩], .bool false, .int .i64 0]) (by simp [results, Tryz.results47, go_sem, y0, y1, y2, yf0, yf1, yf2]) rfl ?_
      rw [HR.out, HT.out]
      refine RetReady.mk (r := ⟨12, 0, []⟩) ((HRL.out.move rSession_ok (by decide) fun b hb hlt => ⟨?_, ?_⟩)) ?_
      · have hb' : w.heap.size + 2 ≤ b := hb
        (repeat (first | with_reducible rfl | with_reducible assumption | with_reducible refine (Go.Tk.heap_drew _ _).trans ?_ | with_reducible refine (Go.Tk.heap_drewN _ _ _).trans ?_ | with_reducible refine (Go.Tk.heap_far (by omega)).trans ?_))
      · have hb' : w.heap.size + 2 ≤ b := hb
        show _ ≤ _; omega
      · (repeat (first | exact HBF.out | with_reducible refine below_drewN ?_ _ | with_reducible refine Below.drew ?_ | with_reducible refine below_set ?_ (by omega) _ _ | with_reducible refine Below.alloc ?_ (by omega) _))
    have hin2 := fun args w => MuLone.run_callFunc_enter Tryz.func89 (by kernel_rfl) rfl args w
    have hB0 : w.heap.size < wc.heap.size := by omega
    have HCI := Lib.hid (fun nq : Nat => indexKept_calls (wc.drewN nq) _ y.replies (fun _ => True) (HRV.out.below rKept_ok (by decide) (below_drewN (Below.refl _ _) nq)) (by omega) 89 (.pointer (some ⟨w.heap.size, 0, none⟩)) (fun k => k.seq == seq) none hin2
      (fun w' x' hg hr => ready2_calls w' x' w.heap.size seq (cell_keep (w := wc) z3 (hg.block _ hB0 (by simp)))))
    clear hin2
    have hla : Hid (∀ w9, Below wc.heap.size wc w9 → Below (w.heap.size + 2) ((w.alloc (.cells #[.int .i64 kind, .int .i64 client, .int .i64 session, .int .i64 seq, .int .i64 acked, .int .i64 o.kind, .string ⟨o.a.toArray⟩, .string ⟨o.b.toArray⟩, .int .i64 o.n] 45)).alloc (.cells #[.int .i64 0, .int .i64 0, .string ⟨#[]⟩] 39)) w9) := fun w9 h9 => HBC.out.trans (h9.mono (by omega))
    rcases fIdx_cases (fun k => k.seq == seq) y.replies with ⟨hi, -⟩ | ⟨n, hn, hi, -⟩
    case inl =>
      have HT0 := Lib.hid (show readyT y seq = if y.acked + 4 < seq then (⟨2, 0, []⟩, false) else (noReply, true) by rw [readyT, if_neg t1, if_neg (by rw [hi]; decide)])
      go_wp2_with fail
      refine (HCI.out _).mono ?_
      rw [hi]
      clear hi
      rintro e w9 ⟨rfl, hb9⟩
      have hb9' : Below wc.heap.size wc w9 := (below_drewN (Below.refl _ _) nq).trans hb9
      clear hb9
      obtain ⟨hz, hzf, hy, hyf, hzs9⟩ := fresh2 (hla.out w9 hb9')
      clear y0 y1 y2 yf0 yf1 yf2
      have x3 := hz 3; have y0 := hy 0; have y1 := hy 1; have y2 := hy 2
      have yf0 := hyf 0; have yf1 := hyf 1; have yf2 := hyf 2
      clear hz hzf hy hyf
      have hpc9 := cell_keep hpc (hb9'.block _ (World.block_lt_of_cell? wc _ hpc))
      have q29 := cell_keep q2 (hb9'.block _ (World.block_lt_of_cell? wc _ q2))
      have HRL9 := Lib.hid (HRL.out.below rSession_ok (by decide) hb9')
      have HBF9 := Lib.hid (below_step HBF.out hb9')
      have hs9 := hb9'.size
      clear hpc q2 q4 z3
      have w0 : IntKind.i64.wrap (y.acked + 4) = y.acked + 4 := IntWalk.i64_in _ (by omega)
      go_wp2_with fail
      go_quiet (fail)
      clear w0
      by_cases t3 : y.acked + 4 < seq
      case pos =>
        have HT := Lib.hid (HT0.out.trans (if_pos t3))
        go_wp2
        refine bodyPost_ret (v := .tuple #[.slice (some ⟨g, 0, none⟩) l.length cap2, .agg #[.int .i64 2, .int .i64 0, .string ⟨#[]⟩], .bool false, .int .i64 0]) (by simp [results, Tryz.results47, go_sem, y0, y1, y2, yf0, yf1, yf2]) rfl ?_
        rw [HR.out, HT.out]
        refine RetReady.mk (r := ⟨2, 0, []⟩) ((HRL9.out.move rSession_ok (by decide) fun b hb hlt => ⟨?_, ?_⟩)) ?_
        · have hb' : w.heap.size + 2 ≤ b := hb
          (repeat (first | with_reducible rfl | with_reducible assumption | with_reducible refine (Go.Tk.heap_drew _ _).trans ?_ | with_reducible refine (Go.Tk.heap_drewN _ _ _).trans ?_ | with_reducible refine (Go.Tk.heap_far (by omega)).trans ?_))
        · have hb' : w.heap.size + 2 ≤ b := hb
          show _ ≤ _; omega
        · (repeat (first | exact HBF9.out | with_reducible refine below_drewN ?_ _ | with_reducible refine Below.drew ?_ | with_reducible refine below_set ?_ (by omega) _ _ | with_reducible refine Below.alloc ?_ (by omega) _))
      case neg =>
        have HT := Lib.hid (HT0.out.trans (if_neg t3))
        go_wp2
        refine bodyPost_ret (v := .tuple #[.slice (some ⟨g, 0, none⟩) l.length cap2, .agg #[.int .i64 0, .int .i64 0, .string ⟨#[]⟩], .bool true, .int .i64 0]) (by simp [results, Tryz.results47, go_sem, y0, y1, y2, yf0, yf1, yf2]) rfl ?_
        rw [HR.out, HT.out]
        refine RetReady.mk (r := noReply) ((HRL9.out.move rSession_ok (by decide) fun b hb hlt => ⟨?_, ?_⟩)) ?_
        · have hb' : w.heap.size + 2 ≤ b := hb
          (repeat (first | with_reducible rfl | with_reducible assumption | with_reducible refine (Go.Tk.heap_drew _ _).trans ?_ | with_reducible refine (Go.Tk.heap_drewN _ _ _).trans ?_ | with_reducible refine (Go.Tk.heap_far (by omega)).trans ?_))
        · have hb' : w.heap.size + 2 ≤ b := hb
          show _ ≤ _; omega
        · (repeat (first | exact HBF9.out | with_reducible refine below_drewN ?_ _ | with_reducible refine Below.drew ?_ | with_reducible refine below_set ?_ (by omega) _ _ | with_reducible refine Below.alloc ?_ (by omega) _))
    case inr =>
      have HT := Lib.hid (show readyT y seq = (y.replies[n].reply, false) by rw [readyT, if_neg t1, if_pos (by rw [hi]; omega), hi]; simp [List.getD, hn])
      go_wp2_with fail
      refine (HCI.out _).mono ?_
      rw [hi]
      clear hi
      rintro e w9 ⟨rfl, hb9⟩
      have hb9' : Below wc.heap.size wc w9 := (below_drewN (Below.refl _ _) nq).trans hb9
      clear hb9
      obtain ⟨hz, hzf, hy, hyf, hzs9⟩ := fresh2 (hla.out w9 hb9')
      clear y0 y1 y2 yf0 yf1 yf2
      have y0 := hy 0; have y1 := hy 1; have y2 := hy 2
      have yf0 := hyf 0; have yf1 := hyf 1; have yf2 := hyf 2
      clear hz hzf hy hyf
      have hpc9 := cell_keep hpc (hb9'.block _ (World.block_lt_of_cell? wc _ hpc))
      have q49 := cell_keep q4 (hb9'.block _ (World.block_lt_of_cell? wc _ q4))
      have HRL9 := Lib.hid (HRL.out.below rSession_ok (by decide) hb9')
      have HBF9 := Lib.hid (below_step HBF.out hb9')
      have hs9 := hb9'.size
      obtain ⟨b, off, cap', row, hv, -, hrow, hcells⟩ := (HRV.out.below rKept_ok (by decide) hb9').row n hn
      simp only [Value.slice.injEq] at hv
      obtain ⟨rfl, _, rfl⟩ := hv
      generalize y.replies[n] = k at *
      cases hrow
      have r1 := hcells 1 _ rfl
      have r2 := hcells 2 _ rfl
      have r3 := hcells 3 _ rfl
      clear hcells hpc q2 q4 z3 HCI HRV
      go_wp2
      go_region
      go_wp2
      refine bodyPost_ret (v := .tuple #[.slice (some ⟨g, 0, none⟩) l.length cap2, .agg #[.int .i64 k.reply.code, .int .i64 k.reply.n, .string ⟨k.reply.text.toArray⟩], .bool false, .int .i64 0]) (by simp [results, Tryz.results47, go_sem, y0, y1, y2, yf0, yf1, yf2]) rfl ?_
      rw [HR.out, HT.out]
      refine RetReady.mk (r := k.reply) ((HRL9.out.move rSession_ok (by decide) fun b hb hlt => ⟨?_, ?_⟩)) ?_
      · have hb' : w.heap.size + 2 ≤ b := hb
        (repeat (first | with_reducible rfl | with_reducible assumption | with_reducible refine (Go.Tk.heap_drew _ _).trans ?_ | with_reducible refine (Go.Tk.heap_drewN _ _ _).trans ?_ | with_reducible refine (Go.Tk.heap_far (by omega)).trans ?_))
      · have hb' : w.heap.size + 2 ≤ b := hb
        show _ ≤ _; omega
      · (repeat (first | exact HBF9.out | with_reducible refine below_drewN ?_ _ | with_reducible refine Below.drew ?_ | with_reducible refine below_set ?_ (by omega) _ _ | with_reducible refine Below.alloc ?_ (by omega) _))
end Go.Proofs.YtkefgapnghnjjaaGreatDoor

namespace Go.Proofs.YtkefgapnghnjjaaGreatDoor
open Go.RowKit Go.Tk
set_option maxRecDepth 100000 in
theorem cmpKept_calls (w : World) (x : KeptD) (t : Int) (hb : -9223372036854775808 ≤ x.seq - t ∧ x.seq - t ≤ 9223372036854775807) :
    Calls Tryz.prog 95 #[.agg #[.int .i64 x.seq, .int .i64 x.reply.code, .int .i64 x.reply.n, .string ⟨x.reply.text.toArray⟩], .int .i64 t] w fun e w' => e = .returned (.int .i64 (x.seq - t)) ∧ Below w.heap.size w w' := by
  obtain ⟨b1, b2⟩ := hb
  go_enter Tryz.func95, Tryz.ntmps95
  go_wp2
  go_ret
  exact ⟨rfl, (Below.refl _ _).alloc (Nat.le_refl _) _⟩
set_option maxRecDepth 100000 in
set_option maxHeartbeats 400000 in
theorem searchKept_calls (w : World) (v : Value) (l : List KeptD) (S : Nat → Prop) (h : SlR 4 rKept w v l S) (hn : l.length ≤ 1000000) (t : Int) (ht : -1000000000000 ≤ t ∧ t ≤ 1000000000000) (hb0 : ∀ x ∈ l, -1000000000000 ≤ x.seq ∧ x.seq ≤ 1000000000000) :
    Calls Tryz.prog 94 #[v, .int .i64 t, .func (.func 95) #[] #[]] w fun e w' =>
      e = .returned (.tuple #[.int .i64 (bs (fun i => keptCmp (l.getD i noKept) t) l.length : Nat), .bool (bsFound (fun i => keptCmp (l.getD i noKept) t) l.length)]) ∧ Below w.heap.size w w' := by
  obtain ⟨a, cap, hv, hl, hm, hnil, -⟩ := id h
  subst hv
  unfold maxLen at hm
  go_enter Tryz.func94, Tryz.ntmps94
  go_wp2
  go_loopw [9, 10, 11] (fun i j _ wr => ∃ p q : Nat, p ≤ q ∧ q ≤ l.length ∧ i = .int .i64 p ∧ j = .int .i64 q ∧ Hid (bsGo (fun i => keptCmp (l.getD i noKept) t) (q - p) p q = bs (fun i => keptCmp (l.getD i noKept) t) l.length) ∧ Below w.heap.size w wr)
    (fun i j _ _ => (intOf j).toNat - (intOf i).toNat)
  case atStart => exact ⟨0, l.length, by omega, by omega, rfl, rfl, rfl, Below.refl _ _⟩
  case round =>
    obtain ⟨p, q, hpq, hql, rfl, rfl, hgo, hb⟩ := hrel
    by_cases hlt : p < q
    · have hml : (p + q) / 2 < l.length := by omega
      obtain ⟨b, off, cap', row, hv, hS, hrow, hcells⟩ := (h.below rKept_ok (by decide) hb).row ((p + q) / 2) hml
      simp only [Value.slice.injEq] at hv
      obtain ⟨rfl, _, rfl⟩ := hv
      have hg : l.getD ((p + q) / 2) noKept = l[(p + q) / 2] := by simp [List.getD, hml]
      have hxb := hb0 l[(p + q) / 2] (List.getElem_mem hml)
      have HL : Hid (keptCmp l[(p + q) / 2] t < 0 → bsGo (fun i => keptCmp (l.getD i noKept) t) (q - ((p + q) / 2 + 1)) ((p + q) / 2 + 1) q = bs (fun i => keptCmp (l.getD i noKept) t) l.length) := fun hf => by
        rw [← bsGo_less _ hlt (by show keptCmp (l.getD ((p + q) / 2) noKept) t < 0; rw [hg]; exact hf)]; exact hgo.out
      have HM : Hid (¬ keptCmp l[(p + q) / 2] t < 0 → bsGo (fun i => keptCmp (l.getD i noKept) t) ((p + q) / 2 - p) p ((p + q) / 2) = bs (fun i => keptCmp (l.getD i noKept) t) l.length) := fun hf => by
        rw [← bsGo_more _ hlt (by show ¬ keptCmp (l.getD ((p + q) / 2) noKept) t < 0; rw [hg]; exact hf)]; exact hgo.out
      clear hgo hg
      generalize l[(p + q) / 2] = x at *
      obtain rfl := hrow
      have q0 := hcells 0 _ rfl
      have q1 := hcells 1 _ rfl
      have q2 := hcells 2 _ rfl
      have q3 := hcells 3 _ rfl
      simp only [Nat.add_zero] at q0
      clear hcells
      have hws := hb.size
      by_cases hf : keptCmp x t < 0
      all_goals (have HF := Lib.hid hf; unfold keptCmp at hf)
      · go_wp2_with (go_at_call 95; refine (cmpKept_calls _ x t (by omega)).mono ?_; rintro e w2 ⟨rfl, hb2⟩)
        go_roundw
        case rel => exact ⟨(p + q) / 2 + 1, q, by omega, hql, by go_num, rfl, HL.out HF.out, hb.trans (hb2.mono hws)⟩
        case measure => simp [intOf]; omega
      · go_wp2_with (go_at_call 95; refine (cmpKept_calls _ x t (by omega)).mono ?_; rintro e w2 ⟨rfl, hb2⟩)
        go_roundw
        case rel => exact ⟨p, (p + q) / 2, by omega, by omega, rfl, by go_num, HM.out HF.out, hb.trans (hb2.mono hws)⟩
        case measure => simp [intOf]; omega
    · obtain rfl : p = q := by omega
      have HP : Hid (bs (fun i => keptCmp (l.getD i noKept) t) l.length = p) := by have := hgo.out; rw [Nat.sub_self] at this; exact this.symm
      clear hgo
      have hws := hb.size
      by_cases hml : p < l.length
      · obtain ⟨b, off, cap', row, hv, hS, hrow, hcells⟩ := (h.below rKept_ok (by decide) hb).row p hml
        simp only [Value.slice.injEq] at hv
        obtain ⟨rfl, _, rfl⟩ := hv
        have HG : Hid (bsFound (fun i => keptCmp (l.getD i noKept) t) l.length = (keptCmp l[p] t == 0)) := by
          show _ = _
          rw [bsFound, HP.out, decide_eq_true hml, show l.getD p noKept = l[p] by simp [List.getD, hml]]; rfl
        have hxb := hb0 l[p] (List.getElem_mem hml)
        clear h
        generalize l[p] = x at *
        obtain rfl := hrow
        have q0 := hcells 0 _ rfl
        have q1 := hcells 1 _ rfl
        have q2 := hcells 2 _ rfl
        have q3 := hcells 3 _ rfl
        simp only [Nat.add_zero] at q0
        clear hcells
        go_wp2_with (go_at_call 95; refine (cmpKept_calls _ x t (by omega)).mono ?_; rintro e w2 ⟨rfl, hb2⟩)
        go_ret2
        exact ⟨ends2 (by rw [HP.out]; rfl) (by rw [HG.out]; rfl), hb.trans (hb2.mono hws)⟩
      · have HG : Hid (bsFound (fun i => keptCmp (l.getD i noKept) t) l.length = false) := by
          show _ = _
          rw [bsFound, HP.out, decide_eq_false hml]; rfl
        clear h
        go_wp2
        go_ret2
        exact ⟨ends2 (by rw [HP.out]; rfl) (by rw [HG.out]; rfl), hb⟩
end Go.Proofs.YtkefgapnghnjjaaGreatDoor
