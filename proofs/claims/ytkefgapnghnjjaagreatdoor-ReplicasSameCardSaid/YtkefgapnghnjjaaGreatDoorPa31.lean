/- A part of the proof, laid together from: DelInt, Free, Gone. -/
import Derived.Test.YtkefgapnghnjjaaGreatDoorRows
import Derived.Test.YtkefgapnghnjjaaGreatDoorPa30
import Derived.Test.YtkefgapnghnjjaaGreatDoorPa13
import Derived.WalkLawsBesides
import Derived.Deep.RegionLaw
import Derived.BigQuiet
import Derived.Deep.QuietTactic
import Derived.Test.YtkefgapnghnjjaaGreatDoorPa29
set_option linter.unusedSimpArgs false
set_option linter.unusedVariables false
namespace Go.Proofs.YtkefgapnghnjjaaGreatDoor
open Go.RowKit Go.Tk
theorem Tryz.zeroInt : ∀ i z, Tryz.prog.info? 3 = some i → i.zero = some z → ∀ v ∈ z.cells.toList, v.oneCell' = true := by
  intro i z hi hz
  have h : (Tryz.prog.info? 3).map (fun i => i.zero) = some (some (.int .i64 0)) := by kernel_rfl
  rw [hi] at h
  simp only [Option.map_some, Option.some.injEq] at h
  rw [h] at hz
  cases hz
  intro v hv
  simp [Value.cells] at hv
  subst hv; rfl
set_option maxRecDepth 100000 in
set_option maxHeartbeats 800000 in
theorem delInt_calls (w : World) (v : Value) (l : List Int) (S : Nat → Prop) (h : OwF 3 1 rInt w v l S) (hn : l.length ≤ 1000000) (i : Nat) (hi : i < l.length) :
    Calls Tryz.prog 123 #[v, .int .i64 i, .int .i64 ((i : Int) + 1)] w fun e w' => ∃ v', e = .returned v' ∧ OwF 3 1 rInt w' v' (l.eraseIdx i) S ∧ w.grownBy w' v.ownBlock ∧ v'.ownBlock = v.ownBlock := by
  obtain ⟨g, off, n, cap, rfl⟩ : ∃ g off n cap, v = .slice (some ⟨g, off, none⟩) n cap := by
    rcases h with ⟨_, h⟩ | ⟨g, off, cap, cur, rows, hv, _⟩
    · subst h; simp at hi
    · exact ⟨g, off, _, cap, hv⟩
  obtain ⟨cur, news, hg, hnl, hnc, hcm, hfit, hnews, hone, hcell, cur', hg', hsz, hfin⟩ := OwF.erase (w := w.drew) rInt_ok (h.move rInt_ok (fun _ _ => rfl) (fun _ h _ _ => ⟨rfl, h⟩)) hi
  subst hnl
  simp only [Nat.mul_one] at *
  have hin : (l.length - (i + 1)) + i = l.length - 1 := by omega
  obtain ⟨p, hp⟩ : ∃ p, l.length = p + 1 := ⟨l.length - 1, by omega⟩
  obtain ⟨zs, hzl, hr2⟩ := run_clear_tk (P := Tryz.prog) (ty := 0) (w.drew.setCells g (off + i) news) Tryz.tycInt g (off + p) 1 (cap - p) cur' hg' (by omega) Tryz.zeroInt
  have hgb : w.grownBy ((w.drew.setCells g (off + i) news).setRow g (splice cur'.toList (off + p) zs).toArray) (some g) :=
    grownBy_trans (grownBy_trans (grownBy_drew (grownBy_refl w _)) (grownBy_sets (.inl rfl) _ _ _ (grownBy_refl w.drew _))) (grownBy_setRow _ g _)
  have hfz := hfin zs hzl
  rw [show l.length - 1 = p by omega] at hfz
  have hfz' : OwF 3 1 rInt ((w.drew.setCells g (off + i) news).setRow g (splice cur'.toList (off + p) zs).toArray) (.slice (some ⟨g, off, none⟩) p cap) (l.eraseIdx i) S := hfz.move rInt_ok (fun _ _ => rfl) (fun _ h _ _ => ⟨rfl, h⟩)
  have HF := Lib.hid (And.intro hfz' hgb)
  clear hfz hfz' hfin hgb
  obtain ⟨wf, hwf⟩ : ∃ wf, wf = (w.drew.setCells g (off + i) news).setRow g (splice cur'.toList (off + p) zs).toArray := ⟨_, rfl⟩
  rw [← hwf] at hr2 HF
  clear hwf hg' hzl hsz
  obtain ⟨inf, z, hi1, hz1, hs1, hb1, hzs1⟩ := (Tryz.tycInt).parts
  have hi' : i ≤ p := by omega
  have hr1 : ∀ ad : Addr, (∀ (j : Nat) (u : Value), news[j]? = some u → w.cell? (ad.add j) = some u) →
      (Builtin.append_ #[48, 48] 48 #[.slice (some ⟨g, off, none⟩) i cap, .slice (some ad) (p - i) (cap - (i + 1))]).run Tryz.prog w.drew = .ok (.slice (some ⟨g, off, none⟩) p cap) (w.drew.setCells g (off + i) news) := fun ad had => by
    have := run_append_room_cells (P := Tryz.prog) w.drew 48 48 3 inf Tryz.underlying48 hi1 g off i cap ad (p - i) (cap - (i + 1)) news (by rw [hs1]; omega) had hone (by omega)
      (fun j hj => by rw [hs1]; show (w.drew.cell? _).isSome = true; rw [cells_take hg, Array.getElem?_eq_getElem (by omega)]; rfl) (fun j hj => frozen_of_row w g _ cur _ hg)
    rw [hs1, Nat.mul_one, show i + (p - i) = p by omega] at this
    exact this
  have HR1 := Lib.hid hr1
  have HC := Lib.hid hcell
  have HN := Lib.hid hnews
  clear hr1 hcell hnews hin hi1 hz1 hs1 hb1 hzs1 hg h hone
  have hlp : (l.length : Int) ≤ 1000000 := by omega
  generalize l.length = n at *
  subst hp
  unfold maxLen at hcm
  have q1 : ¬ cap = i := by omega
  have q2 : ¬ cap = p := by omega
  have q3 : p + 1 - (i + 1) = p - i := by omega
  have q4 : ((i : Int) == (i : Int) + 1) = false := by rw [beq_eq_false_iff_ne]; omega
  have q5 : i ≤ cap := by omega
  have q6 : i + 1 ≤ cap := by omega
  have q7 : p + 1 ≤ cap := by omega
  have q8 : (i : Int) + 1 ≤ (p : Int) + 1 := by omega
  have q9 : ((i : Int) + 1).toNat = i + 1 := by omega
  have q10 : (0 : Int) ≤ (i : Int) + 1 := by omega
  by_cases hci : cap = i + 1
  · obtain rfl : p = i := by omega
    subst hci
    have hr1 := HR1.out ⟨g, off, none⟩ (fun j u hu => by have h := HN.out; rw [List.getElem?_eq_none (by omega)] at hu; cases hu)
    clear HR1 HC HN q1 q2 q3
    have q11 : (p : Int) ≤ (p : Int) + 1 := by omega
    simp only [Nat.sub_self] at hr1
    simp only [Nat.add_sub_cancel_left] at hr2
    go_enter Tryz.func123, Tryz.ntmps123
    go_wp2_with fail
    go_region_law (refine step_append_run rfl _ _ 48 48 rfl _ _ (by simp [Act.eval, Act.put]) (by simp [Act.eval, Act.put]) hr1 ?_)
    clear hr1
    go_wp2_with (at_builtin; refine wpList_clear_run rfl (.tmp 31) _ rfl _ rfl hr2 ?_)
    go_ret
    exact ⟨_, rfl, HF.out.1, HF.out.2, rfl⟩
  · have hr1 := HR1.out ⟨g, off + (i + 1), none⟩ (fun j u hu => by rw [Addr.add_lit]; exact HC.out j u hu)
    clear HR1 HC HN
    go_enter Tryz.func123, Tryz.ntmps123
    go_wp2_with fail
    go_region_law (refine step_append_run rfl _ _ 48 48 rfl _ _ (by simp [Act.eval, Act.put]) (by simp [Act.eval, Act.put]) hr1 ?_)
    clear hr1
    go_wp2_with (at_builtin; refine wpList_clear_run rfl (.tmp 31) _ rfl _ rfl hr2 ?_)
    go_ret
    exact ⟨_, rfl, HF.out.1, HF.out.2, rfl⟩
end Go.Proofs.YtkefgapnghnjjaaGreatDoor

namespace Go.Tk
open Go Go.RowKit
theorem unline_pos {x : LockD} {who : Int} {n : Nat} (h : fIdx (fun y => who == y) x.line = n) : unline x who = { x with line := x.line.eraseIdx n } := by
  rw [unline, h, if_pos (by omega), Int.toNat_natCast]
theorem unline_neg {x : LockD} {who : Int} (h : fIdx (fun y => who == y) x.line = -1) : unline x who = x := by
  rw [unline, h, if_neg (by decide)]
end Go.Tk
namespace Go.Proofs.YtkefgapnghnjjaaGreatDoor
open Go.RowKit Go.Tk
set_option maxRecDepth 100000 in
set_option maxHeartbeats 1600000 in
theorem free_calls (l : List LockD) (name : List UInt8) (who : Int) (v : Value) (S : Nat → Prop) (w : World) (h : SlR 4 rLock w v l S) (hin : ∀ x ∈ l, x.line.length ≤ 1000000) :
    Calls Tryz.prog 91 #[v, .string ⟨name.toArray⟩, .int .i64 who] w (RetLocks w (lkFree l name who)) := by
  have HN := Lib.hid hin
  have HH := Lib.hid h
  clear hin h
  go_enter Tryz.func91, Tryz.ntmps91
  go_wp2_with fail
  refine (begin_calls l name who v S _ (HH.out.below rLock_ok (by decide) (below_alloc w _)) HN.out).mono ?_; rintro e w1 ⟨v1, rfl, ho1, hb1, hv1⟩
  rw [World.size_alloc] at hb1
  have HBF := Lib.hid (show Below w.heap.size w w1 from (below_alloc w _).trans (hb1.mono (by omega)))
  obtain ⟨hz, hzf, hzs⟩ := Tk.fresh hb1
  have z0 := hz 0; have z1 := hz 1; have z2 := hz 2
  have zf0 := hzf 0; have zf1 := hzf 1; have zf2 := hzf 2
  clear hz hzf
  simp only [World.size_alloc] at ho1 hv1
  by_cases he : (lkBegin l name who).2.2.2 = 0
  case neg =>
    have HJ := Lib.hid (show lkFree l name who = ([], noReply, (lkBegin l name who).2.2.2) by rw [lkFree, if_pos he])
    have he' : ((lkBegin l name who).2.2.2 != 0) = true := by simpa using he
    clear ho1 hv1 he
    generalize (lkBegin l name who).2.2.2 = ec at *
    generalize (lkBegin l name who).2.1 = ea at *
    generalize (lkBegin l name who).2.2.1 = eb at *
    have HR1 := Lib.hid (SlR.nil (k := 4) (R := rLock) w1 (fun b => w.heap.size + 1 ≤ b))
    go_wp2
    refine bodyPost_ret (v := .tuple #[.slice none 0 0, .agg #[.int .i64 0, .int .i64 0, .string ⟨#[]⟩], .int .i64 ec]) (by simp [results, Tryz.results91, go_sem, z0, z1, z2, zf0, zf1, zf2]) rfl ?_
    rw [HJ.out]
    refine RetLocks.mk (r := noReply) (SlR.move rLock_ok (by decide) HR1.out fun b hb hlt => ⟨?_, ?_⟩) ?_
    · have hb' : w.heap.size + 1 ≤ b := hb
      (repeat (first | with_reducible rfl | with_reducible assumption | with_reducible refine (Go.Tk.heap_drew _ _).trans ?_ | with_reducible refine (Go.Tk.heap_drewN _ _ _).trans ?_ | with_reducible refine (Go.Tk.heap_far (by omega)).trans ?_))
    · have hb' : w.heap.size + 1 ≤ b := hb
      show _ ≤ _; omega
    · (repeat (first | exact HBF.out | with_reducible refine below_drewN ?_ _ | with_reducible refine Below.drew ?_ | with_reducible refine below_set ?_ (by omega) _ _ | with_reducible refine Below.alloc ?_ (by omega) _))
  obtain ⟨hok, hname, hwho, hbe⟩ := lkBegin_ok he
  have HT0 := Lib.hid (show lkFree l name who = if lThere l name = false then (l, ⟨6, 0, []⟩, 0)
    else if (l.getD (lFind l name) noLock).holder = who then (l.set (lFind l name) (passP (l.getD (lFind l name) noLock)), ⟨0, (passP (l.getD (lFind l name) noLock)).holder, []⟩, 0)
    else if 0 ≤ fIdx (fun x => who == x) (l.getD (lFind l name) noLock).line then (l.set (lFind l name) (unline (l.getD (lFind l name) noLock) who), ⟨0, (l.getD (lFind l name) noLock).holder, []⟩, 0)
    else (l, ⟨10, (l.getD (lFind l name) noLock).holder, []⟩, 0) by rw [lkFree, if_neg (by simpa using he)])
  rw [hbe] at ho1 ⊢
  clear hbe he
  simp only at ho1
  have HO := Lib.hid hok
  have hl5 := hok.len
  have hfl : lFind l name ≤ l.length := bs_le _ _
  have HLT := Lib.hid (fun hth : lThere l name = true => lThere_lt hth)
  generalize lThere l name = th at HT0 HLT ⊢
  generalize lFind l name = fi at HT0 HLT hfl ⊢
  clear hok
  have hr1 := ho1.readLk hv1
  have hone := hr1.oneCell
  cases th
  case false =>
    have HJ := Lib.hid (HT0.out.trans (if_pos rfl))
    clear HT0 HLT
    obtain ⟨ra, rc, rfl⟩ : ∃ a c, v1 = .slice a l.length c := by obtain ⟨a, c, h, _⟩ := hr1; exact ⟨a, c, h⟩
    have HR1 := Lib.hid hr1
    clear hr1 ho1 hv1
    go_wp2
    refine bodyPost_ret (v := .tuple #[.slice ra l.length rc, .agg #[.int .i64 6, .int .i64 0, .string ⟨#[]⟩], .int .i64 0]) (by simp [results, Tryz.results91, go_sem, z0, z1, z2, zf0, zf1, zf2]) rfl ?_
    rw [HJ.out]
    refine RetLocks.mk (r := ⟨6, 0, []⟩) (SlR.move rLock_ok (by decide) HR1.out fun b hb hlt => ⟨?_, ?_⟩) ?_
    · have hb' : w.heap.size + 1 ≤ b := hb
      (repeat (first | with_reducible rfl | with_reducible assumption | with_reducible refine (Go.Tk.heap_drew _ _).trans ?_ | with_reducible refine (Go.Tk.heap_drewN _ _ _).trans ?_ | with_reducible refine (Go.Tk.heap_far (by omega)).trans ?_))
    · have hb' : w.heap.size + 1 ≤ b := hb
      show _ ≤ _; omega
    · (repeat (first | exact HBF.out | with_reducible refine below_drewN ?_ _ | with_reducible refine Below.drew ?_ | with_reducible refine below_set ?_ (by omega) _ _ | with_reducible refine Below.alloc ?_ (by omega) _))
  case true =>
    have hlt := HLT.out rfl
    have HT1 := Lib.hid (HT0.out.trans (if_neg (by decide)))
    clear HT0 HLT
    obtain ⟨g, cap, rfl, hgc, hgm, hg2, hfz⟩ := ho1.shapePos (by omega)
    have hgw := hv1 g rfl
    obtain ⟨rv, hcells, hrv, hrg⟩ := ho1.cellsLock fi hlt
    have HGD := Lib.hid (show l.getD fi noLock = l[fi] by simp [List.getD, hlt])
    have HXL := Lib.hid (HO.out.line l[fi] (List.getElem_mem hlt))
    have HXF := Lib.hid (HO.out.fence l[fi] (List.getElem_mem hlt))
    generalize hxx : l[fi] = x at hcells hrv HGD HXL HXF
    have HXX := Lib.hid hxx
    clear hxx
    obtain ⟨ra, rc, rfl⟩ := hrv.shape
    have c1 := hcells 1 _ rfl
    have c3 := hcells 3 _ rfl
    have f3 := hfz (fi * 4 + 3)
    have HOD := Lib.hid ho1
    have HR1 := Lib.hid hr1
    have HV := Lib.hid hrv
    have HG := Lib.hid hrg
    have HT2 := HT1.out
    rw [HGD.out] at HT2
    have HT := Lib.hid HT2
    clear hcells hrv hrg ho1 hr1 hfz HT1 HT2 hv1 hone
    have HC := Lib.hid (indexInt_calls w1 _ x.line (fun _ => True) ((HV.out.forget (S' := fun _ => True) (fun _ _ _ _ _ h => h)).read rInt_ok (by decide) (fun _ _ => trivial)) (by have := HXL.out.len; omega) who)
    go_wp2_with fail
    refine HC.out.mono ?_; rintro e w2 ⟨rfl, hb2⟩
    clear HC
    have hs2 := hb2.size
    have HB2 := Lib.hid (below_step HBF.out hb2)
    have HR2 := Lib.hid (HR1.out.below rLock_ok (by decide) hb2)
    have HOD2 := Lib.hid ((HOD.out.below (rLockO_ok _) hb2).map (R' := rLockF 3) fun _ _ _ _ h => h.toF)
    have hbb := hb1.trans (hb2.mono (by omega))
    obtain ⟨hz, hzf, hzs2⟩ := Tk.fresh hbb
    clear z0 z1 z2 zf0 zf1 zf2
    have z0 := hz 0; have z1 := hz 1; have z2 := hz 2
    have zf0 := hzf 0; have zf1 := hzf 1; have zf2 := hzf 2
    clear hz hzf
    have d1 := cell_keep c1 (hb2.block g hg2)
    have d3 := cell_keep c3 (hb2.block g hg2)
    have e3 := (World.frozen?_of_block (hb2.block g hg2)).trans f3
    clear c1 c3 f3 HBF
    have HBF := HB2
    clear HB2
    have hg2' : g < w2.heap.size := by omega
    by_cases hw : x.holder = who
    · have HJ := Lib.hid (HT.out.trans (if_pos hw))
      have hwb : (x.holder == who) = true := by simpa using hw
      have HP := Lib.hid (pass_calls w2 g l.length cap l _ HOD2.out fi hlt (by rw [HXX.out]; have := HXF.out; omega) (by rw [HXX.out]; have := HXL.out.len; omega))
      clear hw HT
      generalize hidx : fIdx (fun y => who == y) x.line = at0
      clear hidx
      go_wp2_with fail
      refine HP.out.mono ?_; rintro e w3 ⟨rfl, ho3, hg3⟩
      clear HP
      rw [HXX.out] at ho3
      obtain ⟨rv3, hc3, -, -⟩ := ho3.cellsLockF fi (by rw [List.length_set]; exact hlt)
      simp only [List.getElem_set_self] at hc3
      have d1' := hc3 1 _ rfl
      have HR3 := Lib.hid (ho3.readLockF (fun b hb => by cases hb; exact hgw))
      have hbb3 := hbb.grown hg3 (by omega) (fun k hk => by cases hk; exact hgw)
      have HB3 := Lib.hid (HBF.out.grown hg3 (by omega) (fun k hk => by cases hk; omega))
      have hs3 := hg3.size
      clear HBF d1 d3 e3 ho3 hc3 hg3
      have HBF := HB3
      clear HB3
      obtain ⟨hz, hzf, hzs3⟩ := Tk.fresh hbb3
      clear z0 z1 z2 zf0 zf1 zf2
      have z0 := hz 0; have z1 := hz 1; have z2 := hz 2
      have zf0 := hzf 0; have zf1 := hzf 1; have zf2 := hzf 2
      clear hz hzf
      generalize passP x = px at *
      go_wp2
      go_region
      go_wp2
      refine bodyPost_ret (v := .tuple #[.slice (some ⟨g, 0, none⟩) l.length cap, .agg #[.int .i64 0, .int .i64 px.holder, .string ⟨#[]⟩], .int .i64 0]) (by simp [results, Tryz.results91, go_sem, z0, z1, z2, zf0, zf1, zf2]) rfl ?_
      rw [HJ.out]
      refine RetLocks.mk (r := ⟨0, px.holder, []⟩) (SlR.move rLock_ok (by decide) HR3.out fun b hb hlt => ⟨?_, ?_⟩) ?_
      · have hb' : w.heap.size + 1 ≤ b := hb
        (repeat (first | with_reducible rfl | with_reducible assumption | with_reducible refine (Go.Tk.heap_drew _ _).trans ?_ | with_reducible refine (Go.Tk.heap_drewN _ _ _).trans ?_ | with_reducible refine (Go.Tk.heap_far (by omega)).trans ?_))
      · have hb' : w.heap.size + 1 ≤ b := hb
        show _ ≤ _; omega
      · (repeat (first | exact HBF.out | with_reducible refine below_drewN ?_ _ | with_reducible refine Below.drew ?_ | with_reducible refine below_set ?_ (by omega) _ _ | with_reducible refine Below.alloc ?_ (by omega) _))
    have HT3 := Lib.hid (HT.out.trans (if_neg hw))
    have hwb : (x.holder == who) = false := by simpa using hw
    clear hw HT
    rcases fIdx_cases (fun y => who == y) x.line with ⟨hi, -⟩ | ⟨n, hn, hi, -, -⟩
    · have HJ := Lib.hid (HT3.out.trans (if_neg (by rw [hi]; decide)))
      rw [hi]
      clear hi
      go_wp2
      go_region
      go_wp2
      refine bodyPost_ret (v := .tuple #[.slice (some ⟨g, 0, none⟩) l.length cap, .agg #[.int .i64 10, .int .i64 x.holder, .string ⟨#[]⟩], .int .i64 0]) (by simp [results, Tryz.results91, go_sem, z0, z1, z2, zf0, zf1, zf2]) rfl ?_
      rw [HJ.out]
      refine RetLocks.mk (r := ⟨10, x.holder, []⟩) (SlR.move rLock_ok (by decide) HR2.out fun b hb hlt => ⟨?_, ?_⟩) ?_
      · have hb' : w.heap.size + 1 ≤ b := hb
        (repeat (first | with_reducible rfl | with_reducible assumption | with_reducible refine (Go.Tk.heap_drew _ _).trans ?_ | with_reducible refine (Go.Tk.heap_drewN _ _ _).trans ?_ | with_reducible refine (Go.Tk.heap_far (by omega)).trans ?_))
      · have hb' : w.heap.size + 1 ≤ b := hb
        show _ ≤ _; omega
      · (repeat (first | exact HBF.out | with_reducible refine below_drewN ?_ _ | with_reducible refine Below.drew ?_ | with_reducible refine below_set ?_ (by omega) _ _ | with_reducible refine Below.alloc ?_ (by omega) _))
    · have HJ := Lib.hid (HT3.out.trans (if_pos (by rw [hi]; omega)))
      have HU := Lib.hid (unline_pos hi)
      rw [hi]
      clear hi HT3
      have hx3 := HXL.out.len
      have hna : (Value.slice ra x.line.length rc).ownBlock ≠ some g := fun e => (HG.out g e).2.1 rfl
      have HD := Lib.hid (delInt_calls w2 _ x.line (fun _ => False) ((HV.out.below rInt_ok hb2).toF rInt_ok) (by omega) n hn)
      have hwn : IntKind.i64.wrap ((n : Int) + 1) = (n : Int) + 1 := IntWalk.i64_in _ (by omega)
      go_wp2_with fail
      refine HD.out.mono ?_; rintro e w3 ⟨v3, rfl, ho3, hg3, hv3⟩
      clear HD
      obtain ⟨ra3, rc3, e3'⟩ := ho3.shape
      have u1 := cell_keep d1 (hg3.block g hg2' (Ne.symm hna))
      have u3 := cell_keep d3 (hg3.block g hg2' (Ne.symm hna))
      have uf := (World.frozen?_of_block (hg3.block g hg2' (Ne.symm hna))).trans e3
      have hone3 := ho3.oneCell
      have HR3 : Hid (SlR 4 rLock (w3.setCell ⟨g, fi * 4 + 3, none⟩ v3) (.slice (some ⟨g, 0, none⟩) l.length cap) (l.set fi (unline x who)) (fun b => w.heap.size + 1 ≤ b)) := by
        have k1 := HOD2.out.inLockF hlt d3 hg3 ho3 (.inl hv3)
        rw [HXX.out] at k1
        rw [HU.out]
        exact k1.readLockF (fun b hb => by cases hb; exact hgw)
      have hbb3 := hbb.grown hg3 (by omega) (fun k hk => (HG.out k hk).1)
      have HB3 := Lib.hid (HBF.out.grown hg3 (by omega) (fun k hk => by have := (HG.out k hk).1; omega))
      have hs3 := hg3.size
      subst e3'
      clear HBF d1 d3 e3 ho3 hg3 hv3 HU
      have HBF := HB3
      clear HB3
      obtain ⟨hz, hzf, hzs3⟩ := Tk.fresh hbb3
      clear z0 z1 z2 zf0 zf1 zf2
      have z0 := hz 0; have z1 := hz 1; have z2 := hz 2
      have zf0 := hzf 0; have zf1 := hzf 1; have zf2 := hzf 2
      clear hz hzf
      go_wp2
      go_region
      go_wp2
      refine bodyPost_ret (v := .tuple #[.slice (some ⟨g, 0, none⟩) l.length cap, .agg #[.int .i64 0, .int .i64 x.holder, .string ⟨#[]⟩], .int .i64 0]) (by simp [results, Tryz.results91, go_sem, z0, z1, z2, zf0, zf1, zf2]) rfl ?_
      rw [HJ.out]
      refine RetLocks.mk (r := ⟨0, x.holder, []⟩) (SlR.move rLock_ok (by decide) HR3.out fun b hb hlt => ⟨?_, ?_⟩) ?_
      · have hb' : w.heap.size + 1 ≤ b := hb
        (repeat (first | with_reducible rfl | with_reducible assumption | with_reducible refine (Go.Tk.heap_drew _ _).trans ?_ | with_reducible refine (Go.Tk.heap_drewN _ _ _).trans ?_ | with_reducible refine (Go.Tk.heap_far (by omega)).trans ?_))
      · have hb' : w.heap.size + 1 ≤ b := hb
        show _ ≤ _; omega
      · (repeat (first | exact HBF.out | with_reducible refine below_drewN ?_ _ | with_reducible refine Below.drew ?_ | with_reducible refine below_set ?_ (by omega) _ _ | with_reducible refine Below.alloc ?_ (by omega) _))
end Go.Proofs.YtkefgapnghnjjaaGreatDoor

namespace Go.Tk
open Go Go.RowKit
def RetLocksE (w : World) (res : List LockD × Int) (e : Ending) (w' : World) : Prop :=
  ∃ v', e = .returned (.tuple #[v', .int .i64 res.2]) ∧ SlR 4 rLock w' v' res.1 (fun b => w.heap.size ≤ b) ∧ Below w.heap.size w w'
theorem RetLocksE.nil {w w' : World} {c : Int} (hb : Below w.heap.size w w') : RetLocksE w ([], c) (.returned (.tuple #[.slice none 0 0, .int .i64 c])) w' := ⟨_, rfl, SlR.nil _ _, hb⟩
theorem map_len {α : Type} (f : α → α) (l : List α) (n : Nat) (hn : n ≤ l.length) : ((l.take n).map f ++ l.drop n).length = l.length := by simp; omega
theorem map_at {α : Type} (f : α → α) (l : List α) (n : Nat) (hn : n < l.length) : ((l.take n).map f ++ l.drop n)[n]'(by rw [map_len f l n (by omega)]; exact hn) = l[n] := by
  rw [List.getElem_append_right (by simp; omega)]
  simp [Nat.min_eq_left (Nat.le_of_lt hn)]
theorem map_step {α : Type} (f : α → α) (l : List α) (n : Nat) (hn : n < l.length) : ((l.take n).map f ++ l.drop n).set n (f l[n]) = (l.take (n + 1)).map f ++ l.drop (n + 1) := by
  rw [List.take_succ_eq_append_getElem hn, List.map_append, List.set_append_right _ _ (by simp; omega)]
  have h1 : n - ((l.take n).map f).length = 0 := by simp; omega
  rw [h1, List.drop_eq_getElem_cons hn, List.set_cons_zero]
  simp
end Go.Tk
namespace Go.Proofs.YtkefgapnghnjjaaGreatDoor
open Go.RowKit Go.Tk
set_option maxRecDepth 100000 in
set_option maxHeartbeats 1600000 in
theorem gone_calls (l : List LockD) (who : Int) (v : Value) (S : Nat → Prop) (w : World) (h : SlR 4 rLock w v l S) (hin : ∀ x ∈ l, x.line.length ≤ 1000000) :
    Calls Tryz.prog 82 #[v, .int .i64 who] w (RetLocksE w (lkGone l who)) := by
  have HN := Lib.hid hin
  have HH := Lib.hid h
  clear hin h
  go_enter Tryz.func82, Tryz.ntmps82
  go_wp2_with fail
  refine (lkCheck_calls l v S _ HH.out HN.out).mono ?_; rintro e w1 ⟨rfl, hb1⟩
  by_cases he : lkCheck l = 0
  case neg =>
    have HJ := Lib.hid (show lkGone l who = ([], lkCheck l) by rw [lkGone, if_pos he])
    have he' : (lkCheck l != 0) = true := by simpa using he
    clear he
    go_wp2
    go_ret2
    rw [HJ.out]; exact RetLocksE.nil hb1
  have he' : (lkCheck l != 0) = false := by simpa using he
  have HE := Lib.hid he
  have hok := lkCheck_ok.1 he
  have HO := Lib.hid hok
  have hl5 := hok.len
  clear he hok
  go_wp2_with fail
  refine (client_calls who _).mono ?_; rintro e w' ⟨rfl, rfl⟩
  cases hcl : lkClient who
  case false =>
    have HJ := Lib.hid (show lkGone l who = ([], 2) by rw [lkGone, if_neg (by simpa using HE.out), if_pos hcl])
    clear hcl
    go_wp2
    go_ret2
    rw [HJ.out]; exact RetLocksE.nil hb1
  have HJ := Lib.hid (show lkGone l who = (l.map (fun k => goneK k who), 0) by rw [lkGone, if_neg (by simpa using HE.out), if_neg (by rw [hcl]; decide)])
  clear hcl
  go_wp2_with fail
  refine (copyLock_calls _ v l S (HH.out.below rLock_ok (by decide) hb1) (by omega) HN.out).mono ?_; rintro e w2 ⟨v2, rfl, ho2, hb2, hv2⟩
  have hs1 := hb1.size
  have HO0 := Lib.hid ((ho2.sub (S' := fun b => w.heap.size ≤ b) (rLockO_ok _) (fun b hb _ => by show _ ≤ _; omega)).map (R' := rLockF 3) fun _ _ _ _ h => h.toF)
  have HB0 := Lib.hid (below_step hb1 hb2)
  have HV2 := Lib.hid (fun g (hg : v2.ownBlock = some g) => (by have := hv2 g hg; omega : w.heap.size ≤ g))
  obtain ⟨a2, c2, rfl⟩ : ∃ a c, v2 = .slice a l.length c := (ho2.own (rLockO_ok _)).shape
  clear ho2 hb2 hv2 hb1
  go_wp2
  go_loopw [7, 8, 9, 22] (fun _ _ _ i wr => ∃ n : Nat, n ≤ l.length ∧ i = .int .i64 n ∧ Hid (OwD 50 4 (rLockF 3) wr (.slice a2 l.length c2) ((l.take n).map (fun k => goneK k who) ++ l.drop n) (fun b => w.heap.size ≤ b)) ∧ Hid (Below w.heap.size w wr))
    (fun _ _ _ i _ => l.length - (intOf i).toNat)
  case atStart => exact ⟨0, by omega, rfl, HO0.out, HB0.out⟩
  case round =>
    obtain ⟨n, hnl, rfl, hod, hbw⟩ := hrel
    by_cases hlt : n < l.length
    · obtain ⟨L, hL⟩ : ∃ L, L = (l.take n).map (fun k => goneK k who) ++ l.drop n := ⟨_, rfl⟩
      have hml : L.length = l.length := by rw [hL]; exact map_len (fun k => goneK k who) l n hnl
      have hlt2 : n < L.length := by omega
      have HMA : Hid (L[n] = l[n]) := by subst hL; exact map_at (fun k => goneK k who) l n hlt
      have HMS : Hid (L.set n (goneK l[n] who) = (l.take (n + 1)).map (fun k => goneK k who) ++ l.drop (n + 1)) := by subst hL; exact map_step (fun k => goneK k who) l n hlt
      have HXL := Lib.hid (HO.out.line l[n] (List.getElem_mem hlt))
      have HXF := Lib.hid (HO.out.fence l[n] (List.getElem_mem hlt))
      rw [← hL] at hod
      clear hL
      generalize hxx : l[n] = x at HMA HMS HXL HXF
      clear hxx
      obtain ⟨g, cap, hv, -, -, hg2, hfz⟩ := hod.out.shapePos (by omega)
      simp only [Value.slice.injEq] at hv
      obtain ⟨rfl, -, rfl⟩ := hv
      have hgw := HV2.out g rfl
      obtain ⟨rv, hcells, hrv, hrg⟩ := hod.out.cellsLockF n hlt2
      rw [HMA.out] at hcells hrv
      obtain ⟨ra, rc, rfl⟩ := hrv.shape
      have c1 := hcells 1 _ rfl
      have c3 := hcells 3 _ rfl
      have f3 := hfz (n * 4 + 3)
      have HV := Lib.hid hrv
      have HG := Lib.hid hrg
      clear hcells hrv hrg hfz HO0 HB0
      have HML := Lib.hid hml
      clear hml
      have HC := Lib.hid (indexInt_calls wr _ x.line (fun _ => True) ((HV.out.forget (S' := fun _ => True) (fun _ _ _ _ _ h => h)).read rInt_ok (fun _ _ => trivial)) (by have := HXL.out.len; omega) who)
      go_wp2_with fail
      refine HC.out.mono ?_; rintro e w2 ⟨rfl, hb2⟩
      clear HC
      have hs2 := hb2.size
      have HB2 := Lib.hid (below_step hbw.out hb2)
      have HOD2 := Lib.hid (hod.out.below (rLockF_ok _) hb2)
      have d1 := cell_keep c1 (hb2.block g hg2)
      have d3 := cell_keep c3 (hb2.block g hg2)
      have e3 := (World.frozen?_of_block (hb2.block g hg2)).trans f3
      clear c1 c3 f3 hod hbw
      have hg2' : g < w2.heap.size := by omega
      have hx3 := HXL.out.len
      rcases fIdx_cases (fun y => who == y) x.line with ⟨hi, -⟩ | ⟨m, hm, hi, -, -⟩
      · have HU := Lib.hid (unline_neg hi)
        rw [hi]
        clear hi
        by_cases hw : x.holder = who
        · have HK := Lib.hid (show goneK x who = passP x by rw [goneK, HU.out, if_pos hw])
          have hwb : (x.holder == who) = true := by simpa using hw
          have HP := Lib.hid (pass_calls w2 g l.length c2 L _ HOD2.out n hlt2 (by rw [HMA.out]; have := HXF.out; omega) (by rw [HMA.out]; omega))
          clear hw
          go_wp2_with fail
          refine HP.out.mono ?_; rintro e w3 ⟨rfl, ho3, hg3⟩
          clear HP
          rw [HMA.out] at ho3
          have HO3 := Lib.hid ho3
          have HB3 := Lib.hid (HB2.out.grown hg3 (by have := HB2.out.size; omega) (fun k hk => by cases hk; exact hgw))
          clear ho3 hg3
          go_wp2
          go_roundw
          case rel => exact ⟨n + 1, by omega, by go_num, by rw [← HMS.out]; show Hid _; rw [HK.out]; exact HO3.out, HB3.out⟩
          case measure => simp [intOf]; omega
        · have HK := Lib.hid (show goneK x who = x by rw [goneK, HU.out, if_neg hw])
          have hwb : (x.holder == who) = false := by simpa using hw
          have HSS : Hid (L.set n x = L) := by show _ = _; rw [← HMA.out]; exact List.set_getElem_self _
          clear hw
          go_wp2
          go_roundw
          case rel => exact ⟨n + 1, by omega, by go_num, by rw [← HMS.out]; show Hid _; rw [HK.out, HSS.out]; exact HOD2.out, HB2.out⟩
          case measure => simp [intOf]; omega
      · have HU := Lib.hid (unline_pos hi)
        rw [hi]
        clear hi
        have hna : (Value.slice ra x.line.length rc).ownBlock ≠ some g := fun e => (HG.out g e).2.1 rfl
        have HD := Lib.hid (delInt_calls w2 _ x.line (fun _ => False) (HV.out.below rInt_ok hb2) (by omega) m hm)
        have hwn : IntKind.i64.wrap ((m : Int) + 1) = (m : Int) + 1 := IntWalk.i64_in _ (by omega)
        go_wp2_with fail
        refine HD.out.mono ?_; rintro e w3 ⟨v3, rfl, ho3, hg3, hv3⟩
        clear HD
        obtain ⟨ra3, rc3, e3'⟩ := ho3.shape
        have u1 := cell_keep d1 (hg3.block g hg2' (Ne.symm hna))
        have u3 := cell_keep d3 (hg3.block g hg2' (Ne.symm hna))
        have uf := (World.frozen?_of_block (hg3.block g hg2' (Ne.symm hna))).trans e3
        have HO4 : Hid (OwD 50 4 (rLockF 3) (w3.setCell ⟨g, n * 4 + 3, none⟩ v3) (.slice (some ⟨g, 0, none⟩) l.length c2) (L.set n (unline x who)) (fun b => w.heap.size ≤ b)) := by
          have k1 := HOD2.out.inLockF hlt2 d3 hg3 ho3 (.inl hv3)
          rw [HMA.out] at k1
          rw [HU.out]; exact k1
        have HB3 := Lib.hid (HB2.out.grown hg3 (by have := HB2.out.size; omega) (fun k hk => (HG.out k hk).1))
        have hs3 := hg3.size
        subst e3'
        clear d1 d3 e3 ho3 hg3 hv3
        by_cases hw : x.holder = who
        · have HK := Lib.hid (show goneK x who = passP (unline x who) by rw [goneK, if_pos (by rw [HU.out]; exact hw)])
          have hwb : (x.holder == who) = true := by simpa using hw
          have HLN := Lib.hid (show (unline x who).line.length ≤ 1000000 by rw [HU.out]; exact Nat.le_trans (List.length_eraseIdx_le _ _) (by omega))
          have HLF := Lib.hid (show (unline x who).fence = x.fence by rw [HU.out])
          have HP := Lib.hid (pass_calls _ g l.length c2 (L.set n (unline x who)) _ HO4.out n (by rw [List.length_set]; exact hlt2) (by rw [List.getElem_set_self, HLF.out]; have := HXF.out; omega) (by rw [List.getElem_set_self]; exact HLN.out))
          clear hw
          go_wp2_with fail
          refine HP.out.mono ?_; rintro e w5 ⟨rfl, ho5, hg5⟩
          clear HP
          rw [List.getElem_set_self, List.set_set] at ho5
          have HO5 := Lib.hid ho5
          have HB5 := Lib.hid ((below_set HB3.out (b := g) (by omega) _ _).grown hg5 (by have := HB3.out.size; simp [World.setCell]; omega) (fun k hk => by cases hk; exact hgw))
          clear ho5 hg5
          go_wp2
          go_roundw
          case rel => exact ⟨n + 1, by omega, by go_num, by rw [← HMS.out]; show Hid _; rw [HK.out]; exact HO5.out, HB5.out⟩
          case measure => simp [intOf]; omega
        · have HK := Lib.hid (show goneK x who = unline x who by rw [goneK, if_neg (by rw [HU.out]; exact hw)])
          have hwb : (x.holder == who) = false := by simpa using hw
          clear hw
          go_wp2
          go_roundw
          case rel => exact ⟨n + 1, by omega, by go_num, by rw [← HMS.out]; show Hid _; rw [HK.out]; exact HO4.out, below_set HB3.out (by omega) _ _⟩
          case measure => simp [intOf]; omega
    · obtain rfl : n = l.length := by omega
      have HOF : Hid (OwD 50 4 (rLockF 3) wr (.slice a2 l.length c2) (l.map (fun k => goneK k who)) (fun b => w.heap.size ≤ b)) := by
        have := hod.out
        rw [List.take_length, List.drop_length, List.append_nil] at this
        exact this
      clear hod HO0 HB0
      go_wp2
      go_ret2
      rw [HJ.out]
      exact ⟨_, rfl, HOF.out.readLockF HV2.out, hbw.out⟩
end Go.Proofs.YtkefgapnghnjjaaGreatDoor
