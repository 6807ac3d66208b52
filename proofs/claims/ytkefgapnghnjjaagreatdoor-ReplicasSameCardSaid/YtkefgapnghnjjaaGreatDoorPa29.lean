/- A part of the proof, laid together from: Take. -/
import Derived.Test.YtkefgapnghnjjaaGreatDoorPa27
import Derived.Test.YtkefgapnghnjjaaGreatDoorPa28
import Derived.Test.YtkefgapnghnjjaaGreatDoorPa16
import Derived.Deep.RegionHeld3
set_option linter.unusedSimpArgs false
set_option linter.unusedVariables false
namespace Go.Tk
open Go Go.RowKit
def RetLocks (w : World) (res : List LockD × ReplyD × Int) (e : Ending) (w' : World) : Prop :=
  ∃ v', e = .returned (.tuple #[v', .agg #[.int .i64 res.2.1.code, .int .i64 res.2.1.n, .string ⟨res.2.1.text.toArray⟩], .int .i64 res.2.2]) ∧ SlR 4 rLock w' v' res.1 (fun b => w.heap.size ≤ b) ∧ Below w.heap.size w w'
theorem RetLocks.mk {w w' : World} {v : Value} {l : List LockD} {r : ReplyD} {c : Int} (h : SlR 4 rLock w' v l (fun b => w.heap.size ≤ b)) (hb : Below w.heap.size w w') : RetLocks w (l, r, c) (.returned (.tuple #[v, .agg #[.int .i64 r.code, .int .i64 r.n, .string ⟨r.text.toArray⟩], .int .i64 c])) w' := ⟨_, rfl, h, hb⟩
theorem lkBegin_ok {l : List LockD} {name : List UInt8} {who : Int} (h : (lkBegin l name who).2.2.2 = 0) : LkOk l ∧ lkName name = true ∧ (1 ≤ who ∧ who ≤ 9) ∧ lkBegin l name who = (l, ((lFind l name : Nat) : Int), lThere l name, (0 : Int)) := by
  unfold lkBegin at h ⊢
  by_cases h1 : lkCheck l = 0
  · rw [if_neg (by simpa using h1)] at h ⊢
    by_cases h2 : lkName name = false
    · rw [if_pos h2] at h; cases h
    · rw [if_neg h2] at h ⊢
      by_cases h3 : lkClient who = false
      · rw [if_pos h3] at h; cases h
      · rw [if_neg h3]
        exact ⟨lkCheck_ok.1 h1, by simpa using h2, lkClient_iff.1 (by simpa using h3), rfl⟩
  · rw [if_pos h1] at h; exact absurd h h1
theorem OwD.readLk {E EI : Nat} {w w0 : World} {v : Value} {l : List LockD} (h : OwD E 4 (rLockO EI) w v l (fun b => w0.heap.size + 1 ≤ b)) (hS : ∀ g, v.ownBlock = some g → w0.heap.size + 1 ≤ g) : SlR 4 rLock w v l (fun b => w0.heap.size + 1 ≤ b) := h.readLock hS
end Go.Tk
namespace Go.Proofs.YtkefgapnghnjjaaGreatDoor
open Go.RowKit Go.Tk
set_option maxRecDepth 100000 in
set_option maxHeartbeats 1600000 in
theorem take_calls (l : List LockD) (name : List UInt8) (who : Int) (wait : Bool) (v : Value) (S : Nat → Prop) (w : World) (h : SlR 4 rLock w v l S) (hin : ∀ x ∈ l, x.line.length ≤ 1000000) :
    Calls Tryz.prog 90 #[v, .string ⟨name.toArray⟩, .int .i64 who, .bool wait] w (RetLocks w (lkTake l name who wait)) := by
  have HN := Lib.hid hin
  have HH := Lib.hid h
  clear hin h
  go_enter Tryz.func90, Tryz.ntmps90
  go_wp2_with fail
  refine (begin_calls l name who v S _ (HH.out.below rLock_ok (by decide) (below_alloc w _)) HN.out).mono ?_; rintro e w1 ⟨v1, rfl, ho1, hb1, hv1⟩
  rw [World.size_alloc] at hb1
  have HBF := Lib.hid (show Below w.heap.size w w1 from (below_alloc w _).trans (hb1.mono (by omega)))
  obtain ⟨hz, hzf, hzs⟩ := Tk.fresh hb1
  have z0 := hz 0; have z1 := hz 1; have z2 := hz 2
  have zf0 := hzf 0; have zf1 := hzf 1; have zf2 := hzf 2
  clear hz hzf
  simp only [World.size_alloc] at ho1 hv1
  by_cases he : (lkBegin l name who).2.2.2 = 0
  case neg =>
    have HJ := Lib.hid (show lkTake l name who wait = ([], noReply, (lkBegin l name who).2.2.2) by rw [lkTake, if_pos he])
    have he' : ((lkBegin l name who).2.2.2 != 0) = true := by simpa using he
    clear ho1 hv1 he
    generalize (lkBegin l name who).2.2.2 = ec at *
    generalize (lkBegin l name who).2.1 = ea at *
    generalize (lkBegin l name who).2.2.1 = eb at *
    have HR1 := Lib.hid (SlR.nil (k := 4) (R := rLock) w1 (fun b => w.heap.size + 1 ≤ b))
    go_wp2
    refine bodyPost_ret (v := .tuple #[.slice none 0 0, .agg #[.int .i64 0, .int .i64 0, .string ⟨#[]⟩], .int .i64 ec]) (by simp [results, Tryz.results90, go_sem, z0, z1, z2, zf0, zf1, zf2]) rfl ?_
    rw [HJ.out]
    refine RetLocks.mk (r := noReply) (SlR.move rLock_ok (by decide) HR1.out fun b hb hlt => ⟨?_, ?_⟩) ?_
    · have hb' : w.heap.size + 1 ≤ b := hb
      (repeat (first | with_reducible rfl | with_reducible assumption | with_reducible refine (Go.Tk.heap_drew _ _).trans ?_ | with_reducible refine (Go.Tk.heap_drewN _ _ _).trans ?_ | with_reducible refine (Go.Tk.heap_far (by omega)).trans ?_))
    · have hb' : w.heap.size + 1 ≤ b := hb
      show _ ≤ _; omega
    · (repeat (first | exact HBF.out | with_reducible refine below_drewN ?_ _ | with_reducible refine Below.drew ?_ | with_reducible refine below_set ?_ (by omega) _ _ | with_reducible refine Below.alloc ?_ (by omega) _))
  obtain ⟨hok, hname, hwho, hbe⟩ := lkBegin_ok he
  have HT0 := Lib.hid (show lkTake l name who wait = if lThere l name = false then (if l.length = 5 then (l, ⟨8, 0, []⟩, 0) else (l.take (lFind l name) ++ ⟨name, who, 1, []⟩ :: l.drop (lFind l name), ⟨0, 1, []⟩, 0))
    else if (l.getD (lFind l name) noLock).holder = who then (l, ⟨0, (l.getD (lFind l name) noLock).fence, []⟩, 0)
    else if (l.getD (lFind l name) noLock).holder = 0 then
      (if (l.getD (lFind l name) noLock).fence = 1073741824 then (l, ⟨8, 0, []⟩, 0)
       else (l.set (lFind l name) { l.getD (lFind l name) noLock with holder := who, fence := (l.getD (lFind l name) noLock).fence + 1 }, ⟨0, (l.getD (lFind l name) noLock).fence + 1, []⟩, 0))
    else if wait = false ∨ who ∈ (l.getD (lFind l name) noLock).line then (l, ⟨10, (l.getD (lFind l name) noLock).holder, []⟩, 0)
    else if (l.getD (lFind l name) noLock).line.length = 3 then (l, ⟨8, 0, []⟩, 0)
    else (l.set (lFind l name) { l.getD (lFind l name) noLock with line := (l.getD (lFind l name) noLock).line ++ [who] }, ⟨10, (l.getD (lFind l name) noLock).holder, []⟩, 0) by rw [lkTake, if_neg (by simpa using he)])
  rw [hbe] at ho1 ⊢
  clear hbe he
  simp only at ho1
  have HO := Lib.hid hok
  have hl5 := hok.len
  have hfl : lFind l name ≤ l.length := bs_le _ _
  have HLT := Lib.hid (fun hth : lThere l name = true => lThere_lt hth)
  generalize lThere l name = th at HT0 HLT ⊢
  generalize lFind l name = fi at HT0 HLT hfl ⊢
  clear hok
  have hr1 := ho1.readLk hv1
  have hone := hr1.oneCell
  cases th
  case false =>
    have HJ1 := Lib.hid (HT0.out.trans (if_pos rfl))
    clear HT0 HLT
    by_cases h5 : l.length = 5
    · have HJ := Lib.hid (HJ1.out.trans (if_pos h5))
      obtain ⟨ra, rc, rfl⟩ : ∃ a c, v1 = .slice a l.length c := by obtain ⟨a, c, h, _⟩ := hr1; exact ⟨a, c, h⟩
      have HR1 := Lib.hid hr1
      have h5' : ((l.length : Int) == 5) = true := by rw [beq_iff_eq]; omega
      clear hr1 ho1 hv1 HJ1
      simp only [h5] at *
      go_wp2
      refine bodyPost_ret (v := .tuple #[.slice ra 5 rc, .agg #[.int .i64 8, .int .i64 0, .string ⟨#[]⟩], .int .i64 0]) (by simp [results, Tryz.results90, go_sem, z0, z1, z2, zf0, zf1, zf2]) rfl ?_
      rw [HJ.out]
      refine RetLocks.mk (r := ⟨8, 0, []⟩) (SlR.move rLock_ok (by decide) HR1.out fun b hb hlt => ⟨?_, ?_⟩) ?_
      · have hb' : w.heap.size + 1 ≤ b := hb
        (repeat (first | with_reducible rfl | with_reducible assumption | with_reducible refine (Go.Tk.heap_drew _ _).trans ?_ | with_reducible refine (Go.Tk.heap_drewN _ _ _).trans ?_ | with_reducible refine (Go.Tk.heap_far (by omega)).trans ?_))
      · have hb' : w.heap.size + 1 ≤ b := hb
        show _ ≤ _; omega
      · (repeat (first | exact HBF.out | with_reducible refine below_drewN ?_ _ | with_reducible refine Below.drew ?_ | with_reducible refine below_set ?_ (by omega) _ _ | with_reducible refine Below.alloc ?_ (by omega) _))
    · have HJ := Lib.hid (HJ1.out.trans (if_neg h5))
      clear HJ1
      have ho1' := (ho1.own (rLockO_ok _)).map (R' := rLock) fun _ _ _ _ hr => hr.read
      obtain ⟨ra, rc, rfl⟩ : ∃ a c, v1 = .slice a l.length c := by obtain ⟨a, c, h, _⟩ := hr1; exact ⟨a, c, h⟩
      have h5' : ((l.length : Int) == 5) = false := by rw [beq_eq_false_iff_ne]; omega
      clear hr1 ho1
      go_wp2_with fail
      refine (insertLock_calls rLock_ok l fi hfl ⟨name, who, 1, []⟩ #[.string ⟨name.toArray⟩, .int .i64 who, .int .i64 1, .slice none 0 0] w1 _ _ ho1' ⟨_, rfl, SlR.nil _ _⟩ (by omega)).mono ?_; rintro e w4 ⟨v4, rfl, ho4, hg4, hv4⟩
      have hg4' := hb1.grown hg4 (by omega) (fun k hk => hv1 k hk)
      obtain ⟨hz, hzf, hzs4⟩ := Tk.fresh hg4'
      clear z0 z1 z2 zf0 zf1 zf2
      have z0 := hz 0; have z1 := hz 1; have z2 := hz 2
      have zf0 := hzf 0; have zf1 := hzf 1; have zf2 := hzf 2
      clear hz hzf
      have HBF2 := Lib.hid (HBF.out.grown hg4 (by omega) (fun k hk => by have := hv1 k hk; omega))
      have hr4 := ho4.read rLock_ok (by decide) (fun g hg => by
        rcases hv4 with h | ⟨g', h, hg'⟩
        · rw [h] at hg; exact hv1 g hg
        · rw [h] at hg; cases hg; omega)
      obtain ⟨rb, rd, rfl⟩ : ∃ a c, v4 = .slice a (l.length + 1) c := by obtain ⟨a, c, h, _⟩ := hr4; refine ⟨a, c, ?_⟩; rw [h]; simp; omega
      have HR1 := Lib.hid hr4
      clear hr4 ho4 ho1' hg4 hv1 hv4 HBF
      have HBF := HBF2
      clear HBF2
      go_wp2
      refine bodyPost_ret (v := .tuple #[.slice rb (l.length + 1) rd, .agg #[.int .i64 0, .int .i64 1, .string ⟨#[]⟩], .int .i64 0]) (by simp [results, Tryz.results90, go_sem, z0, z1, z2, zf0, zf1, zf2]) rfl ?_
      rw [HJ.out]
      refine RetLocks.mk (r := ⟨0, 1, []⟩) (SlR.move rLock_ok (by decide) HR1.out fun b hb hlt => ⟨?_, ?_⟩) ?_
      · have hb' : w.heap.size + 1 ≤ b := hb
        (repeat (first | with_reducible rfl | with_reducible assumption | with_reducible refine (Go.Tk.heap_drew _ _).trans ?_ | with_reducible refine (Go.Tk.heap_drewN _ _ _).trans ?_ | with_reducible refine (Go.Tk.heap_far (by omega)).trans ?_))
      · have hb' : w.heap.size + 1 ≤ b := hb
        show _ ≤ _; omega
      · (repeat (first | exact HBF.out | with_reducible refine below_drewN ?_ _ | with_reducible refine Below.drew ?_ | with_reducible refine below_set ?_ (by omega) _ _ | with_reducible refine Below.alloc ?_ (by omega) _))
  case true =>
    have hlt := HLT.out rfl
    have HT1 := Lib.hid (HT0.out.trans (if_neg (by decide)))
    clear HT0 HLT
    obtain ⟨g, cap, rfl, hgc, hgm, hg2, hfz⟩ := ho1.shapePos (by omega)
    have hgw := hv1 g rfl
    obtain ⟨rv, hcells, hrv, hrg⟩ := ho1.cellsLock fi hlt
    have HGD := Lib.hid (show l.getD fi noLock = l[fi] by simp [List.getD, hlt])
    have HXL := Lib.hid (HO.out.line l[fi] (List.getElem_mem hlt))
    have HXF := Lib.hid (HO.out.fence l[fi] (List.getElem_mem hlt))
    generalize hxx : l[fi] = x at hcells hrv HGD HXL HXF
    have HXX := Lib.hid hxx
    clear hxx
    obtain ⟨ra, rc, rfl⟩ := hrv.shape
    have c1 := hcells 1 _ rfl
    have c2 := hcells 2 _ rfl
    have c3 := hcells 3 _ rfl
    have f1 := hfz (fi * 4 + 1)
    have f2 := hfz (fi * 4 + 2)
    have f3 := hfz (fi * 4 + 3)
    have HOD := Lib.hid ho1
    have HR1 := Lib.hid hr1
    have HV := Lib.hid hrv
    have HG := Lib.hid hrg
    have HT2 := HT1.out
    rw [HGD.out] at HT2
    have HT := Lib.hid HT2
    have hxf := HXF.out
    clear hcells hrv hrg ho1 hr1 hfz HT1 HT2 hv1 hone
    by_cases hw : x.holder = who
    · have HJ := Lib.hid (HT.out.trans (if_pos hw))
      have hwb : (x.holder == who) = true := by simpa using hw
      clear hw HT
      go_wp2
      go_region
      go_wp2
      refine bodyPost_ret (v := .tuple #[.slice (some ⟨g, 0, none⟩) l.length cap, .agg #[.int .i64 0, .int .i64 x.fence, .string ⟨#[]⟩], .int .i64 0]) (by simp [results, Tryz.results90, go_sem, z0, z1, z2, zf0, zf1, zf2]) rfl ?_
      rw [HJ.out]
      refine RetLocks.mk (r := ⟨0, x.fence, []⟩) (SlR.move rLock_ok (by decide) HR1.out fun b hb hlt => ⟨?_, ?_⟩) ?_
      · have hb' : w.heap.size + 1 ≤ b := hb
        (repeat (first | with_reducible rfl | with_reducible assumption | with_reducible refine (Go.Tk.heap_drew _ _).trans ?_ | with_reducible refine (Go.Tk.heap_drewN _ _ _).trans ?_ | with_reducible refine (Go.Tk.heap_far (by omega)).trans ?_))
      · have hb' : w.heap.size + 1 ≤ b := hb
        show _ ≤ _; omega
      · (repeat (first | exact HBF.out | with_reducible refine below_drewN ?_ _ | with_reducible refine Below.drew ?_ | with_reducible refine below_set ?_ (by omega) _ _ | with_reducible refine Below.alloc ?_ (by omega) _))
    have HT3 := Lib.hid (HT.out.trans (if_neg hw))
    have hwb : (x.holder == who) = false := by simpa using hw
    clear hw HT
    by_cases h0 : x.holder = 0
    · have HT4 := Lib.hid (HT3.out.trans (if_pos h0))
      have h0b : (x.holder == 0) = true := by simpa using h0
      clear HT3
      by_cases hfm : x.fence = 1073741824
      · have HJ := Lib.hid (HT4.out.trans (if_pos hfm))
        have hfb : (x.fence == 1073741824) = true := by simpa using hfm
        clear HT4 hfm h0
        go_wp2
        refine bodyPost_ret (v := .tuple #[.slice (some ⟨g, 0, none⟩) l.length cap, .agg #[.int .i64 8, .int .i64 0, .string ⟨#[]⟩], .int .i64 0]) (by simp [results, Tryz.results90, go_sem, z0, z1, z2, zf0, zf1, zf2]) rfl ?_
        rw [HJ.out]
        refine RetLocks.mk (r := ⟨8, 0, []⟩) (SlR.move rLock_ok (by decide) HR1.out fun b hb hlt => ⟨?_, ?_⟩) ?_
        · have hb' : w.heap.size + 1 ≤ b := hb
          (repeat (first | with_reducible rfl | with_reducible assumption | with_reducible refine (Go.Tk.heap_drew _ _).trans ?_ | with_reducible refine (Go.Tk.heap_drewN _ _ _).trans ?_ | with_reducible refine (Go.Tk.heap_far (by omega)).trans ?_))
        · have hb' : w.heap.size + 1 ≤ b := hb
          show _ ≤ _; omega
        · (repeat (first | exact HBF.out | with_reducible refine below_drewN ?_ _ | with_reducible refine Below.drew ?_ | with_reducible refine below_set ?_ (by omega) _ _ | with_reducible refine Below.alloc ?_ (by omega) _))
      · have HJ := Lib.hid (HT4.out.trans (if_neg hfm))
        have hfb : (x.fence == 1073741824) = false := by simpa using hfm
        have hw0 : IntKind.i64.wrap (x.fence + 1) = x.fence + 1 := IntWalk.i64_in _ (by omega)
        have HR3 : Hid (SlR 4 rLock ((w1.setCell ⟨g, fi * 4 + 1, none⟩ (.int .i64 who)).setCell ⟨g, fi * 4 + 2, none⟩ (.int .i64 (x.fence + 1))) (.slice (some ⟨g, 0, none⟩) l.length cap) (l.set fi ⟨x.name, who, x.fence + 1, x.line⟩) (fun b => w.heap.size + 1 ≤ b)) := by
          have k1 := HOD.out.setLock hlt (j := 1) (by decide) (.int .i64 who) ⟨x.name, who, x.fence, x.line⟩ (by rw [HXX.out]; rfl) (by rw [HXX.out])
          have k2 := k1.setLock (i := fi) (by rw [List.length_set]; exact hlt) (j := 2) (by decide) (.int .i64 (x.fence + 1)) ⟨x.name, who, x.fence + 1, x.line⟩ (by rw [List.getElem_set_self]; rfl) (by rw [List.getElem_set_self])
          rw [List.set_set] at k2
          exact k2.readLk (fun b hb => by cases hb; exact hgw)
        have c2' := World.cell?_setCell_same (w1.setCell ⟨g, fi * 4 + 1, none⟩ (.int .i64 who)) ⟨g, fi * 4 + 2, none⟩ (.int .i64 (x.fence + 1)) ((cell_near (by omega)).trans c2)
        clear HT4 hfm h0
        go_wp2
        go_region
        go_wp2
        refine bodyPost_ret (v := .tuple #[.slice (some ⟨g, 0, none⟩) l.length cap, .agg #[.int .i64 0, .int .i64 (x.fence + 1), .string ⟨#[]⟩], .int .i64 0]) (by simp [results, Tryz.results90, go_sem, z0, z1, z2, zf0, zf1, zf2]) rfl ?_
        rw [HJ.out]
        refine RetLocks.mk (r := ⟨0, x.fence + 1, []⟩) (SlR.move rLock_ok (by decide) HR3.out fun b hb hlt => ⟨?_, ?_⟩) ?_
        · have hb' : w.heap.size + 1 ≤ b := hb
          (repeat (first | with_reducible rfl | with_reducible assumption | with_reducible refine (Go.Tk.heap_drew _ _).trans ?_ | with_reducible refine (Go.Tk.heap_drewN _ _ _).trans ?_ | with_reducible refine (Go.Tk.heap_far (by omega)).trans ?_))
        · have hb' : w.heap.size + 1 ≤ b := hb
          show _ ≤ _; omega
        · (repeat (first | exact HBF.out | with_reducible refine below_drewN ?_ _ | with_reducible refine Below.drew ?_ | with_reducible refine below_set ?_ (by omega) _ _ | with_reducible refine Below.alloc ?_ (by omega) _))
    have HT4 := Lib.hid (HT3.out.trans (if_neg h0))
    have h0b : (x.holder == 0) = false := by simpa using h0
    clear HT3 h0
    cases wait
    case false =>
      have HJ := Lib.hid (HT4.out.trans (if_pos (.inl rfl)))
      clear HT4
      go_wp2
      go_region
      go_wp2
      refine bodyPost_ret (v := .tuple #[.slice (some ⟨g, 0, none⟩) l.length cap, .agg #[.int .i64 10, .int .i64 x.holder, .string ⟨#[]⟩], .int .i64 0]) (by simp [results, Tryz.results90, go_sem, z0, z1, z2, zf0, zf1, zf2]) rfl ?_
      rw [HJ.out]
      refine RetLocks.mk (r := ⟨10, x.holder, []⟩) (SlR.move rLock_ok (by decide) HR1.out fun b hb hlt => ⟨?_, ?_⟩) ?_
      · have hb' : w.heap.size + 1 ≤ b := hb
        (repeat (first | with_reducible rfl | with_reducible assumption | with_reducible refine (Go.Tk.heap_drew _ _).trans ?_ | with_reducible refine (Go.Tk.heap_drewN _ _ _).trans ?_ | with_reducible refine (Go.Tk.heap_far (by omega)).trans ?_))
      · have hb' : w.heap.size + 1 ≤ b := hb
        show _ ≤ _; omega
      · (repeat (first | exact HBF.out | with_reducible refine below_drewN ?_ _ | with_reducible refine Below.drew ?_ | with_reducible refine below_set ?_ (by omega) _ _ | with_reducible refine Below.alloc ?_ (by omega) _))
    case true =>
      have HC := Lib.hid (containsInt_calls w1 _ x.line (fun _ => True) ((HV.out.forget (S' := fun _ => True) (fun _ _ _ _ _ h => h)).read rInt_ok (by decide) (fun _ _ => trivial)) (by have := HXL.out.len; omega) who)
      go_wp2_with fail
      refine HC.out.mono ?_; rintro e w2 ⟨rfl, hb2⟩
      clear HC
      have hs2 := hb2.size
      have HB2 := Lib.hid (below_step HBF.out hb2)
      have HR2 := Lib.hid (HR1.out.below rLock_ok (by decide) hb2)
      have hbb := hb1.trans (hb2.mono (by omega))
      obtain ⟨hz, hzf, hzs2⟩ := Tk.fresh hbb
      clear z0 z1 z2 zf0 zf1 zf2
      have z0 := hz 0; have z1 := hz 1; have z2 := hz 2
      have zf0 := hzf 0; have zf1 := hzf 1; have zf2 := hzf 2
      clear hz hzf
      have d1 := cell_keep c1 (hb2.block g hg2)
      have d3 := cell_keep c3 (hb2.block g hg2)
      have e3 := (World.frozen?_of_block (hb2.block g hg2)).trans f3
      clear c1 c2 c3 f1 f2 f3 HBF
      have HBF := HB2
      clear HB2
      cases hct : x.line.contains who
      case true =>
        have HJ := Lib.hid (HT4.out.trans (if_pos (.inr (List.contains_iff_mem.1 hct))))
        clear HT4 hct
        go_wp2
        go_region
        go_wp2
        refine bodyPost_ret (v := .tuple #[.slice (some ⟨g, 0, none⟩) l.length cap, .agg #[.int .i64 10, .int .i64 x.holder, .string ⟨#[]⟩], .int .i64 0]) (by simp [results, Tryz.results90, go_sem, z0, z1, z2, zf0, zf1, zf2]) rfl ?_
        rw [HJ.out]
        refine RetLocks.mk (r := ⟨10, x.holder, []⟩) (SlR.move rLock_ok (by decide) HR2.out fun b hb hlt => ⟨?_, ?_⟩) ?_
        · have hb' : w.heap.size + 1 ≤ b := hb
          (repeat (first | with_reducible rfl | with_reducible assumption | with_reducible refine (Go.Tk.heap_drew _ _).trans ?_ | with_reducible refine (Go.Tk.heap_drewN _ _ _).trans ?_ | with_reducible refine (Go.Tk.heap_far (by omega)).trans ?_))
        · have hb' : w.heap.size + 1 ≤ b := hb
          show _ ≤ _; omega
        · (repeat (first | exact HBF.out | with_reducible refine below_drewN ?_ _ | with_reducible refine Below.drew ?_ | with_reducible refine below_set ?_ (by omega) _ _ | with_reducible refine Below.alloc ?_ (by omega) _))
      case false =>
        have HT5 := Lib.hid (HT4.out.trans (if_neg (fun h => by rcases h with h | h; cases h; rw [List.contains_iff_mem.2 h] at hct; cases hct)))
        clear HT4 hct
        by_cases h3 : x.line.length = 3
        · have HJ := Lib.hid (HT5.out.trans (if_pos h3))
          have h3b : ((x.line.length : Int) == 3) = true := by rw [beq_iff_eq]; omega
          clear HT5 h3
          go_wp2
          refine bodyPost_ret (v := .tuple #[.slice (some ⟨g, 0, none⟩) l.length cap, .agg #[.int .i64 8, .int .i64 0, .string ⟨#[]⟩], .int .i64 0]) (by simp [results, Tryz.results90, go_sem, z0, z1, z2, zf0, zf1, zf2]) rfl ?_
          rw [HJ.out]
          refine RetLocks.mk (r := ⟨8, 0, []⟩) (SlR.move rLock_ok (by decide) HR2.out fun b hb hlt => ⟨?_, ?_⟩) ?_
          · have hb' : w.heap.size + 1 ≤ b := hb
            (repeat (first | with_reducible rfl | with_reducible assumption | with_reducible refine (Go.Tk.heap_drew _ _).trans ?_ | with_reducible refine (Go.Tk.heap_drewN _ _ _).trans ?_ | with_reducible refine (Go.Tk.heap_far (by omega)).trans ?_))
          · have hb' : w.heap.size + 1 ≤ b := hb
            show _ ≤ _; omega
          · (repeat (first | exact HBF.out | with_reducible refine below_drewN ?_ _ | with_reducible refine Below.drew ?_ | with_reducible refine below_set ?_ (by omega) _ _ | with_reducible refine Below.alloc ?_ (by omega) _))
        · have HJ := Lib.hid (HT5.out.trans (if_neg h3))
          have h3b : ((x.line.length : Int) == 3) = false := by rw [beq_eq_false_iff_ne]; omega
          have hx3 := HXL.out.len
          have hna : (Value.slice ra x.line.length rc).ownBlock ≠ some g := fun e => (HG.out g e).2.1 rfl
          have hgl2 : g < w2.heap.size := by omega
          have hown := HV.out.below rInt_ok hb2
          clear HT5 h3
          go_wp2_with (at_builtin; refine wpList_app1 Tryz.tycInt (.tmp 135) (.tmp 137) rfl rfl rInt_ok who rfl rfl rfl hown rfl (by omega) ?_; intro v4 w4 ho4 hg4 hv4; obtain ⟨ra4, rc4, e4⟩ : ∃ a c, v4 = .slice a (x.line.length + 1) c := (by obtain ⟨a, c, e⟩ := ho4.shape; exact ⟨a, c, by rw [e]; congr 1; simp⟩); subst e4; have u1 := cell_keep d1 (hg4.block g hgl2 (Ne.symm hna)); have u3 := cell_keep d3 (hg4.block g hgl2 (Ne.symm hna)); have v3 := (World.frozen?_of_block (hg4.block g hgl2 (Ne.symm hna))).trans e3)
          have hbb4 := hbb.grown hg4 (by omega) (fun k hk => (HG.out k hk).1)
          obtain ⟨hz, hzf, hzs4⟩ := Tk.fresh hbb4
          clear z0 z1 z2 zf0 zf1 zf2
          have z0 := hz 0; have z1 := hz 1; have z2 := hz 2
          have zf0 := hzf 0; have zf1 := hzf 1; have zf2 := hzf 2
          clear hz hzf
          have HBF4 := Lib.hid (HBF.out.grown hg4 (by omega) (fun k hk => by have := (HG.out k hk).1; omega))
          have HR3 : Hid (SlR 4 rLock (w4.setCell ⟨g, fi * 4 + 3, none⟩ (.slice ra4 (x.line.length + 1) rc4)) (.slice (some ⟨g, 0, none⟩) l.length cap) (l.set fi { x with line := x.line ++ [who] }) (fun b => w.heap.size + 1 ≤ b)) := by
            have k1 := (HOD.out.below (rLockO_ok _) hb2).inLock hlt d3 hg4 ho4 (by rcases hv4 with h | ⟨b', h, h'⟩; exact .inl h; exact .inr (.inr ⟨b', h, h', by omega⟩))
            rw [HXX.out] at k1
            exact k1.readLk (fun b hb => by cases hb; exact hgw)
          clear HBF hown
          have HBF := HBF4
          clear HBF4
          go_region
          go_wp2
          refine bodyPost_ret (v := .tuple #[.slice (some ⟨g, 0, none⟩) l.length cap, .agg #[.int .i64 10, .int .i64 x.holder, .string ⟨#[]⟩], .int .i64 0]) (by simp [results, Tryz.results90, go_sem, z0, z1, z2, zf0, zf1, zf2]) rfl ?_
          rw [HJ.out]
          refine RetLocks.mk (r := ⟨10, x.holder, []⟩) (SlR.move rLock_ok (by decide) HR3.out fun b hb hlt => ⟨?_, ?_⟩) ?_
          · have hb' : w.heap.size + 1 ≤ b := hb
            (repeat (first | with_reducible rfl | with_reducible assumption | with_reducible refine (Go.Tk.heap_drew _ _).trans ?_ | with_reducible refine (Go.Tk.heap_drewN _ _ _).trans ?_ | with_reducible refine (Go.Tk.heap_far (by omega)).trans ?_))
          · have hb' : w.heap.size + 1 ≤ b := hb
            show _ ≤ _; omega
          · (repeat (first | exact HBF.out | with_reducible refine below_drewN ?_ _ | with_reducible refine Below.drew ?_ | with_reducible refine below_set ?_ (by omega) _ _ | with_reducible refine Below.alloc ?_ (by omega) _))
end Go.Proofs.YtkefgapnghnjjaaGreatDoor
