/- lock.Free. -/
import Derived.Test.YtcjnnkbliapkgaaTake
import Derived.Test.YtcjnnkbliapkgaaPass
import Derived.Test.YtcjnnkbliapkgaaDelInt
namespace Go.Tk
open Go Go.RowKit
theorem unline_pos {x : LockD} {who : Int} {n : Nat} (h : fIdx (fun y => who == y) x.line = n) : unline x who = { x with line := x.line.eraseIdx n } := by
  rw [unline, h, if_pos (by omega), Int.toNat_natCast]
theorem unline_neg {x : LockD} {who : Int} (h : fIdx (fun y => who == y) x.line = -1) : unline x who = x := by
  rw [unline, h, if_neg (by decide)]
end Go.Tk
namespace Go.Proofs.Ytcjnnkbliapkgaa
open Go.RowKit Go.Tk

set_option maxRecDepth 100000 in
set_option maxHeartbeats 1600000 in
theorem free_calls (l : List LockD) (name : List UInt8) (who : Int) (v : Value) (S : Nat → Prop) (w : World) (h : SlR 4 rLock w v l S) (hin : ∀ x ∈ l, x.line.length ≤ 1000000) :
    Calls Try.prog 22 #[v, .string ⟨name.toArray⟩, .int .i64 who] w (RetLocks w (lkFree l name who)) := by
  have HN := Lib.hid hin
  have HH := Lib.hid h
  clear hin h
  go_enter Try.func22, Try.ntmps22
  go_wp2_with fail
  refine (begin_calls l name who v S _ (HH.out.below rLock_ok (by decide) (below_alloc w _)) HN.out).mono ?_; rintro e w1 ⟨v1, rfl, ho1, hb1, hv1⟩
  rw [World.size_alloc] at hb1
  have HBF := Lib.hid (show Below w.heap.size w w1 from (below_alloc w _).trans (hb1.mono (by omega)))
  obtain ⟨hz, hzf, hzs⟩ := Tk.fresh hb1
  have z0 := hz 0; have z1 := hz 1; have z2 := hz 2
  have zf0 := hzf 0; have zf1 := hzf 1; have zf2 := hzf 2
  clear hz hzf
  simp only [World.size_alloc] at ho1 hv1
  by_cases he : (lkBegin l name who).2.2.2 = 0
  case neg =>
    have HJ := Lib.hid (show lkFree l name who = ([], noReply, (lkBegin l name who).2.2.2) by rw [lkFree, if_pos he])
    have he' : ((lkBegin l name who).2.2.2 != 0) = true := by simpa using he
    clear ho1 hv1 he
    generalize (lkBegin l name who).2.2.2 = ec at *
    generalize (lkBegin l name who).2.1 = ea at *
    generalize (lkBegin l name who).2.2.1 = eb at *
    have HR1 := Lib.hid (SlR.nil (k := 4) (R := rLock) w1 (fun b => w.heap.size + 1 ≤ b))
    go_wp2
    refine bodyPost_ret (v := .tuple #[.slice none 0 0, .agg #[.int .i64 0, .int .i64 0, .string ⟨#[]⟩], .int .i64 ec]) (by simp [results, Try.results22, go_sem, z0, z1, z2, zf0, zf1, zf2]) rfl ?_
    rw [HJ.out]
    refine RetLocks.mk (r := noReply) (SlR.move rLock_ok (by decide) HR1.out fun b hb hlt => ⟨?_, ?_⟩) ?_
    · have hb' : w.heap.size + 1 ≤ b := hb
      (repeat (first | with_reducible rfl | with_reducible assumption | with_reducible refine (Go.Tk.heap_drew _ _).trans ?_ | with_reducible refine (Go.Tk.heap_drewN _ _ _).trans ?_ | with_reducible refine (Go.Tk.heap_far (by omega)).trans ?_))
    · have hb' : w.heap.size + 1 ≤ b := hb
      show _ ≤ _; omega
    · (repeat (first | exact HBF.out | with_reducible refine below_drewN ?_ _ | with_reducible refine Below.drew ?_ | with_reducible refine below_set ?_ (by omega) _ _ | with_reducible refine Below.alloc ?_ (by omega) _))
  obtain ⟨hok, hname, hwho, hbe⟩ := lkBegin_ok he
  have HT0 := Lib.hid (show lkFree l name who = if lThere l name = false then (l, ⟨6, 0, []⟩, 0)
    else if (l.getD (lFind l name) noLock).holder = who then (l.set (lFind l name) (passP (l.getD (lFind l name) noLock)), ⟨0, (passP (l.getD (lFind l name) noLock)).holder, []⟩, 0)
    else if 0 ≤ fIdx (fun x => who == x) (l.getD (lFind l name) noLock).line then (l.set (lFind l name) (unline (l.getD (lFind l name) noLock) who), ⟨0, (l.getD (lFind l name) noLock).holder, []⟩, 0)
    else (l, ⟨10, (l.getD (lFind l name) noLock).holder, []⟩, 0) by rw [lkFree, if_neg (by simpa using he)])
  rw [hbe] at ho1 ⊢
  clear hbe he
  simp only at ho1
  have HO := Lib.hid hok
  have hl5 := hok.len
  have hfl : lFind l name ≤ l.length := bs_le _ _
  have HLT := Lib.hid (fun hth : lThere l name = true => lThere_lt hth)
  generalize lThere l name = th at HT0 HLT ⊢
  generalize lFind l name = fi at HT0 HLT hfl ⊢
  clear hok
  have hr1 := ho1.readLk hv1
  have hone := hr1.oneCell
  cases th
  case false =>
    have HJ := Lib.hid (HT0.out.trans (if_pos rfl))
    clear HT0 HLT
    obtain ⟨ra, rc, rfl⟩ : ∃ a c, v1 = .slice a l.length c := by obtain ⟨a, c, h, _⟩ := hr1; exact ⟨a, c, h⟩
    have HR1 := Lib.hid hr1
    clear hr1 ho1 hv1
    go_wp2
    refine bodyPost_ret (v := .tuple #[.slice ra l.length rc, .agg #[.int .i64 6, .int .i64 0, .string ⟨#[]⟩], .int .i64 0]) (by simp [results, Try.results22, go_sem, z0, z1, z2, zf0, zf1, zf2]) rfl ?_
    rw [HJ.out]
    refine RetLocks.mk (r := ⟨6, 0, []⟩) (SlR.move rLock_ok (by decide) HR1.out fun b hb hlt => ⟨?_, ?_⟩) ?_
    · have hb' : w.heap.size + 1 ≤ b := hb
      (repeat (first | with_reducible rfl | with_reducible assumption | with_reducible refine (Go.Tk.heap_drew _ _).trans ?_ | with_reducible refine (Go.Tk.heap_drewN _ _ _).trans ?_ | with_reducible refine (Go.Tk.heap_far (by omega)).trans ?_))
    · have hb' : w.heap.size + 1 ≤ b := hb
      show _ ≤ _; omega
    · (repeat (first | exact HBF.out | with_reducible refine below_drewN ?_ _ | with_reducible refine Below.drew ?_ | with_reducible refine below_set ?_ (by omega) _ _ | with_reducible refine Below.alloc ?_ (by omega) _))
  case true =>
    have hlt := HLT.out rfl
    have HT1 := Lib.hid (HT0.out.trans (if_neg (by decide)))
    clear HT0 HLT
    obtain ⟨g, cap, rfl, hgc, hgm, hg2, hfz⟩ := ho1.shapePos (by omega)
    have hgw := hv1 g rfl
    obtain ⟨rv, hcells, hrv, hrg⟩ := ho1.cellsLock fi hlt
    have HGD := Lib.hid (show l.getD fi noLock = l[fi] by simp [List.getD, hlt])
    have HXL := Lib.hid (HO.out.line l[fi] (List.getElem_mem hlt))
    have HXF := Lib.hid (HO.out.fence l[fi] (List.getElem_mem hlt))
    generalize hxx : l[fi] = x at hcells hrv HGD HXL HXF
    have HXX := Lib.hid hxx
    clear hxx
    obtain ⟨ra, rc, rfl⟩ := hrv.shape
    have c1 := hcells 1 _ rfl
    have c3 := hcells 3 _ rfl
    have f3 := hfz (fi * 4 + 3)
    have HOD := Lib.hid ho1
    have HR1 := Lib.hid hr1
    have HV := Lib.hid hrv
    have HG := Lib.hid hrg
    have HT2 := HT1.out
    rw [HGD.out] at HT2
    have HT := Lib.hid HT2
    clear hcells hrv hrg ho1 hr1 hfz HT1 HT2 hv1 hone
    have HC := Lib.hid (indexInt_calls w1 _ x.line (fun _ => True) ((HV.out.forget (S' := fun _ => True) (fun _ _ _ _ _ h => h)).read rInt_ok (by decide) (fun _ _ => trivial)) (by have := HXL.out.len; omega) who)
    go_wp2_with fail
    refine HC.out.mono ?_; rintro e w2 ⟨rfl, hb2⟩
    clear HC
    have hs2 := hb2.size
    have HB2 := Lib.hid (below_step HBF.out hb2)
    have HR2 := Lib.hid (HR1.out.below rLock_ok (by decide) hb2)
    have HOD2 := Lib.hid ((HOD.out.below (rLockO_ok _) hb2).map (R' := rLockF 3) fun _ _ _ _ h => h.toF)
    have hbb := hb1.trans (hb2.mono (by omega))
    obtain ⟨hz, hzf, hzs2⟩ := Tk.fresh hbb
    clear z0 z1 z2 zf0 zf1 zf2
    have z0 := hz 0; have z1 := hz 1; have z2 := hz 2
    have zf0 := hzf 0; have zf1 := hzf 1; have zf2 := hzf 2
    clear hz hzf
    have d1 := cell_keep c1 (hb2.block g hg2)
    have d3 := cell_keep c3 (hb2.block g hg2)
    have e3 := (World.frozen?_of_block (hb2.block g hg2)).trans f3
    clear c1 c3 f3 HBF
    have HBF := HB2
    clear HB2
    have hg2' : g < w2.heap.size := by omega
    by_cases hw : x.holder = who
    · have HJ := Lib.hid (HT.out.trans (if_pos hw))
      have hwb : (x.holder == who) = true := by simpa using hw
      have HP := Lib.hid (pass_calls w2 g l.length cap l _ HOD2.out fi hlt (by rw [HXX.out]; have := HXF.out; omega) (by rw [HXX.out]; have := HXL.out.len; omega))
      clear hw HT
      generalize hidx : fIdx (fun y => who == y) x.line = at0
      clear hidx
      go_wp2_with fail
      refine HP.out.mono ?_; rintro e w3 ⟨rfl, ho3, hg3⟩
      clear HP
      rw [HXX.out] at ho3
      obtain ⟨rv3, hc3, -, -⟩ := ho3.cellsLockF fi (by rw [List.length_set]; exact hlt)
      simp only [List.getElem_set_self] at hc3
      have d1' := hc3 1 _ rfl
      have HR3 := Lib.hid (ho3.readLockF (fun b hb => by cases hb; exact hgw))
      have hbb3 := hbb.grown hg3 (by omega) (fun k hk => by cases hk; exact hgw)
      have HB3 := Lib.hid (HBF.out.grown hg3 (by omega) (fun k hk => by cases hk; omega))
      have hs3 := hg3.size
      clear HBF d1 d3 e3 ho3 hc3 hg3
      have HBF := HB3
      clear HB3
      obtain ⟨hz, hzf, hzs3⟩ := Tk.fresh hbb3
      clear z0 z1 z2 zf0 zf1 zf2
      have z0 := hz 0; have z1 := hz 1; have z2 := hz 2
      have zf0 := hzf 0; have zf1 := hzf 1; have zf2 := hzf 2
      clear hz hzf
      generalize passP x = px at *
      go_wp2
      go_region
      go_wp2
      refine bodyPost_ret (v := .tuple #[.slice (some ⟨g, 0, none⟩) l.length cap, .agg #[.int .i64 0, .int .i64 px.holder, .string ⟨#[]⟩], .int .i64 0]) (by simp [results, Try.results22, go_sem, z0, z1, z2, zf0, zf1, zf2]) rfl ?_
      rw [HJ.out]
      refine RetLocks.mk (r := ⟨0, px.holder, []⟩) (SlR.move rLock_ok (by decide) HR3.out fun b hb hlt => ⟨?_, ?_⟩) ?_
      · have hb' : w.heap.size + 1 ≤ b := hb
        (repeat (first | with_reducible rfl | with_reducible assumption | with_reducible refine (Go.Tk.heap_drew _ _).trans ?_ | with_reducible refine (Go.Tk.heap_drewN _ _ _).trans ?_ | with_reducible refine (Go.Tk.heap_far (by omega)).trans ?_))
      · have hb' : w.heap.size + 1 ≤ b := hb
        show _ ≤ _; omega
      · (repeat (first | exact HBF.out | with_reducible refine below_drewN ?_ _ | with_reducible refine Below.drew ?_ | with_reducible refine below_set ?_ (by omega) _ _ | with_reducible refine Below.alloc ?_ (by omega) _))
    have HT3 := Lib.hid (HT.out.trans (if_neg hw))
    have hwb : (x.holder == who) = false := by simpa using hw
    clear hw HT
    rcases fIdx_cases (fun y => who == y) x.line with ⟨hi, -⟩ | ⟨n, hn, hi, -, -⟩
    · have HJ := Lib.hid (HT3.out.trans (if_neg (by rw [hi]; decide)))
      rw [hi]
      clear hi
      go_wp2
      go_region
      go_wp2
      refine bodyPost_ret (v := .tuple #[.slice (some ⟨g, 0, none⟩) l.length cap, .agg #[.int .i64 10, .int .i64 x.holder, .string ⟨#[]⟩], .int .i64 0]) (by simp [results, Try.results22, go_sem, z0, z1, z2, zf0, zf1, zf2]) rfl ?_
      rw [HJ.out]
      refine RetLocks.mk (r := ⟨10, x.holder, []⟩) (SlR.move rLock_ok (by decide) HR2.out fun b hb hlt => ⟨?_, ?_⟩) ?_
      · have hb' : w.heap.size + 1 ≤ b := hb
        (repeat (first | with_reducible rfl | with_reducible assumption | with_reducible refine (Go.Tk.heap_drew _ _).trans ?_ | with_reducible refine (Go.Tk.heap_drewN _ _ _).trans ?_ | with_reducible refine (Go.Tk.heap_far (by omega)).trans ?_))
      · have hb' : w.heap.size + 1 ≤ b := hb
        show _ ≤ _; omega
      · (repeat (first | exact HBF.out | with_reducible refine below_drewN ?_ _ | with_reducible refine Below.drew ?_ | with_reducible refine below_set ?_ (by omega) _ _ | with_reducible refine Below.alloc ?_ (by omega) _))
    · have HJ := Lib.hid (HT3.out.trans (if_pos (by rw [hi]; omega)))
      have HU := Lib.hid (unline_pos hi)
      rw [hi]
      clear hi HT3
      have hx3 := HXL.out.len
      have hna : (Value.slice ra x.line.length rc).ownBlock ≠ some g := fun e => (HG.out g e).2.1 rfl
      have HD := Lib.hid (delInt_calls w2 _ x.line (fun _ => False) ((HV.out.below rInt_ok hb2).toF rInt_ok) (by omega) n hn)
      have hwn : IntKind.i64.wrap ((n : Int) + 1) = (n : Int) + 1 := IntWalk.i64_in _ (by omega)
      go_wp2_with fail
      refine HD.out.mono ?_; rintro e w3 ⟨v3, rfl, ho3, hg3, hv3⟩
      clear HD
      obtain ⟨ra3, rc3, e3'⟩ := ho3.shape
      have u1 := cell_keep d1 (hg3.block g hg2' (Ne.symm hna))
      have u3 := cell_keep d3 (hg3.block g hg2' (Ne.symm hna))
      have uf := (World.frozen?_of_block (hg3.block g hg2' (Ne.symm hna))).trans e3
      have hone3 := ho3.oneCell
      have HR3 : Hid (SlR 4 rLock (w3.setCell ⟨g, fi * 4 + 3, none⟩ v3) (.slice (some ⟨g, 0, none⟩) l.length cap) (l.set fi (unline x who)) (fun b => w.heap.size + 1 ≤ b)) := by
        have k1 := HOD2.out.inLockF hlt d3 hg3 ho3 (.inl hv3)
        rw [HXX.out] at k1
        rw [HU.out]
        exact k1.readLockF (fun b hb => by cases hb; exact hgw)
      have hbb3 := hbb.grown hg3 (by omega) (fun k hk => (HG.out k hk).1)
      have HB3 := Lib.hid (HBF.out.grown hg3 (by omega) (fun k hk => by have := (HG.out k hk).1; omega))
      have hs3 := hg3.size
      subst e3'
      clear HBF d1 d3 e3 ho3 hg3 hv3 HU
      have HBF := HB3
      clear HB3
      obtain ⟨hz, hzf, hzs3⟩ := Tk.fresh hbb3
      clear z0 z1 z2 zf0 zf1 zf2
      have z0 := hz 0; have z1 := hz 1; have z2 := hz 2
      have zf0 := hzf 0; have zf1 := hzf 1; have zf2 := hzf 2
      clear hz hzf
      go_wp2
      go_region
      go_wp2
      refine bodyPost_ret (v := .tuple #[.slice (some ⟨g, 0, none⟩) l.length cap, .agg #[.int .i64 0, .int .i64 x.holder, .string ⟨#[]⟩], .int .i64 0]) (by simp [results, Try.results22, go_sem, z0, z1, z2, zf0, zf1, zf2]) rfl ?_
      rw [HJ.out]
      refine RetLocks.mk (r := ⟨0, x.holder, []⟩) (SlR.move rLock_ok (by decide) HR3.out fun b hb hlt => ⟨?_, ?_⟩) ?_
      · have hb' : w.heap.size + 1 ≤ b := hb
        (repeat (first | with_reducible rfl | with_reducible assumption | with_reducible refine (Go.Tk.heap_drew _ _).trans ?_ | with_reducible refine (Go.Tk.heap_drewN _ _ _).trans ?_ | with_reducible refine (Go.Tk.heap_far (by omega)).trans ?_))
      · have hb' : w.heap.size + 1 ≤ b := hb
        show _ ≤ _; omega
      · (repeat (first | exact HBF.out | with_reducible refine below_drewN ?_ _ | with_reducible refine Below.drew ?_ | with_reducible refine below_set ?_ (by omega) _ _ | with_reducible refine Below.alloc ?_ (by omega) _))
end Go.Proofs.Ytcjnnkbliapkgaa
