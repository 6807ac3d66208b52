/- A part of the proof, laid together from: LogE. -/
import Derived.Test.YtkefgapnghnjjaaGreatDoorPa21
import Derived.Test.YtkefgapnghnjjaaGreatDoorPa08
import Derived.Test.YtkefgapnghnjjaaGreatDoorPa16
set_option linter.unusedSimpArgs false
set_option linter.unusedVariables false
namespace Go.Tk
open Go Go.RowKit
structure PutAt (E : Nat) (w0 wc w : World) (B : Nat) (base : Int) (v : Value) (out : List Bytes) : Prop where
  box : BoxAt w B [.int .i64 base, v]
  own : OwR E 1 rStr w v out (fun _ => False)
  apart : ∀ g, v.ownBlock = some g → w0.heap.size + 2 ≤ g ∧ g ≠ B
  from_ : w0.heap.size + 2 ≤ B
  below : Below (w0.heap.size + 2) wc w
theorem PutAt.go {E : Nat} {w0 wc w w' : World} {B : Nat} {base : Int} {v : Value} {out : List Bytes} (h : PutAt E w0 wc w B base v out) (hs : wc.heap.size = w0.heap.size + 2) (hb : Below w.heap.size w w') : PutAt E w0 wc w' B base v out :=
  ⟨h.box.below hb, h.own.below rStr_ok hb, h.apart, h.from_, h.below.trans (hb.mono (by have := h.below.size; omega))⟩
theorem PutAt.app {E : Nat} {w0 wc w w' : World} {B : Nat} {base : Int} {v v1 v' : Value} {out o1 : List Bytes} (h : PutAt E w0 wc w B base v out) (hs : wc.heap.size = w0.heap.size + 2) (ho : OwR E 1 rStr w' v' o1 (fun _ => False)) (hg : w.grownBy w' v1.ownBlock)
    (h1 : ∀ g, v1.ownBlock = some g → v.ownBlock = some g) (hv : v'.ownBlock = v1.ownBlock ∨ ∃ x, v'.ownBlock = some x ∧ w.heap.size ≤ x) : PutAt E w0 wc (w'.setCell ⟨B, 1, none⟩ v') B base v' o1 := by
  have hap : ∀ g, v'.ownBlock = some g → w0.heap.size + 2 ≤ g ∧ g ≠ B := fun g hgg => by
    rcases hv with e | ⟨y, e, hy⟩
    · exact h.apart g (h1 g (by rw [← e]; exact hgg))
    · rw [e] at hgg; cases hgg
      have h2 := h.below.size
      have h3 := h.box.lt
      exact ⟨by omega, by omega⟩
  have hne : some B ≠ v1.ownBlock := fun e => (h.apart B (h1 B e.symm)).2 rfl
  refine ⟨((h.box.grown hg hne).set 1 (by simp) v'), ho.move rStr_ok (fun g hgg => heap_far (hap g hgg).2) (fun b hb => hb.elim), hap, h.from_, ?_⟩
  exact below_set (h.below.grown hg (by have := h.below.size; omega) fun k hk => (h.apart k (h1 k hk)).1) (by exact h.from_) 1 _
end Go.Tk
namespace Go.Proofs.YtkefgapnghnjjaaGreatDoor
open Go.RowKit Go.Tk
theorem Tryz.tyStrs : SliceTy Tryz.prog 26 9 1 16 := ⟨Tryz.underlying26, by kernel_rfl, by decide⟩
set_option linter.unusedSimpArgs false in
set_option maxRecDepth 100000 in
set_option maxHeartbeats 3200000 in
theorem logPut_calls (l : LogD) (more : List Bytes) (v vm : Value) (S Sm : Nat → Prop) (w : World) (h : SlR 1 rStr w v l.entries S) (hmr : SlR 1 rStr w vm more Sm) (hok : LogOk l) (hs : ∀ s ∈ l.entries, s.length ≤ 1000000) (hmd : ∀ s ∈ more, decErr s = 0) (hms : ∀ s ∈ more, s.length ≤ 1000000)
    (x : Int) (hx : -9223372036854775808 ≤ x ∧ x ≤ 9223372036854775807) (hsk : ¬ x < l.base) :
    Calls Tryz.prog 67 #[.agg #[.int .i64 l.base, v], .int .i64 x, vm] w (RetLog w (logPut l x more)) := by
  have HC := Lib.hid (logCheck_ok.2 hok)
  obtain ⟨hb0, hb1⟩ := hok.base
  have hlen := hok.len
  obtain ⟨hx0, hx1⟩ := hx
  have HV := Lib.hid (show logPut l x more = if x < 0 ∨ 1073741824 < x then (noLog, 2) else if 400 < more.length then (noLog, 1) else if logLast l < x then (noLog, 13)
    else if (putGo (more.drop (skipOf l x more)) (x + skipOf l x more - l.base).toNat l.entries).2 ≠ 0 then (noLog, (putGo (more.drop (skipOf l x more)) (x + skipOf l x more - l.base).toNat l.entries).2)
    else if 400 < (putGo (more.drop (skipOf l x more)) (x + skipOf l x more - l.base).toNat l.entries).1.length then (noLog, 8)
    else (⟨l.base, (putGo (more.drop (skipOf l x more)) (x + skipOf l x more - l.base).toNat l.entries).1⟩, 0) by rw [logPut, if_neg (by rw [HC.out]; simp)])
  obtain ⟨la, hla⟩ : ∃ la, logLast l = la := ⟨_, rfl⟩
  have hlv : la = l.base + l.entries.length := hla.symm
  have HLA := Lib.hid hla
  rw [hla] at HV
  clear hla hok
  obtain ⟨a, cap, hv, hl, hm, hnl, -⟩ := id h
  subst hv
  obtain ⟨am, capm, hvm, hlm, hcm, hnlm, -⟩ := id hmr
  subst hvm
  unfold maxLen at hm hcm
  have HS := Lib.hid h
  have HM := Lib.hid hmr
  have HZ := Lib.hid hs
  have HMD := Lib.hid hmd
  have HMS := Lib.hid hms
  clear h hs hmr hmd hms
  go_enter Tryz.func67, Tryz.ntmps67
  go_wp2_with fail
  refine (logCheck_calls l _ S _ (HS.out.below rStr_ok (by decide) (below_alloc2 w _ _)) HZ.out).mono ?_
  rw [HC.out]; rintro e w1 ⟨rfl, hb⟩
  rw [size_alloc2] at hb
  obtain ⟨hz, -, hr, hrf, hzs⟩ := fresh2 hb
  have z0 := hz 0; have z1 := hz 1
  have r0 := hr 0; have r1 := hr 1
  have f0 := hrf 0; have f1 := hrf 1
  have HBB := Lib.hid hb
  clear hz hr hrf hb
  have hx00 : 0 ≤ x := by omega
  by_cases h1 : 1073741824 < x
  · have HF := Lib.hid (show logPut l x more = (noLog, 2) by rw [HV.out, if_pos (.inr h1)])
    go_wp2
    obtain ⟨p0, p1, hb9, -⟩ := two_set (B := w.heap.size + 1) (u0 := .int .i64 0) (u1 := .slice none 0 0) r0 r1
    generalize (w1.setCell ⟨w.heap.size + 1, 0, none⟩ (.int .i64 0)).setCell ⟨w.heap.size + 1, 1, none⟩ (.slice none 0 0) = wf at *
    refine bodyPost_ret (v := .tuple #[.agg #[.int .i64 0, .slice none 0 0], .int .i64 2]) (by simp [results, Tryz.results67, go_sem, p0, p1]) rfl ?_
    rw [HF.out]
    exact ⟨_, rfl, SlR.nil _ _, ((below_alloc2 w _ _).trans (HBB.out.mono (by omega))).trans (hb9.mono (by omega))⟩
  by_cases h2 : 400 < more.length
  · have HF := Lib.hid (show logPut l x more = (noLog, 1) by rw [HV.out, if_neg (by omega), if_pos h2])
    go_wp2
    obtain ⟨p0, p1, hb9, -⟩ := two_set (B := w.heap.size + 1) (u0 := .int .i64 0) (u1 := .slice none 0 0) r0 r1
    generalize (w1.setCell ⟨w.heap.size + 1, 0, none⟩ (.int .i64 0)).setCell ⟨w.heap.size + 1, 1, none⟩ (.slice none 0 0) = wf at *
    refine bodyPost_ret (v := .tuple #[.agg #[.int .i64 0, .slice none 0 0], .int .i64 1]) (by simp [results, Tryz.results67, go_sem, p0, p1]) rfl ?_
    rw [HF.out]
    exact ⟨_, rfl, SlR.nil _ _, ((below_alloc2 w _ _).trans (HBB.out.mono (by omega))).trans (hb9.mono (by omega))⟩
  go_wp2_with fail
  refine (logLast_calls l _ S _ (HS.out.below rStr_ok (by decide) ((below_alloc2 w _ _).trans (HBB.out.mono (by omega)))) (by omega) (by omega)).mono ?_
  rw [HLA.out]; rintro e w2 ⟨rfl, hb2⟩
  have HBB2 := Lib.hid (HBB.out.trans (hb2.mono (by omega)))
  clear z0 z1 r0 r1 f0 f1 hb2
  obtain ⟨hz, -, hr, hrf, hzs2⟩ := fresh2 HBB2.out
  have z0 := hz 0; have z1 := hz 1
  have r0 := hr 0; have r1 := hr 1
  have f0 := hrf 0; have f1 := hrf 1
  clear hz hr hrf
  by_cases h3 : la < x
  · have HF := Lib.hid (show logPut l x more = (noLog, 13) by rw [HV.out, if_neg (by omega), if_neg h2, if_pos h3])
    go_wp2
    obtain ⟨p0, p1, hb9, -⟩ := two_set (B := w.heap.size + 1) (u0 := .int .i64 0) (u1 := .slice none 0 0) r0 r1
    generalize (w2.setCell ⟨w.heap.size + 1, 0, none⟩ (.int .i64 0)).setCell ⟨w.heap.size + 1, 1, none⟩ (.slice none 0 0) = wf at *
    refine bodyPost_ret (v := .tuple #[.agg #[.int .i64 0, .slice none 0 0], .int .i64 13]) (by simp [results, Tryz.results67, go_sem, p0, p1]) rfl ?_
    rw [HF.out]
    exact ⟨_, rfl, SlR.nil _ _, ((below_alloc2 w _ _).trans (HBB2.out.mono (by omega))).trans (hb9.mono (by omega))⟩
  have HV2 := Lib.hid (HV.out.trans ((if_neg (by omega)).trans ((if_neg h2).trans (if_neg h3))))
  clear HV
  obtain ⟨k, hk⟩ : ∃ k : Nat, x - l.base = k := ⟨(x - l.base).toNat, by omega⟩
  obtain rfl : x = l.base + k := by omega
  have hkl : k ≤ l.entries.length := by omega
  have hsk0 : skipOf l (l.base + k) more = 0 := by rw [skipOf, if_neg (by omega)]
  have HV3 := HV2.out
  rw [hsk0, List.drop_zero, show (l.base + (k : Int) + ((0 : Nat) : Int) - l.base).toNat = k by omega] at HV3
  have HV4 := Lib.hid HV3
  clear HV3 HV2 hsk0
  go_wp2_with fail
  refine (logCopy_calls l _ S _ (HS.out.below rStr_ok (by decide) ((below_alloc2 w _ _).trans (HBB2.out.mono (by omega)))) (by omega)).mono ?_
  rintro e w3 ⟨v3, rfl, ho3, hg3, hb3⟩
  obtain ⟨ra, rc, rfl⟩ := ho3.shape
  obtain ⟨o, hpo, hol0, hol1, hot, hom⟩ := putGo_spec more k l.entries HMD.out hkl
  have HB3 := Lib.hid (HBB2.out.trans (hb3.mono (by omega)))
  have HP0 := Lib.hid (show PutAt 9 w ((w.alloc (.cells #[.int .i64 l.base, .slice a l.entries.length cap] 65)).alloc (.cells #[.int .i64 0, .slice none 0 0] 65)) (w3.alloc (.cells #[.int .i64 l.base, .slice ra l.entries.length rc] 65)) w3.heap.size l.base (.slice ra l.entries.length rc) l.entries from
    ⟨BoxAt.new (cs := [.int .i64 l.base, .slice ra l.entries.length rc]), ho3.below rStr_ok (below_alloc w3 _), fun g hg => ⟨by have := hg3 g hg; omega, fun e => by have := ho3.lt g hg; omega⟩, by have := hb3.size; omega, HB3.out.trans ((below_alloc w3 _).mono (by have := hb3.size; omega))⟩)
  have HPG := Lib.hid hpo
  rw [hpo] at HV4
  have HRL := Lib.hid hol1
  clear hpo hot hom hb3 hg3 ho3 hol1
  clear z0 z1 r0 r1 f0 f1
  go_wp2
  go_loopw [11, 12, 13, 14, 15, 59] (fun _ _ _ _ _ i wr => ∃ (n : Nat) (vo : Value) (out : List Bytes), n ≤ more.length ∧ i = .int .i64 n ∧ Hid (PutAt 9 w ((w.alloc (.cells #[.int .i64 l.base, .slice a l.entries.length cap] 65)).alloc (.cells #[.int .i64 0, .slice none 0 0] 65)) wr w3.heap.size l.base vo out) ∧ Hid (putGo (more.drop n) (k + n) out = (o, 0)) ∧ k + n ≤ out.length ∧ out.length ≤ 1000 + n)
    (fun _ _ _ _ _ i _ => more.length - (intOf i).toNat)
  case atStart => exact ⟨0, _, l.entries, by omega, rfl, HP0, Lib.hid (by rw [List.drop_zero, Nat.add_zero]; exact HPG.out), by omega, by omega⟩
  case round =>
    obtain ⟨n, vo, out, hn, rfl, hp, hpg, hkn, hol⟩ := hrel
    obtain ⟨oa, oc, e⟩ := hp.out.own.shape
    subst e
    have b0 := hp.out.box.cell 0 _ rfl
    have b1 := hp.out.box.cell 1 _ rfl
    obtain ⟨hz, -, hr, hrf, hzs3⟩ := fresh2 hp.out.below
    have z0 := hz 0; have z1 := hz 1
    have r0 := hr 0; have r1 := hr 1
    have f0 := hrf 0; have f1 := hrf 1
    clear hz hr hrf
    by_cases hlt : n < more.length
    case neg =>
      have hoo : out = o := by
        have h := hpg.out
        rw [List.drop_eq_nil_of_le (by omega), putGo] at h
        exact (Prod.mk.inj h).1
      subst hoo
      have hos := hp.out.own
      have HPB := Lib.hid hp.out.below
      have HAP := Lib.hid hp.out.apart
      clear hp hpg
      by_cases h8 : 400 < out.length
      · have HF := Lib.hid (HV4.out.trans ((if_neg (by simp)).trans (if_pos h8)))
        clear HV4
        go_wp2
        obtain ⟨p0, p1, hb9, -⟩ := two_set (B := w.heap.size + 1) (u0 := .int .i64 0) (u1 := .slice none 0 0) r0 r1
        generalize (wr.setCell ⟨w.heap.size + 1, 0, none⟩ (.int .i64 0)).setCell ⟨w.heap.size + 1, 1, none⟩ (.slice none 0 0) = wf at *
        refine bodyPost_ret (v := .tuple #[.agg #[.int .i64 0, .slice none 0 0], .int .i64 8]) (by simp [results, Tryz.results67, go_sem, p0, p1]) rfl ?_
        rw [HF.out]
        exact ⟨_, rfl, SlR.nil _ _, ((below_alloc2 w _ _).trans (HPB.out.mono (by omega))).trans (hb9.mono (by omega))⟩
      · have HF := Lib.hid (HV4.out.trans ((if_neg (by simp)).trans (if_neg h8)))
        clear HV4
        go_wp2
        obtain ⟨p0, p1, hb9, hh9⟩ := two_set (B := w.heap.size + 1) (u0 := .int .i64 l.base) (u1 := .slice oa out.length oc) r0 r1
        have ho9 : SlR 1 rStr ((wr.setCell ⟨w.heap.size + 1, 0, none⟩ (.int .i64 l.base)).setCell ⟨w.heap.size + 1, 1, none⟩ (.slice oa out.length oc)) (.slice oa out.length oc) out (fun b => w.heap.size ≤ b) := ((hos.forget (S' := fun _ => False) rStr_any').move (S' := fun _ => False) rStr_ok (fun g hg => hh9 g (by have := (HAP.out g hg).1; omega)) (fun b hb => hb.elim)).strRead (fun g hg => by have := (HAP.out g hg).1; show w.heap.size ≤ g; omega)
        generalize (wr.setCell ⟨w.heap.size + 1, 0, none⟩ (.int .i64 l.base)).setCell ⟨w.heap.size + 1, 1, none⟩ (.slice oa out.length oc) = wf at *
        refine bodyPost_ret (v := .tuple #[.agg #[.int .i64 l.base, .slice oa out.length oc], .int .i64 0]) (by simp [results, Tryz.results67, go_sem, p0, p1]) rfl ?_
        rw [HF.out]
        exact ⟨_, rfl, ho9, ((below_alloc2 w _ _).trans (HPB.out.mono (by omega))).trans (hb9.mono (by omega))⟩
    obtain ⟨b, off, cap', row, hv, hSb, hrow, hcells⟩ := (HM.out.below rStr_ok (by decide) ((below_alloc2 w _ _).trans (hp.out.below.mono (by omega)))).row n hlt
    simp only [Value.slice.injEq] at hv
    obtain ⟨rfl, _, rfl⟩ := hv
    obtain rfl := hrow
    have q0 := hcells 0 _ rfl
    simp only [Nat.add_zero, Nat.mul_one] at q0
    clear hcells
    have hsd := HMD.out more[n] (List.getElem_mem hlt)
    have hsl := HMS.out more[n] (List.getElem_mem hlt)
    have HPN := Lib.hid (show putGo (more.drop n) (k + n) out = if decErr more[n] ≠ 0 then ([], decErr more[n]) else if k + n < out.length ∧ out.getD (k + n) [] = more[n] then putGo (more.drop (n + 1)) (k + n + 1) out else putGo (more.drop (n + 1)) (k + n + 1) (out.take (k + n) ++ [more[n]]) by rw [List.drop_eq_getElem_cons hlt, putGo])
    generalize more[n] = s at *
    obtain ⟨d, hd⟩ : ∃ d, cmdDecode s = (d, 0) := ⟨(cmdDecode s).1, by rw [← hsd]; rfl⟩
    have HDD := Lib.hid hd
    have HPN2 := Lib.hid (HPN.out.symm.trans hpg.out)
    rw [hsd, if_neg (by simp)] at HPN2
    clear hd hsd HPN hpg
    have e1 : IntKind.i64.wrap ((l.base + (k : Int)) + (n : Int)) = (l.base + (k : Int)) + (n : Int) := IntWalk.i64_in _ (by omega)
    have e2 : IntKind.i64.wrap ((l.base + (k : Int)) + (n : Int) - l.base) = ((k + n : Nat) : Int) := (IntWalk.i64_in _ (by omega)).trans (by omega)
    go_wp2_with fail
    refine (decode_calls s _ hsl).mono ?_
    rw [HDD.out, valCommand]; rintro e w4 ⟨rfl, hb4⟩
    have HP4 := Lib.hid (hp.out.go (by rw [size_alloc2]) hb4)
    clear hp b0 b1 z0 z1 r0 r1 f0 f1
    obtain ⟨hz, -, hr, hrf, hzs4⟩ := fresh2 HP4.out.below
    have z0 := hz 0; have z1 := hz 1
    have b0 := HP4.out.box.cell 0 _ rfl
    have b1 := HP4.out.box.cell 1 _ rfl
    have hbl := HP4.out.box.lt
    obtain ⟨hoc, hoc2⟩ := HP4.out.own.room
    unfold maxLen at hoc2
    have hzs5 : w.heap.size < w4.heap.size := by omega
    clear hz hr hrf
    have HP5 := Lib.hid (HP4.out.go (by rw [size_alloc2]) (below_alloc w4 (.cells #[.int .i64 d.kind, .int .i64 d.client, .int .i64 d.session, .int .i64 d.seq, .int .i64 d.acked, .int .i64 d.op.kind, .string ⟨d.op.a.toArray⟩, .string ⟨d.op.b.toArray⟩, .int .i64 d.op.n] 45)))
    by_cases hko : k + n < out.length
    case pos =>
      obtain ⟨g, e⟩ := HP4.out.own.inBlock (by omega)
      subst e
      have HCUT := Lib.hid (HP5.out.own.cut rStr_ok (i := k + n) (by omega) (KeepsRow.refl _ _) (fun _ _ => rfl) (fun _ _ _ _ => rfl))
      obtain ⟨row, hrow, hcells⟩ := HP4.out.own.at rStr_ok hko
      obtain rfl := hrow
      have g0 := hcells 0 _ rfl
      simp only [Nat.add_zero, Nat.mul_one] at g0
      have hgl : g < w4.heap.size := World.block_lt_of_cell? w4 _ g0
      clear hcells
      have hgd : out.getD (k + n) [] = out[k + n] := by simp [List.getD, hko]
      rw [hgd] at HPN2
      clear hgd
      generalize out[k + n] = t at *
      by_cases hts : t = s
      · subst hts
        have HPN3 := Lib.hid ((if_pos (⟨hko, rfl⟩ : k + n < out.length ∧ t = t)).symm.trans HPN2.out)
        clear HPN2
        go_wp2
        go_roundw
        case rel => exact ⟨n + 1, _, out, by omega, by go_num, HP5, Lib.hid (by rw [← Nat.add_assoc]; exact HPN3.out), by omega, by omega⟩
        case measure => simp [intOf]; omega
      · have hstb : (t == s) = false := by simpa using hts
        have HPN3 := Lib.hid ((if_neg (fun h : k + n < out.length ∧ t = s => hts h.2)).symm.trans HPN2.out)
        clear HPN2
        go_wp2_with (at_builtin; refine wpList_app1 Tryz.tyStrs (.tmp 100) (.tmp 102) rfl rfl rStr_ok s rfl rfl (World.size_alloc _ _).symm HCUT.out rfl (by rw [List.length_take]; omega) ?_; intro v5 w5 ho5 hg5 hv5; have hp6 := HP5.out.app (by rw [size_alloc2]) ho5 hg5 (fun g hg => hg) hv5; have hbx := HP5.out.box.grown hg5 (fun e => (HP5.out.apart w3.heap.size e.symm).2 rfl); have c1 := hbx.cell 1 _ rfl; have t1 := hbx.thaw 1; clear hbx; obtain ⟨ra5, rc5, e5⟩ : ∃ a c, v5 = .slice a (k + n + 1) c := (by obtain ⟨a, c, e⟩ := ho5.shape; exact ⟨a, c, by rw [e]; congr 1; simp; omega⟩); subst e5)
        go_roundw
        case rel => exact ⟨n + 1, _, out.take (k + n) ++ [s], by omega, by go_num, Lib.hid hp6, Lib.hid (by rw [← Nat.add_assoc]; exact HPN3.out), by simp; omega, by simp; omega⟩
        case measure => simp [intOf]; omega
    case neg =>
      have HPN3 := Lib.hid ((if_neg (fun h : k + n < out.length ∧ out.getD (k + n) [] = s => hko h.1)).symm.trans HPN2.out)
      have hke : k + n = out.length := by omega
      have HCUT := Lib.hid (show OwR 9 1 rStr (w4.alloc (.cells #[.int .i64 d.kind, .int .i64 d.client, .int .i64 d.session, .int .i64 d.seq, .int .i64 d.acked, .int .i64 d.op.kind, .string ⟨d.op.a.toArray⟩, .string ⟨d.op.b.toArray⟩, .int .i64 d.op.n] 45)) (.slice oa out.length oc) (out.take (k + n)) (fun _ => False) by rw [hke, List.take_length]; exact HP5.out.own)
      clear HPN2
      go_wp2_with (at_builtin; refine wpList_app1 Tryz.tyStrs (.tmp 100) (.tmp 102) rfl rfl rStr_ok s rfl rfl (World.size_alloc _ _).symm HCUT.out rfl (by rw [List.length_take]; omega) ?_; intro v5 w5 ho5 hg5 hv5; have hp6 := HP5.out.app (by rw [size_alloc2]) ho5 hg5 (fun g hg => hg) hv5; have hbx := HP5.out.box.grown hg5 (fun e => (HP5.out.apart w3.heap.size e.symm).2 rfl); have c1 := hbx.cell 1 _ rfl; have t1 := hbx.thaw 1; clear hbx; obtain ⟨ra5, rc5, e5⟩ : ∃ a c, v5 = .slice a (out.length + 1) c := (by obtain ⟨a, c, e⟩ := ho5.shape; exact ⟨a, c, by rw [e]; congr 1; simp; omega⟩); subst e5)
      go_roundw
      case rel => exact ⟨n + 1, _, out.take (k + n) ++ [s], by omega, by go_num, Lib.hid hp6, Lib.hid (by rw [← Nat.add_assoc]; exact HPN3.out), by simp; omega, by simp; omega⟩
      case measure => simp [intOf]; omega
end Go.Proofs.YtkefgapnghnjjaaGreatDoor
