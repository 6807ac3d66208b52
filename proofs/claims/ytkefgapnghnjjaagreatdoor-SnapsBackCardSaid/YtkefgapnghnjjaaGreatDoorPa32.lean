/- A part of the proof, laid together from: BSearchKept, Keep, CmdC. -/
import Derived.Test.YtkefgapnghnjjaaGreatDoorRows
import Derived.Test.YtkefgapnghnjjaaGreatDoorPa10
import Derived.Test.YtkefgapnghnjjaaGreatDoorPa02
import Derived.WalkLawsBesides
import Derived.BigQuiet
import Derived.Deep.QuietTactic
import Derived.Test.YtkefgapnghnjjaaGreatDoorPa15
import Derived.Test.YtkefgapnghnjjaaGreatDoorPa29
import Derived.Test.YtkefgapnghnjjaaGreatDoorPa05
import Derived.Test.YtkefgapnghnjjaaGreatDoorPa30
import Derived.Deep.RegionHeld3
import Derived.Deep.RegionLaw
import Derived.Deep.DeepCutAuto
import Derived.Test.YtkefgapnghnjjaaGreatDoorPa11
import Derived.Test.YtkefgapnghnjjaaGreatDoorPa07
set_option linter.unusedSimpArgs false
set_option linter.unusedVariables false
/- slices.BinarySearchFunc over kept replies, with the program's own comparison. -/
namespace Go.Proofs.YtkefgapnghnjjaaGreatDoor
open Go.RowKit Go.Tk

set_option maxRecDepth 100000 in
theorem cmpKept_calls (w : World) (x : KeptD) (t : Int) (hb : -9223372036854775808 ≤ x.seq - t ∧ x.seq - t ≤ 9223372036854775807) :
    Calls Tryz.prog 95 #[.agg #[.int .i64 x.seq, .int .i64 x.reply.code, .int .i64 x.reply.n, .string ⟨x.reply.text.toArray⟩], .int .i64 t] w fun e w' => e = .returned (.int .i64 (x.seq - t)) ∧ Below w.heap.size w w' := by
  obtain ⟨b1, b2⟩ := hb
  go_enter Tryz.func95, Tryz.ntmps95
  go_wp2
  go_ret
  exact ⟨rfl, (Below.refl _ _).alloc (Nat.le_refl _) _⟩
set_option maxRecDepth 100000 in
set_option maxHeartbeats 400000 in
theorem searchKept_calls (w : World) (v : Value) (l : List KeptD) (S : Nat → Prop) (h : SlR 4 rKept w v l S) (hn : l.length ≤ 1000000) (t : Int) (ht : -1000000000000 ≤ t ∧ t ≤ 1000000000000) (hb0 : ∀ x ∈ l, -1000000000000 ≤ x.seq ∧ x.seq ≤ 1000000000000) :
    Calls Tryz.prog 94 #[v, .int .i64 t, .func (.func 95) #[] #[]] w fun e w' =>
      e = .returned (.tuple #[.int .i64 (bs (fun i => keptCmp (l.getD i noKept) t) l.length : Nat), .bool (bsFound (fun i => keptCmp (l.getD i noKept) t) l.length)]) ∧ Below w.heap.size w w' := by
  obtain ⟨a, cap, hv, hl, hm, hnil, -⟩ := id h
  subst hv
  unfold maxLen at hm
  go_enter Tryz.func94, Tryz.ntmps94
  go_wp2
  go_loopw [9, 10, 11] (fun i j _ wr => ∃ p q : Nat, p ≤ q ∧ q ≤ l.length ∧ i = .int .i64 p ∧ j = .int .i64 q ∧ Hid (bsGo (fun i => keptCmp (l.getD i noKept) t) (q - p) p q = bs (fun i => keptCmp (l.getD i noKept) t) l.length) ∧ Below w.heap.size w wr)
    (fun i j _ _ => (intOf j).toNat - (intOf i).toNat)
  case atStart => exact ⟨0, l.length, by omega, by omega, rfl, rfl, rfl, Below.refl _ _⟩
  case round =>
    obtain ⟨p, q, hpq, hql, rfl, rfl, hgo, hb⟩ := hrel
    by_cases hlt : p < q
    · have hml : (p + q) / 2 < l.length := by omega
      obtain ⟨b, off, cap', row, hv, hS, hrow, hcells⟩ := (h.below rKept_ok (by decide) hb).row ((p + q) / 2) hml
      simp only [Value.slice.injEq] at hv
      obtain ⟨rfl, _, rfl⟩ := hv
      have hg : l.getD ((p + q) / 2) noKept = l[(p + q) / 2] := by simp [List.getD, hml]
      have hxb := hb0 l[(p + q) / 2] (List.getElem_mem hml)
      have HL : Hid (keptCmp l[(p + q) / 2] t < 0 → bsGo (fun i => keptCmp (l.getD i noKept) t) (q - ((p + q) / 2 + 1)) ((p + q) / 2 + 1) q = bs (fun i => keptCmp (l.getD i noKept) t) l.length) := fun hf => by
        rw [← bsGo_less _ hlt (by show keptCmp (l.getD ((p + q) / 2) noKept) t < 0; rw [hg]; exact hf)]; exact hgo.out
      have HM : Hid (¬ keptCmp l[(p + q) / 2] t < 0 → bsGo (fun i => keptCmp (l.getD i noKept) t) ((p + q) / 2 - p) p ((p + q) / 2) = bs (fun i => keptCmp (l.getD i noKept) t) l.length) := fun hf => by
        rw [← bsGo_more _ hlt (by show ¬ keptCmp (l.getD ((p + q) / 2) noKept) t < 0; rw [hg]; exact hf)]; exact hgo.out
      clear hgo hg
      generalize l[(p + q) / 2] = x at *
      obtain rfl := hrow
      have q0 := hcells 0 _ rfl
      have q1 := hcells 1 _ rfl
      have q2 := hcells 2 _ rfl
      have q3 := hcells 3 _ rfl
      simp only [Nat.add_zero] at q0
      clear hcells
      have hws := hb.size
      by_cases hf : keptCmp x t < 0
      all_goals (have HF := Lib.hid hf; unfold keptCmp at hf)
      · go_wp2_with (go_at_call 95; refine (cmpKept_calls _ x t (by omega)).mono ?_; rintro e w2 ⟨rfl, hb2⟩)
        go_roundw
        case rel => exact ⟨(p + q) / 2 + 1, q, by omega, hql, by go_num, rfl, HL.out HF.out, hb.trans (hb2.mono hws)⟩
        case measure => simp [intOf]; omega
      · go_wp2_with (go_at_call 95; refine (cmpKept_calls _ x t (by omega)).mono ?_; rintro e w2 ⟨rfl, hb2⟩)
        go_roundw
        case rel => exact ⟨p, (p + q) / 2, by omega, by omega, rfl, by go_num, HM.out HF.out, hb.trans (hb2.mono hws)⟩
        case measure => simp [intOf]; omega
    · obtain rfl : p = q := by omega
      have HP : Hid (bs (fun i => keptCmp (l.getD i noKept) t) l.length = p) := by have := hgo.out; rw [Nat.sub_self] at this; exact this.symm
      clear hgo
      have hws := hb.size
      by_cases hml : p < l.length
      · obtain ⟨b, off, cap', row, hv, hS, hrow, hcells⟩ := (h.below rKept_ok (by decide) hb).row p hml
        simp only [Value.slice.injEq] at hv
        obtain ⟨rfl, _, rfl⟩ := hv
        have HG : Hid (bsFound (fun i => keptCmp (l.getD i noKept) t) l.length = (keptCmp l[p] t == 0)) := by
          show _ = _
          rw [bsFound, HP.out, decide_eq_true hml, show l.getD p noKept = l[p] by simp [List.getD, hml]]; rfl
        have hxb := hb0 l[p] (List.getElem_mem hml)
        clear h
        generalize l[p] = x at *
        obtain rfl := hrow
        have q0 := hcells 0 _ rfl
        have q1 := hcells 1 _ rfl
        have q2 := hcells 2 _ rfl
        have q3 := hcells 3 _ rfl
        simp only [Nat.add_zero] at q0
        clear hcells
        go_wp2_with (go_at_call 95; refine (cmpKept_calls _ x t (by omega)).mono ?_; rintro e w2 ⟨rfl, hb2⟩)
        go_ret2
        exact ⟨ends2 (by rw [HP.out]; rfl) (by rw [HG.out]; rfl), hb.trans (hb2.mono hws)⟩
      · have HG : Hid (bsFound (fun i => keptCmp (l.getD i noKept) t) l.length = false) := by
          show _ = _
          rw [bsFound, HP.out, decide_eq_false hml]; rfl
        clear h
        go_wp2
        go_ret2
        exact ⟨ends2 (by rw [HP.out]; rfl) (by rw [HG.out]; rfl), hb⟩
end Go.Proofs.YtkefgapnghnjjaaGreatDoor

/- session.Keep. -/
namespace Go.Tk
open Go Go.RowKit
/-- Sessions and a code, handed back in memory of the call's own. -/
def RetSessions (w : World) (res : List SessionD × Int) (e : Ending) (w' : World) : Prop :=
  ∃ v', e = .returned (.tuple #[v', .int .i64 res.2]) ∧ SlR 5 rSession w' v' res.1 (fun b => w.heap.size ≤ b) ∧ Below w.heap.size w w'
theorem RetSessions.nil {w w' : World} {c : Int} (hb : Below w.heap.size w w') : RetSessions w ([], c) (.returned (.tuple #[.slice none 0 0, .int .i64 c])) w' := ⟨_, rfl, SlR.nil _ _, hb⟩
end Go.Tk
namespace Go.Proofs.YtkefgapnghnjjaaGreatDoor
open Go.RowKit Go.Tk

theorem kfind_calls (w : World) (v : Value) (l : List KeptD) (S : Nat → Prop) (h : SlR 4 rKept w v l S) (hn : l.length ≤ 1000000) (t : Int) (ht : -1000000000000 ≤ t ∧ t ≤ 1000000000000) (hb0 : ∀ x ∈ l, -1000000000000 ≤ x.seq ∧ x.seq ≤ 1000000000000) :
    Calls Tryz.prog 94 #[v, .int .i64 t, .func (.func 95) #[] #[]] w fun e w' =>
      e = .returned (.tuple #[.int .i64 (kFind l t : Nat), .bool (kThere l t)]) ∧ Below w.heap.size w w' := searchKept_calls w v l S h hn t ht hb0

set_option maxRecDepth 100000 in
set_option maxHeartbeats 800000 in
theorem keep_calls (l : List SessionD) (index client seq : Int) (r : ReplyD) (v : Value) (S : Nat → Prop) (w : World) (h : SlR 5 rSession w v l S) (hc : -1000000000000 ≤ client ∧ client ≤ 1000000000000) (hq : -1000000000000 ≤ seq ∧ seq ≤ 1000000000000) :
    Calls Tryz.prog 49 #[v, .int .i64 index, .int .i64 client, .int .i64 seq, .agg #[.int .i64 r.code, .int .i64 r.n, .string ⟨r.text.toArray⟩]] w (RetSessions w (keep l index client seq r)) := by
  go_enter Tryz.func49, Tryz.ntmps49
  go_wp2_with fail
  refine (sessCheck_calls l index v S _ (h.below rSession_ok (by decide) (below_alloc w _))).mono ?_; rintro e w1 ⟨rfl, hb1⟩
  have hww1 : w.heap.size < w1.heap.size := by have := hb1.size; rw [World.size_alloc] at this; omega
  by_cases he : sessCheck l index = 0
  case neg =>
    have HJ := Lib.hid (show keep l index client seq r = ([], sessCheck l index) by rw [keep, if_pos he])
    have he' : (sessCheck l index != 0) = true := by simpa using he
    clear he
    go_wp2
    go_ret2
    rw [HJ.out]; exact RetSessions.nil (below_step (below_alloc w _) hb1)
  have he' : (sessCheck l index != 0) = false := by simpa using he
  have hok := sessCheck_ok.1 he
  have HB := Lib.hid (show ∀ x ∈ l, -1000000000000 ≤ x.client ∧ x.client ≤ 1000000000000 from fun x hx => by have := hok.bad x hx; unfold sessBad at this; omega)
  have HN := Lib.hid (show ∀ x ∈ l, x.replies.length ≤ 1000000 from fun x hx => by have := replies_len (hok.rep x hx); omega)
  have HE := Lib.hid he
  have HO := Lib.hid hok
  have hl4 := hok.len
  clear he hok
  go_wp2_with fail
  refine (copySess_calls _ v l S (h.below rSession_ok (by decide) (below_step (below_alloc w _) hb1)) (by omega) HN.out).mono ?_; rintro e w2 ⟨v2, rfl, ho2, hb2, hv2⟩
  go_wp2_with fail
  refine (find_calls _ v2 l _ (ho2.readSess hv2) (by omega) client hc HB.out).mono ?_; rintro e w3 ⟨rfl, hb3⟩
  cases hth : sThere l client
  case false =>
    have HJ := Lib.hid (show keep l index client seq r = ([], 11) by rw [keep, if_neg (by simpa using HE.out), if_pos hth])
    clear hth
    go_wp2
    go_ret2
    rw [HJ.out]; exact RetSessions.nil (below_step (below_alloc w _) (below_step hb1 (below_step hb2 hb3)))
  have hlt := sThere_lt hth
  have HT := Lib.hid hth
  clear hth
  generalize hfi : sFind l client = fi at *
  have HFI := Lib.hid hfi
  clear hfi
  obtain ⟨g, cap2, rfl, hgc, hgm, hg2, hfz⟩ := ho2.shapePos (by omega)
  have hgw := hv2 g rfl
  have ho3 := ho2.below (rSessO_ok _) hb3
  obtain ⟨rv, hcells, hrv, hrg⟩ := ho3.cellsSess fi hlt
  have HGD := Lib.hid (show l.getD fi noSession = l[fi] by simp [List.getD, hlt])
  have HXB := Lib.hid (replies_len (HO.out.rep l[fi] (List.getElem_mem hlt)))
  have HXR := Lib.hid (replies_ok (HO.out.rep l[fi] (List.getElem_mem hlt)))
  have HXA := Lib.hid (show 0 ≤ l[fi].acked ∧ l[fi].acked ≤ 1048576 by have := HO.out.bad l[fi] (List.getElem_mem hlt); unfold sessBad at this; omega)
  have hxe : Hid (l[fi] = l[fi]) := rfl
  generalize hxx : l[fi] = x at hcells hrv HGD HXB HXR HXA
  have HXX := Lib.hid hxx
  clear hxx hxe
  obtain ⟨ra, rc, rfl⟩ := hrv.shape
  have q4 := hcells 4 _ rfl
  have HCL := Lib.hid hcells
  clear hcells
  have hb03 : Below (w.heap.size + 1) (w.alloc (.cells #[.int .i64 r.code, .int .i64 r.n, .string ⟨r.text.toArray⟩] 39)) w3 := by
    have := below_step hb1 (below_step hb2 hb3)
    simpa using this
  obtain ⟨hz, hzf, hzs⟩ := fresh hb03
  have z0 := hz 0; have z1 := hz 1; have z2 := hz 2
  clear hz hzf
  have HKB : Hid (∀ y ∈ x.replies, -1000000000000 ≤ y.seq ∧ y.seq ≤ 1000000000000) := fun y hy => by
    obtain ⟨i, hi, rfl⟩ := mem_getD x.replies y noKept hy
    have h1 := HXR.out i hi
    have h2 := HXA.out
    unfold keptBad at h1; omega
  go_wp2_with fail
  refine (kfind_calls _ _ x.replies (fun _ => True) ((hrv.move rKept_ok (fun _ _ => rfl) (fun b hb => hb.elim)).read rKept_ok (by decide) (fun _ _ => trivial)) (by have := HXB.out; omega) seq hq HKB.out).mono ?_; rintro e w4 ⟨rfl, hb4⟩
  have hxl := HXB.out
  cases hkt : kThere x.replies seq
  case true =>
    have HJ := Lib.hid (show keep l index client seq r = ([], 7) by rw [keep, if_neg (by simpa using HE.out), if_neg (by rw [HT.out]; simp), HFI.out, HGD.out, if_pos hkt])
    clear hkt
    go_wp2
    go_ret2
    rw [HJ.out]; exact RetSessions.nil (below_step (below_alloc w _) (below_step hb1 (below_step hb2 (below_step hb3 hb4))))
  have HK1 := Lib.hid (show keep l index client seq r = if replies (keepS x seq r) = false then ([], 2) else (l.set fi (keepS x seq r), 0) by rw [keep, if_neg (by simpa using HE.out), if_neg (by rw [HT.out]; simp), HFI.out, HGD.out, if_neg (by rw [hkt]; simp)])
  clear hkt
  have hkl : kFind x.replies seq ≤ x.replies.length := bs_le _ _
  have HKS := Lib.hid (show keepS x seq r = ⟨x.client, x.id, x.acked, x.last, x.replies.take (kFind x.replies seq) ++ ⟨seq, r⟩ :: x.replies.drop (kFind x.replies seq)⟩ from rfl)
  generalize kFind x.replies seq = ki at *
  generalize keepS x seq r = x7 at HK1 HKS
  obtain rfl := HKS.out
  have hs4 := hb4.size
  have hs3 := hb3.size
  have hg3 : g < w3.heap.size := by omega
  have q4' := (cell_keep q4 (hb4.block g hg3))
  have y0 := (cell_keep z0 (hb4.block _ hzs))
  have y1 := (cell_keep z1 (hb4.block _ hzs))
  have y2 := (cell_keep z2 (hb4.block _ hzs))
  clear z0 z1 z2 q4
  have hrv4 := hrv.below rKept_ok hb4
  have hna : (Value.slice ra x.replies.length rc).ownBlock ≠ some g := fun e => (hrg g e).2.1 rfl
  have hnb : (Value.slice ra x.replies.length rc).ownBlock ≠ some w.heap.size := fun e => by have h1 := (hrg _ e).1; have h2 := hb1.size; rw [World.size_alloc] at h2; omega
  have HI := Lib.hid (insertKept_calls rKept_ok x.replies ki hkl ⟨seq, r⟩ #[.int .i64 seq, .int .i64 r.code, .int .i64 r.n, .string ⟨r.text.toArray⟩] w4.drew _ (fun _ => False) (hrv4.move rKept_ok (fun _ _ => rfl) (fun b hb => hb.elim)) rfl (by omega))
  have hg4 : g < w4.heap.size := by omega
  have hw4 : w.heap.size < w4.heap.size := by omega
  have zf : w4.frozen? ⟨g, fi * 5 + 4, none⟩ = false := (World.frozen?_of_block (hb4.block g hg3)).trans ((World.frozen?_of_block (hb3.block g hg2)).trans (hfz _))
  go_upto_region 12 with (fail)
  go_cut [] (fun wx => ∃ w6 ra6 rc6, wx = w6.setCell ⟨g, fi * 5 + 4, none⟩ (.slice ra6 (x.replies.length + 1) rc6) ∧ OwR 146 4 rKept w6 (.slice ra6 (x.replies.length + 1) rc6) (x.replies.take ki ++ ⟨seq, r⟩ :: x.replies.drop ki) (fun _ => False) ∧
      w4.grownBy w6 (Value.slice ra x.replies.length rc).ownBlock ∧ ((Value.slice ra6 (x.replies.length + 1) rc6).ownBlock = (Value.slice ra x.replies.length rc).ownBlock ∨ ∃ b, (Value.slice ra6 (x.replies.length + 1) rc6).ownBlock = some b ∧ w4.heap.size ≤ b))
  case first =>
    go_region_law (go_simp; go_at_call 96; refine HI.out.mono ?_; rintro e w6 ⟨v6, rfl, ho6, hg6, hv6⟩; obtain ⟨ra6, rc6, e6⟩ : ∃ a c, v6 = .slice a (x.replies.length + 1) c := (by obtain ⟨a, c, e⟩ := ho6.shape; exact ⟨a, c, by rw [e]; congr 1; simp; omega⟩); subst e6; have u1 := cell_keep q4' (hg6.block _ hg4 (Ne.symm hna)); have u2 := cell_keep y0 (hg6.block _ hw4 (Ne.symm hnb)); have u3 := cell_keep y1 (hg6.block _ hw4 (Ne.symm hnb)); have u4 := cell_keep y2 (hg6.block _ hw4 (Ne.symm hnb)); have u5 := (World.frozen?_of_block (hg6.block _ hg4 (Ne.symm hna))).trans zf)
    all_goals (go_wp2_with fail; go_meet; exact ⟨w6, ra6, rc6, rfl, ho6, ⟨hg6.os, hg6.tape, hg6.output, hg6.size, hg6.block⟩, hv6⟩)
  case rest =>
    obtain ⟨w6, ra6, rc6, rfl, ho6, hg6, hv6⟩ := hcut
    have ho7 := (ho3.below (rSessO_ok _) hb4).inSess hlt q4' hg6 ho6 (by rcases hv6 with h | ⟨b', h, h'⟩; exact .inl h; exact .inr (.inr ⟨b', h, h', by omega⟩))
    have hk7 : ∀ (j : Nat) (u : Value), j ≠ 4 → (sessCells x ++ [Value.slice ra x.replies.length rc])[j]? = some u → (w6.setCell ⟨g, fi * 5 + 4, none⟩ (.slice ra6 (x.replies.length + 1) rc6)).cell? ⟨g, fi * 5 + j, none⟩ = some u := fun j u hj hu =>
      (cell_near (by omega)).trans (cell_keep (cell_keep (HCL.out j u hu) (hb4.block g hg3)) (hg6.block g hg4 (Ne.symm hna)))
    have c0 := hk7 0 _ (by decide) rfl
    have c1 := hk7 1 _ (by decide) rfl
    have c2 := hk7 2 _ (by decide) rfl
    have c3 := hk7 3 _ (by decide) rfl
    have c4 := World.cell?_setCell_same w6 ⟨g, fi * 5 + 4, none⟩ (.slice ra6 (x.replies.length + 1) rc6) (cell_keep q4' (hg6.block g hg4 (Ne.symm hna)))
    simp only [Nat.add_zero] at c0
    clear hk7 q4' y0 y1 y2 zf
    have hown6 : ∀ b, (Value.slice ra6 (x.replies.length + 1) rc6).ownBlock = some b → b ≠ g ∧ w1.heap.size ≤ b := fun b hb => by
      rcases hv6 with h | ⟨b', h, h'⟩
      · have := hrg b (h ▸ hb); exact ⟨this.2.1, this.1⟩
      · rw [h] at hb; cases hb; omega
    have hr7 := (ho6.move (w' := w6.setCell ⟨g, fi * 5 + 4, none⟩ (.slice ra6 (x.replies.length + 1) rc6)) (S' := fun _ => False) rKept_ok (fun b hb => heap_far (hown6 b hb).1) (fun b hb => hb.elim)).forget (S' := fun _ => True) (fun _ _ _ _ _ h => h)
    have hb7 : Below w.heap.size w (w6.setCell ⟨g, fi * 5 + 4, none⟩ (.slice ra6 (x.replies.length + 1) rc6)) := by
      refine below_set (((below_step (below_alloc w _) (below_step hb1 (below_step hb2 (below_step hb3 hb4)))).grown hg6 (by omega) (fun k hk => ?_))) (by omega) _ _
      have := hrg k hk; omega
    rw [HXX.out] at ho7
    have HO7 := Lib.hid ho7
    clear ho7 ho6 hg6 hv6
    generalize w6.setCell ⟨g, fi * 5 + 4, none⟩ (.slice ra6 (x.replies.length + 1) rc6) = w7 at *
    have HR7 := Lib.hid (replies_calls ⟨x.client, x.id, x.acked, x.last, x.replies.take ki ++ ⟨seq, r⟩ :: x.replies.drop ki⟩ _ _ w7 (hr7.read rKept_ok (by decide) (fun _ _ => trivial)) HXA.out.1 HXA.out.2)
    clear hr7
    go_wp2_with fail
    refine HR7.out.mono ?_; rintro e w8 ⟨rfl, hb8⟩
    clear HR7
    have HK2 := HK1
    clear HK1
    cases hrp : replies ⟨x.client, x.id, x.acked, x.last, x.replies.take ki ++ ⟨seq, r⟩ :: x.replies.drop ki⟩
    case false =>
      have HJ := Lib.hid (HK2.out.trans (if_pos hrp))
      clear hrp HK2
      go_wp2
      go_ret2
      rw [HJ.out]; exact RetSessions.nil (below_step hb7 hb8)
    case true =>
      have HJ := Lib.hid (HK2.out.trans (if_neg (by rw [hrp]; simp)))
      clear hrp HK2
      go_wp2
      go_ret2
      rw [HJ.out]
      refine ⟨_, rfl, ((HO7.out.below (rSessO_ok _) hb8).readSess (fun b hb => by cases hb; exact hgw)).sub rSession_ok (by decide) (fun b hb _ => ?_), below_step hb7 hb8⟩
      have := hb1.size
      rw [World.size_alloc] at this
      show _ ≤ _; omega
end Go.Proofs.YtkefgapnghnjjaaGreatDoor

/- command.CheckOp, command.Check. -/
namespace Go.Tk
open Go Go.RowKit
theorem op_eq {o p : OpD} (h1 : o.kind = p.kind) (h2 : o.a = p.a) (h3 : o.b = p.b) (h4 : o.n = p.n) : o = p := by
  rcases o with ⟨a, b, c, d⟩; rcases p with ⟨e, f, g, h⟩; simp at h1 h2 h3 h4; subst h1 h2 h3 h4; rfl
end Go.Tk
namespace Go.Proofs.YtkefgapnghnjjaaGreatDoor
open Go.RowKit Go.Tk

set_option maxRecDepth 100000 in
set_option maxHeartbeats 1600000 in
theorem checkOp_calls (o : OpD) (w : World) : Calls Tryz.prog 72 #[valOp o] w fun e w' => e = .returned (.int .i64 (opCheck o)) ∧ Below w.heap.size w w' := by
  obtain ⟨k, a, b, n⟩ := o
  show Calls _ _ #[.agg #[.int .i64 k, .string ⟨a.toArray⟩, .string ⟨b.toArray⟩, .int .i64 n]] _ _
  by_cases hk : k < 1 ∨ 6 < k
  · have HV := Lib.hid (show opCheck ⟨k, a, b, n⟩ = 3 by rw [opCheck, if_pos hk])
    have hcases : k < 1 ∨ (¬ k < 1 ∧ 6 < k) := by omega
    clear hk
    rcases hcases with h1 | ⟨h1, h2⟩
    all_goals
      go_enter Tryz.func72, Tryz.ntmps72
      go_wp2
      go_ret
      exact ⟨by rw [HV.out]; rfl, below_alloc w _⟩
  · have k1 : ¬ k < 1 := by omega
    have k2 : ¬ 6 < k := by omega
    have HV := Lib.hid (show opCheck ⟨k, a, b, n⟩ = if lkName a = false ∨ (k ≠ 5 ∧ b ≠ []) then 4 else if 12 < b.length then 1 else if (k = 5 ∧ (n < 1 ∨ 1073741824 < n)) ∨ (k ≠ 5 ∧ n ≠ 0) then 2 else 0 by rw [opCheck, if_neg hk])
    clear hk
    go_enter Tryz.func72, Tryz.ntmps72
    go_wp2_with fail
    refine (name_calls a _).mono ?_; rintro e w2 ⟨rfl, hb2⟩
    have hb2' := hb2
    rw [World.size_alloc] at hb2'
    obtain ⟨hz, -, hzs⟩ := Tk.fresh hb2'
    have z0 := hz 0; have z2 := hz 2; have z3 := hz 3
    clear hz
    have hb02 := below_step (below_alloc w _) hb2
    clear hb2 hb2'
    cases hnm : lkName a
    case false =>
      have HF := Lib.hid (HV.out.trans (if_pos (.inl hnm)))
      clear hnm
      go_wp2
      go_ret
      exact ⟨by rw [HF.out]; rfl, hb02⟩
    case true =>
      by_cases h5 : k = 5
      · subst h5
        have HF := Lib.hid (HV.out.trans (if_neg (by rw [hnm]; simp)))
        clear hnm HV
        by_cases hl : 12 < b.length
        · have HF2 := Lib.hid (HF.out.trans (if_pos hl))
          go_wp2
          go_ret
          exact ⟨by rw [HF2.out]; rfl, hb02⟩
        · have HF2 := Lib.hid (HF.out.trans (if_neg hl))
          rcases (show n < 1 ∨ (¬ n < 1 ∧ 1073741824 < n) ∨ (¬ n < 1 ∧ ¬ 1073741824 < n) by omega) with h1 | ⟨h1, h2⟩ | ⟨h1, h2⟩
          · have HF3 := Lib.hid (HF2.out.trans (if_pos (by omega)))
            go_wp2
            go_ret
            exact ⟨by rw [HF3.out]; rfl, hb02⟩
          · have HF3 := Lib.hid (HF2.out.trans (if_pos (by omega)))
            go_wp2
            go_ret
            exact ⟨by rw [HF3.out]; rfl, hb02⟩
          · have HF3 := Lib.hid (HF2.out.trans (if_neg (by omega)))
            go_wp2
            go_ret
            exact ⟨by rw [HF3.out]; rfl, hb02⟩
      · have h5a : (k == 5) = false := by simpa using h5
        have h5b : (k != 5) = true := by simpa using h5
        cases b with
        | cons c r =>
          have HF := Lib.hid (HV.out.trans (if_pos (.inr ⟨h5, by simp⟩)))
          clear hnm HV h5
          go_wp2
          go_ret
          exact ⟨by rw [HF.out]; rfl, hb02⟩
        | nil =>
          have HF := Lib.hid ((HV.out.trans (if_neg (by rw [hnm]; simp))).trans (if_neg (by simp)))
          clear hnm HV
          by_cases hn : n = 0
          · have HF2 := Lib.hid (HF.out.trans (if_neg (by omega)))
            have hn0 : (n != 0) = false := by simpa using hn
            clear hn h5
            go_wp2
            go_ret
            exact ⟨by rw [HF2.out]; rfl, hb02⟩
          · have HF2 := Lib.hid (HF.out.trans (if_pos (by omega)))
            have hn0 : (n != 0) = true := by simpa using hn
            clear hn h5
            go_wp2
            go_ret
            exact ⟨by rw [HF2.out]; rfl, hb02⟩
set_option maxRecDepth 100000 in
set_option maxHeartbeats 1600000 in
theorem cmdCheck_calls (c : CommandD) (w : World) : Calls Tryz.prog 51 #[valCommand c] w fun e w' => e = .returned (.int .i64 (cmdCheck c)) ∧ Below w.heap.size w w' := by
  obtain ⟨k, cl, se, sq, ak, ok, a, b, n⟩ := c
  show Calls _ _ #[.agg #[.int .i64 k, .int .i64 cl, .int .i64 se, .int .i64 sq, .int .i64 ak, .int .i64 ok, .string ⟨a.toArray⟩, .string ⟨b.toArray⟩, .int .i64 n]] _ _
  by_cases hk : k < 1 ∨ 3 < k
  · have HV := Lib.hid (show cmdCheck ⟨k, cl, se, sq, ak, ok, a, b, n⟩ = 3 by rw [cmdCheck, if_pos hk])
    have hcases : k < 1 ∨ (¬ k < 1 ∧ 3 < k) := by omega
    clear hk
    rcases hcases with h1 | ⟨h1, h2⟩
    all_goals
      go_enter Tryz.func51, Tryz.ntmps51
      go_wp2
      go_ret
      exact ⟨by rw [HV.out]; rfl, below_alloc w _⟩
  have k1 : ¬ k < 1 := by omega
  have k2 : ¬ 3 < k := by omega
  by_cases hc : cl < 1 ∨ 9 < cl
  · have HV := Lib.hid (show cmdCheck ⟨k, cl, se, sq, ak, ok, a, b, n⟩ = 2 by rw [cmdCheck, if_neg hk, if_pos hc])
    have hcases : cl < 1 ∨ (¬ cl < 1 ∧ 9 < cl) := by omega
    clear hk hc
    rcases hcases with h1 | ⟨h1, h2⟩
    all_goals
      go_enter Tryz.func51, Tryz.ntmps51
      go_wp2
      go_ret
      exact ⟨by rw [HV.out]; rfl, below_alloc w _⟩
  have c1 : ¬ cl < 1 := by omega
  have c2 : ¬ 9 < cl := by omega
  by_cases h2 : k = 2
  · subst h2
    by_cases hb : se < 1 ∨ 1073741824 < se ∨ sq < 1 ∨ 1048576 < sq ∨ ak < 0 ∨ sq ≤ ak
    · have HV := Lib.hid (show cmdCheck ⟨2, cl, se, sq, ak, ok, a, b, n⟩ = 2 by rw [cmdCheck, if_neg hk, if_neg hc, if_neg (by simp), if_pos hb])
      have hcases : se < 1 ∨ (¬ se < 1 ∧ 1073741824 < se) ∨ (¬ se < 1 ∧ ¬ 1073741824 < se ∧ sq < 1) ∨ (¬ se < 1 ∧ ¬ 1073741824 < se ∧ ¬ sq < 1 ∧ 1048576 < sq) ∨ (¬ se < 1 ∧ ¬ 1073741824 < se ∧ ¬ sq < 1 ∧ ¬ 1048576 < sq ∧ ak < 0) ∨
          (¬ se < 1 ∧ ¬ 1073741824 < se ∧ ¬ sq < 1 ∧ ¬ 1048576 < sq ∧ ¬ ak < 0 ∧ sq ≤ ak) := by omega
      clear hk hc hb
      rcases hcases with g1 | ⟨g1, g2⟩ | ⟨g1, g2, g3⟩ | ⟨g1, g2, g3, g4⟩ | ⟨g1, g2, g3, g4, g5⟩ | ⟨g1, g2, g3, g4, g5, g6⟩
      all_goals
        go_enter Tryz.func51, Tryz.ntmps51
        go_wp2
        go_ret
        exact ⟨by rw [HV.out]; rfl, below_alloc w _⟩
    · have HV := Lib.hid (show cmdCheck ⟨2, cl, se, sq, ak, ok, a, b, n⟩ = opCheck ⟨ok, a, b, n⟩ by rw [cmdCheck, if_neg hk, if_neg hc, if_neg (by simp), if_neg hb])
      have g1 : ¬ se < 1 := by omega
      have g2 : ¬ 1073741824 < se := by omega
      have g3 : ¬ sq < 1 := by omega
      have g4 : ¬ 1048576 < sq := by omega
      have g5 : ¬ ak < 0 := by omega
      have g6 : ¬ sq ≤ ak := by omega
      clear hk hc hb
      go_enter Tryz.func51, Tryz.ntmps51
      go_wp2_with fail
      refine (checkOp_calls ⟨ok, a, b, n⟩ _).mono ?_; rintro e w2 ⟨rfl, hb2⟩
      go_wp2
      go_ret
      exact ⟨by rw [HV.out]; rfl, below_step (below_alloc w _) hb2⟩
  · have hk2 : (k != 2) = true := by simpa using h2
    have HG : Hid (∀ (ok : Int) (a b : List UInt8) (n : Int), cmdCheck ⟨k, cl, 0, 0, 0, ok, a, b, n⟩ = if ok ≠ 0 ∨ a ≠ [] ∨ b ≠ [] ∨ n ≠ 0 then 4 else 0) := fun ok a b n => by
      rw [cmdCheck, if_neg hk, if_neg hc, if_pos h2]; simp
    have HV := Lib.hid (show cmdCheck ⟨k, cl, se, sq, ak, ok, a, b, n⟩ = if se ≠ 0 ∨ sq ≠ 0 ∨ ak ≠ 0 ∨ ok ≠ 0 ∨ a ≠ [] ∨ b ≠ [] ∨ n ≠ 0 then 4 else 0 by rw [cmdCheck, if_neg hk, if_neg hc, if_pos h2])
    clear hk hc h2
    by_cases e1 : se = 0
    case neg =>
      have HF := Lib.hid (HV.out.trans (if_pos (.inl e1)))
      have e1' : (se != 0) = true := by simpa using e1
      clear e1 HV
      go_enter Tryz.func51, Tryz.ntmps51
      go_wp2
      go_ret
      exact ⟨by rw [HF.out]; rfl, below_alloc w _⟩
    subst e1
    by_cases e2 : sq = 0
    case neg =>
      have HF := Lib.hid (HV.out.trans (if_pos (.inr (.inl e2))))
      have e1' : (sq != 0) = true := by simpa using e2
      clear e2 HV
      go_enter Tryz.func51, Tryz.ntmps51
      go_wp2
      go_ret
      exact ⟨by rw [HF.out]; rfl, below_alloc w _⟩
    subst e2
    by_cases e3 : ak = 0
    case neg =>
      have HF := Lib.hid (HV.out.trans (if_pos (.inr (.inr (.inl e3)))))
      have e1' : (ak != 0) = true := by simpa using e3
      clear e3 HV
      go_enter Tryz.func51, Tryz.ntmps51
      go_wp2
      go_ret
      exact ⟨by rw [HF.out]; rfl, below_alloc w _⟩
    subst e3
    go_enter Tryz.func51, Tryz.ntmps51
    go_wp2
    all_goals go_ret
    all_goals refine ⟨ends1 (congrArg (Value.int .i64) ?_), below_alloc w _⟩
    all_goals (rw [HG.out]; simp [*])
end Go.Proofs.YtkefgapnghnjjaaGreatDoor
