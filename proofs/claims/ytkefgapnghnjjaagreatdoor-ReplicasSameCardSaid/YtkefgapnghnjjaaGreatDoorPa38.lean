/- A part of the proof, laid together from: Keep. -/
import Derived.Test.YtkefgapnghnjjaaGreatDoorPa12
import Derived.Test.YtkefgapnghnjjaaGreatDoorPa35
import Derived.Test.YtkefgapnghnjjaaGreatDoorPa03
import Derived.Test.YtkefgapnghnjjaaGreatDoorPa37
import Derived.Test.YtkefgapnghnjjaaGreatDoorPa36
import Derived.Deep.RegionHeld3
import Derived.Deep.RegionLaw
import Derived.Deep.DeepCutAuto
set_option linter.unusedSimpArgs false
set_option linter.unusedVariables false
namespace Go.Tk
open Go Go.RowKit
def RetSessions (w : World) (res : List SessionD × Int) (e : Ending) (w' : World) : Prop :=
  ∃ v', e = .returned (.tuple #[v', .int .i64 res.2]) ∧ SlR 5 rSession w' v' res.1 (fun b => w.heap.size ≤ b) ∧ Below w.heap.size w w'
theorem RetSessions.nil {w w' : World} {c : Int} (hb : Below w.heap.size w w') : RetSessions w ([], c) (.returned (.tuple #[.slice none 0 0, .int .i64 c])) w' := ⟨_, rfl, SlR.nil _ _, hb⟩
end Go.Tk
namespace Go.Proofs.YtkefgapnghnjjaaGreatDoor
open Go.RowKit Go.Tk
theorem kfind_calls (w : World) (v : Value) (l : List KeptD) (S : Nat → Prop) (h : SlR 4 rKept w v l S) (hn : l.length ≤ 1000000) (t : Int) (ht : -1000000000000 ≤ t ∧ t ≤ 1000000000000) (hb0 : ∀ x ∈ l, -1000000000000 ≤ x.seq ∧ x.seq ≤ 1000000000000) :
    Calls Tryz.prog 94 #[v, .int .i64 t, .func (.func 95) #[] #[]] w fun e w' =>
      e = .returned (.tuple #[.int .i64 (kFind l t : Nat), .bool (kThere l t)]) ∧ Below w.heap.size w w' := searchKept_calls w v l S h hn t ht hb0
set_option maxRecDepth 100000 in
set_option maxHeartbeats 800000 in
theorem keep_calls (l : List SessionD) (index client seq : Int) (r : ReplyD) (v : Value) (S : Nat → Prop) (w : World) (h : SlR 5 rSession w v l S) (hc : -1000000000000 ≤ client ∧ client ≤ 1000000000000) (hq : -1000000000000 ≤ seq ∧ seq ≤ 1000000000000) :
    Calls Tryz.prog 49 #[v, .int .i64 index, .int .i64 client, .int .i64 seq, .agg #[.int .i64 r.code, .int .i64 r.n, .string ⟨r.text.toArray⟩]] w (RetSessions w (keep l index client seq r)) := by
  go_enter Tryz.func49, Tryz.ntmps49
  go_wp2_with fail
  refine (sessCheck_calls l index v S _ (h.below rSession_ok (by decide) (below_alloc w _))).mono ?_; rintro e w1 ⟨rfl, hb1⟩
  have hww1 : w.heap.size < w1.heap.size := by have := hb1.size; rw [World.size_alloc] at this; omega
  by_cases he : sessCheck l index = 0
  case neg =>
    have HJ := Lib.hid (show keep l index client seq r = ([], sessCheck l index) by rw [keep, if_pos he])
    have he' : (sessCheck l index != 0) = true := by simpa using he
    clear he
    go_wp2
    go_ret2
    rw [HJ.out]; exact RetSessions.nil (below_step (below_alloc w _) hb1)
  have he' : (sessCheck l index != 0) = false := by simpa using he
  have hok := sessCheck_ok.1 he
  have HB := Lib.hid (show ∀ x ∈ l, -1000000000000 ≤ x.client ∧ x.client ≤ 1000000000000 from fun x hx => by have := hok.bad x hx; unfold sessBad at this; omega)
  have HN := Lib.hid (show ∀ x ∈ l, x.replies.length ≤ 1000000 from fun x hx => by have := replies_len (hok.rep x hx); omega)
  have HE := Lib.hid he
  have HO := Lib.hid hok
  have hl4 := hok.len
  clear he hok
  go_wp2_with fail
  refine (copySess_calls _ v l S (h.below rSession_ok (by decide) (below_step (below_alloc w _) hb1)) (by omega) HN.out).mono ?_; rintro e w2 ⟨v2, rfl, ho2, hb2, hv2⟩
  go_wp2_with fail
  refine (find_calls _ v2 l _ (ho2.readSess hv2) (by omega) client hc HB.out).mono ?_; rintro e w3 ⟨rfl, hb3⟩
  cases hth : sThere l client
  case false =>
    have HJ := Lib.hid (show keep l index client seq r = ([], 11) by rw [keep, if_neg (by simpa using HE.out), if_pos hth])
    clear hth
    go_wp2
    go_ret2
    rw [HJ.out]; exact RetSessions.nil (below_step (below_alloc w _) (below_step hb1 (below_step hb2 hb3)))
  have hlt := sThere_lt hth
  have HT := Lib.hid hth
  clear hth
  generalize hfi : sFind l client = fi at *
  have HFI := Lib.hid hfi
  clear hfi
  obtain ⟨g, cap2, rfl, hgc, hgm, hg2, hfz⟩ := ho2.shapePos (by omega)
  have hgw := hv2 g rfl
  have ho3 := ho2.below (rSessO_ok _) hb3
  obtain ⟨rv, hcells, hrv, hrg⟩ := ho3.cellsSess fi hlt
  have HGD := Lib.hid (show l.getD fi noSession = l[fi] by simp [List.getD, hlt])
  have HXB := Lib.hid (replies_len (HO.out.rep l[fi] (List.getElem_mem hlt)))
  have HXR := Lib.hid (replies_ok (HO.out.rep l[fi] (List.getElem_mem hlt)))
  have HXA := Lib.hid (show 0 ≤ l[fi].acked ∧ l[fi].acked ≤ 1048576 by have := HO.out.bad l[fi] (List.getElem_mem hlt); unfold sessBad at this; omega)
  have hxe : Hid (l[fi] = l[fi]) := rfl
  generalize hxx : l[fi] = x at hcells hrv HGD HXB HXR HXA
  have HXX := Lib.hid hxx
  clear hxx hxe
  obtain ⟨ra, rc, rfl⟩ := hrv.shape
  have q4 := hcells 4 _ rfl
  have HCL := Lib.hid hcells
  clear hcells
  have hb03 : Below (w.heap.size + 1) (w.alloc (.cells #[.int .i64 r.code, .int .i64 r.n, .string ⟨r.text.toArray⟩] 39)) w3 := by
    have := below_step hb1 (below_step hb2 hb3)
    simpa using this
  obtain ⟨hz, hzf, hzs⟩ := fresh hb03
  have z0 := hz 0; have z1 := hz 1; have z2 := hz 2
  clear hz hzf
  have HKB : Hid (∀ y ∈ x.replies, -1000000000000 ≤ y.seq ∧ y.seq ≤ 1000000000000) := fun y hy => by
    obtain ⟨i, hi, rfl⟩ := mem_getD x.replies y noKept hy
    have h1 := HXR.out i hi
    have h2 := HXA.out
    unfold keptBad at h1; omega
  go_wp2_with fail
  refine (kfind_calls _ _ x.replies (fun _ => True) ((hrv.move rKept_ok (fun _ _ => rfl) (fun b hb => hb.elim)).read rKept_ok (by decide) (fun _ _ => trivial)) (by have := HXB.out; omega) seq hq HKB.out).mono ?_; rintro e w4 ⟨rfl, hb4⟩
  have hxl := HXB.out
  cases hkt : kThere x.replies seq
  case true =>
    have HJ := Lib.hid (show keep l index client seq r = ([], 7) by rw [keep, if_neg (by simpa using HE.out), if_neg (by rw [HT.out]; simp), HFI.out, HGD.out, if_pos hkt])
    clear hkt
    go_wp2
    go_ret2
    rw [HJ.out]; exact RetSessions.nil (below_step (below_alloc w _) (below_step hb1 (below_step hb2 (below_step hb3 hb4))))
  have HK1 := Lib.hid (show keep l index client seq r = if replies (keepS x seq r) = false then ([], 2) else (l.set fi (keepS x seq r), 0) by rw [keep, if_neg (by simpa using HE.out), if_neg (by rw [HT.out]; simp), HFI.out, HGD.out, if_neg (by rw [hkt]; simp)])
  clear hkt
  have hkl : kFind x.replies seq ≤ x.replies.length := bs_le _ _
  have HKS := Lib.hid (show keepS x seq r = ⟨x.client, x.id, x.acked, x.last, x.replies.take (kFind x.replies seq) ++ ⟨seq, r⟩ :: x.replies.drop (kFind x.replies seq)⟩ from rfl)
  generalize kFind x.replies seq = ki at *
  generalize keepS x seq r = x7 at HK1 HKS
  obtain rfl := HKS.out
  have hs4 := hb4.size
  have hs3 := hb3.size
  have hg3 : g < w3.heap.size := by omega
  have q4' := (cell_keep q4 (hb4.block g hg3))
  have y0 := (cell_keep z0 (hb4.block _ hzs))
  have y1 := (cell_keep z1 (hb4.block _ hzs))
  have y2 := (cell_keep z2 (hb4.block _ hzs))
  clear z0 z1 z2 q4
  have hrv4 := hrv.below rKept_ok hb4
  have hna : (Value.slice ra x.replies.length rc).ownBlock ≠ some g := fun e => (hrg g e).2.1 rfl
  have hnb : (Value.slice ra x.replies.length rc).ownBlock ≠ some w.heap.size := fun e => by have h1 := (hrg _ e).1; have h2 := hb1.size; rw [World.size_alloc] at h2; omega
  have HI := Lib.hid (insertKept_calls rKept_ok x.replies ki hkl ⟨seq, r⟩ #[.int .i64 seq, .int .i64 r.code, .int .i64 r.n, .string ⟨r.text.toArray⟩] w4.drew _ (fun _ => False) (hrv4.move rKept_ok (fun _ _ => rfl) (fun b hb => hb.elim)) rfl (by omega))
  have hg4 : g < w4.heap.size := by omega
  have hw4 : w.heap.size < w4.heap.size := by omega
  have zf : w4.frozen? ⟨g, fi * 5 + 4, none⟩ = false := (World.frozen?_of_block (hb4.block g hg3)).trans ((World.frozen?_of_block (hb3.block g hg2)).trans (hfz _))
  go_upto_region 12 with (fail)
  go_cut [] (fun wx => ∃ w6 ra6 rc6, wx = w6.setCell ⟨g, fi * 5 + 4, none⟩ (.slice ra6 (x.replies.length + 1) rc6) ∧ OwR 146 4 rKept w6 (.slice ra6 (x.replies.length + 1) rc6) (x.replies.take ki ++ ⟨seq, r⟩ :: x.replies.drop ki) (fun _ => False) ∧
      w4.grownBy w6 (Value.slice ra x.replies.length rc).ownBlock ∧ ((Value.slice ra6 (x.replies.length + 1) rc6).ownBlock = (Value.slice ra x.replies.length rc).ownBlock ∨ ∃ b, (Value.slice ra6 (x.replies.length + 1) rc6).ownBlock = some b ∧ w4.heap.size ≤ b))
  case first =>
    go_region_law (go_simp; go_at_call 96; refine HI.out.mono ?_; rintro e w6 ⟨v6, rfl, ho6, hg6, hv6⟩; obtain ⟨ra6, rc6, e6⟩ : ∃ a c, v6 = .slice a (x.replies.length + 1) c := (by obtain ⟨a, c, e⟩ := ho6.shape; exact ⟨a, c, by rw [e]; congr 1; simp; omega⟩); subst e6; have u1 := cell_keep q4' (hg6.block _ hg4 (Ne.symm hna)); have u2 := cell_keep y0 (hg6.block _ hw4 (Ne.symm hnb)); have u3 := cell_keep y1 (hg6.block _ hw4 (Ne.symm hnb)); have u4 := cell_keep y2 (hg6.block _ hw4 (Ne.symm hnb)); have u5 := (World.frozen?_of_block (hg6.block _ hg4 (Ne.symm hna))).trans zf)
    all_goals (go_wp2_with fail; go_meet; exact ⟨w6, ra6, rc6, rfl, ho6, ⟨hg6.os, hg6.tape, hg6.output, hg6.size, hg6.block⟩, hv6⟩)
  case rest =>
    obtain ⟨w6, ra6, rc6, rfl, ho6, hg6, hv6⟩ := hcut
    have ho7 := (ho3.below (rSessO_ok _) hb4).inSess hlt q4' hg6 ho6 (by rcases hv6 with h | ⟨b', h, h'⟩; exact .inl h; exact .inr (.inr ⟨b', h, h', by omega⟩))
    have hk7 : ∀ (j : Nat) (u : Value), j ≠ 4 → (sessCells x ++ [Value.slice ra x.replies.length rc])[j]? = some u → (w6.setCell ⟨g, fi * 5 + 4, none⟩ (.slice ra6 (x.replies.length + 1) rc6)).cell? ⟨g, fi * 5 + j, none⟩ = some u := fun j u hj hu =>
      (cell_near (by omega)).trans (cell_keep (cell_keep (HCL.out j u hu) (hb4.block g hg3)) (hg6.block g hg4 (Ne.symm hna)))
    have c0 := hk7 0 _ (by decide) rfl
    have c1 := hk7 1 _ (by decide) rfl
    have c2 := hk7 2 _ (by decide) rfl
    have c3 := hk7 3 _ (by decide) rfl
    have c4 := World.cell?_setCell_same w6 ⟨g, fi * 5 + 4, none⟩ (.slice ra6 (x.replies.length + 1) rc6) (cell_keep q4' (hg6.block g hg4 (Ne.symm hna)))
    simp only [Nat.add_zero] at c0
    clear hk7 q4' y0 y1 y2 zf
    have hown6 : ∀ b, (Value.slice ra6 (x.replies.length + 1) rc6).ownBlock = some b → b ≠ g ∧ w1.heap.size ≤ b := fun b hb => by
      rcases hv6 with h | ⟨b', h, h'⟩
      · have := hrg b (h ▸ hb); exact ⟨this.2.1, this.1⟩
      · rw [h] at hb; cases hb; omega
    have hr7 := (ho6.move (w' := w6.setCell ⟨g, fi * 5 + 4, none⟩ (.slice ra6 (x.replies.length + 1) rc6)) (S' := fun _ => False) rKept_ok (fun b hb => heap_far (hown6 b hb).1) (fun b hb => hb.elim)).forget (S' := fun _ => True) (fun _ _ _ _ _ h => h)
    have hb7 : Below w.heap.size w (w6.setCell ⟨g, fi * 5 + 4, none⟩ (.slice ra6 (x.replies.length + 1) rc6)) := by
      refine below_set (((below_step (below_alloc w _) (below_step hb1 (below_step hb2 (below_step hb3 hb4)))).grown hg6 (by omega) (fun k hk => ?_))) (by omega) _ _
      have := hrg k hk; omega
    rw [HXX.out] at ho7
    have HO7 := Lib.hid ho7
    clear ho7 ho6 hg6 hv6
    generalize w6.setCell ⟨g, fi * 5 + 4, none⟩ (.slice ra6 (x.replies.length + 1) rc6) = w7 at *
    have HR7 := Lib.hid (replies_calls ⟨x.client, x.id, x.acked, x.last, x.replies.take ki ++ ⟨seq, r⟩ :: x.replies.drop ki⟩ _ _ w7 (hr7.read rKept_ok (by decide) (fun _ _ => trivial)) HXA.out.1 HXA.out.2)
    clear hr7
    go_wp2_with fail
    refine HR7.out.mono ?_; rintro e w8 ⟨rfl, hb8⟩
    clear HR7
    have HK2 := HK1
    clear HK1
    cases hrp : replies ⟨x.client, x.id, x.acked, x.last, x.replies.take ki ++ ⟨seq, r⟩ :: x.replies.drop ki⟩
    case false =>
      have HJ := Lib.hid (HK2.out.trans (if_pos hrp))
      clear hrp HK2
      go_wp2
      go_ret2
      rw [HJ.out]; exact RetSessions.nil (below_step hb7 hb8)
    case true =>
      have HJ := Lib.hid (HK2.out.trans (if_neg (by rw [hrp]; simp)))
      clear hrp HK2
      go_wp2
      go_ret2
      rw [HJ.out]
      refine ⟨_, rfl, ((HO7.out.below (rSessO_ok _) hb8).readSess (fun b hb => by cases hb; exact hgw)).sub rSession_ok (by decide) (fun b hb _ => ?_), below_step hb7 hb8⟩
      have := hb1.size
      rw [World.size_alloc] at this
      show _ ≤ _; omega
end Go.Proofs.YtkefgapnghnjjaaGreatDoor
