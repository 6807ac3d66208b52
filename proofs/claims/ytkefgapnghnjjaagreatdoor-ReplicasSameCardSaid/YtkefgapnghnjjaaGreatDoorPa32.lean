/- A part of the proof, laid together from: MachB, PairG, InsPair. -/
import Derived.Test.YtkefgapnghnjjaaGreatDoorPa14
import Derived.Test.YtkefgapnghnjjaaGreatDoorPa31
import Derived.Test.YtkefgapnghnjjaaGreatDoorPa07
import Derived.Conc.MuLone
import Derived.Test.YtkefgapnghnjjaaGreatDoorPa13
import Derived.Test.YtkefgapnghnjjaaGreatDoorPa08
import Derived.BigRegion
import Derived.Deep.RegionLaw
import Derived.Deep.DeepCutAuto
import Derived.Test.YtkefgapnghnjjaaGreatDoorRows
import Derived.Test.YtkefgapnghnjjaaGreatDoorPa01
import Derived.WalkLawsBesides
import Derived.BigQuiet
import Derived.Deep.QuietTactic
import Derived.KernelRfl
set_option linter.unusedSimpArgs false
set_option linter.unusedVariables false
namespace Go.Tk
open Go Go.RowKit
theorem StAt.grown {w w' : World} {s : StateD} {vl vp vs : Value} {S : Nat → Prop} {B : Nat} (h : StAt w s vl vp vs S) (hg : w.grownBy w' (some B)) (hS : ∀ b, S b → b ≠ B) : StAt w' s vl vp vs S :=
  h.move fun b hb hlt => ⟨hg.block b hlt (fun e => hS b hb (by cases e; rfl)), hb⟩
theorem SlR.grown {α : Type} {k : Nat} {R : Rel α} (hR : RelOk R k) (hk : 0 < k) {w w' : World} {v : Value} {l : List α} {S : Nat → Prop} {B : Nat} (h : SlR k R w v l S) (hg : w.grownBy w' (some B)) (hS : ∀ b, S b → b ≠ B) : SlR k R w' v l S :=
  h.move hR hk fun b hb hlt => ⟨hg.block b hlt (fun e => hS b hb (by cases e; rfl)), hb⟩
theorem maGone_take (ses was : List SessionD) (n : Nat) (hn : n < was.length) (lk : List LockD) : maGone lk ses (was.take (n + 1)) = maGone1 ses (maGone lk ses (was.take n)) was[n] := by
  rw [maGone, List.take_succ_eq_append_getElem hn, List.foldl_append]; rfl
end Go.Tk
namespace Go.Proofs.YtkefgapnghnjjaaGreatDoor
open Go.RowKit Go.Tk
theorem gone1_calls (w : World) (y : SessionD) (rv : Value) (hrv : rv.oneCell' = true) (B : Nat) (c : Int) (hc : w.cell? ⟨B, 0, none⟩ = some (.int .i64 c)) :
    Calls Tryz.prog 81 #[.agg #[.int .i64 y.client, .int .i64 y.id, .int .i64 y.acked, .int .i64 y.last, rv], .pointer (some ⟨B, 0, none⟩)] w fun e w' => e = .returned (.bool (y.client == c)) ∧ Below w.heap.size w w' := by
  have hB := World.block_lt_of_cell? w _ hc
  go_enter Tryz.func81, Tryz.ntmps81
  go_wp2
  go_ret
  exact ⟨rfl, below_alloc w _⟩
set_option linter.unusedSimpArgs false in
set_option maxRecDepth 100000 in
set_option maxHeartbeats 3200000 in
theorem maGone_calls (s : StateD) (B : Nat) (vl vp vs vw : Value) (was : List SessionD) (S : Nat → Prop) (w : World) (hx : BoxAt w B [.int .i64 s.index, vl, vp, vs]) (h : StAt w s vl vp vs S) (hw : SlR 5 rSession w vw was S)
    (hS : ∀ b, S b → b ≠ B) (hl : LkOk s.locks) (hcl : ∀ x ∈ was, 1 ≤ x.client ∧ x.client ≤ 9) (hses : s.sessions.length ≤ 1000000) (hwas : was.length ≤ 1000000) :
    Calls Tryz.prog 44 #[.pointer (some ⟨B, 0, none⟩), vw] w fun e w' => e = .returned (.tuple #[]) ∧
      ∃ vl', BoxAt w' B [.int .i64 s.index, vl', vp, vs] ∧ SlR 4 rLock w' vl' (maGone s.locks s.sessions was) (fun b => S b ∨ w.heap.size ≤ b) ∧ w.grownBy w' (some B) := by
  have o2 := h.pair.oneCell
  have o3 := h.sess.oneCell
  obtain ⟨aw, cw, hv, -, hm, -, -⟩ := id hw
  subst hv
  unfold maxLen at hm
  have hBlt := hx.lt
  have HX := Lib.hid hx
  have HS := Lib.hid h.sess
  have HL := Lib.hid (h.lock.sub (S' := fun b => S b ∨ w.heap.size ≤ b) rLock_ok (by decide) fun b hb _ => .inl hb)
  have HW := Lib.hid hw
  have HB := Lib.hid hS
  have HLK := Lib.hid hl
  have HCL := Lib.hid hcl
  clear hx h hw hS hl hcl
  go_enter Tryz.func44, Tryz.ntmps44
  go_wp2
  go_loopw [5, 8] (fun _ i wr => ∃ n : Nat, n ≤ was.length ∧ i = .int .i64 n ∧ ∃ vl', Hid (BoxAt wr B [.int .i64 s.index, vl', vp, vs]) ∧ Hid (SlR 4 rLock wr vl' (maGone s.locks s.sessions (was.take n)) (fun b => S b ∨ w.heap.size ≤ b)) ∧ Hid (w.grownBy wr (some B)))
    (fun _ i _ => was.length - (intOf i).toNat)
  case atStart => exact ⟨0, by omega, rfl, vl, HX, HL, Lib.hid (grownBy_refl _ _)⟩
  case round =>
    obtain ⟨n, hn, rfl, vl', hbx, hbl, hbg⟩ := hrel
    by_cases hlt : n < was.length
    case neg =>
      have HF := Lib.hid (show was.take n = was from List.take_of_length_le (by omega))
      go_wp2
      refine bodyPost_end (v := .tuple #[]) (by simp [results, Tryz.results44, go_sem]) rfl ⟨rfl, vl', hbx.out, ?_, hbg.out⟩
      have := hbl.out
      rw [HF.out] at this
      exact this
    obtain ⟨b, off, cap', row, hv, hSb, hrow, hcells⟩ := (HW.out.grown rSession_ok (by decide) hbg.out HB.out).row n hlt
    simp only [Value.slice.injEq] at hv
    obtain ⟨rfl, _, rfl⟩ := hv
    have HLO := Lib.hid (maGone_more s.sessions (was.take n) s.locks HLK.out fun x hx => HCL.out x (List.mem_of_mem_take hx)).1
    have HT := Lib.hid (maGone_take s.sessions was n hlt s.locks)
    have HC1 := Lib.hid (HCL.out was[n] (List.getElem_mem hlt))
    generalize maGone s.locks s.sessions (was.take n) = L at *
    generalize was[n] = x at *
    obtain ⟨rv, rfl, hrv⟩ := hrow
    obtain ⟨ra, rc, rfl, -⟩ := id hrv
    have q0 := hcells 0 _ rfl; have q1 := hcells 1 _ rfl; have q2 := hcells 2 _ rfl; have q3 := hcells 3 _ rfl; have q4 := hcells 4 _ rfl
    simp only [Nat.add_zero] at q0
    clear hcells hrv
    have hsz := hbg.out.size
    have HZ := Lib.hid (BoxAt.new (w := wr) (cs := [.int .i64 x.client, .int .i64 x.id, .int .i64 x.acked, .int .i64 x.last, .slice ra x.replies.length rc]) (E := 144))
    have HD := Lib.hid (below_alloc wr (.cells #[.int .i64 x.client, .int .i64 x.id, .int .i64 x.acked, .int .i64 x.last, .slice ra x.replies.length rc] 144))
    go_upto_region 3 with (fail)
    generalize wr.alloc (.cells #[.int .i64 x.client, .int .i64 x.id, .int .i64 x.acked, .int .i64 x.last, .slice ra x.replies.length rc] 144) = w5 at *
    clear q0 q1 q2 q3 q4
    have b3 := (hbx.out.below HD.out).cell 3 _ rfl
    go_wp2_with fail
    clear b3
    have HS5 := Lib.hid ((HS.out.grown rSession_ok (by decide) hbg.out HB.out).below rSession_ok (by decide) HD.out)
    have hin := fun args w => MuLone.run_callFunc_enter Tryz.func81 (by kernel_rfl) rfl args w
    have hp : TellsSess w5 none S 81 (.pointer (some ⟨wr.heap.size, 0, none⟩)) (fun y => y.client == x.client) := fun w' y rv' hg hr =>
      gone1_calls w' y rv' (by obtain ⟨v, e, a, c, hv, _⟩ := hr; cases e; rw [hv]; rfl) wr.heap.size x.client ((World.cell?_of_block (hg.block _ HZ.out.lt (by simp))).trans (HZ.out.cell 0 _ rfl))
    have HK := Lib.hid (containsSess_calls w5 vs s.sessions S HS5.out hses 81 (.pointer (some ⟨wr.heap.size, 0, none⟩)) rfl (fun y => y.client == x.client) none hin hp)
    clear hp hin
    refine HK.out.mono ?_
    rintro e w6 ⟨rfl, hb6⟩
    clear HK HS5
    have HX6 := Lib.hid ((hbx.out.below HD.out).below hb6)
    have HL6 := Lib.hid ((hbl.out.below rLock_ok (by decide) HD.out).below rLock_ok (by decide) hb6)
    have HG6 := Lib.hid (grownBy_trans hbg.out (grownBy_any (below_step HD.out hb6) (some B)))
    have h5x := (HZ.out.below hb6).cell 0 _ rfl
    have hs6 := HG6.out.size
    clear hbx hbl hbg HD HZ hb6
    by_cases hc : hasClient s.sessions x.client = true
    · have HF := Lib.hid (show maGone1 s.sessions L x = L by rw [maGone1, if_pos hc])
      have hc' : (s.sessions.any fun y => y.client == x.client) = true := hc
      clear hc
      rw [hc']
      clear hc'
      go_wp2
      go_roundw
      case rel => exact ⟨n + 1, by omega, by go_num, vl', HX6, Lib.hid (by rw [HT.out, HF.out]; exact HL6.out), HG6⟩
      case measure => simp [intOf]; omega
    · have HF := Lib.hid (show maGone1 s.sessions L x = (lkGone L x.client).1 by rw [maGone1, if_neg hc])
      have hc' : (s.sessions.any fun y => y.client == x.client) = false := by have : ¬ (s.sessions.any fun y => y.client == x.client) = true := hc; simpa using this
      clear hc
      rw [hc']
      clear hc'
      have HG := Lib.hid (gone_calls L x.client vl' _ w6.drew (HL6.out.move rLock_ok (by decide) fun b hb _ => ⟨rfl, hb⟩) (fun k hk => by have := (HLO.out.line k hk).len; omega))
      have x1 := HX6.out.cell 1 _ rfl
      go_upto_region 4 with (fail)
      go_region_law (go_simp; go_at_call 82; refine HG.out.mono ?_; rintro e w7 ⟨v7, rfl, hs7, hb7'⟩; have hb7 : Below w6.heap.size w6 w7 := ⟨hb7'.os, hb7'.tape, hb7'.output, hb7'.size, hb7'.block⟩; obtain ⟨a7, c7, e7, -⟩ := id hs7; subst e7; have hx7 := HX6.out.below hb7; have u1 := hx7.cell 1 _ rfl; have t1 := hx7.thaw 1)
      all_goals
        have HX7 := Lib.hid (hx7.set 1 (by simp) (.slice a7 (lkGone L x.client).1.length c7))
        have HL7 := Lib.hid (hs7.move (S' := fun b => S b ∨ w.heap.size ≤ b) (w' := w7.setCell ⟨B, 1, none⟩ (.slice a7 (lkGone L x.client).1.length c7)) rLock_ok (by decide) (fun b hb _ => ⟨heap_far (by have := hx7.lt; have : w6.heap.size ≤ b := hb; omega), .inr (by have : w6.heap.size ≤ b := hb; omega)⟩))
        have HG7 := Lib.hid (grownBy_trans HG6.out (grownBy_set1 (grownBy_any hb7 (some B)) 1 (.slice a7 (lkGone L x.client).1.length c7)))
        clear hx7 hs7 hb7 x1
        go_wp2
        go_roundw
        case rel => exact ⟨n + 1, by omega, by go_num, _, HX7, Lib.hid (by rw [HT.out, HF.out]; exact HL7.out), HG7⟩
        case measure => simp [intOf]; omega
end Go.Proofs.YtkefgapnghnjjaaGreatDoor

namespace Go.Proofs.YtkefgapnghnjjaaGreatDoor
open Go.RowKit Go.Tk
set_option linter.unusedSimpArgs false in
set_option maxRecDepth 100000 in
set_option maxHeartbeats 1600000 in
theorem prGet_calls (l : List PairD) (t : List UInt8) (v : Value) (S : Nat → Prop) (w : World) (h : SlR 3 rPair w v l S) (hok : PrOk l) :
    Calls Tryz.prog 92 #[v, .string ⟨t.toArray⟩] w fun e w' => e = .returned (.tuple #[.agg #[.int .i64 (prGet l t).1.code, .int .i64 (prGet l t).1.n, .string ⟨(prGet l t).1.text.toArray⟩], .int .i64 (prGet l t).2]) ∧ Below w.heap.size w w' := by
  have hone := h.oneCell
  have hlen := hok.len
  have HC := Lib.hid (prCheck_ok.2 hok)
  have HV := Lib.hid (get_eq (name := t) hok)
  have HSZ := Lib.hid (show ∀ x ∈ l, x.value.length ≤ 1000000 from fun x hx => Nat.le_trans (hok.one x hx).size (by decide))
  have HS := Lib.hid h
  clear h hok
  obtain ⟨a, cap, hv, hl, hm, -, -⟩ := id HS.out
  subst hv
  unfold maxLen at hm
  go_enter Tryz.func92, Tryz.ntmps92
  go_wp2_with fail
  refine (prCheck_calls l _ S _ (HS.out.below rPair_ok (by decide) (below_alloc w _)) HSZ.out).mono ?_
  rw [HC.out]; rintro e w1 ⟨rfl, hb1⟩
  rw [World.size_alloc] at hb1
  have HB1 := Lib.hid ((below_alloc w _).trans (hb1.mono (by omega)))
  have HBB := Lib.hid hb1
  clear hb1
  go_wp2_with fail
  refine (pFind_calls l t _ S _ (HS.out.below rPair_ok (by decide) HB1.out) (by omega)).mono ?_
  rintro e w2 ⟨rfl, hb2⟩
  have HB2 := Lib.hid (below_step HB1.out hb2)
  have hbb2 := HBB.out.trans (hb2.mono (by have := HBB.out.size; rw [World.size_alloc] at this; exact this))
  obtain ⟨hz, hzf, hzs⟩ := Tk.fresh hbb2
  have z0 := hz 0; have z1 := hz 1; have z2 := hz 2
  have f0 := hzf 0; have f1 := hzf 1; have f2 := hzf 2
  have HX2 := Lib.hid ((BoxAt.new (w := w) (cs := [.int .i64 0, .int .i64 0, .string ⟨#[]⟩]) (E := 39)).keep (hbb2.block w.heap.size (by omega)))
  clear hz hzf hb2 HBB HB1
  cases ht : pThere l t
  case false =>
    have HF := Lib.hid (show prGet l t = (⟨6, 0, []⟩, 0) by rw [HV.out, if_pos ht])
    clear ht
    go_wp2
    have hp := ((HX2.out.set 0 (by simp) (.int .i64 6)).set 1 (by simp) (.int .i64 0)).set 2 (by simp) (.string ⟨#[]⟩)
    have hbf := below_set (below_set (below_set (Below.refl w.heap.size w2) (Nat.le_refl _) 0 (.int .i64 6)) (Nat.le_refl _) 1 (.int .i64 0)) (Nat.le_refl _) 2 (.string ⟨#[]⟩)
    generalize ((w2.setCell ⟨w.heap.size, 0, none⟩ (.int .i64 6)).setCell ⟨w.heap.size, 1, none⟩ (.int .i64 0)).setCell ⟨w.heap.size, 2, none⟩ (.string ⟨#[]⟩) = wf at *
    have p0 := hp.cell 0 _ rfl; have p1 := hp.cell 1 _ rfl; have p2 := hp.cell 2 _ rfl
    refine bodyPost_ret (v := .tuple #[.agg #[.int .i64 6, .int .i64 0, .string ⟨#[]⟩], .int .i64 0]) (by simp [results, Tryz.results92, go_sem, p0, p1, p2]) rfl ?_
    rw [HF.out]
    exact ⟨rfl, HB2.out.trans hbf⟩
  case true =>
    have hlt := pThere_lt ht
    have HF := Lib.hid (show prGet l t = (⟨0, l[pFind l t].version, l[pFind l t].value⟩, 0) by rw [HV.out, if_neg (by rw [ht]; decide), getD_at hlt])
    obtain ⟨b, off, cap', row, hv, hSb, hrow, hcells⟩ := (HS.out.below rPair_ok (by decide) HB2.out).row (pFind l t) hlt
    simp only [Value.slice.injEq] at hv
    obtain ⟨rfl, _, rfl⟩ := hv
    obtain rfl := hrow
    have q1 := hcells 1 _ rfl
    have q2 := hcells 2 _ rfl
    clear hcells ht
    generalize l[pFind l t] = x at *
    generalize pFind l t = i at *
    go_wp2
    go_region
    go_wp2
    have hp := ((HX2.out.set 0 (by simp) (.int .i64 0)).set 1 (by simp) (.int .i64 x.version)).set 2 (by simp) (.string ⟨x.value.toArray⟩)
    have hbf := below_set (below_set (below_set (Below.refl w.heap.size w2) (Nat.le_refl _) 0 (.int .i64 0)) (Nat.le_refl _) 1 (.int .i64 x.version)) (Nat.le_refl _) 2 (.string ⟨x.value.toArray⟩)
    generalize ((w2.setCell ⟨w.heap.size, 0, none⟩ (.int .i64 0)).setCell ⟨w.heap.size, 1, none⟩ (.int .i64 x.version)).setCell ⟨w.heap.size, 2, none⟩ (.string ⟨x.value.toArray⟩) = wf at *
    have p0 := hp.drew.cell 0 _ rfl; have p1 := hp.drew.cell 1 _ rfl; have p2 := hp.drew.cell 2 _ rfl
    refine bodyPost_ret (v := .tuple #[.agg #[.int .i64 0, .int .i64 x.version, .string ⟨x.value.toArray⟩], .int .i64 0]) (by simp [results, Tryz.results92, go_sem, p0, p1, p2]) rfl ?_
    rw [HF.out]
    exact ⟨rfl, HB2.out.trans (Below.drew hbf)⟩
end Go.Proofs.YtkefgapnghnjjaaGreatDoor

namespace Go.Proofs.YtkefgapnghnjjaaGreatDoor
open Go.RowKit Go.Tk
theorem Tryz.tyPair : SliceTy Tryz.prog 33 57 3 40 := ⟨Tryz.underlying33, by kernel_rfl, by decide⟩
set_option maxRecDepth 100000 in
set_option maxHeartbeats 800000 in
theorem insertPair_end (w : World) (v : Value) (n : Nat) (xs : List Value) (cs : Array Value) (hown : w.ownsRow 0 57 3 v n xs) (hcs : cs.size = 3) (h1 : ∀ u ∈ cs.toList, u.oneCell' = true) (hn : n ≤ 1000000) :
    Calls Tryz.prog 133 #[v, .int .i64 n, .slice (some ⟨w.heap.size, 0, none⟩) 1 1] (w.alloc (.cells cs 57)) fun e w' => ∃ v', e = .returned v' ∧
      w'.ownsRow 0 57 3 v' (n + 1) (xs ++ cs.toList) ∧ w.grownBy w' v.ownBlock ∧ (v'.ownBlock = v.ownBlock ∨ ∃ g, v'.ownBlock = some g ∧ w.heap.size ≤ g) := by
  obtain ⟨v', w', hr, g1, g2, g3⟩ := run_append_tk (P := Tryz.prog) (ty := 33) (w.alloc (.cells cs 57)) Tryz.tyPair v n xs (hown.alloc _) ⟨w.heap.size, 0, none⟩ 1 1 cs.toList (by simpa using hcs)
    (fun j u hu => by rw [Addr.add_lit]; simp only [Nat.zero_add]; rw [World.cell?_alloc_new]; simpa using hu) h1 (by omega)
  have hfin : w.grownBy w' v.ownBlock ∧ (v'.ownBlock = v.ownBlock ∨ ∃ g, v'.ownBlock = some g ∧ w.heap.size ≤ g) := by
    refine ⟨grownBy_trans (World.grownBy_alloc w _ _) g2, ?_⟩
    rcases g3 with e | ⟨g, e, h⟩
    · exact .inl e
    · exact .inr ⟨g, e, by simp at h; omega⟩
  have HF := Lib.hid hfin
  have G1 := Lib.hid g1
  clear hfin g1 g2 g3
  rcases hown.2 with ⟨rfl, rfl⟩ | ⟨g, cap, cur, rfl, -, hg, hnc, hcm, hcs2, htake⟩
  · clear hown
    go_enter Tryz.func133, Tryz.ntmps133
    go_wp2_with (at_builtin; refine wpList_append_run rfl _ _ _ _ rfl _ _ rfl rfl hr ?_)
    go_ret
    exact ⟨v', rfl, G1.out, HF.out⟩
  · unfold maxLen at hcm
    clear hown htake hg hcs2
    by_cases hcap : cap = n
    · subst hcap
      go_enter Tryz.func133, Tryz.ntmps133
      go_wp2_with (at_builtin; refine wpList_append_run rfl _ _ _ _ rfl _ _ rfl rfl hr ?_)
      go_ret
      exact ⟨v', rfl, G1.out, HF.out⟩
    · go_enter Tryz.func133, Tryz.ntmps133
      go_wp2_with (at_builtin; refine wpList_append_run rfl _ _ _ _ rfl _ _ rfl rfl hr ?_)
      go_ret
      exact ⟨v', rfl, G1.out, HF.out⟩
set_option maxRecDepth 100000 in
set_option maxHeartbeats 800000 in
theorem insertPair_grow (w : World) (g n i : Nat) (xs : List Value) (cs : Array Value) (hown : w.ownsRow 0 57 3 (.slice (some ⟨g, 0, none⟩) n n) n xs) (hi : i < n) (hcs : cs.size = 3) (h1 : ∀ u ∈ cs.toList, u.oneCell' = true) (h1x : ∀ u ∈ xs, u.oneCell' = true) (hn : n ≤ 1000000) :
    Calls Tryz.prog 133 #[.slice (some ⟨g, 0, none⟩) n n, .int .i64 i, .slice (some ⟨w.heap.size, 0, none⟩) 1 1] (w.alloc (.cells cs 57)) fun e w' => ∃ v', e = .returned v' ∧
      w'.ownsRow 0 57 3 v' (n + 1) (xs.take (i * 3) ++ cs.toList ++ xs.drop (i * 3)) ∧ w.grownBy w' (some g) ∧ (v'.ownBlock = some g ∨ ∃ g, v'.ownBlock = some g ∧ w.heap.size ≤ g) := by
  have hglt : g < w.heap.size := (hown.lt g rfl).2
  have hxl : xs.length = n * 3 := hown.1
  have hcell := hown.cells (g := g) rfl
  have hcell0 : ∀ j v, xs[j]? = some v → (w.alloc (.cells cs 57)).cell? ((⟨g, 0, none⟩ : Addr).add j) = some v := fun j v hj => by
    have := hcell j v hj
    rw [Addr.add_lit] at this ⊢
    rw [World.cell?_alloc_past _ _ _ hglt]; exact this
  obtain ⟨w1, cur, nc, hr1, hg1, hc1, hc2, hgr1, hnc1, hnc2⟩ := run_append_zeros_tk (P := Tryz.prog) (ty := 33) (w.alloc (.cells cs 57)) Tryz.tyPair Tryz.underlying3 g i n (n + 1 - i) (xs.take (i * 3)) (by simp; omega)
    (fun j v hj => hcell0 j v (by rw [List.getElem?_take] at hj; split at hj; exact hj; cases hj)) (by omega) (by omega) (by decide)
  rw [show i + (n + 1 - i) = n + 1 by omega] at hr1 hnc1
  obtain ⟨b1, hb1⟩ : ∃ b1, b1 = (w.alloc (.cells cs 57)).heap.size := ⟨_, rfl⟩
  rw [← hb1] at hr1 hg1
  rw [show ((n + 1 - i : Nat) : Int) = (n : Int) + 1 - (i : Int) by omega] at hr1
  have hb1' : b1 = w.heap.size + 1 := by rw [hb1]; simp
  have hcs5 : cs.toList.length = 3 := by simpa using hcs
  have hcl : cur.toList.length = nc * 3 := by simpa using hc1
  have hw1old : ∀ b, b < w.heap.size + 1 → w1.heap[b]? = (w.alloc (.cells cs 57)).heap[b]? := fun b hb => hgr1.block b (by simpa using hb) (by simp)
  have hr2 := run_copy_tk (P := Tryz.prog) (ty := 3) w1 Tryz.tyPair b1 (i * 3) (n + 1 - i) (nc - i) (some ⟨w.heap.size, 0, none⟩) 1 1 cur cs.toList hg1 (by rw [hcs5, show Nat.min 1 (n + 1 - i) = 1 from Nat.min_eq_left (by omega)])
    (fun _ => ⟨_, rfl, fun j v hj => by
      rw [Addr.add_lit, World.cell?_of_block (w := w.alloc (.cells cs 57)) (hw1old w.heap.size (by omega))]
      simp only [Nat.zero_add]; rw [World.cell?_alloc_new]; simpa using hj⟩) (by omega) h1
  have hl2 : (splice cur.toList (i * 3) cs.toList).length = nc * 3 := by rw [length_splice _ _ _ (by omega)]; exact hcl
  obtain ⟨w2, hw2⟩ : ∃ w2, w2 = w1.setRow b1 (splice cur.toList (i * 3) cs.toList).toArray := ⟨_, rfl⟩
  rw [← hw2] at hr2
  have hg2 : w2.drew.heap[b1]? = some (.cells (splice cur.toList (i * 3) cs.toList).toArray 57 (0, 0)) := by rw [hw2]; exact setRow_heap w1 b1 _ _ _ _ hg1
  have hw2old : ∀ b, b < w.heap.size + 1 → w2.drew.heap[b]? = (w.alloc (.cells cs 57)).heap[b]? := fun b hb => by
    rw [hw2]; exact (setRow_other w1 b1 b _ (by omega)).trans (hw1old b hb)
  have hr3 := run_copy_tk (P := Tryz.prog) (ty := 3) w2.drew Tryz.tyPair b1 ((i + 1) * 3) (n + 1 - (i + 1)) (nc - (i + 1)) (some ⟨g, i * 3, none⟩) (n - i) (n - i) _ (xs.drop (i * 3)) hg2
    (by rw [List.length_drop, hxl, show Nat.min (n - i) (n + 1 - (i + 1)) = n - i by rw [show n + 1 - (i + 1) = n - i by omega]; exact Nat.min_self _, Nat.sub_mul])
    (fun _ => ⟨_, rfl, fun j v hj => by
      rw [Addr.add_lit, World.cell?_of_block (w := w.alloc (.cells cs 57)) (hw2old g (by omega))]
      have := hcell0 (i * 3 + j) v (by rwa [List.getElem?_drop] at hj)
      rwa [Addr.add_lit, Nat.zero_add] at this⟩) (by rw [List.size_toArray, hl2, List.length_drop]; omega) (fun u hu => h1x u (List.mem_of_mem_drop hu))
  obtain ⟨w3, hw3⟩ : ∃ w3, w3 = w2.drew.setRow b1 (splice (splice cur.toList (i * 3) cs.toList).toArray.toList ((i + 1) * 3) (xs.drop (i * 3))).toArray := ⟨_, rfl⟩
  rw [← hw3] at hr3
  have hg3 : w3.heap[b1]? = some (.cells (splice (splice cur.toList (i * 3) cs.toList).toArray.toList ((i + 1) * 3) (xs.drop (i * 3))).toArray 57 (0, 0)) := by rw [hw3]; exact setRow_heap w2.drew b1 _ _ _ _ hg2
  have hfin : w3.ownsRow 0 57 3 (.slice (some ⟨b1, 0, none⟩) (n + 1) nc) (n + 1) (xs.take (i * 3) ++ cs.toList ++ xs.drop (i * 3)) ∧ w.grownBy w3 (some g) := by
    have hyl : (xs.drop (i * 3)).length = (n - i) * 3 := by rw [List.length_drop, hxl, Nat.sub_mul]
    refine ⟨⟨by simp [hcs5, hxl]; omega, .inr ⟨b1, nc, _, rfl, Nat.zero_le _, hg3, hnc1, hnc2, ?_, ?_⟩⟩, ?_⟩
    · rw [List.size_toArray, length_splice _ _ _ (by simp only [hl2, hyl]; omega)]; exact hl2
    · have := splice_two cur.toList (i * 3) cs.toList (xs.drop (i * 3)) (by rw [hcs5, hyl]; omega)
      rw [hcs5, hyl, hc2, show i * 3 + 3 = (i + 1) * 3 by omega, show (i + 1) * 3 + (n - i) * 3 = (n + 1) * 3 by omega] at this
      exact this
    · have h0 : w.grownBy w1 (some g) := grownBy_trans (World.grownBy_alloc w _ _) ⟨hgr1.os, hgr1.tape, hgr1.output, hgr1.size, fun k hk _ => hgr1.block k hk (by simp)⟩
      refine ⟨by rw [hw3, hw2]; exact h0.os, by rw [hw3, hw2]; exact h0.tape, by rw [hw3, hw2]; exact h0.output, ?_, fun k hk hne => ?_⟩
      · rw [hw3, hw2]; simpa using h0.size
      · rw [hw3, hw2]
        exact (setRow_other _ b1 k _ (by omega)).trans ((setRow_other _ b1 k _ (by omega)).trans (h0.block k hk hne))
  have HF := Lib.hid hfin
  have H1 := Lib.hid hb1'
  clear hfin hg3 hg2 hw2old hw1old hcell hcell0 hl2 hcl hcs5 hg1 hc1 hc2 hgr1 h1 h1x hw2 hw3 hb1 hb1' hxl hown hcs
  go_enter Tryz.func133, Tryz.ntmps133
  go_wp2_with (at_builtin; refine wpList_append_run rfl (.tmp 34) (.tmp 39) _ _ rfl _ _ rfl rfl hr1 ?_)
  have q1 : IntKind.i64.wrap ((i : Int) + 1) = (i : Int) + 1 := IntWalk.i64_in _ (by omega)
  have q2 : (0 : Int) ≤ (i : Int) + 1 := by omega
  have q3 : ((i : Int) + 1).toNat = i + 1 := by omega
  have q4 : ¬ (nc = i + 1) := by omega
  have q5 : ¬ (n = i) := by omega
  have q6 : (i : Int) + 1 ≤ (n : Int) + 1 := by omega
  have q7 : i ≤ n := by omega
  go_region_law (refine step_copy_run rfl _ _ 33 33 rfl _ _ (by simp [Act.eval, Act.put]) (by simp [Act.eval, Act.put]) hr3 ?_)
  clear q1 q2 q3 q4 q5 q6 q7
  go_wp2
  go_ret
  exact ⟨_, rfl, HF.out.1, HF.out.2, .inr ⟨_, rfl, by show w.heap.size ≤ b1; rw [H1.out]; omega⟩⟩
set_option maxRecDepth 100000 in
set_option maxHeartbeats 800000 in
theorem insertPair_shift (w : World) (g n cap i : Nat) (xs : List Value) (cs : Array Value) (hown : w.ownsRow 0 57 3 (.slice (some ⟨g, 0, none⟩) n cap) n xs) (hi : i < n) (hcap : n + 1 ≤ cap) (hcs : cs.size = 3) (h1 : ∀ u ∈ cs.toList, u.oneCell' = true) (h1x : ∀ u ∈ xs, u.oneCell' = true) (hn : n ≤ 1000000) :
    Calls Tryz.prog 133 #[.slice (some ⟨g, 0, none⟩) n cap, .int .i64 i, .slice (some ⟨w.heap.size, 0, none⟩) 1 1] (w.alloc (.cells cs 57)) fun e w' => ∃ v', e = .returned v' ∧
      w'.ownsRow 0 57 3 v' (n + 1) (xs.take (i * 3) ++ cs.toList ++ xs.drop (i * 3)) ∧ w.grownBy w' (some g) ∧ (v'.ownBlock = some g ∨ ∃ g, v'.ownBlock = some g ∧ w.heap.size ≤ g) := by
  have hglt : g < w.heap.size := (hown.lt g rfl).2
  have hxl : xs.length = n * 3 := hown.1
  have hcell := hown.cells (g := g) rfl
  obtain ⟨_, cur, hg, hcm, hcsz, htake⟩ : ∃ u : Unit, ∃ cur : Array Value, w.heap[g]? = some (.cells cur 57 (0, 0)) ∧ cap ≤ maxLen ∧ cur.size = cap * 3 ∧ cur.toList.take (n * 3) = xs := by
    rcases hown.2 with ⟨h, _⟩ | ⟨g', cap', cur, h, _, hg, _, hm, hs, ht⟩
    · simp at h
    · simp only [Value.slice.injEq, Option.some.injEq, Addr.mk.injEq, and_true, true_and] at h
      obtain ⟨rfl, rfl⟩ := h
      exact ⟨(), cur, hg, hm, hs, ht⟩
  have hg0 : (w.alloc (.cells cs 57)).heap[g]? = some (.cells cur 57 (0, 0)) := (heap_alloc_old w _ hglt).trans hg
  have hcl : cur.toList.length = cap * 3 := by simpa using hcsz
  have hcs5 : cs.toList.length = 3 := by simpa using hcs
  have hyl : (xs.drop (i * 3)).length = (n - i) * 3 := by rw [List.length_drop, hxl, Nat.sub_mul]
  have hov : (callFunc 159 #[.slice (some ⟨w.heap.size, 0, none⟩) 1 1, .slice (some ⟨g, (i + 1) * 3, none⟩) (n - i) (cap - (i + 1))]).run Tryz.prog (w.alloc (.cells cs 57)) = .ok (.value (.bool false)) (w.alloc (.cells cs 57)) := by
    rw [run_callFunc_extern Tryz.func159 (by kernel_rfl) (by kernel_rfl) (by kernel_rfl) (e := Extern.SlicesOverlaps.overlaps #[33, 33] #[4]) (by kernel_rfl),
      Lib.run_overlaps_apart (w.alloc (.cells cs 57)) 33 4 57 Tryz.underlying33 3 (fun _ => by kernel_rfl) ⟨w.heap.size, 0, none⟩ ⟨g, (i + 1) * 3, none⟩ 1 1 _ _ (by simp; omega) 57 57 3 (cap * 3)
        (by simp only [World.shape?]; rw [heap_alloc_new]; simp [hcs]) (by simp only [World.shape?]; rw [hg0]; simp [hcsz]) (by omega) (World.frozen?_alloc_new w cs _ _) (World.frozen?_alloc_new w cs _ _)]
    rfl
  have hr1 := run_copy_tk (P := Tryz.prog) (ty := 3) (w.alloc (.cells cs 57)).drew Tryz.tyPair g ((i + 1) * 3) (n + 1 - (i + 1)) (cap - (i + 1)) (some ⟨g, i * 3, none⟩) (n + 1 - i) (cap - i) cur (xs.drop (i * 3)) hg0
    (by rw [hyl, show Nat.min (n + 1 - i) (n + 1 - (i + 1)) = n - i by rw [show n + 1 - (i + 1) = n - i by omega]; exact Nat.min_eq_right (by omega)])
    (fun _ => ⟨_, rfl, fun j v hj => by
      rw [Addr.add_lit, World.cell?_drew, World.cell?_alloc_past _ _ _ hglt]
      have := hcell (i * 3 + j) v (by rwa [List.getElem?_drop] at hj)
      rwa [Addr.add_lit, Nat.zero_add] at this⟩) (by rw [hyl, hcsz]; omega) (fun u hu => h1x u (List.mem_of_mem_drop hu))
  have hl1 : (splice cur.toList ((i + 1) * 3) (xs.drop (i * 3))).length = cap * 3 := by rw [length_splice _ _ _ (by omega)]; exact hcl
  obtain ⟨w1, hw1⟩ : ∃ w1, w1 = (w.alloc (.cells cs 57)).drew.setRow g (splice cur.toList ((i + 1) * 3) (xs.drop (i * 3))).toArray := ⟨_, rfl⟩
  rw [← hw1] at hr1
  have hg1 : w1.heap[g]? = some (.cells (splice cur.toList ((i + 1) * 3) (xs.drop (i * 3))).toArray 57 (0, 0)) := by rw [hw1]; exact setRow_heap _ g _ _ _ _ hg0
  have hr2 := run_copy_tk (P := Tryz.prog) (ty := 3) w1 Tryz.tyPair g (i * 3) (n + 1 - i) (cap - i) (some ⟨w.heap.size, 0, none⟩) 1 1 _ cs.toList hg1 (by rw [hcs5, show Nat.min 1 (n + 1 - i) = 1 from Nat.min_eq_left (by omega)])
    (fun _ => ⟨_, rfl, fun j v hj => by
      rw [Addr.add_lit, World.cell?_of_block (w := w.alloc (.cells cs 57)) (by rw [hw1]; exact setRow_other _ g _ _ (by simp; omega))]
      simp only [Nat.zero_add]; rw [World.cell?_alloc_new]; simpa using hj⟩) (by rw [List.size_toArray, hl1, hcs5]; omega) h1
  obtain ⟨w2, hw2⟩ : ∃ w2, w2 = w1.setRow g (splice (splice cur.toList ((i + 1) * 3) (xs.drop (i * 3))).toArray.toList (i * 3) cs.toList).toArray := ⟨_, rfl⟩
  rw [← hw2] at hr2
  have hg2 : w2.heap[g]? = some (.cells (splice (splice cur.toList ((i + 1) * 3) (xs.drop (i * 3))).toArray.toList (i * 3) cs.toList).toArray 57 (0, 0)) := by rw [hw2]; exact setRow_heap _ g _ _ _ _ hg1
  have hfin : w2.ownsRow 0 57 3 (.slice (some ⟨g, 0, none⟩) (n + 1) cap) (n + 1) (xs.take (i * 3) ++ cs.toList ++ xs.drop (i * 3)) ∧ w.grownBy w2 (some g) := by
    refine ⟨⟨by simp [hcs5, hxl]; omega, .inr ⟨g, cap, _, rfl, Nat.zero_le _, hg2, hcap, hcm, ?_, ?_⟩⟩, ?_⟩
    · rw [List.size_toArray, length_splice _ _ _ (by simp only [hl1, hcs5]; omega)]; exact hl1
    · have := splice_back cur.toList (i * 3) cs.toList (xs.drop (i * 3)) (by rw [hcs5, hyl, hcl]; omega)
      rw [hcs5, hyl, show i * 3 + 3 = (i + 1) * 3 by omega, show (i + 1) * 3 + (n - i) * 3 = (n + 1) * 3 by omega] at this
      rw [← htake, List.take_take, Nat.min_eq_left (by omega)]
      rw [← htake] at this
      exact this
    · rw [hw2, hw1]
      exact grownBy_trans (grownBy_trans (grownBy_drew (World.grownBy_alloc w _ _)) (grownBy_setRow _ g _)) (grownBy_setRow _ g _)
  have HF := Lib.hid hfin
  unfold maxLen at hcm
  clear hfin hg2 hg1 hl1 hw1 hw2 hyl hcs5 hcl hg0 hg htake hcsz hcell hxl h1 h1x hown hcs
  go_enter Tryz.func133, Tryz.ntmps133
  have p4 : ¬ (cap = i + 1) := by omega
  have p5 : ¬ (cap = i) := by omega
  go_wp2_with (simp only [hov])
  clear hov
  have q1 : IntKind.i64.wrap ((i : Int) + 1) = (i : Int) + 1 := IntWalk.i64_in _ (by omega)
  have q2 : (0 : Int) ≤ (i : Int) + 1 := by omega
  have q3 : ((i : Int) + 1).toNat = i + 1 := by omega
  have q6 : (i : Int) + 1 ≤ (n : Int) + 1 := by omega
  have q7 : i ≤ n := by omega
  have q8 : (i : Int) ≤ (n : Int) + 1 := by omega
  go_region_law (refine step_copy_run rfl _ _ 33 33 rfl _ _ (by simp [Act.eval, Act.put]) (by simp [Act.eval, Act.put]) hr1 ?_)
  clear q1 q2 q3 q6 q7 q8 hr1
  go_wp2
  go_ret
  exact ⟨_, rfl, HF.out.1, HF.out.2, .inl rfl⟩
theorem insertPair_calls {α : Type} {R : Rel α} (hR : RelOk R 3) (l : List α) (i : Nat) (hi : i ≤ l.length) (x : α) (cs : Array Value) (w : World) (v : Value) (S : Nat → Prop) (hown : OwR 57 3 R w v l S)
    (hx : R w cs.toList x (fun b => S b ∧ some b ≠ v.ownBlock)) (hn : l.length ≤ 1000000) :
    Calls Tryz.prog 133 #[v, .int .i64 i, .slice (some ⟨w.heap.size, 0, none⟩) 1 1] (w.alloc (.cells cs 57)) fun e w' => ∃ v', e = .returned v' ∧
      OwR 57 3 R w' v' (l.take i ++ x :: l.drop i) S ∧ w.grownBy w' v.ownBlock ∧ (v'.ownBlock = v.ownBlock ∨ ∃ g, v'.ownBlock = some g ∧ w.heap.size ≤ g) := by
  obtain ⟨rows, h1, h2, h3⟩ := hown
  have hcs : cs.size = 3 := by simpa using hR.len hx
  have hone := OwR.cellsOne (E := 57) hR h1 h3
  have hone2 := hR.one hx
  have hv : ∀ g, v.ownBlock = some g → g < w.heap.size := fun g hg => (h2.lt g hg).2
  have fin : ∀ (e : Ending) (w' : World), (∃ v', e = .returned v' ∧ w'.ownsRow 0 57 3 v' (l.length + 1) (rows.flatten.take (i * 3) ++ cs.toList ++ rows.flatten.drop (i * 3)) ∧ w.grownBy w' v.ownBlock ∧ (v'.ownBlock = v.ownBlock ∨ ∃ g, v'.ownBlock = some g ∧ w.heap.size ≤ g)) →
      ∃ v', e = .returned v' ∧ OwR 57 3 R w' v' (l.take i ++ x :: l.drop i) S ∧ w.grownBy w' v.ownBlock ∧ (v'.ownBlock = v.ownBlock ∨ ∃ g, v'.ownBlock = some g ∧ w.heap.size ≤ g) := by
    rintro e w' ⟨v', he, g1, g2, g3⟩
    exact ⟨v', he, OwR.insert hR hi h1 hv h3 hx g1 g2 g3, g2, g3⟩
  by_cases hil : i = l.length
  · subst hil
    refine (insertPair_end w v l.length rows.flatten cs h2 hcs hone2 hn).mono fun e w' h => fin e w' ?_
    have hfl : rows.flatten.length = l.length * 3 := h2.1
    rw [List.take_of_length_le (by omega), List.drop_of_length_le (by omega), List.append_nil]
    exact h
  · rcases id h2.2 with ⟨rfl, hl0⟩ | ⟨g, cap, cur, rfl, -, hg, hnc, -, -, -⟩
    · omega
    · by_cases hcap : l.length + 1 ≤ cap
      · exact (insertPair_shift w g l.length cap i rows.flatten cs h2 (by omega) hcap hcs hone2 hone hn).mono fin
      · obtain rfl : cap = l.length := by omega
        exact (insertPair_grow w g l.length i rows.flatten cs h2 (by omega) hcs hone2 hone hn).mono fin
end Go.Proofs.YtkefgapnghnjjaaGreatDoor
