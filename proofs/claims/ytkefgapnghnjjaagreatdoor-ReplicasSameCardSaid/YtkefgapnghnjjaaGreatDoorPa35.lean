/- A part of the proof, laid together from: DelFSess, Fresh, DelSess, Leave, FldSess. -/
import Derived.Test.YtkefgapnghnjjaaGreatDoorPa14
import Derived.Test.YtkefgapnghnjjaaGreatDoorPa11
import Derived.Test.YtkefgapnghnjjaaGreatDoorPa10
import Derived.Conc.MuLone
import Derived.Test.YtkefgapnghnjjaaGreatDoorRows
import Derived.Test.YtkefgapnghnjjaaGreatDoorPa30
import Derived.WalkLawsBesides
import Derived.Deep.RegionLaw
import Derived.BigQuiet
import Derived.Deep.QuietTactic
import Derived.Test.YtkefgapnghnjjaaGreatDoorPa12
import Derived.Test.YtkefgapnghnjjaaGreatDoorPa04
import Derived.Test.YtkefgapnghnjjaaGreatDoorPa08
set_option linter.unusedSimpArgs false
set_option linter.unusedVariables false
namespace Go.Proofs.YtkefgapnghnjjaaGreatDoor
open Go.RowKit Go.Tk
theorem Tryz.zeroSess : ∀ i z, Tryz.prog.info? 144 = some i → i.zero = some z → ∀ v ∈ z.cells.toList, v.oneCell' = true := by
  have h : ((Tryz.prog.info? 144).bind (·.zero)).map (fun z => z.cells.toList.all (·.oneCell')) = some true := by kernel_rfl
  intro i z hi hz
  rw [hi, Option.bind_some, hz, Option.map_some, Option.some.injEq, List.all_eq_true] at h
  exact h
set_option maxRecDepth 100000 in
set_option maxHeartbeats 4000000 in
theorem deleteFuncSess_calls (w : World) (v : Value) (l : List SessionD) (S : Nat → Prop) (h : OwR 144 5 rSession w v l S) (hS : ∀ g, v.ownBlock = some g → S g) (hn : l.length ≤ 1000000) (c : Nat) (cap : Value) (p : SessionD → Bool)
    (hin : ∀ args w, (callFunc c args).run Tryz.prog w = .ok (.enter c args) w) (hp : TellsSess w v.ownBlock S c cap p) :
    Calls Tryz.prog 78 #[v, .func (.func c) #[] #[cap]] w fun e w' => ∃ v',
      e = .returned v' ∧ OwR 144 5 rSession w' v' (l.filter fun x => !p x) S ∧ w.grownBy w' v.ownBlock ∧ v'.ownBlock = v.ownBlock := by
  rcases fIdx_cases p l with ⟨hi, hall⟩ | ⟨n, hnl, hi, hpn, hall⟩
  · have hl0 : l.filter (fun x => !p x) = l := List.filter_eq_self.2 fun x hx => by rw [hall x hx]; rfl
    have HC := Lib.hid (indexSess_calls w v l S (h.read rSession_ok (by decide) hS) hn c cap p _ hin hp)
    have HI := Lib.hid hi
    have HL := Lib.hid hl0
    clear hl0 hi hp
    obtain ⟨va, vc, rfl⟩ := h.shape
    go_enter Tryz.func78, Tryz.ntmps78
    go_wp2_with fail
    refine HC.out.mono ?_; rw [HI.out]; rintro e w1 ⟨rfl, hb1⟩
    go_wp2
    go_ret
    exact ⟨_, rfl, by rw [HL.out]; exact h.below rSession_ok hb1, grownBy_any hb1 _, rfl⟩
  · have HC := Lib.hid (indexSess_calls w v l S (h.read rSession_ok (by decide) hS) hn c cap p _ hin hp)
    have HI := Lib.hid hi
    obtain ⟨g, vc, rfl, hlc, hcm⟩ : ∃ g vc, v = .slice (some ⟨g, 0, none⟩) l.length vc ∧ l.length ≤ vc ∧ vc ≤ maxLen := by
      obtain ⟨rows, h1, h2, h3⟩ := id h
      rcases h2.2 with ⟨rfl, hn⟩ | ⟨g, vc, cur, rfl, _, _, hc, hm, _⟩
      · omega
      · exact ⟨g, vc, rfl, hc, hm⟩
    have HK := Lib.hid (keep_first hnl hpn hall)
    unfold maxLen at hcm
    have hlen : (l.length : Int) ≤ 1000000 := by omega
    have hni : ((n : Int) == -1) = false := by simp
    have hSg := hS g rfl
    clear hall hpn hi hS
    go_enter Tryz.func78, Tryz.ntmps78
    go_wp2_with fail
    refine HC.out.mono ?_; rw [HI.out]; rintro e w1 ⟨rfl, hb1⟩
    go_wp2
    go_loopw [5, 6] (fun i j wr => ∃ (a b : Nat) (m : List SessionD), a < b ∧ b ≤ l.length ∧ i = .int .i64 a ∧ j = .int .i64 b ∧ m.length = l.length ∧ OwR 144 5 rSession wr (.slice (some ⟨g, 0, none⟩) l.length vc) m S ∧
        Hid (m.take a = (l.take b).filter fun x => !p x) ∧ Hid (m.drop b = l.drop b) ∧ w.grownBy wr (some g))
      (fun _ j _ => l.length - (intOf j).toNat)
    case atStart => exact ⟨n, n + 1, l, by omega, by omega, rfl, by go_num, rfl, h.below rSession_ok hb1, HK.out, rfl, grownBy_any hb1 _⟩
    case round =>
      obtain ⟨a, b, m, hab, hbl, rfl, rfl, hml, ho, hk1, hk2, hgr⟩ := hrel
      have hws := hgr.size
      have hrd := ho.read rSession_ok (by decide) (fun g' hg' => by cases hg'; exact hSg)
      have hgl : g < wr.heap.size := ho.lt g rfl
      have hfz : ∀ j, wr.frozen? ⟨g, j, none⟩ = false := by
        obtain ⟨rows, h1, h2, h3⟩ := id ho
        rcases h2.2 with ⟨h, _⟩ | ⟨g', vc', cur, h, _, hg, _⟩
        · simp at h
        · simp only [Value.slice.injEq, Option.some.injEq, Addr.mk.injEq, and_true] at h
          obtain ⟨rfl, _, _⟩ := h
          exact fun j => frozen_of_row wr g j cur _ hg
      by_cases hlt : b < l.length
      · have hmb : b < m.length := by omega
        obtain ⟨row, hrow, hcells⟩ := ho.at rSession_ok hmb
        obtain ⟨rowa, hrowa, hcellsa⟩ := ho.at rSession_ok (i := a) (by omega)
        have hd := drop_at hlt hml hk2.out
        have HT : Hid (p l[b] = true → m.take a = (l.take (b + 1)).filter fun x => !p x) := fun e => keep_skip hlt e hk1.out
        have HF : Hid (p l[b] = false → (m.set a l[b]).take (a + 1) = (l.take (b + 1)).filter fun x => !p x) := fun e => keep_take hlt (by omega) e hk1.out
        have HD : Hid (m.drop (b + 1) = l.drop (b + 1)) := drop_more hk2.out
        have HE : Hid ((m.set a l[b]).drop (b + 1) = l.drop (b + 1)) := keep_drop hab _ hk2.out
        clear hk1 hk2
        rw [hd] at hrow
        clear hd
        generalize l[b] = x at *
        generalize m[a] = y at *
        have hrow' := hrow
        have HO := Lib.hid ho
        obtain ⟨rv, rfl, hrv⟩ := hrow
        obtain ⟨ra, rcap, rfl, -⟩ := id hrv
        have q0 := hcells 0 _ rfl
        have q1 := hcells 1 _ rfl
        have q2 := hcells 2 _ rfl
        have q3 := hcells 3 _ rfl
        have q4 := hcells 4 _ rfl
        simp only [Nat.add_zero] at q0
        have HA := Lib.hid hcellsa
        clear hcells hcellsa ho
        obtain ⟨rva, rfl, -⟩ := hrowa
        by_cases hf : p x = true
        · have HT' := Lib.hid (HT.out hf)
          clear HT HF HE
          go_wp2_with fail
          refine (hp _ _ _ (grownBy_alloc hgr _) (rSession_ok.sub (rSession_ok.below hrow' (below_alloc _ _)) fun b hb _ => hb.1)).mono ?_; rw [hf]; rintro e w2 ⟨rfl, hb2⟩
          go_wp2
          go_roundw
          case rel => exact ⟨a, b + 1, m, by omega, by omega, rfl, by go_num, hml, HO.out.below rSession_ok (below_step (below_alloc _ _) hb2), HT'.out, HD.out, grownBy_below (grownBy_alloc hgr _) hb2⟩
          case measure => simp [intOf]; omega
        · have hf' : p x = false := by simpa using hf
          have HF' := Lib.hid (HF.out hf')
          clear HT HF hf
          go_wp2_with fail
          refine (hp _ _ _ (grownBy_alloc hgr _) (rSession_ok.sub (rSession_ok.below hrow' (below_alloc _ _)) fun b hb _ => hb.1)).mono ?_; rw [hf']; rintro e w2 ⟨rfl, hb2⟩
          have hb3 := below_step (below_alloc wr _) hb2
          rw [World.size_alloc] at hb2
          obtain ⟨hz, hzf, hzs⟩ := fresh hb2
          have z0 := hz 0; have z1 := hz 1; have z2 := hz 2; have z3 := hz 3; have z4 := hz 4
          have hc2 : ∀ j, w2.cell? ⟨g, j, none⟩ = wr.cell? ⟨g, j, none⟩ := fun j => hb3.cell (p := ⟨g, j, none⟩) hgl
          have hfz2 : ∀ j, w2.frozen? ⟨g, j, none⟩ = false := fun j => (hb3.frozen (p := ⟨g, j, none⟩) hgl).trans (hfz j)
          have p0 := (hc2 _).trans (HA.out 0 _ rfl); have p1 := (hc2 _).trans (HA.out 1 _ rfl); have p2 := (hc2 _).trans (HA.out 2 _ rfl); have p3 := (hc2 _).trans (HA.out 3 _ rfl); have p4 := (hc2 _).trans (HA.out 4 _ rfl); simp only [Nat.add_zero] at p0
          clear hz hzf hc2
          have hal : a < l.length := by omega
          go_wp2
          go_roundw
          case rel =>
            refine ⟨a + 1, b + 1, m.set a x, by omega, by omega, by go_num, by go_num, by simp [hml], ?_, HF'.out, HE.out, ?_⟩
            · exact (HO.out.below rSession_ok hb3).setRow rSession_ok (i := a) (by omega) (x := x) (cs := [.int .i64 x.client, .int .i64 x.id, .int .i64 x.acked, .int .i64 x.last, .slice ra x.replies.length rcap]) (rSession_ok.below hrow' hb3)
            · exact grownBy_sets (.inl rfl) [.int .i64 x.client, .int .i64 x.id, .int .i64 x.acked, .int .i64 x.last, .slice ra x.replies.length rcap] (a * 5) w2 (grownBy_below hgr hb3)
          case measure => simp [intOf]; omega
      · obtain rfl : b = l.length := by omega
        have HM : Hid (m.take a = l.filter fun x => !p x) := by have := hk1.out; rwa [List.take_length] at this
        obtain ⟨cur, hg, hcs⟩ : ∃ cur, wr.heap[g]? = some (.cells cur 144 (0, 0)) ∧ cur.size = vc * 5 := by
          obtain ⟨rows, h1, h2, h3⟩ := id ho
          rcases h2.2 with ⟨h, _⟩ | ⟨g', vc', cur, h, _, hg, _, _, hs, _⟩
          · simp at h
          · simp only [Value.slice.injEq, Option.some.injEq, Addr.mk.injEq, and_true] at h
            obtain ⟨rfl, _, rfl⟩ := h
            exact ⟨cur, hg, hs⟩
        have hcl : cur.toList.length = vc * 5 := by simpa using hcs
        obtain ⟨zs, hzl, hr1⟩ := run_clear_tk (P := Tryz.prog) (ty := 0) wr Tryz.tySess g (a * 5) (l.length - a) (vc - a) cur hg (by rw [hcs]; omega) Tryz.zeroSess
        obtain ⟨wc, hwc⟩ : ∃ wc, wc = wr.setRow g (splice cur.toList (a * 5) zs).toArray := ⟨_, rfl⟩
        rw [← hwc] at hr1
        have hfin : OwR 144 5 rSession wc (.slice (some ⟨g, 0, none⟩) a vc) (m.take a) S ∧ w.grownBy wc (some g) := by
          have hgc : wc.heap[g]? = some (.cells (splice cur.toList (a * 5) zs).toArray 144 (0, 0)) := by rw [hwc]; exact setRow_heap wr g _ _ _ _ hg
          refine ⟨ho.cut rSession_ok (by omega) ?_ (fun j hj => ?_) (fun b' _ hb' _ => by rw [hwc]; exact setRow_other wr g b' _ hb'), ?_⟩
          · intro c0 E0 fz0 h0
            rw [hg] at h0
            cases h0
            exact ⟨_, hgc, by rw [List.size_toArray, length_splice _ _ _ (by omega)]; simp⟩
          · rw [cells_take hgc, cells_take hg, ← Array.getElem?_toList, ← Array.getElem?_toList]
            have := splice_take cur.toList (a * 5) zs (by omega)
            have h2 : ((splice cur.toList (a * 5) zs).take (a * 5 + zs.length))[j]? = (cur.toList.take (a * 5) ++ zs)[j]? := by rw [this]
            rw [List.getElem?_take_of_lt (by omega), List.getElem?_append_left (by rw [List.length_take]; omega), List.getElem?_take_of_lt (by omega)] at h2
            exact h2
          · rw [hwc]; exact grownBy_trans hgr ⟨rfl, rfl, rfl, by simp [World.setRow], fun k _ hk => setRow_other wr g k _ (fun e => hk (by rw [e]))⟩
        have HF := Lib.hid hfin
        clear hfin hg hcs hcl hwc hk1 hk2 ho hrd hfz
        have hal : a ≤ l.length := by omega
        have halv : a ≤ vc := by omega
        have hne : ¬ vc = a := by omega
        go_wp2_with (at_builtin; refine wpList_clear_run rfl (.tmp 38) _ rfl _ rfl hr1 ?_)
        go_ret
        exact ⟨_, rfl, by rw [← HM.out]; exact HF.out.1, HF.out.2, rfl⟩
end Go.Proofs.YtkefgapnghnjjaaGreatDoor

namespace Go.Proofs.YtkefgapnghnjjaaGreatDoor
open Go.RowKit Go.Tk
set_option maxRecDepth 100000 in
theorem fresh1_calls (w : World) (x : SessionD) (rv : Value) (hrv : rv.oneCell' = true) (B : Nat) (index : Int) (hi : 0 ≤ index ∧ index ≤ 1073741824) (hB : B < w.heap.size) (hc : w.cell? ⟨B, 0, none⟩ = some (.int .i64 index)) :
    Calls Tryz.prog 79 #[.agg #[.int .i64 x.client, .int .i64 x.id, .int .i64 x.acked, .int .i64 x.last, rv], .pointer (some ⟨B, 0, none⟩)] w fun e w' => e = .returned (.bool (freshP index x)) ∧ Below w.heap.size w w' := by
  have hw : IntKind.i64.wrap (index + 1) = index + 1 := IntWalk.i64_in _ (by omega)
  go_enter Tryz.func79, Tryz.ntmps79
  go_wp2
  go_ret
  exact ⟨rfl, (Below.refl _ _).alloc (Nat.le_refl _) _⟩
set_option maxRecDepth 100000 in
theorem fresh_calls (l : List SessionD) (index : Int) (v : Value) (S : Nat → Prop) (w : World) (h : SlR 5 rSession w v l S) :
    Calls Tryz.prog 43 #[v, .int .i64 index] w fun e w' => ∃ v', e = .returned (.tuple #[v', .int .i64 (freshL l index).2]) ∧
      SlR 5 rSession w' v' (freshL l index).1 (fun b => w.heap.size ≤ b) ∧ Below w.heap.size w w' := by
  by_cases he : sessCheck l index = 0
  case neg =>
    have HJ := Lib.hid (show freshL l index = ([], sessCheck l index) by rw [freshL, if_pos he])
    have he' : (sessCheck l index != 0) = true := by simpa using he
    clear he
    go_enter Tryz.func43, Tryz.ntmps43
    go_wp2_with fail
    refine (sessCheck_calls l index v S _ (h.below rSession_ok (by decide) (below_alloc w _))).mono ?_; rintro e w1 ⟨rfl, hb1⟩
    go_wp2
    go_ret2
    exact ⟨_, ends2 rfl (by rw [HJ.out]; rfl), by rw [HJ.out]; exact SlR.nil _ _, below_step (below_alloc w _) hb1⟩
  have HJ := Lib.hid (show freshL l index = (l.filter (fun x => !freshP index x), 0) by rw [freshL, if_neg (by simpa using he)])
  have he' : (sessCheck l index != 0) = false := by simpa using he
  have hok := sessCheck_ok.1 he
  have hin : ∀ x ∈ l, x.replies.length ≤ 1000000 := fun x hx => by have := replies_len (hok.rep x hx); omega
  have hl4 := hok.len
  have hidx := hok.idx
  have HN := Lib.hid hin
  clear he hin hok
  go_enter Tryz.func43, Tryz.ntmps43
  go_wp2_with fail
  refine (sessCheck_calls l index v S _ (h.below rSession_ok (by decide) (below_alloc w _))).mono ?_; rintro e w1 ⟨rfl, hb1⟩
  go_wp2_with fail
  refine (copySess_calls _ v l S (h.below rSession_ok (by decide) (below_step (below_alloc w _) hb1)) (by omega) HN.out).mono ?_; rintro e w2 ⟨v2, rfl, ho2, hb2, hv2⟩
  have hb2' := below_step hb1 hb2
  have hs1 := hb1.size
  rw [World.size_alloc] at hb2' hs1
  obtain ⟨hz, hzf, hzs⟩ := Tk.fresh hb2'
  have z0 := hz 0
  clear hz hzf
  have hin := fun args w => MuLone.run_callFunc_enter Tryz.func79 (by kernel_rfl) rfl args w
  have hp : TellsSess w2 v2.ownBlock (fun b => w1.heap.size ≤ b) 79 (.pointer (some ⟨w.heap.size, 0, none⟩)) (freshP index) := fun w' x rv hg hr => by
    have hbl : w'.heap[w.heap.size]? = w2.heap[w.heap.size]? := hg.block _ hzs (fun e => by have := hv2 _ e.symm; omega)
    exact fresh1_calls w' x rv (by obtain ⟨v, e, a, c, hv, _⟩ := hr; cases e; rw [hv]; rfl) w.heap.size index hidx (by have := hg.size; omega) ((World.cell?_of_block hbl).trans z0)
  have HD := Lib.hid (deleteFuncSess_calls w2 v2 l _ ((ho2.own (rSessO_ok _)).map fun _ _ _ _ hr => hr.read) hv2 (by omega) 79 (.pointer (some ⟨w.heap.size, 0, none⟩)) (freshP index) hin hp)
  clear hp hin z0
  go_wp2_with fail
  refine HD.out.mono ?_; rintro e w3 ⟨v3, rfl, ho3, hg3, hv3⟩
  go_wp2
  go_ret2
  have hb3 : Below w.heap.size w w3 := (below_step (below_alloc w _) (below_step hb1 hb2)).grown hg3 (by have := hb2.size; omega) (fun k hk => by have := hv2 k hk; omega)
  refine ⟨_, ends2 rfl (by rw [HJ.out]; rfl), ?_, hb3⟩
  rw [HJ.out]
  exact (ho3.read rSession_ok (by decide) (fun g hg => hv2 g (by rw [← hv3]; exact hg))).sub rSession_ok (by decide) fun b hb _ => by show _ ≤ _; omega
end Go.Proofs.YtkefgapnghnjjaaGreatDoor

namespace Go.Proofs.YtkefgapnghnjjaaGreatDoor
open Go.RowKit Go.Tk
theorem Tryz.zeroDSess : ∀ i z, Tryz.prog.info? 144 = some i → i.zero = some z → ∀ v ∈ z.cells.toList, v.oneCell' = true := by
  intro i z hi hz
  have h : (Tryz.prog.info? 144).map (fun i => i.zero) = some (some (.agg #[.int .i64 0, .int .i64 0, .int .i64 0, .int .i64 0, .slice none 0 0])) := by kernel_rfl
  rw [hi] at h
  simp only [Option.map_some, Option.some.injEq] at h
  rw [h] at hz
  cases hz
  intro v hv
  simp [Value.cells] at hv
  rcases hv with rfl | rfl | rfl | rfl | rfl <;> rfl
set_option maxRecDepth 100000 in
set_option maxHeartbeats 800000 in
theorem delSess_calls (w : World) (v : Value) (l : List SessionD) (S : Nat → Prop) (h : OwF 144 5 rSession w v l S) (hn : l.length ≤ 1000000) (i : Nat) (hi : i < l.length) :
    Calls Tryz.prog 85 #[v, .int .i64 i, .int .i64 ((i : Int) + 1)] w fun e w' => ∃ v', e = .returned v' ∧ OwF 144 5 rSession w' v' (l.eraseIdx i) S ∧ w.grownBy w' v.ownBlock ∧ v'.ownBlock = v.ownBlock := by
  obtain ⟨g, off, n, cap, rfl⟩ : ∃ g off n cap, v = .slice (some ⟨g, off, none⟩) n cap := by
    rcases h with ⟨_, h⟩ | ⟨g, off, cap, cur, rows, hv, _⟩
    · subst h; simp at hi
    · exact ⟨g, off, _, cap, hv⟩
  obtain ⟨cur, news, hg, hnl, hnc, hcm, hfit, hnews, hone, hcell, cur', hg', hsz, hfin⟩ := OwF.erase (w := w.drew) rSession_ok (h.move rSession_ok (fun _ _ => rfl) (fun _ h _ _ => ⟨rfl, h⟩)) hi
  subst hnl
  have hin : (l.length - (i + 1)) + i = l.length - 1 := by omega
  obtain ⟨p, hp⟩ : ∃ p, l.length = p + 1 := ⟨l.length - 1, by omega⟩
  obtain ⟨zs, hzl, hr2⟩ := run_clear_tk (P := Tryz.prog) (ty := 0) (w.drew.setCells g (off + i * 5) news) Tryz.tyySess g (off + p * 5) 1 (cap - p) cur' hg' (by omega) Tryz.zeroDSess
  have hgb : w.grownBy ((w.drew.setCells g (off + i * 5) news).setRow g (splice cur'.toList (off + p * 5) zs).toArray) (some g) :=
    grownBy_trans (grownBy_trans (grownBy_drew (grownBy_refl w _)) (grownBy_sets (.inl rfl) _ _ _ (grownBy_refl w.drew _))) (grownBy_setRow _ g _)
  have hfz := hfin zs (hzl.trans (by omega))
  rw [show l.length - 1 = p by omega] at hfz
  have hfz' : OwF 144 5 rSession ((w.drew.setCells g (off + i * 5) news).setRow g (splice cur'.toList (off + p * 5) zs).toArray) (.slice (some ⟨g, off, none⟩) p cap) (l.eraseIdx i) S := hfz.move rSession_ok (fun _ _ => rfl) (fun _ h _ _ => ⟨rfl, h⟩)
  have HF := Lib.hid (And.intro hfz' hgb)
  clear hfz hfz' hfin hgb
  obtain ⟨wf, hwf⟩ : ∃ wf, wf = (w.drew.setCells g (off + i * 5) news).setRow g (splice cur'.toList (off + p * 5) zs).toArray := ⟨_, rfl⟩
  rw [← hwf] at hr2 HF
  clear hwf hg' hzl hsz
  obtain ⟨inf, z, hi1, hz1, hs1, hb1, hzs1⟩ := (Tryz.tyySess).parts
  have hi' : i ≤ p := by omega
  have hr1 : ∀ ad : Addr, (∀ (j : Nat) (u : Value), news[j]? = some u → w.cell? (ad.add j) = some u) →
      (Builtin.append_ #[34, 34] 34 #[.slice (some ⟨g, off, none⟩) i cap, .slice (some ad) (p - i) (cap - (i + 1))]).run Tryz.prog w.drew = .ok (.slice (some ⟨g, off, none⟩) p cap) (w.drew.setCells g (off + i * 5) news) := fun ad had => by
    have := run_append_room_cells (P := Tryz.prog) w.drew 34 34 144 inf Tryz.underlying34 hi1 g off i cap ad (p - i) (cap - (i + 1)) news (by rw [hs1]; omega) had hone (by omega)
      (fun j hj => by rw [hs1]; show (w.drew.cell? _).isSome = true; rw [cells_take hg, Array.getElem?_eq_getElem (by omega)]; rfl) (fun j hj => frozen_of_row w g _ cur _ hg)
    rw [hs1, show i + (p - i) = p by omega] at this
    exact this
  have HR1 := Lib.hid hr1
  have HC := Lib.hid hcell
  have HN := Lib.hid hnews
  clear hr1 hcell hnews hin hi1 hz1 hs1 hb1 hzs1 hg h hone
  have hlp : (l.length : Int) ≤ 1000000 := by omega
  generalize l.length = n at *
  subst hp
  unfold maxLen at hcm
  have q1 : ¬ cap = i := by omega
  have q2 : ¬ cap = p := by omega
  have q3 : p + 1 - (i + 1) = p - i := by omega
  have q4 : ((i : Int) == (i : Int) + 1) = false := by rw [beq_eq_false_iff_ne]; omega
  have q5 : i ≤ cap := by omega
  have q6 : i + 1 ≤ cap := by omega
  have q7 : p + 1 ≤ cap := by omega
  have q8 : (i : Int) + 1 ≤ (p : Int) + 1 := by omega
  have q9 : ((i : Int) + 1).toNat = i + 1 := by omega
  have q10 : (0 : Int) ≤ (i : Int) + 1 := by omega
  by_cases hci : cap = i + 1
  · obtain rfl : p = i := by omega
    subst hci
    have hr1 := HR1.out ⟨g, off, none⟩ (fun j u hu => by have h := HN.out; rw [List.getElem?_eq_none (by omega)] at hu; cases hu)
    clear HR1 HC HN q1 q2 q3
    have q11 : (p : Int) ≤ (p : Int) + 1 := by omega
    simp only [Nat.sub_self] at hr1
    simp only [Nat.add_sub_cancel_left] at hr2
    go_enter Tryz.func85, Tryz.ntmps85
    go_wp2_with fail
    go_region_law (refine step_append_run rfl _ _ 34 34 rfl _ _ (by simp [Act.eval, Act.put]) (by simp [Act.eval, Act.put]) hr1 ?_)
    clear hr1
    go_wp2_with (at_builtin; refine wpList_clear_run rfl (.tmp 31) _ rfl _ rfl hr2 ?_)
    go_ret
    exact ⟨_, rfl, HF.out.1, HF.out.2, rfl⟩
  · have hr1 := HR1.out ⟨g, off + (i + 1) * 5, none⟩ (fun j u hu => by rw [Addr.add_lit]; exact HC.out j u hu)
    clear HR1 HC HN
    go_enter Tryz.func85, Tryz.ntmps85
    go_wp2_with fail
    go_region_law (refine step_append_run rfl _ _ 34 34 rfl _ _ (by simp [Act.eval, Act.put]) (by simp [Act.eval, Act.put]) hr1 ?_)
    clear hr1
    go_wp2_with (at_builtin; refine wpList_clear_run rfl (.tmp 31) _ rfl _ rfl hr2 ?_)
    go_ret
    exact ⟨_, rfl, HF.out.1, HF.out.2, rfl⟩
end Go.Proofs.YtkefgapnghnjjaaGreatDoor

namespace Go.Tk
open Go Go.RowKit
def RetSess3 (w : World) (res : List SessionD × ReplyD × Int) (e : Ending) (w' : World) : Prop :=
  ∃ v', e = .returned (.tuple #[v', .agg #[.int .i64 res.2.1.code, .int .i64 res.2.1.n, .string ⟨res.2.1.text.toArray⟩], .int .i64 res.2.2]) ∧ SlR 5 rSession w' v' res.1 (fun b => w.heap.size ≤ b) ∧ Below w.heap.size w w'
theorem RetSess3.mk {w w' : World} {v : Value} {l : List SessionD} {r : ReplyD} {c : Int} (h : SlR 5 rSession w' v l (fun b => w.heap.size ≤ b)) (hb : Below w.heap.size w w') : RetSess3 w (l, r, c) (.returned (.tuple #[v, .agg #[.int .i64 r.code, .int .i64 r.n, .string ⟨r.text.toArray⟩], .int .i64 c])) w' := ⟨_, rfl, h, hb⟩
end Go.Tk
namespace Go.Proofs.YtkefgapnghnjjaaGreatDoor
open Go.RowKit Go.Tk
set_option maxRecDepth 100000 in
set_option maxHeartbeats 800000 in
theorem leave_calls (l : List SessionD) (index client : Int) (v : Value) (S : Nat → Prop) (w : World) (h : SlR 5 rSession w v l S) (hok : SessOk l index) (hc : -1000000000000 ≤ client ∧ client ≤ 1000000000000) :
    Calls Tryz.prog 46 #[v, .int .i64 index, .int .i64 client] w (RetSess3 w (leave l index client)) := by
  have he := sessCheck_ok.2 hok
  have hbnd : ∀ x ∈ l, -1000000000000 ≤ x.client ∧ x.client ≤ 1000000000000 := fun x hx => by have := hok.bad x hx; unfold sessBad at this; omega
  have hin : ∀ x ∈ l, x.replies.length ≤ 1000000 := fun x hx => by have := replies_len (hok.rep x hx); omega
  have hl4 := hok.len
  have HE := Lib.hid he
  have HB := Lib.hid hbnd
  have HN := Lib.hid hin
  have HH := Lib.hid h
  have HV := Lib.hid (show leave l index client = if sThere l client = false then (l, ⟨11, 0, []⟩, 0) else (l.eraseIdx (sFind l client), noReply, 0) by rw [leave, if_neg (by rw [he]; simp)])
  clear he hbnd hin hok h
  go_enter Tryz.func46, Tryz.ntmps46
  go_wp2_with fail
  have HX := Lib.hid (BoxAt.new (w := w) (cs := [.int .i64 0, .int .i64 0, .string ⟨#[]⟩]) (E := 39))
  have HA := Lib.hid (below_alloc w (.cells #[.int .i64 0, .int .i64 0, .string ⟨#[]⟩] 39))
  replace HH := Lib.hid (HH.out.below rSession_ok (by decide) HA.out)
  refine (sessCheck_calls l index v S _ HH.out).mono ?_
  have hsz : w.heap.size < (w.alloc (.cells #[.int .i64 0, .int .i64 0, .string ⟨#[]⟩] 39)).heap.size := by rw [World.size_alloc]; omega
  generalize w.alloc (.cells #[.int .i64 0, .int .i64 0, .string ⟨#[]⟩] 39) = w0 at *
  rw [HE.out]; rintro e w1 ⟨rfl, hb1⟩
  go_wp2_with fail
  refine (copySess_calls _ v l S (HH.out.below rSession_ok (by decide) hb1) (by omega) HN.out).mono ?_; rintro e w2 ⟨v2, rfl, ho2, hb2, hv2⟩
  have hr2 := ho2.readSess hv2
  have hone := hr2.oneCell
  go_wp2_with fail
  refine (find_calls _ v2 l _ hr2 (by omega) client hc HB.out).mono ?_; rintro e w3 ⟨rfl, hb3⟩
  have hs1 := hb1.size
  have hs2 := hb2.size
  have hs3 := hb3.size
  replace HX := Lib.hid (HX.out.below (below_step hb1 (below_step hb2 hb3)))
  have HB3 := Lib.hid (below_step HA.out (below_step hb1 (below_step hb2 hb3)))
  have HR3 := Lib.hid (hr2.below rSession_ok (by decide) hb3)
  have HO3 := Lib.hid (((((ho2.below (rSessO_ok _) hb3).own (rSessO_ok _)).map (R' := rSession) fun _ _ _ _ hr => hr.read)).toF rSession_ok)
  have HV2 := Lib.hid hv2
  clear ho2 hr2 hv2 hb2 hb1 hb3 HA HH
  by_cases hth : sThere l client = true
  case neg =>
    have hth' : sThere l client = false := by simpa using hth
    have HF := Lib.hid (HV.out.trans (if_pos hth'))
    rw [hth']
    clear hth hth' HV
    have z0 := HX.out.cell 0 _ rfl; have z1 := HX.out.cell 1 _ rfl; have z2 := HX.out.cell 2 _ rfl
    have f0 := HX.out.thaw 0; have f1 := HX.out.thaw 1; have f2 := HX.out.thaw 2
    go_wp2
    have hp := ((HX.out.set 0 (by simp) (.int .i64 11)).set 1 (by simp) (.int .i64 0)).set 2 (by simp) (.string ⟨#[]⟩)
    have hbf := below_set (below_set (below_set (HB3.out) (Nat.le_refl _) 0 (.int .i64 11)) (Nat.le_refl _) 1 (.int .i64 0)) (Nat.le_refl _) 2 (.string ⟨#[]⟩)
    have hrf : SlR 5 rSession (((w3.setCell ⟨w.heap.size, 0, none⟩ (.int .i64 11)).setCell ⟨w.heap.size, 1, none⟩ (.int .i64 0)).setCell ⟨w.heap.size, 2, none⟩ (.string ⟨#[]⟩)) v2 l (fun b => w.heap.size ≤ b) :=
      HR3.out.move rSession_ok (by decide) fun b hb _ => ⟨(heap_far (by omega)).trans ((heap_far (by omega)).trans (heap_far (by omega))), by show _ ≤ _; omega⟩
    generalize ((w3.setCell ⟨w.heap.size, 0, none⟩ (.int .i64 11)).setCell ⟨w.heap.size, 1, none⟩ (.int .i64 0)).setCell ⟨w.heap.size, 2, none⟩ (.string ⟨#[]⟩) = wf at *
    have p0 := hp.cell 0 _ rfl; have p1 := hp.cell 1 _ rfl; have p2 := hp.cell 2 _ rfl
    refine bodyPost_ret (v := .tuple #[v2, .agg #[.int .i64 11, .int .i64 0, .string ⟨#[]⟩], .int .i64 0]) (by simp [results, Tryz.results46, go_sem, p0, p1, p2]) rfl ?_
    rw [HF.out]
    exact RetSess3.mk (r := ⟨11, 0, []⟩) hrf hbf
  have hlt := sThere_lt hth
  have HF := Lib.hid (HV.out.trans (if_neg (by rw [hth]; simp)))
  rw [hth]
  clear hth HV
  generalize hfi : sFind l client = fi at *
  clear hfi
  have hwn : IntKind.i64.wrap ((fi : Int) + 1) = (fi : Int) + 1 := IntWalk.i64_in _ (by omega)
  go_wp2_with fail
  refine (delSess_calls _ v2 l _ HO3.out (by omega) fi hlt).mono ?_
  rintro e w4 ⟨v4, rfl, ho4, hg4, hv4⟩
  have hone4 := ho4.oneCell
  have hx4 := HX.out.grown hg4 (fun e => by have := HV2.out _ e.symm; omega)
  have HB4 := Lib.hid (HB3.out.grown hg4 HB3.out.size fun k hk => by have := HV2.out k hk; omega)
  have HR4 := Lib.hid (ho4.read rSession_ok (fun g hg => HV2.out g (by rw [← hv4]; exact hg)))
  clear ho4 hg4 hv4
  have z0 := hx4.cell 0 _ rfl; have z1 := hx4.cell 1 _ rfl; have z2 := hx4.cell 2 _ rfl
  have f0 := hx4.thaw 0; have f1 := hx4.thaw 1; have f2 := hx4.thaw 2
  go_wp2
  have hp := ((hx4.set 0 (by simp) (.int .i64 0)).set 1 (by simp) (.int .i64 0)).set 2 (by simp) (.string ⟨#[]⟩)
  have hbf := below_set (below_set (below_set (HB4.out) (Nat.le_refl _) 0 (.int .i64 0)) (Nat.le_refl _) 1 (.int .i64 0)) (Nat.le_refl _) 2 (.string ⟨#[]⟩)
  have hrf : SlR 5 rSession (((w4.setCell ⟨w.heap.size, 0, none⟩ (.int .i64 0)).setCell ⟨w.heap.size, 1, none⟩ (.int .i64 0)).setCell ⟨w.heap.size, 2, none⟩ (.string ⟨#[]⟩)) v4 (l.eraseIdx fi) (fun b => w.heap.size ≤ b) :=
    HR4.out.move rSession_ok (by decide) fun b hb _ => ⟨(heap_far (by omega)).trans ((heap_far (by omega)).trans (heap_far (by omega))), by show _ ≤ _; omega⟩
  generalize ((w4.setCell ⟨w.heap.size, 0, none⟩ (.int .i64 0)).setCell ⟨w.heap.size, 1, none⟩ (.int .i64 0)).setCell ⟨w.heap.size, 2, none⟩ (.string ⟨#[]⟩) = wf at *
  have p0 := hp.cell 0 _ rfl; have p1 := hp.cell 1 _ rfl; have p2 := hp.cell 2 _ rfl
  refine bodyPost_ret (v := .tuple #[v4, .agg #[.int .i64 0, .int .i64 0, .string ⟨#[]⟩], .int .i64 0]) (by simp [results, Tryz.results46, go_sem, p0, p1, p2]) rfl ?_
  rw [HF.out]
  exact RetSess3.mk (r := noReply) hrf hbf
end Go.Proofs.YtkefgapnghnjjaaGreatDoor

namespace Go.Tk
open Go Go.RowKit
def sessCells (x : SessionD) : List Value := [.int .i64 x.client, .int .i64 x.id, .int .i64 x.acked, .int .i64 x.last]
theorem rSessO.mk {EK : Nat} {w : World} {x : SessionD} {v : Value} {S : Nat → Prop} (h : OwR EK 4 rKept w v x.replies (fun _ => False)) (hs : ∀ g, v.ownBlock = some g → S g) : rSessO EK w (sessCells x ++ [v]) x S := ⟨v, rfl, h, hs⟩
theorem OwD.cellsSess {E EK : Nat} {w : World} {g cap n : Nat} {l : List SessionD} {S : Nat → Prop} (h : OwD E 5 (rSessO EK) w (.slice (some ⟨g, 0, none⟩) n cap) l S) (i : Nat) (hi : i < l.length) :
    ∃ v, (∀ (j : Nat) (u : Value), (sessCells l[i] ++ [v])[j]? = some u → w.cell? ⟨g, i * 5 + j, none⟩ = some u) ∧ OwR EK 4 rKept w v l[i].replies (fun _ => False) ∧ ∀ b, v.ownBlock = some b → S b ∧ b ≠ g ∧ b < w.heap.size := by
  obtain ⟨row, G, ⟨v, rfl, hv, hg⟩, hG, hc, _⟩ := h.upd (rSessO_ok EK) i hi
  exact ⟨v, hc, hv, fun b hb => hG b (hg b hb)⟩
theorem OwD.setSess {E EK : Nat} {w : World} {g cap n : Nat} {l : List SessionD} {S : Nat → Prop} (h : OwD E 5 (rSessO EK) w (.slice (some ⟨g, 0, none⟩) n cap) l S) {i : Nat} (hi : i < l.length) {j : Nat} (hj : j < 4) (u : Value) (x' : SessionD)
    (hx : sessCells x' = (sessCells l[i]).set j u) (hr : x'.replies = l[i].replies) : OwD E 5 (rSessO EK) (w.setCell ⟨g, i * 5 + j, none⟩ u) (.slice (some ⟨g, 0, none⟩) n cap) (l.set i x') S := by
  obtain ⟨row, G, ⟨v, rfl, hv, hg⟩, hG, hc, hch⟩ := h.upd (rSessO_ok EK) i hi
  have hll : (sessCells l[i]).length = 4 := rfl
  have hc' : ∀ (q : Nat) (t : Value), (sessCells l[i] ++ [v])[q]? = some t → w.cell? ⟨g, i * 5 + q, none⟩ = some t := hc
  refine hch _ S G (sessCells x' ++ [v]) x' ((KeepsRow.refl g w).set _ _ _) (fun q hq => cell_near (by omega)) (fun q t ht => ?_) (fun b _ hb _ _ => heap_far hb) (fun _ hb => hb) (fun b hb => ⟨.inl hb, (hG b hb).1, (hG b hb).2.1, by simpa [World.setCell] using (hG b hb).2.2⟩) ?_
  · by_cases hq : q = j
    · subst hq
      rw [hx, List.getElem?_append_left (by rw [List.length_set, hll]; exact hj), List.getElem?_set_self (by rw [hll]; exact hj)] at ht
      cases ht
      obtain ⟨t0, ht0⟩ : ∃ t0, (sessCells l[i] ++ [v])[q]? = some t0 := ⟨(sessCells l[i] ++ [v])[q]'(by rw [List.length_append, hll]; show q < 4 + 1; omega), List.getElem?_eq_getElem _⟩
      exact World.cell?_setCell_same _ _ _ (hc' q t0 ht0)
    · refine (cell_near (by omega)).trans (hc' q t ?_)
      rcases Nat.lt_or_ge q 4 with h | h
      · rw [hx, List.getElem?_append_left (by rw [List.length_set, hll]; exact h), List.getElem?_set_ne (Ne.symm hq)] at ht
        rw [List.getElem?_append_left (by rw [hll]; exact h)]; exact ht
      · rw [List.getElem?_append_right (by rw [hx, List.length_set, hll]; exact h), hx, List.length_set] at ht
        rw [List.getElem?_append_right (by rw [hll]; exact h)]; exact ht
  · refine rSessO.mk ?_ hg
    rw [hr]
    exact hv.move rKept_ok (fun b hb => heap_far (hG b (hg b hb)).2.1) (fun b hb => hb.elim)
theorem OwD.inSess {E EK : Nat} {w w' : World} {g cap n : Nat} {l : List SessionD} {S : Nat → Prop} (h : OwD E 5 (rSessO EK) w (.slice (some ⟨g, 0, none⟩) n cap) l S) {i : Nat} (hi : i < l.length) {v v' : Value} (hv : w.cell? ⟨g, i * 5 + 4, none⟩ = some v)
    {rs : List KeptD} (hg' : w.grownBy w' v.ownBlock) (ho : OwR EK 4 rKept w' v' rs (fun _ => False)) (hvv : v'.ownBlock = v.ownBlock ∨ v'.ownBlock = none ∨ ∃ b, v'.ownBlock = some b ∧ w.heap.size ≤ b ∧ S b) :
    OwD E 5 (rSessO EK) (w'.setCell ⟨g, i * 5 + 4, none⟩ v') (.slice (some ⟨g, 0, none⟩) n cap) (l.set i { l[i] with replies := rs }) S := by
  obtain ⟨row, G, ⟨v0, rfl, hv0, hg⟩, hG, hc, hch⟩ := h.upd (rSessO_ok EK) i hi
  have hll : (sessCells l[i]).length = 4 := rfl
  have hc' : ∀ (q : Nat) (t : Value), (sessCells l[i] ++ [v0])[q]? = some t → w.cell? ⟨g, i * 5 + q, none⟩ = some t := hc
  obtain rfl : v0 = v := by
    have := hc' 4 v0 rfl
    rw [this] at hv; simpa using hv
  have hne : some g ≠ v0.ownBlock := fun e => (hG g (hg g e.symm)).2.1 rfl
  have hgl : g < w.heap.size := World.block_lt_of_cell? w _ (hc' 0 _ rfl)
  have hgg : w'.heap[g]? = w.heap[g]? := hg'.block g hgl hne
  have hsz := hg'.size
  have hv'l : ∀ b, v'.ownBlock = some b → (G b ∨ w.heap.size ≤ b) ∧ S b ∧ b ≠ g ∧ b < w'.heap.size := by
    intro b hb
    have hlt := ho.lt b hb
    rcases hvv with e | e | ⟨b', e, hb', hsb⟩
    · have hGb := hg b (e ▸ hb)
      exact ⟨.inl hGb, (hG b hGb).1, (hG b hGb).2.1, hlt⟩
    · rw [e] at hb; cases hb
    · rw [e] at hb; cases hb
      exact ⟨.inr hb', hsb, by omega, hlt⟩
  refine hch _ S (fun b => v'.ownBlock = some b) (sessCells { l[i] with replies := rs } ++ [v']) _ ((KeepsRow.same hgg).set _ _ _) (fun q hq => (cell_near (by omega)).trans (World.cell?_of_block (a := ⟨g, q, none⟩) hgg)) (fun q t ht => ?_) (fun b hb hbg hbG hbl => (heap_far hbg).trans (hg'.block b hbl (fun e => hbG (hg b e.symm)))) (fun _ hb => hb) (fun b hb => ?_) ?_
  · by_cases hq : q = 4
    · subst hq
      cases ht
      exact World.cell?_setCell_same _ _ _ (cell_keep hv hgg)
    · have hql : q < 4 := by
        rcases Nat.lt_or_ge q 5 with h | h
        · omega
        · rw [List.getElem?_eq_none (by rw [List.length_append]; show 4 + 1 ≤ q; omega)] at ht; cases ht
      refine (cell_near (by omega)).trans (cell_keep (hc' q t ?_) hgg)
      rw [List.getElem?_append_left hql] at ht
      rw [List.getElem?_append_left (by rw [hll]; exact hql)]; exact ht
  · have := hv'l b hb
    exact ⟨this.1, this.2.1, this.2.2.1, by simpa [World.setCell] using this.2.2.2⟩
  · exact rSessO.mk (x := { l[i] with replies := rs }) (ho.move rKept_ok (fun b hb => heap_far (hv'l b hb).2.2.1) (fun b hb => hb.elim)) (fun b hb => hb)
end Go.Tk
