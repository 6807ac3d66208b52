/- slices.DeleteFunc over kept replies, in a slice of the call's own. -/
import Derived.Test.YtcjnnkbliapkgaaIdxKept
import Derived.Test.YtcjnnkbliapkgaaInsKept
namespace Go.Proofs.Ytcjnnkbliapkgaa
open Go.RowKit Go.Tk

theorem Try.zeroKept : ∀ i z, Try.prog.info? 83 = some i → i.zero = some z → ∀ v ∈ z.cells.toList, v.oneCell' = true := by
  have h : ((Try.prog.info? 83).bind (·.zero)).map (fun z => z.cells.toList.all (·.oneCell')) = some true := by kernel_rfl
  intro i z hi hz
  rw [hi, Option.bind_some, hz, Option.map_some, Option.some.injEq, List.all_eq_true] at h
  exact h

set_option maxRecDepth 100000 in
set_option maxHeartbeats 4000000 in
theorem deleteFuncKept_calls (w : World) (v : Value) (l : List KeptD) (S : Nat → Prop) (h : OwR 83 4 rKept w v l S) (hS : ∀ g, v.ownBlock = some g → S g) (hn : l.length ≤ 1000000) (c : Nat) (cap : Value) (p : KeptD → Bool)
    (hin : ∀ args w, (callFunc c args).run Try.prog w = .ok (.enter c args) w) (hp : TellsKept w v.ownBlock S c cap p) :
    Calls Try.prog 34 #[v, .func (.func c) #[] #[cap]] w fun e w' => ∃ v',
      e = .returned v' ∧ OwR 83 4 rKept w' v' (l.filter fun x => !p x) S ∧ w.grownBy w' v.ownBlock ∧ v'.ownBlock = v.ownBlock := by
  rcases fIdx_cases p l with ⟨hi, hall⟩ | ⟨n, hnl, hi, hpn, hall⟩
  · have hl0 : l.filter (fun x => !p x) = l := List.filter_eq_self.2 fun x hx => by rw [hall x hx]; rfl
    have HC := Lib.hid (indexKept_calls w v l S (h.read rKept_ok (by decide) hS) hn c cap p _ hin hp)
    have HI := Lib.hid hi
    have HL := Lib.hid hl0
    clear hl0 hi hp
    obtain ⟨va, vc, rfl⟩ := h.shape
    go_enter Try.func34, Try.ntmps34
    go_wp2_with fail
    refine HC.out.mono ?_; rw [HI.out]; rintro e w1 ⟨rfl, hb1⟩
    go_wp2
    go_ret
    exact ⟨_, rfl, by rw [HL.out]; exact h.below rKept_ok hb1, grownBy_any hb1 _, rfl⟩
  · have HC := Lib.hid (indexKept_calls w v l S (h.read rKept_ok (by decide) hS) hn c cap p _ hin hp)
    have HI := Lib.hid hi
    obtain ⟨g, vc, rfl, hlc, hcm⟩ : ∃ g vc, v = .slice (some ⟨g, 0, none⟩) l.length vc ∧ l.length ≤ vc ∧ vc ≤ maxLen := by
      obtain ⟨rows, h1, h2, h3⟩ := id h
      rcases h2.2 with ⟨rfl, hn⟩ | ⟨g, vc, cur, rfl, _, _, hc, hm, _⟩
      · omega
      · exact ⟨g, vc, rfl, hc, hm⟩
    have HK := Lib.hid (keep_first hnl hpn hall)
    unfold maxLen at hcm
    have hlen : (l.length : Int) ≤ 1000000 := by omega
    have hni : ((n : Int) == -1) = false := by simp
    have hSg := hS g rfl
    clear hall hpn hi hS
    go_enter Try.func34, Try.ntmps34
    go_wp2_with fail
    refine HC.out.mono ?_; rw [HI.out]; rintro e w1 ⟨rfl, hb1⟩
    go_wp2
    go_loopw [5, 6] (fun i j wr => ∃ (a b : Nat) (m : List KeptD), a < b ∧ b ≤ l.length ∧ i = .int .i64 a ∧ j = .int .i64 b ∧ m.length = l.length ∧ OwR 83 4 rKept wr (.slice (some ⟨g, 0, none⟩) l.length vc) m S ∧
        Hid (m.take a = (l.take b).filter fun x => !p x) ∧ Hid (m.drop b = l.drop b) ∧ w.grownBy wr (some g))
      (fun _ j _ => l.length - (intOf j).toNat)
    case atStart => exact ⟨n, n + 1, l, by omega, by omega, rfl, by go_num, rfl, h.below rKept_ok hb1, HK.out, rfl, grownBy_any hb1 _⟩
    case round =>
      obtain ⟨a, b, m, hab, hbl, rfl, rfl, hml, ho, hk1, hk2, hgr⟩ := hrel
      have hws := hgr.size
      have hrd := ho.read rKept_ok (by decide) (fun g' hg' => by cases hg'; exact hSg)
      have hgl : g < wr.heap.size := ho.lt g rfl
      have hfz : ∀ j, wr.frozen? ⟨g, j, none⟩ = false := by
        obtain ⟨rows, h1, h2, h3⟩ := id ho
        rcases h2.2 with ⟨h, _⟩ | ⟨g', vc', cur, h, _, hg, _⟩
        · simp at h
        · simp only [Value.slice.injEq, Option.some.injEq, Addr.mk.injEq, and_true] at h
          obtain ⟨rfl, _, _⟩ := h
          exact fun j => frozen_of_row wr g j cur _ hg
      by_cases hlt : b < l.length
      · have hmb : b < m.length := by omega
        obtain ⟨row, hrow, hcells⟩ := ho.at rKept_ok hmb
        obtain ⟨rowa, hrowa, hcellsa⟩ := ho.at rKept_ok (i := a) (by omega)
        have hd := drop_at hlt hml hk2.out
        have HT : Hid (p l[b] = true → m.take a = (l.take (b + 1)).filter fun x => !p x) := fun e => keep_skip hlt e hk1.out
        have HF : Hid (p l[b] = false → (m.set a l[b]).take (a + 1) = (l.take (b + 1)).filter fun x => !p x) := fun e => keep_take hlt (by omega) e hk1.out
        have HD : Hid (m.drop (b + 1) = l.drop (b + 1)) := drop_more hk2.out
        have HE : Hid ((m.set a l[b]).drop (b + 1) = l.drop (b + 1)) := keep_drop hab _ hk2.out
        clear hk1 hk2
        rw [hd] at hrow
        clear hd
        generalize l[b] = x at *
        generalize m[a] = y at *
        have hrow' := hrow
        have HO := Lib.hid ho
        obtain rfl := hrow
        have q0 := hcells 0 _ rfl
        have q1 := hcells 1 _ rfl
        have q2 := hcells 2 _ rfl
        have q3 := hcells 3 _ rfl
        simp only [Nat.add_zero] at q0
        have HA := Lib.hid hcellsa
        clear hcells hcellsa ho
        obtain rfl := hrowa
        by_cases hf : p x = true
        · have HT' := Lib.hid (HT.out hf)
          clear HT HF HE
          go_wp2_with fail
          refine (hp _ _ (grownBy_alloc hgr _) (rKept_ok.sub (rKept_ok.below hrow' (below_alloc _ _)) fun b hb _ => hb.1)).mono ?_; rw [hf]; rintro e w2 ⟨rfl, hb2⟩
          go_wp2
          go_roundw
          case rel => exact ⟨a, b + 1, m, by omega, by omega, rfl, by go_num, hml, HO.out.below rKept_ok (below_step (below_alloc _ _) hb2), HT'.out, HD.out, grownBy_below (grownBy_alloc hgr _) hb2⟩
          case measure => simp [intOf]; omega
        · have hf' : p x = false := by simpa using hf
          have HF' := Lib.hid (HF.out hf')
          clear HT HF hf
          go_wp2_with fail
          refine (hp _ _ (grownBy_alloc hgr _) (rKept_ok.sub (rKept_ok.below hrow' (below_alloc _ _)) fun b hb _ => hb.1)).mono ?_; rw [hf']; rintro e w2 ⟨rfl, hb2⟩
          have hb3 := below_step (below_alloc wr _) hb2
          rw [World.size_alloc] at hb2
          obtain ⟨hz, hzf, hzs⟩ := fresh hb2
          have z0 := hz 0; have z1 := hz 1; have z2 := hz 2; have z3 := hz 3
          have hc2 : ∀ j, w2.cell? ⟨g, j, none⟩ = wr.cell? ⟨g, j, none⟩ := fun j => hb3.cell (p := ⟨g, j, none⟩) hgl
          have hfz2 : ∀ j, w2.frozen? ⟨g, j, none⟩ = false := fun j => (hb3.frozen (p := ⟨g, j, none⟩) hgl).trans (hfz j)
          have p0 := (hc2 _).trans (HA.out 0 _ rfl); have p1 := (hc2 _).trans (HA.out 1 _ rfl); have p2 := (hc2 _).trans (HA.out 2 _ rfl); have p3 := (hc2 _).trans (HA.out 3 _ rfl); simp only [Nat.add_zero] at p0
          clear hz hzf hc2
          have hal : a < l.length := by omega
          go_wp2
          go_roundw
          case rel =>
            refine ⟨a + 1, b + 1, m.set a x, by omega, by omega, by go_num, by go_num, by simp [hml], ?_, HF'.out, HE.out, ?_⟩
            · exact (HO.out.below rKept_ok hb3).setRow rKept_ok (i := a) (by omega) (x := x) (cs := [.int .i64 x.seq, .int .i64 x.reply.code, .int .i64 x.reply.n, .string ⟨x.reply.text.toArray⟩]) (rKept_ok.below hrow' hb3)
            · exact grownBy_sets (.inl rfl) [.int .i64 x.seq, .int .i64 x.reply.code, .int .i64 x.reply.n, .string ⟨x.reply.text.toArray⟩] (a * 4) w2 (grownBy_below hgr hb3)
          case measure => simp [intOf]; omega
      · obtain rfl : b = l.length := by omega
        have HM : Hid (m.take a = l.filter fun x => !p x) := by have := hk1.out; rwa [List.take_length] at this
        obtain ⟨cur, hg, hcs⟩ : ∃ cur, wr.heap[g]? = some (.cells cur 83 (0, 0)) ∧ cur.size = vc * 4 := by
          obtain ⟨rows, h1, h2, h3⟩ := id ho
          rcases h2.2 with ⟨h, _⟩ | ⟨g', vc', cur, h, _, hg, _, _, hs, _⟩
          · simp at h
          · simp only [Value.slice.injEq, Option.some.injEq, Addr.mk.injEq, and_true] at h
            obtain ⟨rfl, _, rfl⟩ := h
            exact ⟨cur, hg, hs⟩
        have hcl : cur.toList.length = vc * 4 := by simpa using hcs
        obtain ⟨zs, hzl, hr1⟩ := run_clear_tk (P := Try.prog) (ty := 0) wr Try.tyKept g (a * 4) (l.length - a) (vc - a) cur hg (by rw [hcs]; omega) Try.zeroKept
        obtain ⟨wc, hwc⟩ : ∃ wc, wc = wr.setRow g (splice cur.toList (a * 4) zs).toArray := ⟨_, rfl⟩
        rw [← hwc] at hr1
        have hfin : OwR 83 4 rKept wc (.slice (some ⟨g, 0, none⟩) a vc) (m.take a) S ∧ w.grownBy wc (some g) := by
          have hgc : wc.heap[g]? = some (.cells (splice cur.toList (a * 4) zs).toArray 83 (0, 0)) := by rw [hwc]; exact setRow_heap wr g _ _ _ _ hg
          refine ⟨ho.cut rKept_ok (by omega) ?_ (fun j hj => ?_) (fun b' _ hb' _ => by rw [hwc]; exact setRow_other wr g b' _ hb'), ?_⟩
          · intro c0 E0 fz0 h0
            rw [hg] at h0
            cases h0
            exact ⟨_, hgc, by rw [List.size_toArray, length_splice _ _ _ (by omega)]; simp⟩
          · rw [cells_take hgc, cells_take hg, ← Array.getElem?_toList, ← Array.getElem?_toList]
            have := splice_take cur.toList (a * 4) zs (by omega)
            have h2 : ((splice cur.toList (a * 4) zs).take (a * 4 + zs.length))[j]? = (cur.toList.take (a * 4) ++ zs)[j]? := by rw [this]
            rw [List.getElem?_take_of_lt (by omega), List.getElem?_append_left (by rw [List.length_take]; omega), List.getElem?_take_of_lt (by omega)] at h2
            exact h2
          · rw [hwc]; exact grownBy_trans hgr ⟨rfl, rfl, rfl, by simp [World.setRow], fun k _ hk => setRow_other wr g k _ (fun e => hk (by rw [e]))⟩
        have HF := Lib.hid hfin
        clear hfin hg hcs hcl hwc hk1 hk2 ho hrd hfz
        have hal : a ≤ l.length := by omega
        have halv : a ≤ vc := by omega
        have hne : ¬ vc = a := by omega
        go_wp2_with (at_builtin; refine wpList_clear_run rfl (.tmp 38) _ rfl _ rfl hr1 ?_)
        go_ret
        exact ⟨_, rfl, by rw [← HM.out]; exact HF.out.1, HF.out.2, rfl⟩
end Go.Proofs.Ytcjnnkbliapkgaa
