/- A part of the proof, laid together from: Cmds. -/
import Derived.Test.YtkefgapnghnjjaaGreatDoorPa42
import Derived.Test.YtkefgapnghnjjaaGreatDoorPa16
set_option linter.unusedSimpArgs false
set_option linter.unusedVariables false
namespace Go.Tk
open Go Go.RowKit
structure GenAt (P : Program) (tI E : Nat) (w0 w : World) (v : Value) (n : Nat) (g : GenD) : Prop where
  out : OwR E 9 rCommand w v g.out (fun _ => False)
  own : ∀ x, v.ownBlock = some x → w0.heap.size + 2 ≤ x
  next : MapF P tI w w0.heap.size n g.next
  ses : MapF P tI w (w0.heap.size + 1) n g.ses
  below : Below w0.heap.size w0 w
  size : w0.heap.size + 2 ≤ w.heap.size
theorem rCommand_any (w : World) (cs : List Value) (x : CommandD) (S S' : Nat → Prop) (h : rCommand w cs x S) : rCommand w cs x S' := h
theorem GenAt.go {P : Program} {tI E : Nat} {w0 w w' : World} {v : Value} {n : Nat} {g : GenD} (h : GenAt P tI E w0 w v n g) (hb : Below w.heap.size w w') : GenAt P tI E w0 w' v n g :=
  ⟨h.out.below rCommand_ok hb, h.own, h.next.below hb, h.ses.below hb, below_step h.below hb, Nat.le_trans h.size hb.size⟩
theorem GenAt.app {P : Program} {tI E : Nat} {w0 w w' : World} {v v' : Value} {n : Nat} {g : GenD} {c : CommandD} (h : GenAt P tI E w0 w v n g) (ho : OwR E 9 rCommand w' v' (g.out ++ [c]) (fun _ => False)) (hg : w.grownBy w' v.ownBlock)
    (hv : v'.ownBlock = v.ownBlock ∨ ∃ x, v'.ownBlock = some x ∧ w.heap.size ≤ x) : GenAt P tI E w0 w' v' n ⟨g.out ++ [c], g.next, g.ses⟩ := by
  have hs := h.size
  refine ⟨ho, fun x hx => ?_, h.next.kept hg fun e => ?_, h.ses.kept hg fun e => ?_, h.below.grown hg (by omega) fun k hk => ?_, Nat.le_trans hs hg.size⟩
  · rcases hv with e | ⟨y, e, hy⟩
    · exact h.own x (by rw [← e]; exact hx)
    · rw [e] at hx; cases hx; omega
  · have := h.own _ e.symm; omega
  · have := h.own _ e.symm; omega
  · have := h.own _ hk; omega
theorem GenAt.putNext {P : Program} {tI E : Nat} {w0 w w' : World} {v : Value} {n : Nat} {g : GenD} {c x : Int} (h : GenAt P tI E w0 w v n g) (hm : MapF P tI w' w0.heap.size (n + 1) (upd g.next c x)) (hg : w.grownBy w' (some w0.heap.size)) : GenAt P tI E w0 w' v (n + 1) ⟨g.out, upd g.next c x, g.ses⟩ := by
  have hs := h.size
  refine ⟨h.out.move rCommand_ok (fun y hy => hg.block y (h.out.lt y hy) fun e => ?_) (fun b hb => hb.elim), h.own, hm, (h.ses.kept hg fun e => by simp at e).mono (by omega), h.below.grown hg (by omega) fun k hk => ?_, Nat.le_trans hs hg.size⟩
  · cases e; have := h.own _ hy; omega
  · cases hk; omega
theorem GenAt.putSes {P : Program} {tI E : Nat} {w0 w w' : World} {v : Value} {n : Nat} {g : GenD} {c x : Int} (h : GenAt P tI E w0 w v n g) (hm : MapF P tI w' (w0.heap.size + 1) (n + 1) (upd g.ses c x)) (hg : w.grownBy w' (some (w0.heap.size + 1))) : GenAt P tI E w0 w' v (n + 1) ⟨g.out, g.next, upd g.ses c x⟩ := by
  have hs := h.size
  refine ⟨h.out.move rCommand_ok (fun y hy => hg.block y (h.out.lt y hy) fun e => ?_) (fun b hb => hb.elim), h.own, (h.next.kept hg fun e => by simp at e).mono (by omega), hm, h.below.grown hg (by omega) fun k hk => ?_, Nat.le_trans hs hg.size⟩
  · cases e; have := h.own _ hy; omega
  · cases hk; omega
theorem GenAt.mono {P : Program} {tI E : Nat} {w0 w : World} {v : Value} {n n' : Nat} {g : GenD} (h : GenAt P tI E w0 w v n g) (hn : n ≤ n') : GenAt P tI E w0 w v n' g := ⟨h.out, h.own, h.next.mono hn, h.ses.mono hn, h.below, h.size⟩
theorem tdiv9_in {x : Int} (h : I64 x) : -9223372036854775808 ≤ x.tdiv 9 ∧ x.tdiv 9 ≤ 9223372036854775807 := by
  have := Int.natAbs_tdiv x 9
  unfold I64 at h
  have h9 : (9 : Int).natAbs = 9 := rfl
  rw [h9] at this
  have : (x.tdiv 9).natAbs ≤ x.natAbs := by rw [this]; exact Nat.div_le_self _ _
  rcases Int.lt_or_le (x.tdiv 9) 0 with h1 | h1
  · have h2 : x ≠ -9223372036854775808 ∨ x = -9223372036854775808 := by omega
    rcases h2 with h2 | rfl
    · omega
    · decide
  · have h2 : x ≠ -9223372036854775808 ∨ x = -9223372036854775808 := by omega
    rcases h2 with h2 | rfl
    · omega
    · decide
theorem gRun_step (l : List RawD) (n : Nat) (hn : n < l.length) : gRun (l.take (n + 1)) = gStep (gRun (l.take n)) l[n] := by
  rw [gRun, List.take_succ_eq_append_getElem hn, List.foldl_append]; rfl
end Go.Tk
namespace Go.Proofs.YtkefgapnghnjjaaGreatDoor
open Go.RowKit Go.Tk
theorem Tryz.tyCmd : SliceTy Tryz.prog 79 45 9 88 := ⟨Tryz.underlying79, by kernel_rfl, by decide⟩
theorem Tryz.zeroIntC (w : World) : (zeroValue 3).run Tryz.prog w = .ok (.int .i64 0) w := by kernel_rfl
set_option linter.unusedSimpArgs false in
set_option maxRecDepth 100000 in
set_option maxHeartbeats 3200000 in
theorem commands_calls (l : List RawD) (most : Nat) (hmost : most ≤ 1000) (v : Value) (S : Nat → Prop) (w : World) (h : SlR 4 rRaw w v l S) (hr : ∀ x ∈ l, RawOk x) :
    Calls Tryz.prog 27 #[v, .int .i64 most] w fun e w' => ∃ v', e = .returned v' ∧ SlR 9 rCommand w' v' (commandsP l most) (fun b => w.heap.size ≤ b) ∧ Below w.heap.size w w' := by
  obtain ⟨a, cap, hv, hl, hm, hnl, -⟩ := id h
  subst hv
  unfold maxLen at hm
  have HH := Lib.hid h
  have HR := Lib.hid hr
  have hmm := @run_makeMap Tryz.prog
  clear h hr
  go_enter Tryz.func27, Tryz.ntmps27
  go_wp2
  go_loopw [5, 8, 9, 10, 11, 12, 64, 88, 98] (fun v i _ _ _ _ _ _ _ wr => ∃ n : Nat, n ≤ l.length ∧ n ≤ most ∧ i = .int .i64 n ∧ Hid (GenAt Tryz.prog 3 45 w wr v (2 * n) (gRun (l.take n))))
    (fun _ i _ _ _ _ _ _ _ _ => l.length - (intOf i).toNat)
  case atStart => exact ⟨0, by omega, by omega, rfl, ⟨OwR.nil _ _, by simp [Value.ownBlock], (MapF.made _ _ _).below (below_alloc _ _), by have := MapF.made Tryz.prog 3 (w.alloc (.map #[] 0)); rwa [World.size_alloc] at this, below_alloc2 w _ _, by simp⟩⟩
  case round =>
    obtain ⟨n, hn, hnm, rfl, hg⟩ := hrel
    by_cases hlt : n < l.length
    case neg =>
      have HF := Lib.hid (show (gRun (l.take n)).out = commandsP l most by rw [commandsP, show l.take n = l.take most by rw [List.take_of_length_le (by omega), List.take_of_length_le (by omega)]])
      go_wp2
      refine bodyPost_ret (v := u5) (by simp [results, Tryz.results27, go_sem]) rfl ⟨u5, rfl, ?_, hg.out.below⟩
      rw [← HF.out]
      exact (hg.out.out.forget rCommand_any).read rCommand_ok (by decide) (fun g hgg => by have := hg.out.own g hgg; show _ ≤ _; omega)
    by_cases hlm : n < most
    case neg =>
      have HF := Lib.hid (show (gRun (l.take n)).out = commandsP l most by rw [commandsP, show n = most by omega])
      go_wp2
      refine bodyPost_ret (v := u5) (by simp [results, Tryz.results27, go_sem]) rfl ⟨u5, rfl, ?_, hg.out.below⟩
      rw [← HF.out]
      exact (hg.out.out.forget rCommand_any).read rCommand_ok (by decide) (fun g hgg => by have := hg.out.own g hgg; show _ ≤ _; omega)
    obtain ⟨b, off, cap', row, hv, hS, hrow, hcells⟩ := (HH.out.below rRaw_ok (by decide) hg.out.below).row n hlt
    simp only [Value.slice.injEq] at hv
    obtain ⟨rfl, _, rfl⟩ := hv
    have HST := Lib.hid (gRun_step l n hlt)
    have HOK := gRun_ok (l.take n) (by simp; omega)
    have hro := HR.out l[n] (List.getElem_mem hlt)
    generalize gRun (l.take n) = g at hg HST HOK
    generalize l[n] = x at *
    obtain rfl := hrow
    have q0 := hcells 0 _ rfl
    have q1 := hcells 1 _ rfl
    have q2 := hcells 2 _ rfl
    have q3 := hcells 3 _ rfl
    simp only [Nat.add_zero] at q0
    clear hcells
    obtain ⟨⟨rk1, rk2⟩, ⟨ra1, ra2⟩, ⟨rb1, rb2⟩, ⟨rc1, rc2⟩⟩ := id hro
    have HRO := Lib.hid hro
    clear hro
    obtain ⟨p, hp, hp0, hp4⟩ : ∃ p, picked x.c 4 = p ∧ 0 ≤ p ∧ p < 4 := ⟨_, rfl, picked_in _ _ (by decide)⟩
    have hrt := tdiv9_in ⟨rk1, rk2⟩
    obtain ⟨k, hk, hk0, hk1⟩ : ∃ k, picked (x.kind.tdiv 9) 16 = k ∧ 0 ≤ k ∧ k < 16 := ⟨_, rfl, picked_in _ _ (by decide)⟩
    obtain ⟨s, hs⟩ : ∃ s, g.ses (1 + p) = s := ⟨_, rfl⟩
    obtain ⟨m, hm'⟩ : ∃ m, g.next (1 + p) = m := ⟨_, rfl⟩
    have hI : I64 (1 + p) := by unfold I64; omega
    have hw1 : IntKind.i64.wrap (1 + p) = 1 + p := IntWalk.i64_in _ (by omega)
    have hgl : g.out.length ≤ 1000 := by have := HOK.len; rw [List.length_take] at this; omega
    have hps := HOK.pos (1 + p)
    rw [hs, hm'] at hps
    obtain ⟨hs0, hs1, hm0, hm1⟩ := hps
    rw [List.length_take] at hs1 hm1
    have HSD := Lib.hid (show gStep g x = if s = 0 then ⟨g.out ++ [gJoin (1 + p)], upd g.next (1 + p) 1, upd g.ses (1 + p) (g.out.length + 1 : Nat)⟩
        else if k = 0 then ⟨g.out ++ [gJoin (1 + p)], g.next, g.ses⟩
        else if k = 1 then ⟨g.out ++ [gLeave (1 + p)], g.next, upd g.ses (1 + p) 0⟩
        else if k < 5 ∧ 1 < m then ⟨g.out ++ [gAgain (1 + p) s m x], g.next, g.ses⟩
        else ⟨g.out ++ [gCall (1 + p) s m x], upd g.next (1 + p) (m + 1), g.ses⟩ by
      rw [← hs, ← hm']; unfold gStep gWho gWhat; rw [hp, hk])
    have HP := Lib.hid hp
    have HK := Lib.hid hk
    clear hp hk
    go_wp2_with fail
    refine (picked_calls x.c 4 (by omega) (by omega) rc1 rc2 _).mono ?_
    rw [HP.out]; rintro e w' ⟨rfl, rfl⟩
    go_wp2_with fail
    refine (picked_calls (x.kind.tdiv 9) 16 (by omega) (by omega) hrt.1 hrt.2 _).mono ?_
    rw [HK.out]; rintro e w' ⟨rfl, rfl⟩
    have hg1 := hg.out.go (below_alloc wr (.cells #[.int .i64 x.kind, .int .i64 x.a, .int .i64 x.b, .int .i64 x.c] 125))
    obtain ⟨hz, -, hzs⟩ := Tk.fresh (Below.refl (wr.heap.size + 1) (wr.alloc (.cells #[.int .i64 x.kind, .int .i64 x.a, .int .i64 x.b, .int .i64 x.c] 125)))
    generalize wr.alloc (.cells #[.int .i64 x.kind, .int .i64 x.a, .int .i64 x.b, .int .i64 x.c] 125) = w1 at hg1 hz hzs ⊢
    generalize wr.heap.size = B at hz hzs ⊢
    clear q0 q1 q2 q3 hg
    have qs := hg1.ses.look (t := 136) Tryz.underlying136 Tryz.underlying3 (Tryz.zeroIntC _) hI
    have qn := hg1.next.look (t := 136) Tryz.underlying136 Tryz.underlying3 (Tryz.zeroIntC _) hI
    rw [hs] at qs
    rw [hm'] at qn
    have HQS := Lib.hid qs
    have HQN := Lib.hid qn
    clear qs qn
    by_cases hs00 : s = 0
    case pos =>
      have hsb : (s == 0) = true := by simpa using hs00
      have HT := Lib.hid (HST.out.trans (HSD.out.trans (if_pos hs00)))
      clear HSD HST
      have qs := HQS.out
      go_wp2_with (first | (at_builtin; refine wpList_app1 Tryz.tyCmd (.tmp 73) (.tmp 76) rfl rfl rCommand_ok (gJoin (1 + p)) rfl rfl rfl hg1.out rfl (by omega) ?_; intro v4 w4 ho4 hg4 hv4; have hg5 := hg1.app ho4 hg4 hv4; obtain ⟨ra4, rc4, e4⟩ : ∃ a c, v4 = .slice a (g.out.length + 1) c := (by obtain ⟨a, c, e⟩ := ho4.shape; exact ⟨a, c, by rw [e]; congr 1; simp⟩); subst e4; have qs4 := hg5.ses.look (t := 136) Tryz.underlying136 Tryz.underlying3 (Tryz.zeroIntC _) hI; rw [hs] at qs4) | (at_mapUpdate; refine wpList_mapF rfl (.tmp 82) (.tmp 83) (.tmp 87) rfl hg5.ses Tryz.underlying136 Tryz.underlying3 (by omega) rfl rfl rfl hI (by unfold I64; omega) ?_; intro whg6 hmhg6 hrhg6; have hg6 := hg5.putSes hmhg6 hrhg6) | (at_mapUpdate; refine wpList_mapF rfl (.tmp 84) (.tmp 85) (.const (.int .i64 1)) rfl hg6.next Tryz.underlying136 Tryz.underlying3 (by omega) rfl rfl rfl hI (by unfold I64; omega) ?_; intro whg7 hmhg7 hrhg7; have hg7 := hg6.putNext hmhg7 hrhg7))
      go_roundw
      case rel => exact ⟨n + 1, by omega, by omega, by go_num, Lib.hid (by rw [HT.out]; exact (hg7).mono (by omega))⟩
      case measure => simp [intOf]; omega
    have hsb : (s == 0) = false := by simpa using hs00
    have HSD2 := Lib.hid (HSD.out.trans (if_neg hs00))
    clear HSD
    have qs := HQS.out
    by_cases hk00 : k = 0
    case pos =>
      subst hk00
      have HT := Lib.hid (HST.out.trans (HSD2.out.trans (if_pos rfl)))
      clear HSD2 HST
      go_wp2_with (at_builtin; refine wpList_app1 Tryz.tyCmd (.tmp 73) (.tmp 76) rfl rfl rCommand_ok (gJoin (1 + p)) rfl rfl rfl hg1.out rfl (by omega) ?_; intro v4 w4 ho4 hg4 hv4; have hg5 := hg1.app ho4 hg4 hv4; obtain ⟨ra4, rc4, e4⟩ : ∃ a c, v4 = .slice a (g.out.length + 1) c := (by obtain ⟨a, c, e⟩ := ho4.shape; exact ⟨a, c, by rw [e]; congr 1; simp⟩); subst e4; have qs4 := hg5.ses.look (t := 136) Tryz.underlying136 Tryz.underlying3 (Tryz.zeroIntC _) hI; rw [hs] at qs4)
      go_roundw
      case rel => exact ⟨n + 1, by omega, by omega, by go_num, Lib.hid (by rw [HT.out]; exact (hg5).mono (by omega))⟩
      case measure => simp [intOf]; omega
    have hkb : (k == 0) = false := by simpa using hk00
    have HSD3 := Lib.hid (HSD2.out.trans (if_neg hk00))
    clear HSD2
    by_cases hk11 : k = 1
    case pos =>
      subst hk11
      have HT := Lib.hid (HST.out.trans (HSD3.out.trans (if_pos rfl)))
      clear HSD3 HST
      go_wp2_with (first | (at_builtin; refine wpList_app1 Tryz.tyCmd (.tmp 91) (.tmp 94) rfl rfl rCommand_ok (gLeave (1 + p)) rfl rfl rfl hg1.out rfl (by omega) ?_; intro v4 w4 ho4 hg4 hv4; have hg5 := hg1.app ho4 hg4 hv4; obtain ⟨ra4, rc4, e4⟩ : ∃ a c, v4 = .slice a (g.out.length + 1) c := (by obtain ⟨a, c, e⟩ := ho4.shape; exact ⟨a, c, by rw [e]; congr 1; simp⟩); subst e4) | (at_mapUpdate; refine wpList_mapF rfl (.tmp 96) (.tmp 97) (.const (.int .i64 0)) rfl hg5.ses Tryz.underlying136 Tryz.underlying3 (by omega) rfl rfl rfl hI (by unfold I64; omega) ?_; intro whg6 hmhg6 hrhg6; have hg6 := hg5.putSes hmhg6 hrhg6))
      go_roundw
      case rel => exact ⟨n + 1, by omega, by omega, by go_num, Lib.hid (by rw [HT.out]; exact (hg6).mono (by omega))⟩
      case measure => simp [intOf]; omega
    have hkc : (k == 1) = false := by simpa using hk11
    have HSD4 := Lib.hid (HSD3.out.trans (if_neg hk11))
    clear HSD3
    have qn := HQN.out
    have HJ0 := Lib.hid (show GenAt Tryz.prog 3 45 w w1 u5 (2 * n) g ∧ (∀ i, w1.cell? ⟨B, i, none⟩ = (#[Value.int .i64 x.kind, .int .i64 x.a, .int .i64 x.b, .int .i64 x.c])[i]?) ∧ B < w1.heap.size from ⟨hg1, hz, hzs⟩)
    have HJS := Lib.hid (show ∀ wx wy : World, (GenAt Tryz.prog 3 45 w wx u5 (2 * n) g ∧ (∀ i, wx.cell? ⟨B, i, none⟩ = (#[Value.int .i64 x.kind, .int .i64 x.a, .int .i64 x.b, .int .i64 x.c])[i]?) ∧ B < wx.heap.size) → Below wx.heap.size wx wy → (GenAt Tryz.prog 3 45 w wy u5 (2 * n) g ∧ (∀ i, wy.cell? ⟨B, i, none⟩ = (#[Value.int .i64 x.kind, .int .i64 x.a, .int .i64 x.b, .int .i64 x.c])[i]?) ∧ B < wy.heap.size) from
      fun wx wy h hb => ⟨h.1.go hb, fun i => (hb.cell (p := ⟨B, i, none⟩) h.2.2).trans (h.2.1 i), Nat.lt_of_lt_of_le h.2.2 hb.size⟩)
    clear hz hzs hg1
    by_cases hkn : k < 5 ∧ 1 < m
    case pos =>
      obtain ⟨hk5, hm5⟩ := id hkn
      have HT := Lib.hid (HST.out.trans (HSD4.out.trans (if_pos hkn)))
      clear HSD4 HST hkn
      obtain ⟨q, hq, hq0, hq1⟩ : ∃ q, picked x.b 3 = q ∧ 0 ≤ q ∧ q < 3 := ⟨_, rfl, picked_in _ _ (by decide)⟩
      have HQ := Lib.hid hq
      clear hq
      go_upto_region 20 with (fail)
      refine wp_region_plan 10 (fun wx => GenAt Tryz.prog 3 45 w wx u5 (2 * n) g ∧ (∀ i, wx.cell? ⟨B, i, none⟩ = (#[Value.int .i64 x.kind, .int .i64 x.a, .int .i64 x.b, .int .i64 x.c])[i]?) ∧ B < wx.heap.size) (fun wx wy => Below wx.heap.size wx wy) [eqV (.map (some w.heap.size)), eqV (.int .i64 (1 + p)), eqV (.int .i64 (m)), eqV (.int .i64 (m - 1)), eqV (.pointer (some ⟨B, 2, none⟩)), eqV (.int .i64 (x.b)), eqV (.int .i64 (q)), eqV (.int .i64 (m - 1 - q)), eqV (.int .i64 (max 1 (m - 1 - q))), eqV (.int .i64 (max 1 (m - 1 - q)))] (by kernel_rfl) (by kernel_rfl) rfl ?hJ ?hJS ?hst ?hobl ?hend
      case hJ => exact HJS.out _ _ HJ0.out (Below.drew (Below.refl _ _))
      case hJS => exact HJS.out
      case hst => exact planStab_at _ ⟨eqV_stab _, eqV_stab _, eqV_stab _, eqV_stab _, eqV_stab _, eqV_stab _, eqV_stab _, eqV_stab _, eqV_stab _, eqV_stab _, trivial⟩
      case hobl =>
        simp only [planObls, List.take_succ_cons, List.take_zero, planPut, Act.put, List.setIfInBounds_toArray, List.set_cons_zero, List.set_cons_succ, Nat.reduceAdd, Nat.zero_add]
        refine ⟨?_, ?_, ?_, ?_, ?_, ?_, ?_, ?_, ?_, ?_, trivial⟩
        · intro vs wx hJ hn K hK
          simp [planNeeds, VAt, eqV, Region.binds] at hn
          simp only [VAt, eqV, List.getD_cons_zero, List.getD_cons_succ, Act.put, List.setIfInBounds_toArray, List.set_cons_zero, List.set_cons_succ, Nat.reduceAdd, Nat.zero_add] at hK
          go_wp2
          exact hK _ _ (Below.refl _ _) rfl
        · intro vs wx hJ hn K hK
          simp [planNeeds, VAt, eqV, Region.binds] at hn
          simp only [VAt, eqV, List.getD_cons_zero, List.getD_cons_succ, Act.put, List.setIfInBounds_toArray, List.set_cons_zero, List.set_cons_succ, Nat.reduceAdd, Nat.zero_add] at hK
          go_wp2
          exact hK _ _ (Below.refl _ _) rfl
        · intro vs wx hJ hn K hK
          simp [planNeeds, VAt, eqV, Region.binds] at hn
          simp only [VAt, eqV, List.getD_cons_zero, List.getD_cons_succ, Act.put, List.setIfInBounds_toArray, List.set_cons_zero, List.set_cons_succ, Nat.reduceAdd, Nat.zero_add] at hK
          simp only [hn] at hK ⊢
          have ql := hJ.1.next.look (t := 136) Tryz.underlying136 Tryz.underlying3 (Tryz.zeroIntC _) hI
          rw [hm'] at ql
          go_wp2
          exact hK _ _ (Below.refl _ _) rfl
        · intro vs wx hJ hn K hK
          simp [planNeeds, VAt, eqV, Region.binds] at hn
          simp only [VAt, eqV, List.getD_cons_zero, List.getD_cons_succ, Act.put, List.setIfInBounds_toArray, List.set_cons_zero, List.set_cons_succ, Nat.reduceAdd, Nat.zero_add] at hK
          simp only [hn] at hK ⊢
          go_wp2
          exact hK _ _ (Below.refl _ _) rfl
        · intro vs wx hJ hn K hK
          simp [planNeeds, VAt, eqV, Region.binds] at hn
          simp only [VAt, eqV, List.getD_cons_zero, List.getD_cons_succ, Act.put, List.setIfInBounds_toArray, List.set_cons_zero, List.set_cons_succ, Nat.reduceAdd, Nat.zero_add] at hK
          go_wp2
          exact hK _ _ (Below.refl _ _) rfl
        · intro vs wx hJ hn K hK
          simp [planNeeds, VAt, eqV, Region.binds] at hn
          simp only [VAt, eqV, List.getD_cons_zero, List.getD_cons_succ, Act.put, List.setIfInBounds_toArray, List.set_cons_zero, List.set_cons_succ, Nat.reduceAdd, Nat.zero_add] at hK
          simp only [hn] at hK ⊢
          have z2 := hJ.2.1 2
          go_wp2
          exact hK _ _ (Below.refl _ _) rfl
        · intro vs wx hJ hn K hK
          simp [planNeeds, VAt, eqV, Region.binds] at hn
          simp only [VAt, eqV, List.getD_cons_zero, List.getD_cons_succ, Act.put, List.setIfInBounds_toArray, List.set_cons_zero, List.set_cons_succ, Nat.reduceAdd, Nat.zero_add] at hK
          simp only [hn] at hK ⊢
          go_wp2_with fail
          refine (picked_calls x.b 3 (by omega) (by omega) rb1 rb2 _).mono ?_; rw [HQ.out]; rintro e w' ⟨rfl, rfl⟩
          go_wp2
          exact hK _ _ (Below.refl _ _) rfl
        · intro vs wx hJ hn K hK
          simp [planNeeds, VAt, eqV, Region.binds] at hn
          simp only [VAt, eqV, List.getD_cons_zero, List.getD_cons_succ, Act.put, List.setIfInBounds_toArray, List.set_cons_zero, List.set_cons_succ, Nat.reduceAdd, Nat.zero_add] at hK
          simp only [hn] at hK ⊢
          go_wp2
          exact hK _ _ (Below.refl _ _) rfl
        · intro vs wx hJ hn K hK
          simp [planNeeds, VAt, eqV, Region.binds] at hn
          simp only [VAt, eqV, List.getD_cons_zero, List.getD_cons_succ, Act.put, List.setIfInBounds_toArray, List.set_cons_zero, List.set_cons_succ, Nat.reduceAdd, Nat.zero_add] at hK
          simp only [hn] at hK ⊢
          go_wp2
          all_goals exact hK _ _ (Below.refl _ _) (congrArg (Value.int .i64) (by omega))
        · intro vs wx hJ hn K hK
          simp [planNeeds, VAt, eqV, Region.binds] at hn
          simp only [VAt, eqV, List.getD_cons_zero, List.getD_cons_succ, Act.put, List.setIfInBounds_toArray, List.set_cons_zero, List.set_cons_succ, Nat.reduceAdd, Nat.zero_add] at hK
          simp only [hn] at hK ⊢
          go_wp2
          exact hK _ _ (Below.refl _ _) rfl
      case hend =>
        intro vs wx hJ hv
        simp [planHave, eqV] at hv
        obtain ⟨e0, e1, e2, e3, e4, e5, e6, e7, e8, e9⟩ := hv
        simp only [List.take_succ_cons, List.take_zero, List.drop_succ_cons, List.drop_zero, planPut, Act.put, List.setIfInBounds_toArray, List.set_cons_zero, List.set_cons_succ, Nat.reduceAdd, Nat.zero_add]
        rw [e0, e1, e2, e3, e4, e5, e6, e7, e8, e9]
        clear e0 e1 e2 e3 e4 e5 e6 e7 e8 e9
        go_wp2_with fail
        rename World => w1
        have HJ1 := Lib.hid hJ
        obtain ⟨o, ho⟩ : ∃ o, max 1 (m - 1 - q) = o := ⟨_, rfl⟩
        obtain ⟨y, hy⟩ : ∃ y, valOp (opOf x) = valOp y ∧ opOf x = y := ⟨_, rfl, rfl⟩
        rw [ho]
        have HY := Lib.hid hy.1
        have HY2 := Lib.hid hy.2
        have HO := Lib.hid ho
        clear hJ hy
        refine wp_region_plan 13 (fun wx => GenAt Tryz.prog 3 45 w wx u5 (2 * n) g ∧ (∀ i, wx.cell? ⟨B, i, none⟩ = (#[Value.int .i64 x.kind, .int .i64 x.a, .int .i64 x.b, .int .i64 x.c])[i]?) ∧ B < wx.heap.size) (fun wx wy => Below wx.heap.size wx wy) [eqV (u5), eqV (.int .i64 (1 + p)), eqV (.map (some (w.heap.size + 1))), eqV (.int .i64 (1 + p)), eqV (.int .i64 (s)), eqV (.int .i64 (o)), eqV (.int .i64 (o)), eqV (.int .i64 (o - 2)), eqV (.int .i64 (max 0 (o - 2))), eqV (.agg #[.int .i64 x.kind, .int .i64 x.a, .int .i64 x.b, .int .i64 x.c]), eqV (.agg #[.int .i64 y.kind, .string ⟨y.a.toArray⟩, .string ⟨y.b.toArray⟩, .int .i64 y.n]), eqV (.agg #[Value.int .i64 2, .int .i64 (1 + p), .int .i64 s, .int .i64 (o), .int .i64 (max 0 (o - 2)), .int .i64 y.kind, .string ⟨y.a.toArray⟩, .string ⟨y.b.toArray⟩, .int .i64 y.n]), fun v wx => ∃ z, v = .slice (some ⟨z, 0, none⟩) 1 1 ∧ (∀ (j : Nat) (u : Value), ([Value.int .i64 2, .int .i64 (1 + p), .int .i64 s, .int .i64 (o), .int .i64 (max 0 (o - 2)), .int .i64 y.kind, .string ⟨y.a.toArray⟩, .string ⟨y.b.toArray⟩, .int .i64 y.n])[j]? = some u → wx.cell? ⟨z, j, none⟩ = some u) ∧ z < wx.heap.size] (by kernel_rfl) (by kernel_rfl) rfl ?hJ ?hJS ?hst ?hobl ?hend
        case hJ => exact HJS.out _ _ HJ1.out (Below.drew (Below.refl _ _))
        case hJS => exact HJS.out
        case hst => exact planStab_at _ ⟨eqV_stab _, eqV_stab _, eqV_stab _, eqV_stab _, eqV_stab _, eqV_stab _, eqV_stab _, eqV_stab _, eqV_stab _, eqV_stab _, eqV_stab _, eqV_stab _, (by rintro v wx wy - h2 ⟨z, h3, h4, h5⟩; exact ⟨z, h3, fun j u hu => (h2.cell (p := ⟨z, j, none⟩) h5).trans (h4 j u hu), Nat.lt_of_lt_of_le h5 h2.size⟩), trivial⟩
        case hobl =>
          simp only [planObls, List.take_succ_cons, List.take_zero, planPut, Act.put, List.setIfInBounds_toArray, List.set_cons_zero, List.set_cons_succ, Nat.reduceAdd, Nat.zero_add]
          refine ⟨?_, ?_, ?_, ?_, ?_, ?_, ?_, ?_, ?_, ?_, ?_, ?_, ?_, trivial⟩
          · intro vs wx hJ hn K hK
            simp [planNeeds, VAt, eqV, Region.binds] at hn
            simp only [VAt, eqV, List.getD_cons_zero, List.getD_cons_succ, Act.put, List.setIfInBounds_toArray, List.set_cons_zero, List.set_cons_succ, Nat.reduceAdd, Nat.zero_add] at hK
            go_wp2
            exact hK _ _ (Below.refl _ _) rfl
          · intro vs wx hJ hn K hK
            simp [planNeeds, VAt, eqV, Region.binds] at hn
            simp only [VAt, eqV, List.getD_cons_zero, List.getD_cons_succ, Act.put, List.setIfInBounds_toArray, List.set_cons_zero, List.set_cons_succ, Nat.reduceAdd, Nat.zero_add] at hK
            go_wp2
            exact hK _ _ (Below.refl _ _) rfl
          · intro vs wx hJ hn K hK
            simp [planNeeds, VAt, eqV, Region.binds] at hn
            simp only [VAt, eqV, List.getD_cons_zero, List.getD_cons_succ, Act.put, List.setIfInBounds_toArray, List.set_cons_zero, List.set_cons_succ, Nat.reduceAdd, Nat.zero_add] at hK
            go_wp2
            exact hK _ _ (Below.refl _ _) rfl
          · intro vs wx hJ hn K hK
            simp [planNeeds, VAt, eqV, Region.binds] at hn
            simp only [VAt, eqV, List.getD_cons_zero, List.getD_cons_succ, Act.put, List.setIfInBounds_toArray, List.set_cons_zero, List.set_cons_succ, Nat.reduceAdd, Nat.zero_add] at hK
            go_wp2
            exact hK _ _ (Below.refl _ _) rfl
          · intro vs wx hJ hn K hK
            simp [planNeeds, VAt, eqV, Region.binds] at hn
            simp only [VAt, eqV, List.getD_cons_zero, List.getD_cons_succ, Act.put, List.setIfInBounds_toArray, List.set_cons_zero, List.set_cons_succ, Nat.reduceAdd, Nat.zero_add] at hK
            simp only [hn] at hK ⊢
            have ql := hJ.1.ses.look (t := 136) Tryz.underlying136 Tryz.underlying3 (Tryz.zeroIntC _) hI
            rw [hs] at ql
            go_wp2
            exact hK _ _ (Below.refl _ _) rfl
          · intro vs wx hJ hn K hK
            simp [planNeeds, VAt, eqV, Region.binds] at hn
            simp only [VAt, eqV, List.getD_cons_zero, List.getD_cons_succ, Act.put, List.setIfInBounds_toArray, List.set_cons_zero, List.set_cons_succ, Nat.reduceAdd, Nat.zero_add] at hK
            go_wp2
            exact hK _ _ (Below.refl _ _) rfl
          · intro vs wx hJ hn K hK
            simp [planNeeds, VAt, eqV, Region.binds] at hn
            simp only [VAt, eqV, List.getD_cons_zero, List.getD_cons_succ, Act.put, List.setIfInBounds_toArray, List.set_cons_zero, List.set_cons_succ, Nat.reduceAdd, Nat.zero_add] at hK
            go_wp2
            exact hK _ _ (Below.refl _ _) rfl
          · intro vs wx hJ hn K hK
            simp [planNeeds, VAt, eqV, Region.binds] at hn
            simp only [VAt, eqV, List.getD_cons_zero, List.getD_cons_succ, Act.put, List.setIfInBounds_toArray, List.set_cons_zero, List.set_cons_succ, Nat.reduceAdd, Nat.zero_add] at hK
            simp only [hn] at hK ⊢
            go_wp2
            exact hK _ _ (Below.refl _ _) rfl
          · intro vs wx hJ hn K hK
            simp [planNeeds, VAt, eqV, Region.binds] at hn
            simp only [VAt, eqV, List.getD_cons_zero, List.getD_cons_succ, Act.put, List.setIfInBounds_toArray, List.set_cons_zero, List.set_cons_succ, Nat.reduceAdd, Nat.zero_add] at hK
            simp only [hn] at hK ⊢
            go_wp2
            all_goals exact hK _ _ (Below.refl _ _) (congrArg (Value.int .i64) (by omega))
          · intro vs wx hJ hn K hK
            simp [planNeeds, VAt, eqV, Region.binds] at hn
            simp only [VAt, eqV, List.getD_cons_zero, List.getD_cons_succ, Act.put, List.setIfInBounds_toArray, List.set_cons_zero, List.set_cons_succ, Nat.reduceAdd, Nat.zero_add] at hK
            have z0 := hJ.2.1 0; have z1 := hJ.2.1 1; have z2 := hJ.2.1 2; have z3 := hJ.2.1 3
            go_wp2
            exact hK _ _ (Below.refl _ _) rfl
          · intro vs wx hJ hn K hK
            simp [planNeeds, VAt, eqV, Region.binds] at hn
            simp only [VAt, eqV, List.getD_cons_zero, List.getD_cons_succ, Act.put, List.setIfInBounds_toArray, List.set_cons_zero, List.set_cons_succ, Nat.reduceAdd, Nat.zero_add] at hK
            simp only [hn] at hK ⊢
            go_wp2_with fail
            refine (op_calls x HRO.out _).mono ?_; rw [HY.out]; rintro e w' ⟨rfl, hbo⟩
            go_wp2
            exact hK _ _ hbo rfl
          · intro vs wx hJ hn K hK
            simp [planNeeds, VAt, eqV, Region.binds] at hn
            simp only [VAt, eqV, List.getD_cons_zero, List.getD_cons_succ, Act.put, List.setIfInBounds_toArray, List.set_cons_zero, List.set_cons_succ, Nat.reduceAdd, Nat.zero_add] at hK
            simp only [hn] at hK ⊢
            go_wp2
            exact hK _ _ (Below.refl _ _) rfl
          · intro vs wx hJ hn K hK
            simp [planNeeds, VAt, eqV, Region.binds] at hn
            simp only [VAt, eqV, List.getD_cons_zero, List.getD_cons_succ, Act.put, List.setIfInBounds_toArray, List.set_cons_zero, List.set_cons_succ, Nat.reduceAdd, Nat.zero_add] at hK
            simp only [hn] at hK ⊢
            go_wp2
            refine hK _ _ (below_alloc wx _) ⟨_, rfl, fun j u hu => (World.cell?_alloc_at _ _ _ _ rfl).trans (by simpa using hu), by simp⟩
        case hend =>
          intro vs wx hJ hv
          simp [planHave, eqV] at hv
          obtain ⟨e0, e1, e2, e3, e4, e5, e6, e7, e8, e9, e10, e11, ⟨z, e12, hzc, hzl⟩⟩ := hv
          simp only [List.take_succ_cons, List.take_zero, List.drop_succ_cons, List.drop_zero, planPut, Act.put, List.setIfInBounds_toArray, List.set_cons_zero, List.set_cons_succ, Nat.reduceAdd, Nat.zero_add]
          rw [e0, e1, e2, e3, e4, e5, e6, e7, e8, e9, e10, e11, e12]
          clear e0 e1 e2 e3 e4 e5 e6 e7 e8 e9 e10 e11 e12
          have hcm : ∀ (w : World) (S : Nat → Prop), rCommand w ([Value.int .i64 2, .int .i64 (1 + p), .int .i64 s, .int .i64 (o), .int .i64 (max 0 (o - 2)), .int .i64 y.kind, .string ⟨y.a.toArray⟩, .string ⟨y.b.toArray⟩, .int .i64 y.n]) (gAgain (1 + p) s m x) S := fun w S => by show _ = _; simp [gAgain, gOld, HQ.out, HO.out, HY2.out]
          go_wp2_with (at_builtin; refine wpList_appX Tryz.tyCmd (.tmp 116) (.tmp 128) rfl rfl rCommand_ok (gAgain (1 + p) s m x) rfl rfl hzc hJ.1.out (hcm _ _) (by omega) ?_; intro v4 w4 ho4 hg4 hv4; have hg5 := hJ.1.app ho4 hg4 hv4)
          go_roundw
          case rel => exact ⟨n + 1, by omega, by omega, by go_num, Lib.hid (by rw [HT.out]; exact hg5.mono (by omega))⟩
          case measure => simp [intOf]; omega
    case neg =>
      have HT := Lib.hid (HST.out.trans (HSD4.out.trans (if_neg hkn)))
      clear HSD4 HST
      obtain ⟨q, hq, hq0, hq1⟩ : ∃ q, picked x.a 3 = q ∧ 0 ≤ q ∧ q < 3 := ⟨_, rfl, picked_in _ _ (by decide)⟩
      have HQ := Lib.hid hq
      clear hq
      obtain ⟨y, hy⟩ : ∃ y, valOp (opOf x) = valOp y ∧ opOf x = y := ⟨_, rfl, rfl⟩
      have HY := Lib.hid hy.1
      have HY2 := Lib.hid hy.2
      clear hy
      by_cases hk5 : k < 5
      case pos =>
        have hm5 : ¬ 1 < m := fun h => hkn ⟨hk5, h⟩
        clear hkn
        go_upto_region 10 with (fail)
        refine wp_region_plan 21 (fun wx => GenAt Tryz.prog 3 45 w wx u5 (2 * n) g ∧ (∀ i, wx.cell? ⟨B, i, none⟩ = (#[Value.int .i64 x.kind, .int .i64 x.a, .int .i64 x.b, .int .i64 x.c])[i]?) ∧ B < wx.heap.size) (fun wx wy => Below wx.heap.size wx wy) [eqV (u5), eqV (.int .i64 (1 + p)), eqV (.map (some (w.heap.size + 1))), eqV (.int .i64 (1 + p)), eqV (.int .i64 (s)), eqV (.map (some w.heap.size)), eqV (.int .i64 (1 + p)), eqV (.int .i64 (m)), eqV (.map (some w.heap.size)), eqV (.int .i64 (1 + p)), eqV (.int .i64 (m)), eqV (.int .i64 (m - 1)), eqV (.pointer (some ⟨B, 1, none⟩)), eqV (.int .i64 (x.a)), eqV (.int .i64 (q)), eqV (.int .i64 (m - 1 - q)), eqV (.int .i64 (max 0 (m - 1 - q))), eqV (.agg #[.int .i64 x.kind, .int .i64 x.a, .int .i64 x.b, .int .i64 x.c]), eqV (.agg #[.int .i64 y.kind, .string ⟨y.a.toArray⟩, .string ⟨y.b.toArray⟩, .int .i64 y.n]), eqV (.agg #[Value.int .i64 2, .int .i64 (1 + p), .int .i64 s, .int .i64 (m), .int .i64 (max 0 (m - 1 - q)), .int .i64 y.kind, .string ⟨y.a.toArray⟩, .string ⟨y.b.toArray⟩, .int .i64 y.n]), fun v wx => ∃ z, v = .slice (some ⟨z, 0, none⟩) 1 1 ∧ (∀ (j : Nat) (u : Value), ([Value.int .i64 2, .int .i64 (1 + p), .int .i64 s, .int .i64 (m), .int .i64 (max 0 (m - 1 - q)), .int .i64 y.kind, .string ⟨y.a.toArray⟩, .string ⟨y.b.toArray⟩, .int .i64 y.n])[j]? = some u → wx.cell? ⟨z, j, none⟩ = some u) ∧ z < wx.heap.size] (by kernel_rfl) (by kernel_rfl) rfl ?hJ ?hJS ?hst ?hobl ?hend
        case hJ => exact HJS.out _ _ HJ0.out (Below.drew (Below.refl _ _))
        case hJS => exact HJS.out
        case hst => exact planStab_at _ ⟨eqV_stab _, eqV_stab _, eqV_stab _, eqV_stab _, eqV_stab _, eqV_stab _, eqV_stab _, eqV_stab _, eqV_stab _, eqV_stab _, eqV_stab _, eqV_stab _, eqV_stab _, eqV_stab _, eqV_stab _, eqV_stab _, eqV_stab _, eqV_stab _, eqV_stab _, eqV_stab _, (by rintro v wx wy - h2 ⟨z, h3, h4, h5⟩; exact ⟨z, h3, fun j u hu => (h2.cell (p := ⟨z, j, none⟩) h5).trans (h4 j u hu), Nat.lt_of_lt_of_le h5 h2.size⟩), trivial⟩
        case hobl =>
          simp only [planObls, List.take_succ_cons, List.take_zero, planPut, Act.put, List.setIfInBounds_toArray, List.set_cons_zero, List.set_cons_succ, Nat.reduceAdd, Nat.zero_add]
          refine ⟨?_, ?_, ?_, ?_, ?_, ?_, ?_, ?_, ?_, ?_, ?_, ?_, ?_, ?_, ?_, ?_, ?_, ?_, ?_, ?_, ?_, trivial⟩
          · intro vs wx hJ hn K hK
            simp [planNeeds, VAt, eqV, Region.binds] at hn
            simp only [VAt, eqV, List.getD_cons_zero, List.getD_cons_succ, Act.put, List.setIfInBounds_toArray, List.set_cons_zero, List.set_cons_succ, Nat.reduceAdd, Nat.zero_add] at hK
            go_wp2
            exact hK _ _ (Below.refl _ _) rfl
          · intro vs wx hJ hn K hK
            simp [planNeeds, VAt, eqV, Region.binds] at hn
            simp only [VAt, eqV, List.getD_cons_zero, List.getD_cons_succ, Act.put, List.setIfInBounds_toArray, List.set_cons_zero, List.set_cons_succ, Nat.reduceAdd, Nat.zero_add] at hK
            go_wp2
            exact hK _ _ (Below.refl _ _) rfl
          · intro vs wx hJ hn K hK
            simp [planNeeds, VAt, eqV, Region.binds] at hn
            simp only [VAt, eqV, List.getD_cons_zero, List.getD_cons_succ, Act.put, List.setIfInBounds_toArray, List.set_cons_zero, List.set_cons_succ, Nat.reduceAdd, Nat.zero_add] at hK
            go_wp2
            exact hK _ _ (Below.refl _ _) rfl
          · intro vs wx hJ hn K hK
            simp [planNeeds, VAt, eqV, Region.binds] at hn
            simp only [VAt, eqV, List.getD_cons_zero, List.getD_cons_succ, Act.put, List.setIfInBounds_toArray, List.set_cons_zero, List.set_cons_succ, Nat.reduceAdd, Nat.zero_add] at hK
            go_wp2
            exact hK _ _ (Below.refl _ _) rfl
          · intro vs wx hJ hn K hK
            simp [planNeeds, VAt, eqV, Region.binds] at hn
            simp only [VAt, eqV, List.getD_cons_zero, List.getD_cons_succ, Act.put, List.setIfInBounds_toArray, List.set_cons_zero, List.set_cons_succ, Nat.reduceAdd, Nat.zero_add] at hK
            simp only [hn] at hK ⊢
            have ql := hJ.1.ses.look (t := 136) Tryz.underlying136 Tryz.underlying3 (Tryz.zeroIntC _) hI
            rw [hs] at ql
            go_wp2
            exact hK _ _ (Below.refl _ _) rfl
          · intro vs wx hJ hn K hK
            simp [planNeeds, VAt, eqV, Region.binds] at hn
            simp only [VAt, eqV, List.getD_cons_zero, List.getD_cons_succ, Act.put, List.setIfInBounds_toArray, List.set_cons_zero, List.set_cons_succ, Nat.reduceAdd, Nat.zero_add] at hK
            go_wp2
            exact hK _ _ (Below.refl _ _) rfl
          · intro vs wx hJ hn K hK
            simp [planNeeds, VAt, eqV, Region.binds] at hn
            simp only [VAt, eqV, List.getD_cons_zero, List.getD_cons_succ, Act.put, List.setIfInBounds_toArray, List.set_cons_zero, List.set_cons_succ, Nat.reduceAdd, Nat.zero_add] at hK
            go_wp2
            exact hK _ _ (Below.refl _ _) rfl
          · intro vs wx hJ hn K hK
            simp [planNeeds, VAt, eqV, Region.binds] at hn
            simp only [VAt, eqV, List.getD_cons_zero, List.getD_cons_succ, Act.put, List.setIfInBounds_toArray, List.set_cons_zero, List.set_cons_succ, Nat.reduceAdd, Nat.zero_add] at hK
            simp only [hn] at hK ⊢
            have ql := hJ.1.next.look (t := 136) Tryz.underlying136 Tryz.underlying3 (Tryz.zeroIntC _) hI
            rw [hm'] at ql
            go_wp2
            exact hK _ _ (Below.refl _ _) rfl
          · intro vs wx hJ hn K hK
            simp [planNeeds, VAt, eqV, Region.binds] at hn
            simp only [VAt, eqV, List.getD_cons_zero, List.getD_cons_succ, Act.put, List.setIfInBounds_toArray, List.set_cons_zero, List.set_cons_succ, Nat.reduceAdd, Nat.zero_add] at hK
            go_wp2
            exact hK _ _ (Below.refl _ _) rfl
          · intro vs wx hJ hn K hK
            simp [planNeeds, VAt, eqV, Region.binds] at hn
            simp only [VAt, eqV, List.getD_cons_zero, List.getD_cons_succ, Act.put, List.setIfInBounds_toArray, List.set_cons_zero, List.set_cons_succ, Nat.reduceAdd, Nat.zero_add] at hK
            go_wp2
            exact hK _ _ (Below.refl _ _) rfl
          · intro vs wx hJ hn K hK
            simp [planNeeds, VAt, eqV, Region.binds] at hn
            simp only [VAt, eqV, List.getD_cons_zero, List.getD_cons_succ, Act.put, List.setIfInBounds_toArray, List.set_cons_zero, List.set_cons_succ, Nat.reduceAdd, Nat.zero_add] at hK
            simp only [hn] at hK ⊢
            have ql := hJ.1.next.look (t := 136) Tryz.underlying136 Tryz.underlying3 (Tryz.zeroIntC _) hI
            rw [hm'] at ql
            go_wp2
            exact hK _ _ (Below.refl _ _) rfl
          · intro vs wx hJ hn K hK
            simp [planNeeds, VAt, eqV, Region.binds] at hn
            simp only [VAt, eqV, List.getD_cons_zero, List.getD_cons_succ, Act.put, List.setIfInBounds_toArray, List.set_cons_zero, List.set_cons_succ, Nat.reduceAdd, Nat.zero_add] at hK
            simp only [hn] at hK ⊢
            go_wp2
            exact hK _ _ (Below.refl _ _) rfl
          · intro vs wx hJ hn K hK
            simp [planNeeds, VAt, eqV, Region.binds] at hn
            simp only [VAt, eqV, List.getD_cons_zero, List.getD_cons_succ, Act.put, List.setIfInBounds_toArray, List.set_cons_zero, List.set_cons_succ, Nat.reduceAdd, Nat.zero_add] at hK
            go_wp2
            exact hK _ _ (Below.refl _ _) rfl
          · intro vs wx hJ hn K hK
            simp [planNeeds, VAt, eqV, Region.binds] at hn
            simp only [VAt, eqV, List.getD_cons_zero, List.getD_cons_succ, Act.put, List.setIfInBounds_toArray, List.set_cons_zero, List.set_cons_succ, Nat.reduceAdd, Nat.zero_add] at hK
            simp only [hn] at hK ⊢
            have z1 := hJ.2.1 1
            go_wp2
            exact hK _ _ (Below.refl _ _) rfl
          · intro vs wx hJ hn K hK
            simp [planNeeds, VAt, eqV, Region.binds] at hn
            simp only [VAt, eqV, List.getD_cons_zero, List.getD_cons_succ, Act.put, List.setIfInBounds_toArray, List.set_cons_zero, List.set_cons_succ, Nat.reduceAdd, Nat.zero_add] at hK
            simp only [hn] at hK ⊢
            go_wp2_with fail
            refine (picked_calls x.a 3 (by omega) (by omega) ra1 ra2 _).mono ?_; rw [HQ.out]; rintro e w' ⟨rfl, rfl⟩
            go_wp2
            exact hK _ _ (Below.refl _ _) rfl
          · intro vs wx hJ hn K hK
            simp [planNeeds, VAt, eqV, Region.binds] at hn
            simp only [VAt, eqV, List.getD_cons_zero, List.getD_cons_succ, Act.put, List.setIfInBounds_toArray, List.set_cons_zero, List.set_cons_succ, Nat.reduceAdd, Nat.zero_add] at hK
            simp only [hn] at hK ⊢
            go_wp2
            exact hK _ _ (Below.refl _ _) rfl
          · intro vs wx hJ hn K hK
            simp [planNeeds, VAt, eqV, Region.binds] at hn
            simp only [VAt, eqV, List.getD_cons_zero, List.getD_cons_succ, Act.put, List.setIfInBounds_toArray, List.set_cons_zero, List.set_cons_succ, Nat.reduceAdd, Nat.zero_add] at hK
            simp only [hn] at hK ⊢
            go_wp2
            all_goals exact hK _ _ (Below.refl _ _) (congrArg (Value.int .i64) (by omega))
          · intro vs wx hJ hn K hK
            simp [planNeeds, VAt, eqV, Region.binds] at hn
            simp only [VAt, eqV, List.getD_cons_zero, List.getD_cons_succ, Act.put, List.setIfInBounds_toArray, List.set_cons_zero, List.set_cons_succ, Nat.reduceAdd, Nat.zero_add] at hK
            have z0 := hJ.2.1 0; have z1 := hJ.2.1 1; have z2 := hJ.2.1 2; have z3 := hJ.2.1 3
            go_wp2
            exact hK _ _ (Below.refl _ _) rfl
          · intro vs wx hJ hn K hK
            simp [planNeeds, VAt, eqV, Region.binds] at hn
            simp only [VAt, eqV, List.getD_cons_zero, List.getD_cons_succ, Act.put, List.setIfInBounds_toArray, List.set_cons_zero, List.set_cons_succ, Nat.reduceAdd, Nat.zero_add] at hK
            simp only [hn] at hK ⊢
            go_wp2_with fail
            refine (op_calls x HRO.out _).mono ?_; rw [HY.out]; rintro e w' ⟨rfl, hbo⟩
            go_wp2
            exact hK _ _ hbo rfl
          · intro vs wx hJ hn K hK
            simp [planNeeds, VAt, eqV, Region.binds] at hn
            simp only [VAt, eqV, List.getD_cons_zero, List.getD_cons_succ, Act.put, List.setIfInBounds_toArray, List.set_cons_zero, List.set_cons_succ, Nat.reduceAdd, Nat.zero_add] at hK
            simp only [hn] at hK ⊢
            go_wp2
            exact hK _ _ (Below.refl _ _) rfl
          · intro vs wx hJ hn K hK
            simp [planNeeds, VAt, eqV, Region.binds] at hn
            simp only [VAt, eqV, List.getD_cons_zero, List.getD_cons_succ, Act.put, List.setIfInBounds_toArray, List.set_cons_zero, List.set_cons_succ, Nat.reduceAdd, Nat.zero_add] at hK
            simp only [hn] at hK ⊢
            go_wp2
            refine hK _ _ (below_alloc wx _) ⟨_, rfl, fun j u hu => (World.cell?_alloc_at _ _ _ _ rfl).trans (by simpa using hu), by simp⟩
        case hend =>
          intro vs wx hJ hv
          simp [planHave, eqV] at hv
          obtain ⟨e0, e1, e2, e3, e4, e5, e6, e7, e8, e9, e10, e11, e12, e13, e14, e15, e16, e17, e18, e19, ⟨z, e20, hzc, hzl⟩⟩ := hv
          simp only [List.take_succ_cons, List.take_zero, List.drop_succ_cons, List.drop_zero, planPut, Act.put, List.setIfInBounds_toArray, List.set_cons_zero, List.set_cons_succ, Nat.reduceAdd, Nat.zero_add]
          rw [e0, e1, e2, e3, e4, e5, e6, e7, e8, e9, e10, e11, e12, e13, e14, e15, e16, e17, e18, e19, e20]
          clear e0 e1 e2 e3 e4 e5 e6 e7 e8 e9 e10 e11 e12 e13 e14 e15 e16 e17 e18 e19 e20
          have hcm : ∀ (w : World) (S : Nat → Prop), rCommand w ([Value.int .i64 2, .int .i64 (1 + p), .int .i64 s, .int .i64 (m), .int .i64 (max 0 (m - 1 - q)), .int .i64 y.kind, .string ⟨y.a.toArray⟩, .string ⟨y.b.toArray⟩, .int .i64 y.n]) (gCall (1 + p) s m x) S := fun w S => by show _ = _; simp [gCall, HQ.out, HY2.out]
          go_wp2_with (first | (at_builtin; refine wpList_appX Tryz.tyCmd (.tmp 38) (.tmp 58) rfl rfl rCommand_ok (gCall (1 + p) s m x) rfl rfl hzc hJ.1.out (hcm _ _) (by omega) ?_; intro v4 w4 ho4 hg4 hv4; have hg5 := hJ.1.app ho4 hg4 hv4; have qn5 := hg5.next.look (t := 136) Tryz.underlying136 Tryz.underlying3 (Tryz.zeroIntC _) hI; rw [hm'] at qn5) | (at_mapUpdate; refine wpList_mapF rfl (.tmp 60) (.tmp 61) (.tmp 63) rfl hg5.next Tryz.underlying136 Tryz.underlying3 (by omega) rfl rfl rfl hI (by unfold I64; omega) ?_; intro whg6 hmhg6 hrhg6; have hg6 := hg5.putNext hmhg6 hrhg6))
          go_roundw
          case rel => exact ⟨n + 1, by omega, by omega, by go_num, Lib.hid (by rw [HT.out]; exact hg6.mono (by omega))⟩
          case measure => simp [intOf]; omega
      case neg =>
        clear hkn
        go_upto_region 10 with (fail)
        refine wp_region_plan 21 (fun wx => GenAt Tryz.prog 3 45 w wx u5 (2 * n) g ∧ (∀ i, wx.cell? ⟨B, i, none⟩ = (#[Value.int .i64 x.kind, .int .i64 x.a, .int .i64 x.b, .int .i64 x.c])[i]?) ∧ B < wx.heap.size) (fun wx wy => Below wx.heap.size wx wy) [eqV (u5), eqV (.int .i64 (1 + p)), eqV (.map (some (w.heap.size + 1))), eqV (.int .i64 (1 + p)), eqV (.int .i64 (s)), eqV (.map (some w.heap.size)), eqV (.int .i64 (1 + p)), eqV (.int .i64 (m)), eqV (.map (some w.heap.size)), eqV (.int .i64 (1 + p)), eqV (.int .i64 (m)), eqV (.int .i64 (m - 1)), eqV (.pointer (some ⟨B, 1, none⟩)), eqV (.int .i64 (x.a)), eqV (.int .i64 (q)), eqV (.int .i64 (m - 1 - q)), eqV (.int .i64 (max 0 (m - 1 - q))), eqV (.agg #[.int .i64 x.kind, .int .i64 x.a, .int .i64 x.b, .int .i64 x.c]), eqV (.agg #[.int .i64 y.kind, .string ⟨y.a.toArray⟩, .string ⟨y.b.toArray⟩, .int .i64 y.n]), eqV (.agg #[Value.int .i64 2, .int .i64 (1 + p), .int .i64 s, .int .i64 (m), .int .i64 (max 0 (m - 1 - q)), .int .i64 y.kind, .string ⟨y.a.toArray⟩, .string ⟨y.b.toArray⟩, .int .i64 y.n]), fun v wx => ∃ z, v = .slice (some ⟨z, 0, none⟩) 1 1 ∧ (∀ (j : Nat) (u : Value), ([Value.int .i64 2, .int .i64 (1 + p), .int .i64 s, .int .i64 (m), .int .i64 (max 0 (m - 1 - q)), .int .i64 y.kind, .string ⟨y.a.toArray⟩, .string ⟨y.b.toArray⟩, .int .i64 y.n])[j]? = some u → wx.cell? ⟨z, j, none⟩ = some u) ∧ z < wx.heap.size] (by kernel_rfl) (by kernel_rfl) rfl ?hJ ?hJS ?hst ?hobl ?hend
        case hJ => exact HJS.out _ _ HJ0.out (Below.drew (Below.refl _ _))
        case hJS => exact HJS.out
        case hst => exact planStab_at _ ⟨eqV_stab _, eqV_stab _, eqV_stab _, eqV_stab _, eqV_stab _, eqV_stab _, eqV_stab _, eqV_stab _, eqV_stab _, eqV_stab _, eqV_stab _, eqV_stab _, eqV_stab _, eqV_stab _, eqV_stab _, eqV_stab _, eqV_stab _, eqV_stab _, eqV_stab _, eqV_stab _, (by rintro v wx wy - h2 ⟨z, h3, h4, h5⟩; exact ⟨z, h3, fun j u hu => (h2.cell (p := ⟨z, j, none⟩) h5).trans (h4 j u hu), Nat.lt_of_lt_of_le h5 h2.size⟩), trivial⟩
        case hobl =>
          simp only [planObls, List.take_succ_cons, List.take_zero, planPut, Act.put, List.setIfInBounds_toArray, List.set_cons_zero, List.set_cons_succ, Nat.reduceAdd, Nat.zero_add]
          refine ⟨?_, ?_, ?_, ?_, ?_, ?_, ?_, ?_, ?_, ?_, ?_, ?_, ?_, ?_, ?_, ?_, ?_, ?_, ?_, ?_, ?_, trivial⟩
          · intro vs wx hJ hn K hK
            simp [planNeeds, VAt, eqV, Region.binds] at hn
            simp only [VAt, eqV, List.getD_cons_zero, List.getD_cons_succ, Act.put, List.setIfInBounds_toArray, List.set_cons_zero, List.set_cons_succ, Nat.reduceAdd, Nat.zero_add] at hK
            go_wp2
            exact hK _ _ (Below.refl _ _) rfl
          · intro vs wx hJ hn K hK
            simp [planNeeds, VAt, eqV, Region.binds] at hn
            simp only [VAt, eqV, List.getD_cons_zero, List.getD_cons_succ, Act.put, List.setIfInBounds_toArray, List.set_cons_zero, List.set_cons_succ, Nat.reduceAdd, Nat.zero_add] at hK
            go_wp2
            exact hK _ _ (Below.refl _ _) rfl
          · intro vs wx hJ hn K hK
            simp [planNeeds, VAt, eqV, Region.binds] at hn
            simp only [VAt, eqV, List.getD_cons_zero, List.getD_cons_succ, Act.put, List.setIfInBounds_toArray, List.set_cons_zero, List.set_cons_succ, Nat.reduceAdd, Nat.zero_add] at hK
            go_wp2
            exact hK _ _ (Below.refl _ _) rfl
          · intro vs wx hJ hn K hK
            simp [planNeeds, VAt, eqV, Region.binds] at hn
            simp only [VAt, eqV, List.getD_cons_zero, List.getD_cons_succ, Act.put, List.setIfInBounds_toArray, List.set_cons_zero, List.set_cons_succ, Nat.reduceAdd, Nat.zero_add] at hK
            go_wp2
            exact hK _ _ (Below.refl _ _) rfl
          · intro vs wx hJ hn K hK
            simp [planNeeds, VAt, eqV, Region.binds] at hn
            simp only [VAt, eqV, List.getD_cons_zero, List.getD_cons_succ, Act.put, List.setIfInBounds_toArray, List.set_cons_zero, List.set_cons_succ, Nat.reduceAdd, Nat.zero_add] at hK
            simp only [hn] at hK ⊢
            have ql := hJ.1.ses.look (t := 136) Tryz.underlying136 Tryz.underlying3 (Tryz.zeroIntC _) hI
            rw [hs] at ql
            go_wp2
            exact hK _ _ (Below.refl _ _) rfl
          · intro vs wx hJ hn K hK
            simp [planNeeds, VAt, eqV, Region.binds] at hn
            simp only [VAt, eqV, List.getD_cons_zero, List.getD_cons_succ, Act.put, List.setIfInBounds_toArray, List.set_cons_zero, List.set_cons_succ, Nat.reduceAdd, Nat.zero_add] at hK
            go_wp2
            exact hK _ _ (Below.refl _ _) rfl
          · intro vs wx hJ hn K hK
            simp [planNeeds, VAt, eqV, Region.binds] at hn
            simp only [VAt, eqV, List.getD_cons_zero, List.getD_cons_succ, Act.put, List.setIfInBounds_toArray, List.set_cons_zero, List.set_cons_succ, Nat.reduceAdd, Nat.zero_add] at hK
            go_wp2
            exact hK _ _ (Below.refl _ _) rfl
          · intro vs wx hJ hn K hK
            simp [planNeeds, VAt, eqV, Region.binds] at hn
            simp only [VAt, eqV, List.getD_cons_zero, List.getD_cons_succ, Act.put, List.setIfInBounds_toArray, List.set_cons_zero, List.set_cons_succ, Nat.reduceAdd, Nat.zero_add] at hK
            simp only [hn] at hK ⊢
            have ql := hJ.1.next.look (t := 136) Tryz.underlying136 Tryz.underlying3 (Tryz.zeroIntC _) hI
            rw [hm'] at ql
            go_wp2
            exact hK _ _ (Below.refl _ _) rfl
          · intro vs wx hJ hn K hK
            simp [planNeeds, VAt, eqV, Region.binds] at hn
            simp only [VAt, eqV, List.getD_cons_zero, List.getD_cons_succ, Act.put, List.setIfInBounds_toArray, List.set_cons_zero, List.set_cons_succ, Nat.reduceAdd, Nat.zero_add] at hK
            go_wp2
            exact hK _ _ (Below.refl _ _) rfl
          · intro vs wx hJ hn K hK
            simp [planNeeds, VAt, eqV, Region.binds] at hn
            simp only [VAt, eqV, List.getD_cons_zero, List.getD_cons_succ, Act.put, List.setIfInBounds_toArray, List.set_cons_zero, List.set_cons_succ, Nat.reduceAdd, Nat.zero_add] at hK
            go_wp2
            exact hK _ _ (Below.refl _ _) rfl
          · intro vs wx hJ hn K hK
            simp [planNeeds, VAt, eqV, Region.binds] at hn
            simp only [VAt, eqV, List.getD_cons_zero, List.getD_cons_succ, Act.put, List.setIfInBounds_toArray, List.set_cons_zero, List.set_cons_succ, Nat.reduceAdd, Nat.zero_add] at hK
            simp only [hn] at hK ⊢
            have ql := hJ.1.next.look (t := 136) Tryz.underlying136 Tryz.underlying3 (Tryz.zeroIntC _) hI
            rw [hm'] at ql
            go_wp2
            exact hK _ _ (Below.refl _ _) rfl
          · intro vs wx hJ hn K hK
            simp [planNeeds, VAt, eqV, Region.binds] at hn
            simp only [VAt, eqV, List.getD_cons_zero, List.getD_cons_succ, Act.put, List.setIfInBounds_toArray, List.set_cons_zero, List.set_cons_succ, Nat.reduceAdd, Nat.zero_add] at hK
            simp only [hn] at hK ⊢
            go_wp2
            exact hK _ _ (Below.refl _ _) rfl
          · intro vs wx hJ hn K hK
            simp [planNeeds, VAt, eqV, Region.binds] at hn
            simp only [VAt, eqV, List.getD_cons_zero, List.getD_cons_succ, Act.put, List.setIfInBounds_toArray, List.set_cons_zero, List.set_cons_succ, Nat.reduceAdd, Nat.zero_add] at hK
            go_wp2
            exact hK _ _ (Below.refl _ _) rfl
          · intro vs wx hJ hn K hK
            simp [planNeeds, VAt, eqV, Region.binds] at hn
            simp only [VAt, eqV, List.getD_cons_zero, List.getD_cons_succ, Act.put, List.setIfInBounds_toArray, List.set_cons_zero, List.set_cons_succ, Nat.reduceAdd, Nat.zero_add] at hK
            simp only [hn] at hK ⊢
            have z1 := hJ.2.1 1
            go_wp2
            exact hK _ _ (Below.refl _ _) rfl
          · intro vs wx hJ hn K hK
            simp [planNeeds, VAt, eqV, Region.binds] at hn
            simp only [VAt, eqV, List.getD_cons_zero, List.getD_cons_succ, Act.put, List.setIfInBounds_toArray, List.set_cons_zero, List.set_cons_succ, Nat.reduceAdd, Nat.zero_add] at hK
            simp only [hn] at hK ⊢
            go_wp2_with fail
            refine (picked_calls x.a 3 (by omega) (by omega) ra1 ra2 _).mono ?_; rw [HQ.out]; rintro e w' ⟨rfl, rfl⟩
            go_wp2
            exact hK _ _ (Below.refl _ _) rfl
          · intro vs wx hJ hn K hK
            simp [planNeeds, VAt, eqV, Region.binds] at hn
            simp only [VAt, eqV, List.getD_cons_zero, List.getD_cons_succ, Act.put, List.setIfInBounds_toArray, List.set_cons_zero, List.set_cons_succ, Nat.reduceAdd, Nat.zero_add] at hK
            simp only [hn] at hK ⊢
            go_wp2
            exact hK _ _ (Below.refl _ _) rfl
          · intro vs wx hJ hn K hK
            simp [planNeeds, VAt, eqV, Region.binds] at hn
            simp only [VAt, eqV, List.getD_cons_zero, List.getD_cons_succ, Act.put, List.setIfInBounds_toArray, List.set_cons_zero, List.set_cons_succ, Nat.reduceAdd, Nat.zero_add] at hK
            simp only [hn] at hK ⊢
            go_wp2
            all_goals exact hK _ _ (Below.refl _ _) (congrArg (Value.int .i64) (by omega))
          · intro vs wx hJ hn K hK
            simp [planNeeds, VAt, eqV, Region.binds] at hn
            simp only [VAt, eqV, List.getD_cons_zero, List.getD_cons_succ, Act.put, List.setIfInBounds_toArray, List.set_cons_zero, List.set_cons_succ, Nat.reduceAdd, Nat.zero_add] at hK
            have z0 := hJ.2.1 0; have z1 := hJ.2.1 1; have z2 := hJ.2.1 2; have z3 := hJ.2.1 3
            go_wp2
            exact hK _ _ (Below.refl _ _) rfl
          · intro vs wx hJ hn K hK
            simp [planNeeds, VAt, eqV, Region.binds] at hn
            simp only [VAt, eqV, List.getD_cons_zero, List.getD_cons_succ, Act.put, List.setIfInBounds_toArray, List.set_cons_zero, List.set_cons_succ, Nat.reduceAdd, Nat.zero_add] at hK
            simp only [hn] at hK ⊢
            go_wp2_with fail
            refine (op_calls x HRO.out _).mono ?_; rw [HY.out]; rintro e w' ⟨rfl, hbo⟩
            go_wp2
            exact hK _ _ hbo rfl
          · intro vs wx hJ hn K hK
            simp [planNeeds, VAt, eqV, Region.binds] at hn
            simp only [VAt, eqV, List.getD_cons_zero, List.getD_cons_succ, Act.put, List.setIfInBounds_toArray, List.set_cons_zero, List.set_cons_succ, Nat.reduceAdd, Nat.zero_add] at hK
            simp only [hn] at hK ⊢
            go_wp2
            exact hK _ _ (Below.refl _ _) rfl
          · intro vs wx hJ hn K hK
            simp [planNeeds, VAt, eqV, Region.binds] at hn
            simp only [VAt, eqV, List.getD_cons_zero, List.getD_cons_succ, Act.put, List.setIfInBounds_toArray, List.set_cons_zero, List.set_cons_succ, Nat.reduceAdd, Nat.zero_add] at hK
            simp only [hn] at hK ⊢
            go_wp2
            refine hK _ _ (below_alloc wx _) ⟨_, rfl, fun j u hu => (World.cell?_alloc_at _ _ _ _ rfl).trans (by simpa using hu), by simp⟩
        case hend =>
          intro vs wx hJ hv
          simp [planHave, eqV] at hv
          obtain ⟨e0, e1, e2, e3, e4, e5, e6, e7, e8, e9, e10, e11, e12, e13, e14, e15, e16, e17, e18, e19, ⟨z, e20, hzc, hzl⟩⟩ := hv
          simp only [List.take_succ_cons, List.take_zero, List.drop_succ_cons, List.drop_zero, planPut, Act.put, List.setIfInBounds_toArray, List.set_cons_zero, List.set_cons_succ, Nat.reduceAdd, Nat.zero_add]
          rw [e0, e1, e2, e3, e4, e5, e6, e7, e8, e9, e10, e11, e12, e13, e14, e15, e16, e17, e18, e19, e20]
          clear e0 e1 e2 e3 e4 e5 e6 e7 e8 e9 e10 e11 e12 e13 e14 e15 e16 e17 e18 e19 e20
          have hcm : ∀ (w : World) (S : Nat → Prop), rCommand w ([Value.int .i64 2, .int .i64 (1 + p), .int .i64 s, .int .i64 (m), .int .i64 (max 0 (m - 1 - q)), .int .i64 y.kind, .string ⟨y.a.toArray⟩, .string ⟨y.b.toArray⟩, .int .i64 y.n]) (gCall (1 + p) s m x) S := fun w S => by show _ = _; simp [gCall, HQ.out, HY2.out]
          go_wp2_with (first | (at_builtin; refine wpList_appX Tryz.tyCmd (.tmp 38) (.tmp 58) rfl rfl rCommand_ok (gCall (1 + p) s m x) rfl rfl hzc hJ.1.out (hcm _ _) (by omega) ?_; intro v4 w4 ho4 hg4 hv4; have hg5 := hJ.1.app ho4 hg4 hv4; have qn5 := hg5.next.look (t := 136) Tryz.underlying136 Tryz.underlying3 (Tryz.zeroIntC _) hI; rw [hm'] at qn5) | (at_mapUpdate; refine wpList_mapF rfl (.tmp 60) (.tmp 61) (.tmp 63) rfl hg5.next Tryz.underlying136 Tryz.underlying3 (by omega) rfl rfl rfl hI (by unfold I64; omega) ?_; intro whg6 hmhg6 hrhg6; have hg6 := hg5.putNext hmhg6 hrhg6))
          go_roundw
          case rel => exact ⟨n + 1, by omega, by omega, by go_num, Lib.hid (by rw [HT.out]; exact hg6.mono (by omega))⟩
          case measure => simp [intOf]; omega
end Go.Proofs.YtkefgapnghnjjaaGreatDoor
