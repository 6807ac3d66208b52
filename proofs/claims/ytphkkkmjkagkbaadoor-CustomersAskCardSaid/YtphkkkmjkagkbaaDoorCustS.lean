/- customer.Start, customer.Hello. -/
import Derived.Test.YtphkkkmjkagkbaaDoorCustE
import Derived.Test.YtphkkkmjkagkbaaDoorPlan
import Derived.Test.YtphkkkmjkagkbaaDoorApp
import Derived.Test.YtphkkkmjkagkbaaDoorCmdE
import Derived.BigRegion
import Derived.Deep.RegionLaw
import Derived.Deep.DeepCutAuto
namespace Go.Tk
open Go Go.RowKit
theorem box3 {w w' : World} {c1 c2 c3 : List Value} {E1 E2 E3 : Nat} (h : Below (w.heap.size + 3) (((w.alloc (.cells c1.toArray E1)).alloc (.cells c2.toArray E2)).alloc (.cells c3.toArray E3)) w') :
    BoxAt w' w.heap.size c1 ∧ BoxAt w' (w.heap.size + 1) c2 ∧ BoxAt w' (w.heap.size + 1 + 1) c3 ∧ Below w.heap.size w w' := by
  have s1 : (w.alloc (.cells c1.toArray E1)).heap.size = w.heap.size + 1 := World.size_alloc _ _
  have s2 : ((w.alloc (.cells c1.toArray E1)).alloc (.cells c2.toArray E2)).heap.size = w.heap.size + 2 := by rw [World.size_alloc, s1]
  have h1 := ((BoxAt.new (w := w) (cs := c1) (E := E1)).below (below_alloc _ (.cells c2.toArray E2))).below (below_alloc _ (.cells c3.toArray E3))
  have h2 := (BoxAt.new (w := w.alloc (.cells c1.toArray E1)) (cs := c2) (E := E2)).below (below_alloc _ (.cells c3.toArray E3))
  have h3 := BoxAt.new (w := (w.alloc (.cells c1.toArray E1)).alloc (.cells c2.toArray E2)) (cs := c3) (E := E3)
  rw [s1] at h2; rw [s2] at h3
  exact ⟨h1.keep (h.block _ (by omega)), h2.keep (h.block _ (by omega)), h3.keep (h.block _ (by omega)), (below_step (below_step (below_alloc w _) (below_alloc _ _)) (below_alloc _ _)).trans (h.mono (by omega))⟩
end Go.Tk
namespace Go.Proofs.YtphkkkmjkagkbaaDoor
open Go.RowKit Go.Tk
theorem Tryd.tyWaits : SliceTy Tryd.prog 61 97 5 56 := ⟨Tryd.underlying61, by kernel_rfl, by decide⟩

set_option linter.unusedSimpArgs false in
set_option maxRecDepth 100000 in
set_option maxHeartbeats 6400000 in
theorem custStart_calls (c : CustomerD) (op : OpD) (v : Value) (S : Nat → Prop) (w : World) (h : SlR 5 rWait w v c.waits S) (hok : CustOk c) (hop : OpOk op) (hnx : c.next ≤ 1048576) :
    Calls Tryd.prog 24 #[.agg #[.int .i64 c.id, .int .i64 c.session, .int .i64 c.next, v], .agg #[.int .i64 op.kind, .string ⟨op.a.toArray⟩, .string ⟨op.b.toArray⟩, .int .i64 op.n]] w (RetCustO 97 w (custStart c op)) := by
  have HV := Lib.hid (show custStart c op = if c.session = 0 then (noCustomer, 11) else if custAcked c + 4 < c.next then (noCustomer, 8) else (⟨c.id, c.session, c.next + 1, c.waits ++ [⟨c.next, op⟩]⟩, 0) by
    rw [custStart, if_neg (by simp [custCheck_ok.2 hok])]
    by_cases h0 : c.session = 0
    · rw [if_pos h0, if_pos h0]
    · rw [if_neg h0, if_neg h0, if_neg (by simp [opCheck_ok.2 hop])]
      by_cases h1 : custAcked c + 4 < c.next
      · rw [if_pos (.inr h1), if_pos h1]
      · rw [if_neg (by omega), if_neg h1])
  obtain ⟨n0, n1⟩ := hok.next
  have hlen := hok.len
  have HK := Lib.hid hok
  have HOC := Lib.hid (opCheck_ok.2 hop)
  have hak : -1000000000000 ≤ custAcked c ∧ custAcked c ≤ 1000000000000 := by
    rw [custAcked]
    split
    · rename_i h0
      have := (hok.all 0 h0).1
      unfold custBad at this
      omega
    · omega
  have hone := h.oneCell
  obtain ⟨a, cap, hv, hl, hm, -, -⟩ := id h
  subst hv
  unfold maxLen at hm
  have HS := Lib.hid h
  clear h hok hop hm
  go_enter Tryd.func24, Tryd.ntmps24
  go_wp2_with fail
  refine (custCheck_calls c _ S _ (HS.out.below rWait_ok (by decide) (below_step (below_step (below_alloc w _) (below_alloc _ _)) (below_alloc _ _))) HK.out).mono ?_
  rintro e w1 ⟨rfl, hb1⟩
  simp only [World.size_alloc] at hb1
  obtain ⟨hX, hP, hR, hB⟩ := box3 (c1 := [.int .i64 c.id, .int .i64 c.session, .int .i64 c.next, .slice a c.waits.length cap]) (c2 := [.int .i64 op.kind, .string ⟨op.a.toArray⟩, .string ⟨op.b.toArray⟩, .int .i64 op.n]) (c3 := [.int .i64 0, .int .i64 0, .int .i64 0, .slice none 0 0]) hb1
  have HX := Lib.hid hX; have HP := Lib.hid hP; have HR := Lib.hid hR; have HB := Lib.hid hB
  replace HS := Lib.hid (HS.out.below rWait_ok (by decide) hB)
  clear hX hP hR hB hb1
  have x0 := HX.out.cell 0 _ rfl; have x1 := HX.out.cell 1 _ rfl; have x2 := HX.out.cell 2 _ rfl; have x3 := HX.out.cell 3 _ rfl
  have o0 := HP.out.cell 0 _ rfl; have o1 := HP.out.cell 1 _ rfl; have o2 := HP.out.cell 2 _ rfl; have o3 := HP.out.cell 3 _ rfl
  have r0 := HR.out.cell 0 _ rfl; have r1 := HR.out.cell 1 _ rfl; have r2 := HR.out.cell 2 _ rfl; have r3 := HR.out.cell 3 _ rfl
  have f0 := HR.out.thaw 0; have f1 := HR.out.thaw 1; have f2 := HR.out.thaw 2; have f3 := HR.out.thaw 3
  by_cases h0 : c.session = 0
  case pos =>
    have HF := Lib.hid (HV.out.trans (if_pos h0))
    have h0b : (c.session == 0) = true := by simpa using h0
    clear h0
    go_wp2
    have hp := ((((HR.out).set 0 (by simp) (.int .i64 0)).set 1 (by simp) (.int .i64 0)).set 2 (by simp) (.int .i64 0)).set 3 (by simp) (.slice none 0 0)
    have hbf := below_set (b := w.heap.size + 1 + 1) (below_set (b := w.heap.size + 1 + 1) (below_set (b := w.heap.size + 1 + 1) (below_set (b := w.heap.size + 1 + 1) (Below.refl (w.heap.size) w1) (by omega) 0 (.int .i64 0)) (by omega) 1 (.int .i64 0)) (by omega) 2 (.int .i64 0)) (by omega) 3 (.slice none 0 0)
    generalize (((w1.setCell ⟨w.heap.size + 1 + 1, 0, none⟩ (.int .i64 0)).setCell ⟨w.heap.size + 1 + 1, 1, none⟩ (.int .i64 0)).setCell ⟨w.heap.size + 1 + 1, 2, none⟩ (.int .i64 0)).setCell ⟨w.heap.size + 1 + 1, 3, none⟩ (.slice none 0 0) = wf at *
    have p0 := hp.cell 0 _ rfl; have p1 := hp.cell 1 _ rfl; have p2 := hp.cell 2 _ rfl; have p3 := hp.cell 3 _ rfl
    refine bodyPost_ret (v := .tuple #[.agg #[.int .i64 0, .int .i64 0, .int .i64 0, .slice none 0 0], .int .i64 11]) (by simp [results, Tryd.results24, go_sem, p0, p1, p2, p3]) rfl ?_
    rw [HF.out]
    exact ⟨_, rfl, OwR.nil _ _, (fun g hg => by cases hg), HB.out.trans hbf⟩
  have h0b : (c.session == 0) = false := by simpa using h0
  have HV2 := Lib.hid (HV.out.trans (if_neg h0))
  clear h0 HV
  go_wp2_with fail
  refine (checkOp_calls op _).mono ?_; rw [HOC.out]; rintro e w2 ⟨rfl, hb2⟩
  clear x0 x1 x2 x3 o0 o1 o2 o3 r0 r1 r2 r3 f0 f1 f2 f3
  replace HX := Lib.hid (HX.out.below hb2)
  replace HP := Lib.hid (HP.out.below hb2)
  replace HR := Lib.hid (HR.out.below hb2)
  replace HB := Lib.hid (below_step HB.out hb2)
  replace HS := Lib.hid (HS.out.below rWait_ok (by decide) hb2)
  clear hb2
  have hmx : decide (1048576 < c.next) = false := by simp; omega
  obtain ⟨ak, hak2⟩ : ∃ ak, custAcked c = ak := ⟨_, rfl⟩
  rw [hak2] at hak HV2
  have HAK := Lib.hid hak2
  clear hak2
  go_upto_region 9 with (fail)
  refine wp_region_plan 10 (fun wx => Below w2.heap.size w2 wx) (fun wx wy => Below wx.heap.size wx wy) [eqV (.pointer (some ⟨w.heap.size, 2, none⟩)), eqV (.int .i64 c.next), eqV (.bool false), eqV (.bool false), eqV (.pointer (some ⟨w.heap.size, 2, none⟩)), eqV (.int .i64 c.next), eqV (.agg #[.int .i64 c.id, .int .i64 c.session, .int .i64 c.next, .slice a c.waits.length cap]), eqV (.int .i64 ak), eqV (.int .i64 (ak + 4)), eqV (.bool (decide (ak + 4 < c.next)))] (by kernel_rfl) (by kernel_rfl) rfl ?hJ ?hJS ?hst ?hobl ?hend
  case hJ => exact Below.drew (Below.refl _ _)
  case hJS =>
    exact fun wx wy h1 h2 => below_step h1 h2
  case hst => exact planStab_at _ ⟨eqV_stab _, eqV_stab _, eqV_stab _, eqV_stab _, eqV_stab _, eqV_stab _, eqV_stab _, eqV_stab _, eqV_stab _, eqV_stab _, trivial⟩
  case hobl =>
    simp only [planObls, List.take_succ_cons, List.take_zero, planPut, Act.put, List.setIfInBounds_toArray, List.set_cons_zero, List.set_cons_succ, Nat.reduceAdd, Nat.zero_add]
    refine ⟨?_, ?_, ?_, ?_, ?_, ?_, ?_, ?_, ?_, ?_, trivial⟩
    · intro vs wx hJ hn K hK
      simp [planNeeds, VAt, eqV, Region.binds] at hn
      simp only [VAt, eqV, List.getD_cons_zero, List.getD_cons_succ, Act.put, List.setIfInBounds_toArray, List.set_cons_zero, List.set_cons_succ, Nat.reduceAdd, Nat.zero_add] at hK
      go_wp2
      exact hK _ _ (Below.refl _ _) rfl
    · intro vs wx hJ hn K hK
      simp [planNeeds, VAt, eqV, Region.binds] at hn
      simp only [VAt, eqV, List.getD_cons_zero, List.getD_cons_succ, Act.put, List.setIfInBounds_toArray, List.set_cons_zero, List.set_cons_succ, Nat.reduceAdd, Nat.zero_add] at hK
      simp only [hn] at hK ⊢
      have x2 := (HX.out.below hJ).cell 2 _ rfl
      go_wp2
      exact hK _ _ (Below.refl _ _) rfl
    · intro vs wx hJ hn K hK
      simp [planNeeds, VAt, eqV, Region.binds] at hn
      simp only [VAt, eqV, List.getD_cons_zero, List.getD_cons_succ, Act.put, List.setIfInBounds_toArray, List.set_cons_zero, List.set_cons_succ, Nat.reduceAdd, Nat.zero_add] at hK
      simp only [hn] at hK ⊢
      go_wp2
      exact hK _ _ (Below.refl _ _) rfl
    · intro vs wx hJ hn K hK
      simp [planNeeds, VAt, eqV, Region.binds] at hn
      simp only [VAt, eqV, List.getD_cons_zero, List.getD_cons_succ, Act.put, List.setIfInBounds_toArray, List.set_cons_zero, List.set_cons_succ, Nat.reduceAdd, Nat.zero_add] at hK
      simp only [hn] at hK ⊢
      go_wp2
      exact hK _ _ (Below.refl _ _) rfl
    · intro vs wx hJ hn K hK
      simp [planNeeds, VAt, eqV, Region.binds] at hn
      simp only [VAt, eqV, List.getD_cons_zero, List.getD_cons_succ, Act.put, List.setIfInBounds_toArray, List.set_cons_zero, List.set_cons_succ, Nat.reduceAdd, Nat.zero_add] at hK
      simp only [hn] at hK ⊢
      go_wp2
      exact hK _ _ (Below.refl _ _) rfl
    · intro vs wx hJ hn K hK
      simp [planNeeds, VAt, eqV, Region.binds] at hn
      simp only [VAt, eqV, List.getD_cons_zero, List.getD_cons_succ, Act.put, List.setIfInBounds_toArray, List.set_cons_zero, List.set_cons_succ, Nat.reduceAdd, Nat.zero_add] at hK
      obtain ⟨e4, e3⟩ := hn
      simp only [e4, e3] at hK ⊢
      have x2 := (HX.out.below hJ).cell 2 _ rfl
      go_wp2
      exact hK _ _ (Below.refl _ _) rfl
    · intro vs wx hJ hn K hK
      simp [planNeeds, VAt, eqV, Region.binds] at hn
      simp only [VAt, eqV, List.getD_cons_zero, List.getD_cons_succ, Act.put, List.setIfInBounds_toArray, List.set_cons_zero, List.set_cons_succ, Nat.reduceAdd, Nat.zero_add] at hK
      simp only [hn] at hK ⊢
      have hx := HX.out.below hJ
      have x0 := hx.cell 0 _ rfl; have x1 := hx.cell 1 _ rfl; have x2 := hx.cell 2 _ rfl; have x3 := hx.cell 3 _ rfl
      go_wp2
      exact hK _ _ (Below.refl _ _) rfl
    · intro vs wx hJ hn K hK
      simp [planNeeds, VAt, eqV, Region.binds] at hn
      simp only [VAt, eqV, List.getD_cons_zero, List.getD_cons_succ, Act.put, List.setIfInBounds_toArray, List.set_cons_zero, List.set_cons_succ, Nat.reduceAdd, Nat.zero_add] at hK
      obtain ⟨e6, e3⟩ := hn
      simp only [e6, e3] at hK ⊢
      have hsx := HS.out.below rWait_ok (by decide) hJ
      go_wp2_with fail
      refine (custAcked_calls c _ _ _ hsx HK.out).mono ?_; rw [HAK.out]; rintro e w5 ⟨rfl, hb5⟩
      go_wp2
      exact hK _ _ hb5 rfl
    · intro vs wx hJ hn K hK
      simp [planNeeds, VAt, eqV, Region.binds] at hn
      simp only [VAt, eqV, List.getD_cons_zero, List.getD_cons_succ, Act.put, List.setIfInBounds_toArray, List.set_cons_zero, List.set_cons_succ, Nat.reduceAdd, Nat.zero_add] at hK
      obtain ⟨e7, e3⟩ := hn
      simp only [e7, e3] at hK ⊢
      go_wp2
      exact hK _ _ (Below.refl _ _) rfl
    · intro vs wx hJ hn K hK
      simp [planNeeds, VAt, eqV, Region.binds] at hn
      simp only [VAt, eqV, List.getD_cons_zero, List.getD_cons_succ, Act.put, List.setIfInBounds_toArray, List.set_cons_zero, List.set_cons_succ, Nat.reduceAdd, Nat.zero_add] at hK
      obtain ⟨e5, e8, e3⟩ := hn
      simp only [e5, e8, e3] at hK ⊢
      go_wp2
      exact hK _ _ (Below.refl _ _) rfl
  case hend =>
    intro vs wx hJ hv
    simp [planHave, eqV] at hv
    obtain ⟨e0, e1, e2, e3, e4, e5, e6, e7, e8, e9⟩ := hv
    simp only [List.take_succ_cons, List.take_zero, List.drop_succ_cons, List.drop_zero, planPut, Act.put, List.setIfInBounds_toArray, List.set_cons_zero, List.set_cons_succ, Nat.reduceAdd, Nat.zero_add]
    rw [e0, e1, e2, e3, e4, e5, e6, e7, e8, e9]
    clear e0 e1 e2 e3 e4 e5 e6 e7 e8 e9
    replace HX := Lib.hid (HX.out.below hJ)
    replace HP := Lib.hid (HP.out.below hJ)
    replace HR := Lib.hid (HR.out.below hJ)
    replace HB := Lib.hid (below_step HB.out hJ)
    replace HS := Lib.hid (HS.out.below rWait_ok (by decide) hJ)
    clear hJ
    by_cases hfl : ak + 4 < c.next
    case pos =>
      have hfb : decide (ak + 4 < c.next) = true := by simpa using hfl
      have r0 := HR.out.cell 0 _ rfl; have r1 := HR.out.cell 1 _ rfl; have r2 := HR.out.cell 2 _ rfl; have r3 := HR.out.cell 3 _ rfl
      have f0 := HR.out.thaw 0; have f1 := HR.out.thaw 1; have f2 := HR.out.thaw 2; have f3 := HR.out.thaw 3
      have HF := Lib.hid (HV2.out.trans (if_pos hfl))
      rw [hfb]
      clear hfb
      go_wp2
      have hp := ((((HR.out).set 0 (by simp) (.int .i64 0)).set 1 (by simp) (.int .i64 0)).set 2 (by simp) (.int .i64 0)).set 3 (by simp) (.slice none 0 0)
      have hbf := below_set (b := w.heap.size + 1 + 1) (below_set (b := w.heap.size + 1 + 1) (below_set (b := w.heap.size + 1 + 1) (below_set (b := w.heap.size + 1 + 1) (Below.refl (w.heap.size) wx) (by omega) 0 (.int .i64 0)) (by omega) 1 (.int .i64 0)) (by omega) 2 (.int .i64 0)) (by omega) 3 (.slice none 0 0)
      generalize (((wx.setCell ⟨w.heap.size + 1 + 1, 0, none⟩ (.int .i64 0)).setCell ⟨w.heap.size + 1 + 1, 1, none⟩ (.int .i64 0)).setCell ⟨w.heap.size + 1 + 1, 2, none⟩ (.int .i64 0)).setCell ⟨w.heap.size + 1 + 1, 3, none⟩ (.slice none 0 0) = wf at *
      have p0 := hp.cell 0 _ rfl; have p1 := hp.cell 1 _ rfl; have p2 := hp.cell 2 _ rfl; have p3 := hp.cell 3 _ rfl
      refine bodyPost_ret (v := .tuple #[.agg #[.int .i64 0, .int .i64 0, .int .i64 0, .slice none 0 0], .int .i64 8]) (by simp [results, Tryd.results24, go_sem, p0, p1, p2, p3]) rfl ?_
      rw [HF.out]
      exact ⟨_, rfl, OwR.nil _ _, (fun g hg => by cases hg), HB.out.trans hbf⟩
    have hfb : decide (ak + 4 < c.next) = false := by simpa using hfl
    rw [hfb]
    clear hfb
    have HF := Lib.hid (HV2.out.trans (if_neg hfl))
    have x0 := HX.out.cell 0 _ rfl; have x1 := HX.out.cell 1 _ rfl; have x2 := HX.out.cell 2 _ rfl; have x3 := HX.out.cell 3 _ rfl
    have t0 := HX.out.thaw 0; have t1 := HX.out.thaw 1; have t2 := HX.out.thaw 2; have t3 := HX.out.thaw 3
    go_wp2_with fail
    refine (custCopy_calls c _ _ _ HS.out (by omega)).mono ?_
    rintro e w6 ⟨v6, rfl, ho6, hg6, hb6⟩
    obtain ⟨ra, rc, rfl⟩ := ho6.shape
    clear x0 x1 x2 x3 t0 t1 t2 t3
    have hlt6 : w.heap.size + 1 + 1 < wx.heap.size := HR.out.lt
    replace HX := Lib.hid (HX.out.below hb6)
    replace HP := Lib.hid (HP.out.below hb6)
    replace HR := Lib.hid (HR.out.below hb6)
    replace HB := Lib.hid (below_step HB.out hb6)
    replace HS := Lib.hid (HS.out.below rWait_ok (by decide) hb6)
    clear hb6
    have x0 := HX.out.cell 0 _ rfl; have x1 := HX.out.cell 1 _ rfl; have x2 := HX.out.cell 2 _ rfl; have x3 := HX.out.cell 3 _ rfl
    have t0 := HX.out.thaw 0; have t1 := HX.out.thaw 1; have t2 := HX.out.thaw 2; have t3 := HX.out.thaw 3
    have o0 := HP.out.cell 0 _ rfl; have o1 := HP.out.cell 1 _ rfl; have o2 := HP.out.cell 2 _ rfl; have o3 := HP.out.cell 3 _ rfl
    have HG6 := Lib.hid (show ∀ g, (Value.slice ra c.waits.length rc).ownBlock = some g → w.heap.size + 1 + 1 < g from fun g hg => Nat.lt_of_lt_of_le hlt6 (hg6 g hg))
    have hx7 := ((((HX.out).set 0 (by simp) (.int .i64 c.id)).set 1 (by simp) (.int .i64 c.session)).set 2 (by simp) (.int .i64 c.next)).set 3 (by simp) (.slice ra c.waits.length rc)
    have HX7 := Lib.hid hx7
    have HP7 := Lib.hid (HP.out.keep (w' := (((w6.setCell ⟨w.heap.size, 0, none⟩ (.int .i64 c.id)).setCell ⟨w.heap.size, 1, none⟩ (.int .i64 c.session)).setCell ⟨w.heap.size, 2, none⟩ (.int .i64 c.next)).setCell ⟨w.heap.size, 3, none⟩ (.slice ra c.waits.length rc)) ((heap_far (by omega)).trans ((heap_far (by omega)).trans ((heap_far (by omega)).trans (heap_far (by omega))))))
    have HR7 := Lib.hid (HR.out.keep (w' := (((w6.setCell ⟨w.heap.size, 0, none⟩ (.int .i64 c.id)).setCell ⟨w.heap.size, 1, none⟩ (.int .i64 c.session)).setCell ⟨w.heap.size, 2, none⟩ (.int .i64 c.next)).setCell ⟨w.heap.size, 3, none⟩ (.slice ra c.waits.length rc)) ((heap_far (by omega)).trans ((heap_far (by omega)).trans ((heap_far (by omega)).trans (heap_far (by omega))))))
    have HB7 := Lib.hid (HB.out.trans (below_set (below_set (below_set (below_set (Below.refl (w.heap.size) w6) (Nat.le_refl _) 0 (.int .i64 c.id)) (Nat.le_refl _) 1 (.int .i64 c.session)) (Nat.le_refl _) 2 (.int .i64 c.next)) (Nat.le_refl _) 3 (.slice ra c.waits.length rc)))
    have HO7 := Lib.hid (show OwR 97 5 rWait ((((w6.setCell ⟨w.heap.size, 0, none⟩ (.int .i64 c.id)).setCell ⟨w.heap.size, 1, none⟩ (.int .i64 c.session)).setCell ⟨w.heap.size, 2, none⟩ (.int .i64 c.next)).setCell ⟨w.heap.size, 3, none⟩ (.slice ra c.waits.length rc)) (.slice ra c.waits.length rc) c.waits (fun _ => False) from ho6.move rWait_ok (fun g hg => (heap_far (by have := HG6.out g hg; omega)).trans ((heap_far (by have := HG6.out g hg; omega)).trans ((heap_far (by have := HG6.out g hg; omega)).trans (heap_far (by have := HG6.out g hg; omega))))) (fun b hb => hb.elim))
    clear hx7 ho6 hg6
    go_upto_region 12 with (fail)
    generalize (((w6.setCell ⟨w.heap.size, 0, none⟩ (.int .i64 c.id)).setCell ⟨w.heap.size, 1, none⟩ (.int .i64 c.session)).setCell ⟨w.heap.size, 2, none⟩ (.int .i64 c.next)).setCell ⟨w.heap.size, 3, none⟩ (.slice ra c.waits.length rc) = w7 at *
    have e1 : IntKind.i64.wrap (c.next + 1) = c.next + 1 := IntWalk.i64_in _ (by omega)
    clear x0 x1 x2 x3 t0 t1 t2 t3 o0 o1 o2 o3 HX HP HR HB HS
    have x2 := HX7.out.cell 2 _ rfl; have x3 := HX7.out.cell 3 _ rfl
    have o0 := HP7.out.cell 0 _ rfl; have o1 := HP7.out.cell 1 _ rfl; have o2 := HP7.out.cell 2 _ rfl; have o3 := HP7.out.cell 3 _ rfl
    go_wp2_with (at_builtin; refine wpList_app1 Tryd.tyWaits (.tmp 39) (.tmp 44) rfl rfl rWait_ok ⟨c.next, op⟩ rfl rfl rfl HO7.out rfl (by omega) ?_; intro v8 w8 ho8 hg8 hv8; have hx8 := HX7.out.grown hg8 (fun e => by have := HG6.out _ e.symm; omega); have hr8 := HR7.out.grown hg8 (fun e => by have := HG6.out _ e.symm; omega); have y0 := hx8.cell 0 _ rfl; have y1 := hx8.cell 1 _ rfl; have y2 := hx8.cell 2 _ rfl; have y3 := hx8.cell 3 _ rfl; have s2 := hx8.thaw 2; have s3 := hx8.thaw 3; have r0 := hr8.cell 0 _ rfl; have r1 := hr8.cell 1 _ rfl; have r2 := hr8.cell 2 _ rfl; have r3 := hr8.cell 3 _ rfl; have f0 := hr8.thaw 0; have f1 := hr8.thaw 1; have f2 := hr8.thaw 2; have f3 := hr8.thaw 3; have hb8 := HB7.out.grown hg8 HB7.out.size (fun k hk => by have := HG6.out k hk; omega); have hg9 := own_next (v := .slice ra c.waits.length rc) HG6.out HR7.out.lt hv8; obtain ⟨ra8, rc8, e8⟩ : ∃ a c8, v8 = .slice a (c.waits.length + 1) c8 := (by obtain ⟨a, c8, e⟩ := ho8.shape; exact ⟨a, c8, by rw [e]; congr 1; simp⟩); subst e8)
    have hr9 := (hr8.far (c := w.heap.size) (by omega) 3 (.slice ra8 (c.waits.length + 1) rc8)).far (c := w.heap.size) (by omega) 2 (.int .i64 (c.next + 1))
    have hp := ((((hr9).set 0 (by simp) (.int .i64 c.id)).set 1 (by simp) (.int .i64 c.session)).set 2 (by simp) (.int .i64 (c.next + 1))).set 3 (by simp) (.slice ra8 (c.waits.length + 1) rc8)
    have hbf := below_set (b := w.heap.size + 1 + 1) (below_set (b := w.heap.size + 1 + 1) (below_set (b := w.heap.size + 1 + 1) (below_set (b := w.heap.size + 1 + 1) (Below.refl (w.heap.size) ((w8.setCell ⟨w.heap.size, 3, none⟩ (.slice ra8 (c.waits.length + 1) rc8)).setCell ⟨w.heap.size, 2, none⟩ (.int .i64 (c.next + 1)))) (by omega) 0 (.int .i64 c.id)) (by omega) 1 (.int .i64 c.session)) (by omega) 2 (.int .i64 (c.next + 1))) (by omega) 3 (.slice ra8 (c.waits.length + 1) rc8)
    have hb9 : Below w.heap.size w8 ((w8.setCell ⟨w.heap.size, 3, none⟩ (.slice ra8 (c.waits.length + 1) rc8)).setCell ⟨w.heap.size, 2, none⟩ (.int .i64 (c.next + 1))) := below_set (b := w.heap.size) (below_set (b := w.heap.size) (Below.refl _ _) (Nat.le_refl _) 3 _) (Nat.le_refl _) 2 _
    have ho9 : OwR 97 5 rWait ((((((w8.setCell ⟨w.heap.size, 3, none⟩ (.slice ra8 (c.waits.length + 1) rc8)).setCell ⟨w.heap.size, 2, none⟩ (.int .i64 (c.next + 1))).setCell ⟨w.heap.size + 1 + 1, 0, none⟩ (.int .i64 c.id)).setCell ⟨w.heap.size + 1 + 1, 1, none⟩ (.int .i64 c.session)).setCell ⟨w.heap.size + 1 + 1, 2, none⟩ (.int .i64 (c.next + 1))).setCell ⟨w.heap.size + 1 + 1, 3, none⟩ (.slice ra8 (c.waits.length + 1) rc8)) (.slice ra8 (c.waits.length + 1) rc8) (c.waits ++ [⟨c.next, op⟩]) (fun _ => False) := ho8.move rWait_ok (fun g hg => (heap_far (by have := hg9 g hg; omega)).trans ((heap_far (by have := hg9 g hg; omega)).trans ((heap_far (by have := hg9 g hg; omega)).trans ((heap_far (by have := hg9 g hg; omega)).trans ((heap_far (by have := hg9 g hg; omega)).trans (heap_far (by have := hg9 g hg; omega))))))) (fun b hb => hb.elim)
    generalize (((((w8.setCell ⟨w.heap.size, 3, none⟩ (.slice ra8 (c.waits.length + 1) rc8)).setCell ⟨w.heap.size, 2, none⟩ (.int .i64 (c.next + 1))).setCell ⟨w.heap.size + 1 + 1, 0, none⟩ (.int .i64 c.id)).setCell ⟨w.heap.size + 1 + 1, 1, none⟩ (.int .i64 c.session)).setCell ⟨w.heap.size + 1 + 1, 2, none⟩ (.int .i64 (c.next + 1))).setCell ⟨w.heap.size + 1 + 1, 3, none⟩ (.slice ra8 (c.waits.length + 1) rc8) = wf at *
    have p0 := hp.cell 0 _ rfl; have p1 := hp.cell 1 _ rfl; have p2 := hp.cell 2 _ rfl; have p3 := hp.cell 3 _ rfl
    refine bodyPost_ret (v := .tuple #[.agg #[.int .i64 c.id, .int .i64 c.session, .int .i64 (c.next + 1), .slice ra8 (c.waits.length + 1) rc8], .int .i64 0]) (by simp [results, Tryd.results24, go_sem, p0, p1, p2, p3]) rfl ?_
    rw [HF.out]
    exact ⟨_, rfl, ho9, (fun g hg => by have := hg9 g hg; omega), hb8.trans (hb9.trans hbf)⟩

set_option linter.unusedSimpArgs false in
set_option maxRecDepth 100000 in
set_option maxHeartbeats 1600000 in
theorem custHello_calls (c : CustomerD) (v : Value) (S : Nat → Prop) (w : World) (h : SlR 5 rWait w v c.waits S) (hok : CustOk c) :
    Calls Tryd.prog 25 #[.agg #[.int .i64 c.id, .int .i64 c.session, .int .i64 c.next, v]] w fun e w' => e = .returned (.tuple #[.string ⟨(custHello c).1.toArray⟩, .int .i64 (custHello c).2]) ∧ Below w.heap.size w w' := by
  have HV := Lib.hid (show custHello c = cmdEncode ⟨1, c.id, 0, 0, 0, noOp⟩ by rw [custHello, if_neg (by simp [custCheck_ok.2 hok])])
  have HK := Lib.hid hok
  have hone := h.oneCell
  obtain ⟨a, cap, hv, hl, hm, -, -⟩ := id h
  subst hv
  have HS := Lib.hid h
  clear h hok hm
  go_enter Tryd.func25, Tryd.ntmps25
  go_wp2_with fail
  refine (custCheck_calls c _ S _ (HS.out.below rWait_ok (by decide) (below_alloc w _)) HK.out).mono ?_
  rintro e w1 ⟨rfl, hb1⟩
  rw [World.size_alloc] at hb1
  obtain ⟨hz, -, hzs⟩ := Tk.fresh hb1
  have z0 := hz 0
  have HB := Lib.hid ((below_alloc w _).trans (hb1.mono (by omega)))
  clear hz hb1
  have hw : ∀ s ∈ words ⟨1, c.id, 0, 0, 0, noOp⟩, s.length ≤ 1000000 := by
    intro s hs
    simp only [words, noOp, List.mem_cons, List.not_mem_nil, or_false] at hs
    rcases hs with rfl | rfl <;> decide
  go_wp2_with fail
  refine (encode_calls ⟨1, c.id, 0, 0, 0, noOp⟩ _ hw).mono ?_
  obtain ⟨r1, r2, hr⟩ : ∃ r1 r2, custHello c = (r1, r2) := ⟨_, _, rfl⟩
  rw [← HV.out, hr]
  have HR := Lib.hid hr
  clear hr
  rintro e w2 ⟨rfl, hb2⟩
  go_wp2
  go_ret2
  exact ⟨by rw [HR.out]; rfl, below_step HB.out hb2⟩
end Go.Proofs.YtphkkkmjkagkbaaDoor
