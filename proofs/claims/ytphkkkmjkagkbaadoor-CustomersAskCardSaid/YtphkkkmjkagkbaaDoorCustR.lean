/- customer.Request. -/
import Derived.Test.YtphkkkmjkagkbaaDoorCustS
namespace Go.Proofs.YtphkkkmjkagkbaaDoor
open Go.RowKit Go.Tk

set_option linter.unusedSimpArgs false in
set_option maxRecDepth 100000 in
set_option maxHeartbeats 3200000 in
theorem custRequest_calls (c : CustomerD) (k : Int) (v : Value) (S : Nat → Prop) (w : World) (h : SlR 5 rWait w v c.waits S) (hok : CustOk c) (hk : -9223372036854775808 ≤ k ∧ k ≤ 9223372036854775807) :
    Calls Tryd.prog 27 #[.agg #[.int .i64 c.id, .int .i64 c.session, .int .i64 c.next, v], .int .i64 k] w fun e w' => e = .returned (.tuple #[.string ⟨(custRequest c k).1.toArray⟩, .int .i64 (custRequest c k).2]) ∧ Below w.heap.size w w' := by
  have HV := Lib.hid (show custRequest c k = if k < 0 ∨ c.waits.length ≤ k then ([], 6) else cmdEncode ⟨2, c.id, c.session, (c.waits.getD k.toNat noWait).seq, custAcked c, (c.waits.getD k.toNat noWait).op⟩ by rw [custRequest, if_neg (by simp [custCheck_ok.2 hok])])
  have hlen := hok.len
  have HK := Lib.hid hok
  obtain ⟨k0, k1⟩ := hk
  have hone := h.oneCell
  obtain ⟨a, cap, hv, hl, hm, -, -⟩ := id h
  subst hv
  unfold maxLen at hm
  have HS := Lib.hid h
  clear h hok
  go_enter Tryd.func27, Tryd.ntmps27
  go_wp2_with fail
  refine (custCheck_calls c _ S _ (HS.out.below rWait_ok (by decide) (below_alloc w _)) HK.out).mono ?_
  rintro e w1 ⟨rfl, hb1⟩
  rw [World.size_alloc] at hb1
  have HX := Lib.hid ((BoxAt.new (w := w) (cs := [.int .i64 c.id, .int .i64 c.session, .int .i64 c.next, .slice a c.waits.length cap]) (E := 63)).keep (hb1.block w.heap.size (by omega)))
  have HB := Lib.hid ((below_alloc w _).trans (hb1.mono (by omega)))
  replace HS := Lib.hid (HS.out.below rWait_ok (by decide) HB.out)
  clear hb1
  have x3 := HX.out.cell 3 _ rfl
  by_cases h1 : k < 0
  · have HF := Lib.hid (HV.out.trans (if_pos (.inl h1)))
    go_wp2
    go_ret2
    exact ⟨by rw [HF.out]; rfl, HB.out⟩
  by_cases h2 : (c.waits.length : Int) ≤ k
  · have HF := Lib.hid (HV.out.trans (if_pos (.inr h2)))
    go_wp2
    go_ret2
    exact ⟨by rw [HF.out]; rfl, HB.out⟩
  obtain ⟨i, rfl⟩ : ∃ i : Nat, k = i := ⟨k.toNat, by omega⟩
  have hi : i < c.waits.length := by omega
  obtain ⟨b, off, cap', row, hv, hSb, hrow, hcells⟩ := HS.out.row i hi
  simp only [Value.slice.injEq] at hv
  obtain ⟨rfl, _, rfl⟩ := hv
  obtain rfl := hrow
  have q0 := hcells 0 _ rfl
  have q1 := hcells 1 _ rfl
  have q2 := hcells 2 _ rfl
  have q3 := hcells 3 _ rfl
  have q4 := hcells 4 _ rfl
  simp only [Nat.add_zero] at q0
  clear hcells
  have hgd : c.waits.getD i noWait = c.waits[i] := by simp [List.getD, hi]
  have hop := (HK.out.all i hi).2
  have HV2 := Lib.hid (HV.out.trans (if_neg (by omega)))
  rw [Int.toNat_natCast, hgd] at HV2
  rw [hgd] at hop
  have HWL := Lib.hid (show ∀ s ∈ words ⟨2, c.id, c.session, c.waits[i].seq, custAcked c, c.waits[i].op⟩, s.length ≤ 1000000 from by
    intro s hs
    simp only [words, List.mem_cons, List.not_mem_nil, or_false] at hs
    have := (lkName_len hop.name).2
    have := hop.size
    rcases hs with rfl | rfl <;> omega)
  clear HV hop hgd h1 h2
  generalize c.waits[i] = x at *
  obtain ⟨ak, hak⟩ : ∃ ak, custAcked c = ak := ⟨_, rfl⟩
  rw [hak] at HV2 HWL
  have HAK := Lib.hid hak
  obtain ⟨r1, r2, hr⟩ : ∃ r1 r2, custRequest c i = (r1, r2) := ⟨_, _, rfl⟩
  have HR := Lib.hid hr
  rw [hr] at HV2
  clear hak hr
  go_upto_region 7 with (fail)
  clear q0 q1 q2 q3 q4 x3
  have hdi : decide (c.waits.length ≤ i) = false := by simp; omega
  simp only [hdi, Bool.or_false]
  clear hdi
  have HW := Lib.hid (BoxAt.new (w := w1) (cs := [.int .i64 x.seq, .int .i64 x.op.kind, .string ⟨x.op.a.toArray⟩, .string ⟨x.op.b.toArray⟩, .int .i64 x.op.n]) (E := 97))
  have hba := below_alloc w1 (.cells #[.int .i64 x.seq, .int .i64 x.op.kind, .string ⟨x.op.a.toArray⟩, .string ⟨x.op.b.toArray⟩, .int .i64 x.op.n] 97)
  replace HX := Lib.hid (HX.out.below hba)
  replace HB := Lib.hid (below_step HB.out hba)
  replace HS := Lib.hid (HS.out.below rWait_ok (by decide) hba)
  clear hba
  generalize w1.alloc (.cells #[.int .i64 x.seq, .int .i64 x.op.kind, .string ⟨x.op.a.toArray⟩, .string ⟨x.op.b.toArray⟩, .int .i64 x.op.n] 97) = w2 at *
  generalize w1.heap.size = B7 at *
  refine wp_region_plan 16 (fun wx => Below w2.heap.size w2 wx) (fun wx wy => Below wx.heap.size wx wy) [eqV (.pointer (some ⟨w.heap.size, 0, none⟩)), eqV (.int .i64 c.id), eqV (.pointer (some ⟨w.heap.size, 1, none⟩)), eqV (.int .i64 c.session), eqV (.pointer (some ⟨B7, 0, none⟩)), eqV (.int .i64 x.seq), eqV (.agg #[.int .i64 c.id, .int .i64 c.session, .int .i64 c.next, .slice (some ⟨b, off, none⟩) c.waits.length cap]), eqV (.int .i64 ak), eqV (.pointer (some ⟨B7, 1, none⟩)), eqV (.agg #[.int .i64 x.op.kind, .string ⟨x.op.a.toArray⟩, .string ⟨x.op.b.toArray⟩, .int .i64 x.op.n]), eqV (.agg #[.int .i64 2, .int .i64 c.id, .int .i64 c.session, .int .i64 x.seq, .int .i64 ak, .int .i64 x.op.kind, .string ⟨x.op.a.toArray⟩, .string ⟨x.op.b.toArray⟩, .int .i64 x.op.n]), eqV (.tuple #[.string ⟨r1.toArray⟩, .int .i64 r2]), eqV (.string ⟨r1.toArray⟩), eqV (.int .i64 r2), eqV (.string ⟨r1.toArray⟩), eqV (.int .i64 r2)] (by kernel_rfl) (by kernel_rfl) rfl ?hJ ?hJS ?hst ?hobl ?hend
  case hJ => exact Below.drew (Below.refl _ _)
  case hJS =>
    exact fun wx wy h1 h2 => below_step h1 h2
  case hst => exact planStab_at _ ⟨eqV_stab _, eqV_stab _, eqV_stab _, eqV_stab _, eqV_stab _, eqV_stab _, eqV_stab _, eqV_stab _, eqV_stab _, eqV_stab _, eqV_stab _, eqV_stab _, eqV_stab _, eqV_stab _, eqV_stab _, eqV_stab _, trivial⟩
  case hobl =>
    simp only [planObls, List.take_succ_cons, List.take_zero, planPut, Act.put, List.setIfInBounds_toArray, List.set_cons_zero, List.set_cons_succ, Nat.reduceAdd, Nat.zero_add]
    refine ⟨?_, ?_, ?_, ?_, ?_, ?_, ?_, ?_, ?_, ?_, ?_, ?_, ?_, ?_, ?_, ?_, trivial⟩
    · intro vs wx hJ hn K hK
      simp [planNeeds, VAt, eqV, Region.binds] at hn
      simp only [VAt, eqV, List.getD_cons_zero, List.getD_cons_succ, Act.put, List.setIfInBounds_toArray, List.set_cons_zero, List.set_cons_succ, Nat.reduceAdd, Nat.zero_add] at hK
      go_wp2
      exact hK _ _ (Below.refl _ _) rfl
    · intro vs wx hJ hn K hK
      simp [planNeeds, VAt, eqV, Region.binds] at hn
      simp only [VAt, eqV, List.getD_cons_zero, List.getD_cons_succ, Act.put, List.setIfInBounds_toArray, List.set_cons_zero, List.set_cons_succ, Nat.reduceAdd, Nat.zero_add] at hK
      simp only [hn] at hK ⊢
      have x0 := (HX.out.below hJ).cell 0 _ rfl
      go_wp2
      exact hK _ _ (Below.refl _ _) rfl
    · intro vs wx hJ hn K hK
      simp [planNeeds, VAt, eqV, Region.binds] at hn
      simp only [VAt, eqV, List.getD_cons_zero, List.getD_cons_succ, Act.put, List.setIfInBounds_toArray, List.set_cons_zero, List.set_cons_succ, Nat.reduceAdd, Nat.zero_add] at hK
      go_wp2
      exact hK _ _ (Below.refl _ _) rfl
    · intro vs wx hJ hn K hK
      simp [planNeeds, VAt, eqV, Region.binds] at hn
      simp only [VAt, eqV, List.getD_cons_zero, List.getD_cons_succ, Act.put, List.setIfInBounds_toArray, List.set_cons_zero, List.set_cons_succ, Nat.reduceAdd, Nat.zero_add] at hK
      simp only [hn] at hK ⊢
      have x1 := (HX.out.below hJ).cell 1 _ rfl
      go_wp2
      exact hK _ _ (Below.refl _ _) rfl
    · intro vs wx hJ hn K hK
      simp [planNeeds, VAt, eqV, Region.binds] at hn
      simp only [VAt, eqV, List.getD_cons_zero, List.getD_cons_succ, Act.put, List.setIfInBounds_toArray, List.set_cons_zero, List.set_cons_succ, Nat.reduceAdd, Nat.zero_add] at hK
      go_wp2
      exact hK _ _ (Below.refl _ _) rfl
    · intro vs wx hJ hn K hK
      simp [planNeeds, VAt, eqV, Region.binds] at hn
      simp only [VAt, eqV, List.getD_cons_zero, List.getD_cons_succ, Act.put, List.setIfInBounds_toArray, List.set_cons_zero, List.set_cons_succ, Nat.reduceAdd, Nat.zero_add] at hK
      simp only [hn] at hK ⊢
      have y0 := (HW.out.below hJ).cell 0 _ rfl
      go_wp2
      exact hK _ _ (Below.refl _ _) rfl
    · intro vs wx hJ hn K hK
      simp [planNeeds, VAt, eqV, Region.binds] at hn
      simp only [VAt, eqV, List.getD_cons_zero, List.getD_cons_succ, Act.put, List.setIfInBounds_toArray, List.set_cons_zero, List.set_cons_succ, Nat.reduceAdd, Nat.zero_add] at hK
      have hx := HX.out.below hJ
      have x0 := hx.cell 0 _ rfl; have x1 := hx.cell 1 _ rfl; have x2 := hx.cell 2 _ rfl; have x3 := hx.cell 3 _ rfl
      go_wp2
      exact hK _ _ (Below.refl _ _) rfl
    · intro vs wx hJ hn K hK
      simp [planNeeds, VAt, eqV, Region.binds] at hn
      simp only [VAt, eqV, List.getD_cons_zero, List.getD_cons_succ, Act.put, List.setIfInBounds_toArray, List.set_cons_zero, List.set_cons_succ, Nat.reduceAdd, Nat.zero_add] at hK
      simp only [hn] at hK ⊢
      have hsx := HS.out.below rWait_ok (by decide) hJ
      go_wp2_with fail
      refine (custAcked_calls c _ _ _ hsx HK.out).mono ?_; rw [HAK.out]; rintro e w5 ⟨rfl, hb5⟩
      go_wp2
      exact hK _ _ hb5 rfl
    · intro vs wx hJ hn K hK
      simp [planNeeds, VAt, eqV, Region.binds] at hn
      simp only [VAt, eqV, List.getD_cons_zero, List.getD_cons_succ, Act.put, List.setIfInBounds_toArray, List.set_cons_zero, List.set_cons_succ, Nat.reduceAdd, Nat.zero_add] at hK
      go_wp2
      exact hK _ _ (Below.refl _ _) rfl
    · intro vs wx hJ hn K hK
      simp [planNeeds, VAt, eqV, Region.binds] at hn
      simp only [VAt, eqV, List.getD_cons_zero, List.getD_cons_succ, Act.put, List.setIfInBounds_toArray, List.set_cons_zero, List.set_cons_succ, Nat.reduceAdd, Nat.zero_add] at hK
      simp only [hn] at hK ⊢
      have hy := HW.out.below hJ
      have y1 := hy.cell 1 _ rfl; have y2 := hy.cell 2 _ rfl; have y3 := hy.cell 3 _ rfl; have y4 := hy.cell 4 _ rfl
      go_wp2
      exact hK _ _ (Below.refl _ _) rfl
    · intro vs wx hJ hn K hK
      simp [planNeeds, VAt, eqV, Region.binds] at hn
      simp only [VAt, eqV, List.getD_cons_zero, List.getD_cons_succ, Act.put, List.setIfInBounds_toArray, List.set_cons_zero, List.set_cons_succ, Nat.reduceAdd, Nat.zero_add] at hK
      simp only [hn] at hK ⊢
      go_wp2
      exact hK _ _ (Below.refl _ _) rfl
    · intro vs wx hJ hn K hK
      simp [planNeeds, VAt, eqV, Region.binds] at hn
      simp only [VAt, eqV, List.getD_cons_zero, List.getD_cons_succ, Act.put, List.setIfInBounds_toArray, List.set_cons_zero, List.set_cons_succ, Nat.reduceAdd, Nat.zero_add] at hK
      simp only [hn] at hK ⊢
      go_wp2_with fail
      refine (encode_calls ⟨2, c.id, c.session, x.seq, ak, x.op⟩ _ HWL.out).mono ?_; rw [← HV2.out]; rintro e w6 ⟨rfl, hb6⟩
      go_wp2
      exact hK _ _ hb6 rfl
    · intro vs wx hJ hn K hK
      simp [planNeeds, VAt, eqV, Region.binds] at hn
      simp only [VAt, eqV, List.getD_cons_zero, List.getD_cons_succ, Act.put, List.setIfInBounds_toArray, List.set_cons_zero, List.set_cons_succ, Nat.reduceAdd, Nat.zero_add] at hK
      simp only [hn] at hK ⊢
      go_wp2
      exact hK _ _ (Below.refl _ _) rfl
    · intro vs wx hJ hn K hK
      simp [planNeeds, VAt, eqV, Region.binds] at hn
      simp only [VAt, eqV, List.getD_cons_zero, List.getD_cons_succ, Act.put, List.setIfInBounds_toArray, List.set_cons_zero, List.set_cons_succ, Nat.reduceAdd, Nat.zero_add] at hK
      simp only [hn] at hK ⊢
      go_wp2
      exact hK _ _ (Below.refl _ _) rfl
    · intro vs wx hJ hn K hK
      simp [planNeeds, VAt, eqV, Region.binds] at hn
      simp only [VAt, eqV, List.getD_cons_zero, List.getD_cons_succ, Act.put, List.setIfInBounds_toArray, List.set_cons_zero, List.set_cons_succ, Nat.reduceAdd, Nat.zero_add] at hK
      simp only [hn] at hK ⊢
      go_wp2
      exact hK _ _ (Below.refl _ _) rfl
    · intro vs wx hJ hn K hK
      simp [planNeeds, VAt, eqV, Region.binds] at hn
      simp only [VAt, eqV, List.getD_cons_zero, List.getD_cons_succ, Act.put, List.setIfInBounds_toArray, List.set_cons_zero, List.set_cons_succ, Nat.reduceAdd, Nat.zero_add] at hK
      simp only [hn] at hK ⊢
      go_wp2
      exact hK _ _ (Below.refl _ _) rfl
  case hend =>
    intro vs wx hJ hv
    simp [planHave, eqV] at hv
    obtain ⟨e0, e1, e2, e3, e4, e5, e6, e7, e8, e9, e10, e11, e12, e13, e14, e15⟩ := hv
    simp only [List.take_succ_cons, List.take_zero, List.drop_succ_cons, List.drop_zero, planPut, Act.put, List.setIfInBounds_toArray, List.set_cons_zero, List.set_cons_succ, Nat.reduceAdd, Nat.zero_add]
    rw [e0, e1, e2, e3, e4, e5, e6, e7, e8, e9, e10, e11, e12, e13, e14, e15]
    clear e0 e1 e2 e3 e4 e5 e6 e7 e8 e9 e10 e11 e12 e13 e14 e15
    replace HX := Lib.hid (HX.out.below hJ)
    replace HB := Lib.hid (below_step HB.out hJ)
    replace HS := Lib.hid (HS.out.below rWait_ok (by decide) hJ)
    replace HW := Lib.hid (HW.out.below hJ)
    clear hJ
    go_wp2
    go_ret2
    exact ⟨by rw [HR.out]; rfl, HB.out⟩
end Go.Proofs.YtphkkkmjkagkbaaDoor
