/- CallsOnce: a call is to be done once; asked again it is answered the same, till its client knows it; no condition. -/
import Derived.Test.YtcjnnkbliapkgaaReady
import Derived.Test.YtcjnnkbliapkgaaKeep
import Derived.Test.YtcjnnkbliapkgaaCodec
import Derived.Test.YtcjnnkbliapkgaaNumP
import Derived.ProofKit
import Derived.OpenShut
namespace Go.Proofs.Ytcjnnkbliapkgaa
open Go.RowKit Go.Tk
open Go.ChangeShapes Go.WideShapes Go.ChangeAt
open Go.WideMaps Go.WideElems
open Go.ChangeMaps (setBlock shut_map_nil open_string shut_string keptBut_setBlock frozen?_setBlock heap_setBlock_same)

set_option maxRecDepth 100000 in
set_option maxHeartbeats 1600000 in
theorem callsOnce_calls (a b d : Int) (ha : -9223372036854775808 ≤ a) (ha2 : a ≤ 9223372036854775807) (hb : -9223372036854775808 ≤ b) (hb2 : b ≤ 9223372036854775807) (hd : -9223372036854775808 ≤ d) (hd2 : d ≤ 9223372036854775807) (w : World) :
    Calls Try.prog 6 #[.int .i64 a, .int .i64 b, .int .i64 d] w fun e w' => e = .returned (.bool true) ∧ Below w.heap.size w w' := by
  obtain ⟨c, hc, hc0, hc1⟩ : ∃ c, picked a 9 = c ∧ 0 ≤ c ∧ c < 9 := ⟨_, rfl, by unfold picked; split <;> omega, by unfold picked; split <;> omega⟩
  obtain ⟨k, hk, hk0, hk1⟩ : ∃ k, picked b 4 = k ∧ 0 ≤ k ∧ k < 4 := ⟨_, rfl, by unfold picked; split <;> omega, by unfold picked; split <;> omega⟩
  obtain ⟨n, hn, hn0, hn1⟩ : ∃ n, picked d 100 = n ∧ 0 ≤ n ∧ n < 100 := ⟨_, rfl, by unfold picked; split <;> omega, by unfold picked; split <;> omega⟩
  have PC := Lib.hid hc
  have PK := Lib.hid hk
  have PN := Lib.hid hn
  have PJ := Lib.hid (first_join (1 + c) (by omega))
  have PO := Lib.hid (calls_once (1 + c) (1 + k) n (by omega) (by omega) (by omega))
  clear hc hk hn
  have hw1 : IntKind.i64.wrap (1 + c) = 1 + c := IntWalk.i64_in _ (by omega)
  have hw2 : IntKind.i64.wrap (1 + k) = 1 + k := IntWalk.i64_in _ (by omega)
  have hw3 : IntKind.i64.wrap (1 + k + 1) = 1 + k + 1 := IntWalk.i64_in _ (by omega)
  go_enter Try.func6, Try.ntmps6
  go_wp2_with fail
  refine (picked_calls a _ (by omega) (by omega) ha ha2 _).mono ?_
  rw [PC.out]; rintro e w' ⟨rfl, rfl⟩
  go_wp2_with fail
  refine (join_calls [] 0 (1 + c) _ _ _ (SlR.nil _ (fun _ => False)) (by omega)).mono ?_
  rw [PJ.out]; rintro e w1 ⟨v1, rfl, hl1, hb1⟩
  have ho1 := hl1.oneCell
  go_wp2_with fail
  refine (picked_calls b _ (by omega) (by omega) hb hb2 _).mono ?_
  rw [PK.out]; rintro e w' ⟨rfl, rfl⟩
  go_wp2_with fail
  refine (ready_calls _ 1 2 (1 + c) 1 (1 + k) 0 noOp _ _ _ (hl1.below rSession_ok (by decide) (below_alloc2 w1 _ _)) (by omega)).mono ?_
  rw [PO.out.1]; rintro e w2 ⟨v2, rfl, hl2, hb2⟩
  have hx2 := hb2
  rw [size_alloc2] at hx2
  have ho2 := hl2.oneCell
  have hs2 := hx2.size
  rw [size_alloc2] at hs2
  go_wp2_with fail
  refine (picked_calls d _ (by omega) (by omega) hd hd2 _).mono ?_
  rw [PN.out]; rintro e w' ⟨rfl, rfl⟩
  go_wp2_with fail
  refine (keep_calls _ 2 (1 + c) (1 + k) ⟨0, n, [120]⟩ _ _ _ (hl2.below rSession_ok (by decide) (below_alloc w2 _)) (by omega) (by omega)).mono ?_
  rw [PO.out.2.1]; rintro e w3 ⟨v3, rfl, hl3, hb3⟩
  have ho3 := hl3.oneCell
  have hb23 := below_step (below_alloc w2 _) hb3
  have hx3 := hx2.trans (hb23.mono (by omega))
  clear hb3
  have hs3 := hb23.size
  obtain ⟨hz, -, hy, -, hq3⟩ := fresh2 hx3
  have hr3 : w1.heap.size < w3.heap.size := by omega
  have y0 := hy 0; have y1 := hy 1; have y2 := hy 2; have y3 := hy 3; have y4 := hy 4; have y5 := hy 5; have y6 := hy 6; have y7 := hy 7; have y8 := hy 8
  clear hz hy
  go_wp2_with fail
  refine (ready_calls _ 2 2 (1 + c) 1 (1 + k) 0 noOp _ _ _ hl3 (by omega)).mono ?_
  rw [PO.out.2.2.1]; rintro e w4 ⟨v4, rfl, hl4, hb4⟩
  clear y0 y1 y2 y3 y4 y5 y6 y7 y8
  have ho4 := hl4.oneCell
  have hx4 := hx3.trans (hb4.mono (by omega))
  have hs4 := hb4.size
  obtain ⟨hz, -, hy, -, hq4⟩ := fresh2 hx4
  have hr4 : w1.heap.size < w4.heap.size := by omega
  have z1 := hz 1
  clear hz hy
  go_wp2_with fail
  refine (ready_calls _ 3 2 (1 + c) 1 (1 + k + 1) (1 + k) noOp _ _ _ (hl4.below rSession_ok (by decide) (below_alloc w4 _)) (by omega)).mono ?_
  rw [PO.out.2.2.2.1]; rintro e w5 ⟨v5, rfl, hl5, hb5⟩
  clear z1
  have ho5 := hl5.oneCell
  have hb45 := below_step (below_alloc w4 _) hb5
  have hx5 := hx4.trans (hb45.mono (by omega))
  have hs5 := hb45.size
  obtain ⟨hz, -, hy, -, hq5⟩ := fresh2 hx5
  have hr5 : w1.heap.size < w5.heap.size := by omega
  have z1 := hz 1
  clear hz hy
  go_wp2_with fail
  refine (ready_calls _ 3 2 (1 + c) 1 (1 + k + 1) (1 + k) noOp _ _ _ (hl4.below rSession_ok (by decide) (below_step hb45 (below_alloc w5 _))) (by omega)).mono ?_
  rw [PO.out.2.2.2.1]; rintro e w6 ⟨v6, rfl, hl6, hb6⟩
  clear z1
  have ho6 := hl6.oneCell
  have hb56 := below_step (below_alloc w5 _) hb6
  have hx6 := hx5.trans (hb56.mono (by omega))
  have hs6 := hb56.size
  obtain ⟨hz, -, hy, -, hq6⟩ := fresh2 hx6
  have hr6 : w1.heap.size < w6.heap.size := by omega
  have y0 := hy 0; have y1 := hy 1; have y2 := hy 2; have y3 := hy 3; have y4 := hy 4; have y5 := hy 5; have y6 := hy 6; have y7 := hy 7; have y8 := hy 8
  clear hz hy
  go_wp2_with fail
  refine (ready_calls _ 4 2 (1 + c) 1 (1 + k) 0 noOp _ _ _ (hl6.below rSession_ok (by decide) (below_alloc w6 _)) (by omega)).mono ?_
  rw [PO.out.2.2.2.2.1]; rintro e w7 ⟨v7, rfl, hl7, hb7⟩
  clear y0 y1 y2 y3 y4 y5 y6 y7 y8
  have ho7 := hl7.oneCell
  have hb67 := below_step (below_alloc w6 _) hb7
  have hx7 := hx6.trans (hb67.mono (by omega))
  have hs7 := hb67.size
  obtain ⟨hz, -, hy, -, hq7⟩ := fresh2 hx7
  have hr7 : w1.heap.size < w7.heap.size := by omega
  have z1 := hz 1
  clear hz hy
  go_wp2_with fail
  refine (ready_calls _ 3 2 (1 + c) 2 (1 + k + 1) (1 + k) noOp _ _ _ (hl4.below rSession_ok (by decide) (below_step hb45 (below_step hb56 (below_step hb67 (below_alloc w7 _))))) (by omega)).mono ?_
  rw [PO.out.2.2.2.2.2]; rintro e w8 ⟨v8, rfl, hl8, hb8⟩
  clear z1
  have ho8 := hl8.oneCell
  have hb78 := below_step (below_alloc w7 _) hb8
  have hs8 := hb78.size
  rw [World.size_alloc] at hb5 hb6 hb8
  have hg20 := hb5.trans ((below_step hb56 (below_step hb67 hb78)).mono (by have := hb5.size; rw [World.size_alloc] at this; omega))
  have hg24 := hb6.trans ((below_step hb67 hb78).mono (by have := hb6.size; rw [World.size_alloc] at this; omega))
  obtain ⟨ha, -, hq20⟩ := Tk.fresh hg20
  obtain ⟨hbb, -, hq24⟩ := Tk.fresh hg24
  obtain ⟨hcc, -, hq32⟩ := Tk.fresh hb8
  have hq20' : w4.heap.size < w8.heap.size := by omega
  have a0 := ha 0; have a1 := ha 1; have a2 := ha 2
  have b0 := hbb 0; have b1 := hbb 1; have b2 := hbb 2
  have c0 := hcc 0
  clear ha hbb hcc
  have hs1 := hb1.size
  have hbw : Below w.heap.size w w8 := below_step hb1 (((below_alloc2 w1 _ _).trans (hb2.mono (by rw [size_alloc2]; omega))).trans ((below_step hb23 (below_step hb4 (below_step hb45 (below_step hb56 (below_step hb67 hb78))))).mono (by omega)))
  go_wp2_with fail
  refine wp_abs (fun wx => wx.cell? ⟨w4.heap.size, 0, none⟩ = some (.int .i64 0) ∧ wx.cell? ⟨w4.heap.size, 1, none⟩ = some (.int .i64 n) ∧ wx.cell? ⟨w4.heap.size, 2, none⟩ = some (.string ⟨#[120]⟩) ∧
    wx.cell? ⟨w5.heap.size, 0, none⟩ = some (.int .i64 0) ∧ wx.cell? ⟨w5.heap.size, 1, none⟩ = some (.int .i64 0) ∧ wx.cell? ⟨w5.heap.size, 2, none⟩ = some (.string ⟨#[]⟩) ∧
    wx.cell? ⟨w7.heap.size, 0, none⟩ = some (.int .i64 12) ∧ wx.cell? ⟨w8.heap.size, 0, none⟩ = some (.int .i64 11) ∧ Below w.heap.size w wx) ?_ ?_
  · exact ⟨(World.cell?_of_block (Below.heap_alloc w8 _ _ (by show _ < _; omega))).trans a0, (World.cell?_of_block (Below.heap_alloc w8 _ _ (by show _ < _; omega))).trans a1, (World.cell?_of_block (Below.heap_alloc w8 _ _ (by show _ < _; omega))).trans a2,
      (World.cell?_of_block (Below.heap_alloc w8 _ _ (by show _ < _; omega))).trans b0, (World.cell?_of_block (Below.heap_alloc w8 _ _ (by show _ < _; omega))).trans b1, (World.cell?_of_block (Below.heap_alloc w8 _ _ (by show _ < _; omega))).trans b2,
      (World.cell?_of_block (Below.heap_alloc w8 _ _ (by show _ < _; omega))).trans c0, World.cell?_alloc_at _ _ _ _ rfl, hbw.alloc (by omega) _⟩
  clear a0 a1 a2 b0 b1 b2 c0 hbw hg20 hg24 hx2 hx3 hx4 hx5 hx6 hx7 hb23 hb45 hb56 hb67 hb78 hb8 hb6 hb5 hb4 hb1 hb2
  rintro wx ⟨a0, a1, a2, b0, b1, b2, c0, d0, hbx⟩
  have HP : Hid (∀ w : World, Calls Try.prog 12 #[.int .i64 d, .int .i64 100] w fun e w' => e = .returned (.int .i64 n) ∧ w' = w) := fun w => (picked_calls d 100 (by omega) (by omega) hd hd2 w).mono (by rintro e w' ⟨rfl, rfl⟩; exact ⟨by rw [PN.out], rfl⟩)
  go_quiet ((go_at_call 12; exact Calls.quiet_of_same (HP.out _)))
  go_wp2
  go_ret
  exact ⟨rfl, below_drewN hbx _⟩

theorem Try.own4 : ownKnob Try.prog.godebug = none := by kernel_rfl

set_option maxRecDepth 100000 in
theorem callsOnce_lifted (os : Os) (started : os.Started) (H : Type) (enc : TypeId × Value → H) :
    ReturnsInHanded {} Try.checked os 6 .any (Rows.callsOnceSpec.pre6 enc Try.prog Try.f6 Rows.callsOnceRow.domain false) (Rows.callsOnceSpec.post enc Try.prog Try.f6 false true false false) := by
  refine returnsInHanded_of_change_sized (C := Try.checked) Try.own4 started (by kernel_rfl) Try.func6
    (ChangeSpec.witness6 (enc := enc) (C := Try.checked) false ⟨#[], #[.int .i64 0, .int .i64 0, .int .i64 0], []⟩ 8 (by kernel_rfl) (by kernel_rfl) (by kernel_rfl) (by kernel_rfl)) ?_
  intro W base args ds gs before hval0 hW _ _ _
  have hval : ∀ (j : Nat) t v, Try.f6.params[j]? = some t → args[j]? = some v → Value.okWide Try.prog W .any base t v := hval0
  have hW' := hW
  obtain ⟨p, q, hA0, hV, rfl, hfz, hnd⟩ := hW
  have hA : DataW.TrodAll enc Try.prog W 0 (fun _ => true) true Try.f6.params.toList args.toList ds p := hA0
  rw [Try.params6] at hA hval
  obtain ⟨v0, v1, v2, d0, d1, d2, p0, p1, p2, rfl, rfl, rfl, h0, h1, h2⟩ := trodAll_three hA
  obtain ⟨rfl, rfl⟩ := trodVars_none hV
  obtain ⟨n, rfl, rfl, rfl, wn⟩ := open_int Try.underlying3 (hval 0 3 v0 rfl rfl) h0
  obtain ⟨m, rfl, rfl, rfl, wm⟩ := open_int Try.underlying3 (hval 1 3 v1 rfl rfl) h1
  obtain ⟨r, rfl, rfl, rfl, wr⟩ := open_int Try.underlying3 (hval 2 3 v2 rfl rfl) h2
  clear hA0 hval0
  have hwn := bounds_i64 wn
  have hwm := bounds_i64 wm
  have hwr := bounds_i64 wr
  refine (callsOnce_calls n m r hwn.1 hwn.2 hwm.1 hwm.2 hwr.1 hwr.2 W).mono fun e W' ⟨he, hb⟩ => ?_
  subst he
  simp only [List.append_nil] at hW'
  exact ⟨_, rfl, _, _, _, [], [], [], hW', trodAll_mk1 (shut_bool Try.underlying4 true),
    trodAll_mk3 (shut_int Try.underlying3 wn) (shut_int Try.underlying3 wm) (shut_int Try.underlying3 wr), rfl, hb.frame _, fun h => by cases h⟩

theorem callsOnce_holds : Rows.CallsOnceSaid :=
  OpenClaim.holds_of_wide 6 Try.f6 rfl rfl rfl rfl rfl rfl rfl ⟨rfl, rfl, rfl, rfl, rfl⟩ rfl rfl rfl rfl rfl (by kernel_rfl) Try.func6 (by kernel_rfl)
    (of_decide_eq_true (by kernel_rfl)) (by unfold Func.isWrapper; rw [if_neg (of_decide_eq_false (by kernel_rfl))]; exact ⟨rfl, rfl⟩)
    (fun os started H enc _ => callsOnce_lifted os started H enc)
end Go.Proofs.Ytcjnnkbliapkgaa
