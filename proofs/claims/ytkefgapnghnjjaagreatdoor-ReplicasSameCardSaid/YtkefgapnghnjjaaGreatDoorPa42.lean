/- A part of the proof, laid together from: OpC, MapI. -/
import Derived.Test.YtkefgapnghnjjaaGreatDoorPa41
import Derived.Test.YtkefgapnghnjjaaGreatDoorPa18
import Derived.Test.YtkefgapnghnjjaaGreatDoorPa08
import Derived.BigRegion
import Derived.Deep.RegionLaw
import Derived.Deep.DeepCutAuto
import Derived.Deep.DrawnRows
import Derived.Test.YtkefgapnghnjjaaGreatDoorPa09
import Derived.Test.YtkefgapnghnjjaaGreatDoorPa07
import Derived.Maps.Own
import Derived.Maps.OwnOps
import Derived.Maps.Views
set_option linter.unusedSimpArgs false
set_option linter.unusedVariables false
namespace Go.Tk
open Go Go.RowKit
def opCells (o : OpD) : List Value := [.int .i64 o.kind, .string ⟨o.a.toArray⟩, .string ⟨o.b.toArray⟩, .int .i64 o.n]
def OpAt (w : World) (b : Nat) (o : OpD) : Prop := (∀ (j : Nat) (u : Value), (opCells o)[j]? = some u → w.cell? ⟨b, j, none⟩ = some u) ∧ ∀ j, w.frozen? ⟨b, j, none⟩ = false
theorem OpAt.keep {w w' : World} {b : Nat} {c : OpD} (h : OpAt w b c) (hb : w'.heap[b]? = w.heap[b]?) : OpAt w' b c :=
  ⟨fun j u hu => cell_keep (h.1 j u hu) hb, fun j => (World.frozen?_of_block (a := ⟨b, j, none⟩) hb).trans (h.2 j)⟩
theorem OpAt.set {w : World} {b : Nat} {o o' : OpD} (h : OpAt w b o) (i : Nat) (hi : i < 4) (u : Value) (hc : opCells o' = (opCells o).set i u) : OpAt (w.setCell ⟨b, i, none⟩ u) b o' := by
  refine ⟨fun j v hv => ?_, fun j => (World.frozen?_setCell _ _ _ _).trans (h.2 j)⟩
  rw [hc] at hv
  by_cases hij : i = j
  · subst hij
    rw [List.getElem?_set_self (by exact hi)] at hv
    cases hv
    exact World.cell?_setCell_same w ⟨b, i, none⟩ u (h.1 i _ (List.getElem?_eq_getElem (by exact hi)))
  · rw [List.getElem?_set_ne hij] at hv
    exact (cell_near hij).trans (h.1 j v hv)
theorem OpAt.lt {w : World} {b : Nat} {c : OpD} (h : OpAt w b c) : b < w.heap.size := World.block_lt_of_cell? w _ (h.1 0 _ rfl)
theorem OpAt.new {w : World} {o : OpD} {E : Nat} : OpAt (w.alloc (.cells (opCells o).toArray E)) w.heap.size o :=
  ⟨fun j u hu => (World.cell?_alloc_at _ _ _ _ rfl).trans (by simpa using hu), fun j => World.frozen?_alloc_at _ _ _ _ rfl⟩
theorem kinds_cell (p : Int) (h0 : 0 ≤ p) (h1 : p < 9) : ∀ h, ([Value.int .i64 1, .int .i64 2, .int .i64 2, .int .i64 3, .int .i64 3, .int .i64 4, .int .i64 5, .int .i64 5, .int .i64 6])[p.toNat]'h = .int .i64 (kinds.getD p.toNat 0) := by
  intro h
  rcases (show p = 0 ∨ p = 1 ∨ p = 2 ∨ p = 3 ∨ p = 4 ∨ p = 5 ∨ p = 6 ∨ p = 7 ∨ p = 8 by omega) with rfl | rfl | rfl | rfl | rfl | rfl | rfl | rfl | rfl <;> rfl
end Go.Tk
namespace Go.Proofs.YtkefgapnghnjjaaGreatDoor
open Go.RowKit Go.Tk
attribute [local go_sem ↓] Go.wp_at_zero Go.wp_at_succ
set_option linter.unusedSimpArgs false in
set_option maxRecDepth 100000 in
set_option maxHeartbeats 3200000 in
theorem op_calls (r : RawD) (hr : RawOk r) (w : World) :
    Calls Tryz.prog 57 #[.agg #[.int .i64 r.kind, .int .i64 r.a, .int .i64 r.b, .int .i64 r.c]] w fun e w' => e = .returned (valOp (opOf r)) ∧ Below w.heap.size w w' := by
  obtain ⟨⟨k1, k2⟩, ⟨a1, a2⟩, ⟨b1, b2⟩, ⟨c1, c2⟩⟩ := hr
  obtain ⟨p, hp, hp0, hp1⟩ : ∃ p, picked r.kind 9 = p ∧ 0 ≤ p ∧ p < 9 := ⟨_, rfl, picked_in _ _ (by decide)⟩
  have HP := Lib.hid hp
  have HK := Lib.hid (show kindOf r = kinds.getD p.toNat 0 by rw [kindOf, hp])
  have HKI := Lib.hid (kindOf_in r)
  have hpk := kinds_cell p hp0 hp1
  rw [← HK.out] at hpk
  have HO := Lib.hid (show opOf r = if kindOf r = 5 then ⟨5, kname r.a, vtext r.b, 1 + picked r.c 4⟩ else ⟨kindOf r, kname r.a, [], 0⟩ from rfl)
  clear hp HK
  generalize kindOf r = kd at *
  generalize opOf r = oo at *
  go_enter Tryz.func57, Tryz.ntmps57
  go_upto_region 1 with (fail)
  go_cut [3] (fun v wc => ∃ B3 : Nat, v = .pointer (some ⟨B3, 0, none⟩) ∧ Hid (OpAt wc B3 ⟨kd, kname r.a, [], 0⟩) ∧ Hid (Below (w.heap.size + 2) ((w.alloc (.cells #[.int .i64 r.kind, .int .i64 r.a, .int .i64 r.b, .int .i64 r.c] 125)).alloc (.cells #[.int .i64 0, .string ⟨#[]⟩, .string ⟨#[]⟩, .int .i64 0] 43)) wc) ∧ w.heap.size + 2 ≤ B3)
  case first =>
    have hpc : ∀ wx : World, Calls Tryz.prog 30 #[.int .i64 r.kind, .int .i64 9] wx fun e w' => e = .returned (.int .i64 p) ∧ wx = w' := fun wx => by
      have := picked_calls r.kind 9 (by omega) (by omega) k1 k2 wx
      rwa [HP.out] at this
    have HPC := Lib.hid hpc
    clear hpc
    refine wp_region_plan 11 (fun wx => Below (w.heap.size + 2) ((w.alloc (.cells #[.int .i64 r.kind, .int .i64 r.a, .int .i64 r.b, .int .i64 r.c] 125)).alloc (.cells #[.int .i64 0, .string ⟨#[]⟩, .string ⟨#[]⟩, .int .i64 0] 43)) wx) (fun wx wy => Below wx.heap.size wx wy)
      [fun v wx => ∃ b, v = .slice (some ⟨b, 0, none⟩) 9 9 ∧ wx.cell? ⟨b, p.toNat, none⟩ = some (.int .i64 kd), eqV (.pointer (some ⟨w.heap.size, 0, none⟩)), eqV (.int .i64 r.kind), eqV (.int .i64 p), fun v wx => ∃ b, v = .pointer (some ⟨b, p.toNat, none⟩) ∧ wx.cell? ⟨b, p.toNat, none⟩ = some (.int .i64 kd),
       eqV (.int .i64 kd), eqV (.pointer (some ⟨w.heap.size, 1, none⟩)), eqV (.int .i64 r.a), eqV (.string ⟨(kname r.a).toArray⟩), eqV (.agg #[.int .i64 kd, .string ⟨(kname r.a).toArray⟩, .string ⟨#[]⟩, .int .i64 0]), fun v wx => ∃ b, v = .pointer (some ⟨b, 0, none⟩) ∧ OpAt wx b ⟨0, [], [], 0⟩ ∧ w.heap.size + 2 ≤ b] (by kernel_rfl) (by kernel_rfl) rfl ?hJ ?hJS ?hst ?hobl ?hend
    case hJ => exact Below.drew (Below.refl _ _)
    case hJS => exact fun wx wy h1 h2 => h1.trans (h2.mono (by have := h1.size; rw [size_alloc2] at this; omega))
    case hst =>
      refine planStab_at _ ⟨?_, eqV_stab _, eqV_stab _, eqV_stab _, ?_, eqV_stab _, eqV_stab _, eqV_stab _, eqV_stab _, eqV_stab _, ?_, trivial⟩
      · rintro v wx wy - h2 ⟨b, e, h3⟩
        exact ⟨b, e, cell_keep h3 (h2.block _ (World.block_lt_of_cell? wx _ h3))⟩
      · rintro v wx wy - h2 ⟨b, e, h3⟩
        exact ⟨b, e, cell_keep h3 (h2.block _ (World.block_lt_of_cell? wx _ h3))⟩
      · rintro v wx wy - h2 ⟨b, e, h3, h4⟩
        exact ⟨b, e, h3.keep (h2.block _ h3.lt), h4⟩
    case hobl =>
      simp only [planObls, List.take_succ_cons, List.take_zero, planPut, Act.put, List.setIfInBounds_toArray, List.set_cons_zero, List.set_cons_succ, Nat.reduceAdd, Nat.zero_add]
      refine ⟨?_, ?_, ?_, ?_, ?_, ?_, ?_, ?_, ?_, ?_, ?_, trivial⟩
      · intro vs wx hJ hn K hK
        simp [planNeeds, VAt, eqV, Region.binds] at hn
        simp only [VAt, eqV, List.getD_cons_zero, List.getD_cons_succ, Act.put, List.setIfInBounds_toArray, List.set_cons_zero, List.set_cons_succ, Nat.reduceAdd, Nat.zero_add] at hK
        go_wp2
        refine hK _ _ (below_alloc wx _) ⟨_, rfl, (World.cell?_alloc_at _ _ _ _ rfl).trans ?_⟩
        have := hpk (by simp; omega)
        rw [← this]; simp
      · intro vs wx hJ hn K hK
        simp [planNeeds, VAt, eqV, Region.binds] at hn
        simp only [VAt, eqV, List.getD_cons_zero, List.getD_cons_succ, Act.put, List.setIfInBounds_toArray, List.set_cons_zero, List.set_cons_succ, Nat.reduceAdd, Nat.zero_add] at hK
        go_wp2
        exact hK _ _ (Below.refl _ _) rfl
      · intro vs wx hJ hn K hK
        simp [planNeeds, VAt, eqV, Region.binds] at hn
        simp only [VAt, eqV, List.getD_cons_zero, List.getD_cons_succ, Act.put, List.setIfInBounds_toArray, List.set_cons_zero, List.set_cons_succ, Nat.reduceAdd, Nat.zero_add] at hK
        simp only [hn] at hK ⊢
        obtain ⟨hz, -, -, -, -⟩ := fresh2 hJ
        have z0 := hz 0
        clear hz
        go_wp2
        exact hK _ _ (Below.refl _ _) rfl
      · intro vs wx hJ hn K hK
        simp [planNeeds, VAt, eqV, Region.binds] at hn
        simp only [VAt, eqV, List.getD_cons_zero, List.getD_cons_succ, Act.put, List.setIfInBounds_toArray, List.set_cons_zero, List.set_cons_succ, Nat.reduceAdd, Nat.zero_add] at hK
        simp only [hn] at hK ⊢
        go_wp2_with fail
        refine (HPC.out _).mono ?_; rintro e w' ⟨rfl, rfl⟩
        go_wp2
        exact hK _ _ (Below.refl _ _) rfl
      · intro vs wx hJ hn K hK
        simp [planNeeds, VAt, eqV, Region.binds] at hn
        simp only [VAt, eqV, List.getD_cons_zero, List.getD_cons_succ, Act.put, List.setIfInBounds_toArray, List.set_cons_zero, List.set_cons_succ, Nat.reduceAdd, Nat.zero_add] at hK
        obtain ⟨⟨b, e0, hc⟩, e3⟩ := hn
        simp only [e0, e3] at hK ⊢
        go_wp2
        exact hK _ _ (Below.refl _ _) ⟨b, rfl, hc⟩
      · intro vs wx hJ hn K hK
        simp [planNeeds, VAt, eqV, Region.binds] at hn
        simp only [VAt, eqV, List.getD_cons_zero, List.getD_cons_succ, Act.put, List.setIfInBounds_toArray, List.set_cons_zero, List.set_cons_succ, Nat.reduceAdd, Nat.zero_add] at hK
        obtain ⟨b, e4, hc⟩ := hn
        simp only [e4] at hK ⊢
        go_wp2
        exact hK _ _ (Below.refl _ _) rfl
      · intro vs wx hJ hn K hK
        simp [planNeeds, VAt, eqV, Region.binds] at hn
        simp only [VAt, eqV, List.getD_cons_zero, List.getD_cons_succ, Act.put, List.setIfInBounds_toArray, List.set_cons_zero, List.set_cons_succ, Nat.reduceAdd, Nat.zero_add] at hK
        go_wp2
        exact hK _ _ (Below.refl _ _) rfl
      · intro vs wx hJ hn K hK
        simp [planNeeds, VAt, eqV, Region.binds] at hn
        simp only [VAt, eqV, List.getD_cons_zero, List.getD_cons_succ, Act.put, List.setIfInBounds_toArray, List.set_cons_zero, List.set_cons_succ, Nat.reduceAdd, Nat.zero_add] at hK
        simp only [hn] at hK ⊢
        obtain ⟨hz, -, -, -, -⟩ := fresh2 hJ
        have z1 := hz 1
        clear hz
        go_wp2
        exact hK _ _ (Below.refl _ _) rfl
      · intro vs wx hJ hn K hK
        simp [planNeeds, VAt, eqV, Region.binds] at hn
        simp only [VAt, eqV, List.getD_cons_zero, List.getD_cons_succ, Act.put, List.setIfInBounds_toArray, List.set_cons_zero, List.set_cons_succ, Nat.reduceAdd, Nat.zero_add] at hK
        simp only [hn] at hK ⊢
        go_wp2_with fail
        refine (kname_calls r.a a1 a2 _).mono ?_; rintro e w2 ⟨rfl, hb2⟩
        go_wp2
        exact hK _ _ hb2 rfl
      · intro vs wx hJ hn K hK
        simp [planNeeds, VAt, eqV, Region.binds] at hn
        simp only [VAt, eqV, List.getD_cons_zero, List.getD_cons_succ, Act.put, List.setIfInBounds_toArray, List.set_cons_zero, List.set_cons_succ, Nat.reduceAdd, Nat.zero_add] at hK
        simp only [hn] at hK ⊢
        go_wp2
        exact hK _ _ (Below.refl _ _) rfl
      · intro vs wx hJ hn K hK
        simp [planNeeds, VAt, eqV, Region.binds] at hn
        simp only [VAt, eqV, List.getD_cons_zero, List.getD_cons_succ, Act.put, List.setIfInBounds_toArray, List.set_cons_zero, List.set_cons_succ, Nat.reduceAdd, Nat.zero_add] at hK
        go_wp2
        refine hK _ _ (below_alloc wx _) ⟨_, rfl, OpAt.new, by have := hJ.size; rw [size_alloc2] at this; exact this⟩
    case hend =>
      intro vs wx hJ hv
      simp [planHave, eqV] at hv
      obtain ⟨⟨b0, e0, h0⟩, e1, e2, e3, ⟨b4, e4, h4⟩, e5, e6, e7, e8, e9, ⟨b, e10, h10, h11⟩⟩ := hv
      simp only [List.take_succ_cons, List.take_zero, List.drop_succ_cons, List.drop_zero, planPut, Act.put, List.setIfInBounds_toArray, List.set_cons_zero, List.set_cons_succ, Nat.reduceAdd, Nat.zero_add]
      rw [e0, e1, e2, e3, e4, e5, e6, e7, e8, e9, e10]
      clear e0 e1 e2 e3 e4 e5 e6 e7 e8 e9 e10 h0 h4
      obtain ⟨hoc, hof⟩ := h10
      have y0 : wx.cell? ⟨b, 0, none⟩ = some (.int .i64 0) := hoc 0 _ rfl
      have y1 : wx.cell? ⟨b, 1, none⟩ = some (.string ⟨#[]⟩) := hoc 1 _ rfl
      have y2 : wx.cell? ⟨b, 2, none⟩ = some (.string ⟨#[]⟩) := hoc 2 _ rfl
      have y3 : wx.cell? ⟨b, 3, none⟩ = some (.int .i64 0) := hoc 3 _ rfl
      have f0 := hof 0; have f1 := hof 1; have f2 := hof 2; have f3 := hof 3
      have HJ := Lib.hid hJ
      have HF := Lib.hid hof
      clear hoc hof hJ
      go_wp2
      go_meet
      case rel =>
        refine ⟨b, rfl, ⟨fun j u hu => ?_, fun j => by simp [go_sem, HF.out]⟩, ?_, h11⟩
        · match j, hu with
          | 0, hu => cases hu; simp [go_sem, y0, y1, y2, y3]
          | 1, hu => cases hu; simp [go_sem, y0, y1, y2, y3]
          | 2, hu => cases hu; simp [go_sem, y0, y1, y2, y3]
          | 3, hu => cases hu; simp [go_sem, y0, y1, y2, y3]
          | j + 4, hu => simp [opCells] at hu
        · exact below_set (below_set (below_set (below_set HJ.out h11 _ _) h11 _ _) h11 _ _) h11 _ _
  case rest =>
    obtain ⟨B3, rfl, ho, hb, hB3⟩ := hcut
    obtain ⟨q, hq, hq0, hq1⟩ : ∃ q : Nat, picked r.b 90 = q ∧ 0 ≤ q ∧ q < 90 := ⟨(picked r.b 90).toNat, by have := picked_in r.b 90 (by decide); omega, by omega, by have := picked_in r.b 90 (by decide); omega⟩
    have HVT := Lib.hid (show vtext r.b = 118 :: Lib.decDigits q by rw [vtext, hq]; rfl)
    have hdl : (Lib.decDigits q).length ≤ 2 := decDigits_len q (by omega)
    obtain ⟨m, hm, hm0, hm1⟩ : ∃ m, picked r.c 4 = m ∧ 0 ≤ m ∧ m < 4 := ⟨_, rfl, picked_in _ _ (by decide)⟩
    have HQ := Lib.hid hq
    have HM := Lib.hid hm
    clear hq hm
    have hk0 := ho.out.1 0 _ rfl
    have hBl := ho.out.lt
    have HBW : Hid (Below w.heap.size w wc) := (below_alloc2 w _ _).trans (hb.out.mono (by omega))
    have hws : w.heap.size + 2 ≤ wc.heap.size := by have := hb.out.size; rw [size_alloc2] at this; exact this
    by_cases hk5 : kd = 5
    case neg =>
      have HF := Lib.hid (HO.out.trans (if_neg hk5))
      have hk5b : (kd == 5) = false := by simpa using hk5
      clear hk5
      obtain ⟨hz, hzf, hy, hyf, hzs⟩ := fresh2 hb.out
      have y0 := hy 0; have y1 := hy 1; have y2 := hy 2; have y3 := hy 3
      have f0 := hyf 0; have f1 := hyf 1; have f2 := hyf 2; have f3 := hyf 3
      have x0 : wc.cell? ⟨B3, 0, none⟩ = some (.int .i64 kd) := ho.out.1 0 _ rfl
      have x1 : wc.cell? ⟨B3, 1, none⟩ = some (.string ⟨(kname r.a).toArray⟩) := ho.out.1 1 _ rfl
      have x2 : wc.cell? ⟨B3, 2, none⟩ = some (.string ⟨#[]⟩) := ho.out.1 2 _ rfl
      have x3 : wc.cell? ⟨B3, 3, none⟩ = some (.int .i64 0) := ho.out.1 3 _ rfl
      clear hz hzf hy hyf hk0
      go_wp2
      refine bodyPost_ret (v := valOp ⟨kd, kname r.a, [], 0⟩) (by simp [results, Tryz.results57, go_sem, valOp, y0, y1, y2, y3]) rfl ⟨by rw [HF.out], ?_⟩
      repeat (first | with_reducible exact HBW.out | with_reducible refine below_set ?_ (by omega) _ _)
    case pos =>
      subst hk5
      have HF := Lib.hid (HO.out.trans (if_pos rfl))
      clear HO
      go_upto_region 3 with (fail)
      go_cut [] (fun wd => Hid (OpAt wd B3 ⟨5, kname r.a, vtext r.b, 1 + m⟩) ∧ Hid (Below (w.heap.size + 2) ((w.alloc (.cells #[.int .i64 r.kind, .int .i64 r.a, .int .i64 r.b, .int .i64 r.c] 125)).alloc (.cells #[.int .i64 0, .string ⟨#[]⟩, .string ⟨#[]⟩, .int .i64 0] 43)) wd))
      case first =>
        have HPB : Hid (∀ wx : World, Calls Tryz.prog 30 #[.int .i64 r.b, .int .i64 90] wx fun e w' => e = .returned (.int .i64 q) ∧ wx = w') := fun wx => by
          have := picked_calls r.b 90 (by omega) (by omega) b1 b2 wx
          rwa [HQ.out] at this
        have HPM : Hid (∀ wx : World, Calls Tryz.prog 30 #[.int .i64 r.c, .int .i64 4] wx fun e w' => e = .returned (.int .i64 m) ∧ wx = w') := fun wx => by
          have := picked_calls r.c 4 (by omega) (by omega) c1 c2 wx
          rwa [HM.out] at this
        refine wp_region_plan 11 (fun wx => (OpAt wx B3 ⟨5, kname r.a, [], 0⟩ ∨ OpAt wx B3 ⟨5, kname r.a, vtext r.b, 0⟩) ∧ Below (w.heap.size + 2) ((w.alloc (.cells #[.int .i64 r.kind, .int .i64 r.a, .int .i64 r.b, .int .i64 r.c] 125)).alloc (.cells #[.int .i64 0, .string ⟨#[]⟩, .string ⟨#[]⟩, .int .i64 0] 43)) wx)
          (fun wx wy => Below (w.heap.size + 2) wx wy ∧ (OpAt wx B3 ⟨5, kname r.a, vtext r.b, 0⟩ → OpAt wy B3 ⟨5, kname r.a, vtext r.b, 0⟩) ∧ (OpAt wx B3 ⟨5, kname r.a, [], 0⟩ → OpAt wy B3 ⟨5, kname r.a, [], 0⟩ ∨ OpAt wy B3 ⟨5, kname r.a, vtext r.b, 0⟩))
          [eqV (.pointer (some ⟨w.heap.size, 2, none⟩)), eqV (.int .i64 r.b), eqV (.int .i64 q), eqV (.string ⟨(Lib.decDigits q).toArray⟩), eqV (.string ⟨(118 :: Lib.decDigits q).toArray⟩), eqV (.pointer (some ⟨w.heap.size, 3, none⟩)), eqV (.int .i64 r.c), eqV (.int .i64 m), eqV (.int .i64 (1 + m)),
           eqV (.pointer (some ⟨B3, 2, none⟩)), fun _ wx => OpAt wx B3 ⟨5, kname r.a, vtext r.b, 0⟩] (by kernel_rfl) (by kernel_rfl) rfl ?hJ ?hJS ?hst ?hobl ?hend
        case hJ => exact ⟨.inl (ho.out.keep rfl), Below.drew hb.out⟩
        case hJS =>
          rintro wx wy ⟨h1, h2⟩ ⟨h3, h4, h5⟩
          refine ⟨?_, h2.trans h3⟩
          rcases h1 with h1 | h1
          · exact h5 h1
          · exact .inr (h4 h1)
        case hst =>
          refine planStab_at _ ⟨eqV_stab _, eqV_stab _, eqV_stab _, eqV_stab _, eqV_stab _, eqV_stab _, eqV_stab _, eqV_stab _, eqV_stab _, eqV_stab _, ?_, trivial⟩
          rintro v wx wy - h2 h3
          exact h2.2.1 h3
        case hobl =>
          simp only [planObls, List.take_succ_cons, List.take_zero, planPut, Act.put, List.setIfInBounds_toArray, List.set_cons_zero, List.set_cons_succ, Nat.reduceAdd, Nat.zero_add]
          refine ⟨?_, ?_, ?_, ?_, ?_, ?_, ?_, ?_, ?_, ?_, ?_, trivial⟩
          · intro vs wx hJ hn K hK
            simp [planNeeds, VAt, eqV, Region.binds] at hn
            simp only [VAt, eqV, List.getD_cons_zero, List.getD_cons_succ, Act.put, List.setIfInBounds_toArray, List.set_cons_zero, List.set_cons_succ, Nat.reduceAdd, Nat.zero_add] at hK
            go_wp2
            exact hK _ _ ⟨Below.refl _ _, id, .inl⟩ rfl
          · intro vs wx hJ hn K hK
            simp [planNeeds, VAt, eqV, Region.binds] at hn
            simp only [VAt, eqV, List.getD_cons_zero, List.getD_cons_succ, Act.put, List.setIfInBounds_toArray, List.set_cons_zero, List.set_cons_succ, Nat.reduceAdd, Nat.zero_add] at hK
            simp only [hn] at hK ⊢
            obtain ⟨hz, -, -, -, -⟩ := fresh2 hJ.2
            have z2 := hz 2
            clear hz
            go_wp2
            exact hK _ _ ⟨Below.refl _ _, id, .inl⟩ rfl
          · intro vs wx hJ hn K hK
            simp [planNeeds, VAt, eqV, Region.binds] at hn
            simp only [VAt, eqV, List.getD_cons_zero, List.getD_cons_succ, Act.put, List.setIfInBounds_toArray, List.set_cons_zero, List.set_cons_succ, Nat.reduceAdd, Nat.zero_add] at hK
            simp only [hn] at hK ⊢
            go_wp2_with fail
            refine (HPB.out _).mono ?_; rintro e w' ⟨rfl, rfl⟩
            go_wp2
            exact hK _ _ ⟨Below.refl _ _, id, .inl⟩ rfl
          · intro vs wx hJ hn K hK
            simp [planNeeds, VAt, eqV, Region.binds] at hn
            simp only [VAt, eqV, List.getD_cons_zero, List.getD_cons_succ, Act.put, List.setIfInBounds_toArray, List.set_cons_zero, List.set_cons_succ, Nat.reduceAdd, Nat.zero_add] at hK
            simp only [hn] at hK ⊢
            go_wp2_with fail
            refine (itoa_calls q (by omega) _).mono ?_; rintro e w' ⟨rfl, rfl⟩
            go_wp2
            exact hK _ _ ⟨Below.refl _ _, id, .inl⟩ rfl
          · intro vs wx hJ hn K hK
            simp [planNeeds, VAt, eqV, Region.binds] at hn
            simp only [VAt, eqV, List.getD_cons_zero, List.getD_cons_succ, Act.put, List.setIfInBounds_toArray, List.set_cons_zero, List.set_cons_succ, Nat.reduceAdd, Nat.zero_add] at hK
            simp only [hn] at hK ⊢
            go_wp2
            exact hK _ _ ⟨Below.refl _ _, id, .inl⟩ rfl
          · intro vs wx hJ hn K hK
            simp [planNeeds, VAt, eqV, Region.binds] at hn
            simp only [VAt, eqV, List.getD_cons_zero, List.getD_cons_succ, Act.put, List.setIfInBounds_toArray, List.set_cons_zero, List.set_cons_succ, Nat.reduceAdd, Nat.zero_add] at hK
            go_wp2
            exact hK _ _ ⟨Below.refl _ _, id, .inl⟩ rfl
          · intro vs wx hJ hn K hK
            simp [planNeeds, VAt, eqV, Region.binds] at hn
            simp only [VAt, eqV, List.getD_cons_zero, List.getD_cons_succ, Act.put, List.setIfInBounds_toArray, List.set_cons_zero, List.set_cons_succ, Nat.reduceAdd, Nat.zero_add] at hK
            simp only [hn] at hK ⊢
            obtain ⟨hz, -, -, -, -⟩ := fresh2 hJ.2
            have z3 := hz 3
            clear hz
            go_wp2
            exact hK _ _ ⟨Below.refl _ _, id, .inl⟩ rfl
          · intro vs wx hJ hn K hK
            simp [planNeeds, VAt, eqV, Region.binds] at hn
            simp only [VAt, eqV, List.getD_cons_zero, List.getD_cons_succ, Act.put, List.setIfInBounds_toArray, List.set_cons_zero, List.set_cons_succ, Nat.reduceAdd, Nat.zero_add] at hK
            simp only [hn] at hK ⊢
            go_wp2_with fail
            refine (HPM.out _).mono ?_; rintro e w' ⟨rfl, rfl⟩
            go_wp2
            exact hK _ _ ⟨Below.refl _ _, id, .inl⟩ rfl
          · intro vs wx hJ hn K hK
            simp [planNeeds, VAt, eqV, Region.binds] at hn
            simp only [VAt, eqV, List.getD_cons_zero, List.getD_cons_succ, Act.put, List.setIfInBounds_toArray, List.set_cons_zero, List.set_cons_succ, Nat.reduceAdd, Nat.zero_add] at hK
            simp only [hn] at hK ⊢
            go_wp2
            exact hK _ _ ⟨Below.refl _ _, id, .inl⟩ rfl
          · intro vs wx hJ hn K hK
            simp [planNeeds, VAt, eqV, Region.binds] at hn
            simp only [VAt, eqV, List.getD_cons_zero, List.getD_cons_succ, Act.put, List.setIfInBounds_toArray, List.set_cons_zero, List.set_cons_succ, Nat.reduceAdd, Nat.zero_add] at hK
            simp only [hn] at hK ⊢
            go_wp2
            exact hK _ _ ⟨Below.refl _ _, id, .inl⟩ rfl
          · intro vs wx hJ hn K hK
            simp [planNeeds, VAt, eqV, Region.binds] at hn
            simp only [VAt, eqV, List.getD_cons_zero, List.getD_cons_succ, Act.put, List.setIfInBounds_toArray, List.set_cons_zero, List.set_cons_succ, Nat.reduceAdd, Nat.zero_add] at hK
            simp only [hn] at hK ⊢
            obtain ⟨old, hold⟩ : ∃ u, wx.cell? ⟨B3, 2, none⟩ = some u := by
              rcases hJ.1 with h | h
              · exact ⟨_, h.1 2 _ rfl⟩
              · exact ⟨_, h.1 2 _ rfl⟩
            have hfr : wx.frozen? ⟨B3, 2, none⟩ = false := by
              rcases hJ.1 with h | h
              · exact h.2 2
              · exact h.2 2
            have HS : Hid (∀ o, OpAt wx B3 ⟨5, kname r.a, o, 0⟩ → OpAt (wx.setCell ⟨B3, 2, none⟩ (.string ⟨(118 :: Lib.decDigits q).toArray⟩)) B3 ⟨5, kname r.a, vtext r.b, 0⟩) := fun o h => by
              rw [HVT.out]; exact h.set 2 (by decide) _ rfl
            have HJ := Lib.hid hJ
            clear hJ
            go_wp2
            refine hK undef _ ⟨below_set (Below.refl _ _) hB3 _ _, HS.out _, fun h => .inr (HS.out _ h)⟩ ?_
            rcases HJ.out.1 with h | h
            · exact HS.out _ h
            · exact HS.out _ h
        case hend =>
          intro vs wx hJ hv
          simp [planHave, eqV] at hv
          obtain ⟨e0, e1, e2, e3, e4, e5, e6, e7, e8, e9, hO⟩ := hv
          simp only [List.take_succ_cons, List.take_zero, List.drop_succ_cons, List.drop_zero, planPut, Act.put, List.setIfInBounds_toArray, List.set_cons_zero, List.set_cons_succ, Nat.reduceAdd, Nat.zero_add]
          rw [e0, e1, e2, e3, e4, e5, e6, e7, e8, e9]
          clear e0 e1 e2 e3 e4 e5 e6 e7 e8 e9
          have x3 : wx.cell? ⟨B3, 3, none⟩ = some (.int .i64 0) := hO.1 3 _ rfl
          have g3 := hO.2 3
          have HS := Lib.hid (hO.set (o' := ⟨5, kname r.a, vtext r.b, 1 + m⟩) 3 (by decide) (.int .i64 (1 + m)) rfl)
          have HJ := Lib.hid hJ.2
          clear hO hJ
          go_wp2
          go_meet
          case rel => exact ⟨HS.out, below_set HJ.out hB3 _ _⟩
      case rest =>
        obtain ⟨ho, hb⟩ := hcut
        obtain ⟨hz, hzf, hy, hyf, hzs⟩ := fresh2 hb.out
        have y0 := hy 0; have y1 := hy 1; have y2 := hy 2; have y3 := hy 3
        have f0 := hyf 0; have f1 := hyf 1; have f2 := hyf 2; have f3 := hyf 3
        rename World => wd
        have x0 : wd.cell? ⟨B3, 0, none⟩ = some (.int .i64 5) := ho.out.1 0 _ rfl
        have x1 : wd.cell? ⟨B3, 1, none⟩ = some (.string ⟨(kname r.a).toArray⟩) := ho.out.1 1 _ rfl
        have x2 : wd.cell? ⟨B3, 2, none⟩ = some (.string ⟨(vtext r.b).toArray⟩) := ho.out.1 2 _ rfl
        have x3 : wd.cell? ⟨B3, 3, none⟩ = some (.int .i64 (1 + m)) := ho.out.1 3 _ rfl
        have HBW2 : Hid (Below w.heap.size w wd) := (below_alloc2 w _ _).trans (hb.out.mono (by omega))
        clear hz hzf hy hyf
        go_wp2
        refine bodyPost_ret (v := valOp ⟨5, kname r.a, vtext r.b, 1 + m⟩) (by simp [results, Tryz.results57, go_sem, valOp, y0, y1, y2, y3]) rfl ⟨by rw [HF.out, HM.out], ?_⟩
        repeat (first | with_reducible exact HBW2.out | with_reducible refine below_set ?_ (by omega) _ _)
end Go.Proofs.YtkefgapnghnjjaaGreatDoor

namespace Go.Tk
open Go Go.RowKit Go.Maps
def MapF (P : Program) (e : TypeId) (w : World) (b n : Nat) (f : Int → Int) : Prop :=
  ∃ D : DataW Unit, w.ownsMap P e (plainElem P e) b n D ∧ ∀ c, I64 c → D.atKey (.int .i64 c) (.lit (.int .i64 0)) = .lit (.int .i64 (f c))
theorem wf_of {c : Int} (h : I64 c) : (Lit.int .i64 c).wf = true := WalkArith.wf_i64 (by unfold I64 at h; omega)
theorem MapF.made (P : Program) (e : TypeId) (w : World) : MapF P e (w.alloc (.map #[] 0)) w.heap.size 0 (fun _ => 0) := ⟨_, World.ownsMap_made _ _ _ _, fun _ _ => rfl⟩
theorem MapF.lt {P : Program} {e : TypeId} {w : World} {b n : Nat} {f : Int → Int} (h : MapF P e w b n f) : b < w.heap.size := by
  obtain ⟨D, h, _⟩ := h; exact h.lt
theorem MapF.kept {P : Program} {e : TypeId} {w w' : World} {b n : Nat} {f : Int → Int} {r : Option Nat} (h : MapF P e w b n f) (hg : w.grownBy w' r) (hne : some b ≠ r) : MapF P e w' b n f := by
  obtain ⟨D, h, h2⟩ := h; exact ⟨D, h.kept hg hne, h2⟩
theorem MapF.below {P : Program} {e : TypeId} {w w' : World} {b n : Nat} {f : Int → Int} (h : MapF P e w b n f) (hb : Below w.heap.size w w') : MapF P e w' b n f :=
  h.kept (r := none) (grownBy_any hb none) (by simp)
theorem MapF.mono {P : Program} {e : TypeId} {w : World} {b n n' : Nat} {f : Int → Int} (h : MapF P e w b n f) (hn : n ≤ n') : MapF P e w b n' f := by
  obtain ⟨D, h, h2⟩ := h; exact ⟨D, h.mono hn, h2⟩
theorem MapF.look {P : Program} {t e : TypeId} {w : World} {b n : Nat} {f : Int → Int} (h : MapF P e w b n f) (ht : P.underlying t = some (.map e e)) (he : P.underlying e = some (.int .i64)) (hz : (zeroValue e).run P w = .ok (.int .i64 0) w)
    {c : Int} (hc : I64 c) : (Instr.lookup t (.map (some b)) (.int .i64 c) false).run P w = .ok (.int .i64 (f c)) w := by
  obtain ⟨D, h, h2⟩ := h
  obtain ⟨x, hrun, hat, _⟩ := h.lookup_int (int_keyed he) ht he hz (keyOf_int_mk he (wf_of hc))
  rw [h2 c hc] at hat
  simp only [DataW.lit.injEq, Lit.int.injEq, true_and] at hat
  rw [hat]; exact hrun
theorem MapF.store {P : Program} {t e : TypeId} {w : World} {b n : Nat} {f : Int → Int} (h : MapF P e w b n f) (ht : P.underlying t = some (.map e e)) (he : P.underlying e = some (.int .i64)) (hn : n ≤ 1000000) {c v : Int} (hc : I64 c) (hv : I64 v) :
    ∃ w', (Instr.mapUpdate t (.map (some b)) (.int .i64 c) (.int .i64 v)).run P w = .ok () w' ∧ MapF P e w' b (n + 1) (upd f c v) ∧ w.grownBy w' (some b) := by
  obtain ⟨D, h, h2⟩ := h
  obtain ⟨w', hrun, hown, hg⟩ := h.update (int_keyed he) ht (by unfold maxLen; omega) (keyOf_int_mk he (wf_of hc)) (plainElem_int he (wf_of hv))
  refine ⟨w', hrun, ⟨_, hown, fun x hx => ?_⟩, hg⟩
  by_cases hxc : x = c
  · subst hxc
    rw [upd_same, atKey_put_same (World.ownsMap.isMap h) (by simp [WideAt.IsKeyLit])]
  · rw [upd_other _ _ hxc, atKey_put_other (by simpa using hxc), h2 x hx]
theorem wpList_mapF {P : Program} {w : World} {ops : Array Oper} {rest : List Oper} {o : Oper} {a : Act} {Q : Exit → Act → World → Prop} (hg : o.guard = none) (m x v : Operand) {t : TypeId} (hop : o.op = Op.mapUpdate t m x v)
    {e : TypeId} {b n : Nat} {f : Int → Int} (h : MapF P e w b n f) (ht : P.underlying t = some (.map e e)) (he : P.underlying e = some (.int .i64)) (hn : n ≤ 1000000) {c i : Int} (hm : a.eval m = .map (some b)) (hx : a.eval x = .int .i64 c) (hv : a.eval v = .int .i64 i)
    (hc : I64 c) (hi : I64 i) (hK : ∀ w', MapF P e w' b (n + 1) (upd f c i) → w.grownBy w' (some b) → wpList P ops Q rest (a.put o.dst undef) w') : wpList P ops Q (o :: rest) a w := by
  obtain ⟨w', hrun, h1, h2⟩ := h.store ht he hn hc hi
  refine wpList_plain hg fun K hK' => ?_
  unfold Oper.wp execOp
  simp only [hop, hm, hx, hv, Sem.run_bind, hrun, Result.andThen_ok, Sem.run_pure]
  exact hK' _ _ (hK w' h1 h2)
end Go.Tk
