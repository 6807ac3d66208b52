/- log.Copy. -/
import Derived.Test.YtphkkkmjkagkbaaDoorLogA
import Derived.Test.YtphkkkmjkagkbaaDoorCloneStr
import Derived.Test.YtphkkkmjkagkbaaDoorPlan
import Derived.Deep.RegionLaw
import Derived.BigQuiet
import Derived.Deep.DeepCutAuto
import Derived.Deep.QuietTactic
namespace Go.Tk
open Go Go.RowKit
theorem rStr_any' (w : World) (cs : List Value) (x : List UInt8) (S S' : Nat → Prop) (h : rStr w cs x S) : rStr w cs x S' := h
theorem OwR.strRead {E : Nat} {w : World} {v : Value} {l : List (List UInt8)} {S S' : Nat → Prop} (h : OwR E 1 rStr w v l S) (hS : ∀ g, v.ownBlock = some g → S' g) : SlR 1 rStr w v l S' :=
  (h.forget rStr_any').read rStr_ok (by decide) hS
end Go.Tk
namespace Go.Proofs.YtphkkkmjkagkbaaDoor
open Go.RowKit Go.Tk

set_option linter.unusedSimpArgs false in
set_option maxRecDepth 100000 in
set_option maxHeartbeats 1600000 in
theorem logCopy_calls (l : LogD) (v : Value) (S : Nat → Prop) (w : World) (h : SlR 1 rStr w v l.entries S) (hlen : l.entries.length ≤ 1000000) :
    Calls Tryd.prog 40 #[.agg #[.int .i64 l.base, v]] w fun e w' => ∃ v', e = .returned (.agg #[.int .i64 l.base, v']) ∧ OwR 9 1 rStr w' v' l.entries (fun _ => False) ∧ (∀ g, v'.ownBlock = some g → w.heap.size ≤ g) ∧ Below w.heap.size w w' := by
  have hone := h.oneCell
  obtain ⟨a, cap, hv, hl, hm, -, -⟩ := id h
  subst hv
  have HS := Lib.hid h
  clear h
  go_enter Tryd.func40, Tryd.ntmps40
  go_upto_region 1 with (fail)
  refine wp_region_plan 5 (fun wx => Below (w.heap.size + 2) ((w.alloc (.cells #[.int .i64 l.base, .slice a l.entries.length cap] 51)).alloc (.cells #[.int .i64 0, .slice none 0 0] 51)) wx) (fun wx wy => Below wx.heap.size wx wy) [eqV (.pointer (some ⟨w.heap.size, 0, none⟩)), eqV (.int .i64 l.base), eqV (.pointer (some ⟨w.heap.size, 1, none⟩)), eqV (.slice a l.entries.length cap), fun v wx => OwR 9 1 rStr wx v l.entries (fun _ => False) ∧ ∀ g, v.ownBlock = some g → w.heap.size + 2 ≤ g] (by kernel_rfl) (by kernel_rfl) rfl ?hJ ?hJS ?hst ?hobl ?hend
  case hJ => exact Below.drew (Below.refl _ _)
  case hJS =>
    exact fun wx wy h1 h2 => h1.trans (h2.mono (by have := h1.size; rw [size_alloc2] at this; omega))
  case hst => exact planStab_at _ ⟨eqV_stab _, eqV_stab _, eqV_stab _, eqV_stab _, (by rintro v wx wy - h2 ⟨h3, h4⟩; exact ⟨h3.below rStr_ok h2, h4⟩), trivial⟩
  case hobl =>
    simp only [planObls, List.take_succ_cons, List.take_zero, planPut, Act.put, List.setIfInBounds_toArray, List.set_cons_zero, List.set_cons_succ, Nat.reduceAdd, Nat.zero_add]
    refine ⟨?_, ?_, ?_, ?_, ?_, trivial⟩
    · intro vs wx hJ hn K hK
      simp [planNeeds, VAt, eqV, Region.binds] at hn
      simp only [VAt, eqV, List.getD_cons_zero, List.getD_cons_succ, Act.put, List.setIfInBounds_toArray, List.set_cons_zero, List.set_cons_succ, Nat.reduceAdd, Nat.zero_add] at hK
      go_wp2
      exact hK _ _ (Below.refl _ _) rfl
    · intro vs wx hJ hn K hK
      simp [planNeeds, VAt, eqV, Region.binds] at hn
      simp only [VAt, eqV, List.getD_cons_zero, List.getD_cons_succ, Act.put, List.setIfInBounds_toArray, List.set_cons_zero, List.set_cons_succ, Nat.reduceAdd, Nat.zero_add] at hK
      simp only [hn] at hK ⊢
      obtain ⟨hz, -, -, -, -⟩ := fresh2 hJ
      have z0 := hz 0
      clear hz
      go_wp2
      exact hK _ _ (Below.refl _ _) rfl
    · intro vs wx hJ hn K hK
      simp [planNeeds, VAt, eqV, Region.binds] at hn
      simp only [VAt, eqV, List.getD_cons_zero, List.getD_cons_succ, Act.put, List.setIfInBounds_toArray, List.set_cons_zero, List.set_cons_succ, Nat.reduceAdd, Nat.zero_add] at hK
      go_wp2
      exact hK _ _ (Below.refl _ _) rfl
    · intro vs wx hJ hn K hK
      simp [planNeeds, VAt, eqV, Region.binds] at hn
      simp only [VAt, eqV, List.getD_cons_zero, List.getD_cons_succ, Act.put, List.setIfInBounds_toArray, List.set_cons_zero, List.set_cons_succ, Nat.reduceAdd, Nat.zero_add] at hK
      simp only [hn] at hK ⊢
      obtain ⟨hz, -, -, -, -⟩ := fresh2 hJ
      have z1 := hz 1
      clear hz
      go_wp2
      exact hK _ _ (Below.refl _ _) rfl
    · intro vs wx hJ hn K hK
      simp [planNeeds, VAt, eqV, Region.binds] at hn
      simp only [VAt, eqV, List.getD_cons_zero, List.getD_cons_succ, Act.put, List.setIfInBounds_toArray, List.set_cons_zero, List.set_cons_succ, Nat.reduceAdd, Nat.zero_add] at hK
      simp only [hn] at hK ⊢
      have HSX := HS.out.below rStr_ok (by decide) ((below_alloc2 w _ _).trans (hJ.mono (by omega)))
      go_wp2_with fail
      refine (cloneStr_calls rStr_ok wx _ l.entries _ HSX hlen).mono ?_; rintro e w2 ⟨v2, rfl, ho2, hb2, hg2⟩
      have hone2 := ho2.oneCell
      go_wp2
      exact hK _ _ hb2 ⟨ho2.forget rStr_any', fun g hg => Nat.le_trans (by have := hJ.size; rw [size_alloc2] at this; exact this) (hg2 g hg)⟩
  case hend =>
    intro vs wx hJ hv
    simp [planHave, eqV] at hv
    obtain ⟨e0, e1, e2, e3, h4⟩ := hv
    simp only [List.take_succ_cons, List.take_zero, List.drop_succ_cons, List.drop_zero, planPut, Act.put, List.setIfInBounds_toArray, List.set_cons_zero, List.set_cons_succ, Nat.reduceAdd, Nat.zero_add]
    rw [e0, e1, e2, e3]
    clear e0 e1 e2 e3
    obtain ⟨ho4, hg4⟩ := h4
    generalize vs 4 = v4 at *
    obtain ⟨ra, rc, rfl⟩ := ho4.shape
    obtain ⟨-, -, hz, hf, hs⟩ := fresh2 hJ
    have z0 := hz 0
    have z1 := hz 1
    have f0 := hf 0
    have f1 := hf 1
    clear hz hf
    go_wp2
    have hb2 : Below (w.heap.size + 1) wx ((wx.setCell ⟨w.heap.size + 1, 0, none⟩ (.int .i64 l.base)).setCell ⟨w.heap.size + 1, 1, none⟩ (.slice ra l.entries.length rc)) := below_set (below_set (Below.refl _ _) (Nat.le_refl _) 0 _) (Nat.le_refl _) 1 _
    obtain ⟨wf, hwf⟩ : ∃ wf, (wx.setCell ⟨w.heap.size + 1, 0, none⟩ (.int .i64 l.base)).setCell ⟨w.heap.size + 1, 1, none⟩ (.slice ra l.entries.length rc) = wf := ⟨_, rfl⟩
    have p0 : wf.cell? ⟨w.heap.size + 1, 0, none⟩ = some (.int .i64 l.base) := by rw [← hwf]; exact (cell_near (by omega)).trans (World.cell?_setCell_same _ _ _ z0)
    have p1 : wf.cell? ⟨w.heap.size + 1, 1, none⟩ = some (.slice ra l.entries.length rc) := by rw [← hwf]; exact World.cell?_setCell_same _ _ _ ((cell_near (by omega)).trans z1)
    have ho5 : OwR 9 1 rStr wf (.slice ra l.entries.length rc) l.entries (fun _ => False) := by rw [← hwf]; exact ho4.move rStr_ok (fun g hg => (heap_far (by have := hg4 g hg; omega)).trans (heap_far (by have := hg4 g hg; omega))) (fun b hb => hb.elim)
    rw [hwf] at hb2 ⊢
    refine bodyPost_ret (v := .agg #[.int .i64 l.base, .slice ra l.entries.length rc]) (by simp [results, Tryd.results40, go_sem, p0, p1]) rfl ⟨_, rfl, ho5, fun g hg => Nat.le_trans (by omega) (hg4 g hg), ?_⟩
    exact ((below_alloc2 w _ _).trans (hJ.mono (by omega))).trans (hb2.mono (by omega))
end Go.Proofs.YtphkkkmjkagkbaaDoor
