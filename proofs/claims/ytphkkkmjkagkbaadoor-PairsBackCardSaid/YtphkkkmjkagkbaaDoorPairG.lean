/- pair.Get. -/
import Derived.Test.YtphkkkmjkagkbaaDoorPairC
import Derived.Test.YtphkkkmjkagkbaaDoorBox
import Derived.BigRegion
import Derived.Deep.RegionLaw
import Derived.Deep.DeepCutAuto
namespace Go.Proofs.YtphkkkmjkagkbaaDoor
open Go.RowKit Go.Tk

set_option linter.unusedSimpArgs false in
set_option maxRecDepth 100000 in
set_option maxHeartbeats 1600000 in
theorem prGet_calls (l : List PairD) (t : List UInt8) (v : Value) (S : Nat → Prop) (w : World) (h : SlR 3 rPair w v l S) (hok : PrOk l) :
    Calls Tryd.prog 15 #[v, .string ⟨t.toArray⟩] w fun e w' => e = .returned (.tuple #[.agg #[.int .i64 (prGet l t).1.code, .int .i64 (prGet l t).1.n, .string ⟨(prGet l t).1.text.toArray⟩], .int .i64 (prGet l t).2]) ∧ Below w.heap.size w w' := by
  have hone := h.oneCell
  have hlen := hok.len
  have HC := Lib.hid (prCheck_ok.2 hok)
  have HV := Lib.hid (get_eq (name := t) hok)
  have HSZ := Lib.hid (show ∀ x ∈ l, x.value.length ≤ 1000000 from fun x hx => Nat.le_trans (hok.one x hx).size (by decide))
  have HS := Lib.hid h
  clear h hok
  obtain ⟨a, cap, hv, hl, hm, -, -⟩ := id HS.out
  subst hv
  unfold maxLen at hm
  go_enter Tryd.func15, Tryd.ntmps15
  go_wp2_with fail
  refine (prCheck_calls l _ S _ (HS.out.below rPair_ok (by decide) (below_alloc w _)) HSZ.out).mono ?_
  rw [HC.out]; rintro e w1 ⟨rfl, hb1⟩
  rw [World.size_alloc] at hb1
  have HB1 := Lib.hid ((below_alloc w _).trans (hb1.mono (by omega)))
  have HBB := Lib.hid hb1
  clear hb1
  go_wp2_with fail
  refine (pFind_calls l t _ S _ (HS.out.below rPair_ok (by decide) HB1.out) (by omega)).mono ?_
  rintro e w2 ⟨rfl, hb2⟩
  have HB2 := Lib.hid (below_step HB1.out hb2)
  have hbb2 := HBB.out.trans (hb2.mono (by have := HBB.out.size; rw [World.size_alloc] at this; exact this))
  obtain ⟨hz, hzf, hzs⟩ := Tk.fresh hbb2
  have z0 := hz 0; have z1 := hz 1; have z2 := hz 2
  have f0 := hzf 0; have f1 := hzf 1; have f2 := hzf 2
  have HX2 := Lib.hid ((BoxAt.new (w := w) (cs := [.int .i64 0, .int .i64 0, .string ⟨#[]⟩]) (E := 42)).keep (hbb2.block w.heap.size (by omega)))
  clear hz hzf hb2 HBB HB1
  cases ht : pThere l t
  case false =>
    have HF := Lib.hid (show prGet l t = (⟨6, 0, []⟩, 0) by rw [HV.out, if_pos ht])
    clear ht
    go_wp2
    have hp := ((HX2.out.set 0 (by simp) (.int .i64 6)).set 1 (by simp) (.int .i64 0)).set 2 (by simp) (.string ⟨#[]⟩)
    have hbf := below_set (below_set (below_set (Below.refl w.heap.size w2) (Nat.le_refl _) 0 (.int .i64 6)) (Nat.le_refl _) 1 (.int .i64 0)) (Nat.le_refl _) 2 (.string ⟨#[]⟩)
    generalize ((w2.setCell ⟨w.heap.size, 0, none⟩ (.int .i64 6)).setCell ⟨w.heap.size, 1, none⟩ (.int .i64 0)).setCell ⟨w.heap.size, 2, none⟩ (.string ⟨#[]⟩) = wf at *
    have p0 := hp.cell 0 _ rfl; have p1 := hp.cell 1 _ rfl; have p2 := hp.cell 2 _ rfl
    refine bodyPost_ret (v := .tuple #[.agg #[.int .i64 6, .int .i64 0, .string ⟨#[]⟩], .int .i64 0]) (by simp [results, Tryd.results15, go_sem, p0, p1, p2]) rfl ?_
    rw [HF.out]
    exact ⟨rfl, HB2.out.trans hbf⟩
  case true =>
    have hlt := pThere_lt ht
    have HF := Lib.hid (show prGet l t = (⟨0, l[pFind l t].version, l[pFind l t].value⟩, 0) by rw [HV.out, if_neg (by rw [ht]; decide), getD_at hlt])
    obtain ⟨b, off, cap', row, hv, hSb, hrow, hcells⟩ := (HS.out.below rPair_ok (by decide) HB2.out).row (pFind l t) hlt
    simp only [Value.slice.injEq] at hv
    obtain ⟨rfl, _, rfl⟩ := hv
    obtain rfl := hrow
    have q1 := hcells 1 _ rfl
    have q2 := hcells 2 _ rfl
    clear hcells ht
    generalize l[pFind l t] = x at *
    generalize pFind l t = i at *
    go_wp2
    go_region
    go_wp2
    have hp := ((HX2.out.set 0 (by simp) (.int .i64 0)).set 1 (by simp) (.int .i64 x.version)).set 2 (by simp) (.string ⟨x.value.toArray⟩)
    have hbf := below_set (below_set (below_set (Below.refl w.heap.size w2) (Nat.le_refl _) 0 (.int .i64 0)) (Nat.le_refl _) 1 (.int .i64 x.version)) (Nat.le_refl _) 2 (.string ⟨x.value.toArray⟩)
    generalize ((w2.setCell ⟨w.heap.size, 0, none⟩ (.int .i64 0)).setCell ⟨w.heap.size, 1, none⟩ (.int .i64 x.version)).setCell ⟨w.heap.size, 2, none⟩ (.string ⟨x.value.toArray⟩) = wf at *
    have p0 := hp.drew.cell 0 _ rfl; have p1 := hp.drew.cell 1 _ rfl; have p2 := hp.drew.cell 2 _ rfl
    refine bodyPost_ret (v := .tuple #[.agg #[.int .i64 0, .int .i64 x.version, .string ⟨x.value.toArray⟩], .int .i64 0]) (by simp [results, Tryd.results15, go_sem, p0, p1, p2]) rfl ?_
    rw [HF.out]
    exact ⟨rfl, HB2.out.trans (Below.drew hbf)⟩
end Go.Proofs.YtphkkkmjkagkbaaDoor
