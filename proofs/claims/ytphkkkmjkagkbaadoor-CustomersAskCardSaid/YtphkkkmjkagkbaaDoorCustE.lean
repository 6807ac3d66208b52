/- customer.acked, customer.New, customer.Copy. -/
import Derived.Test.YtphkkkmjkagkbaaDoorCustC
import Derived.Test.YtphkkkmjkagkbaaDoorCloneWait
namespace Go.Proofs.YtphkkkmjkagkbaaDoor
open Go.RowKit Go.Tk

set_option maxRecDepth 100000 in
set_option maxHeartbeats 1600000 in
theorem custAcked_calls (c : CustomerD) (v : Value) (S : Nat → Prop) (w : World) (h : SlR 5 rWait w v c.waits S) (hok : CustOk c) :
    Calls Tryd.prog 43 #[.agg #[.int .i64 c.id, .int .i64 c.session, .int .i64 c.next, v]] w fun e w' => e = .returned (.int .i64 (custAcked c)) ∧ Below w.heap.size w w' := by
  obtain ⟨a, cap, hv, hl, hm, -, -⟩ := id h
  subst hv
  unfold maxLen at hm
  obtain ⟨n0, n1⟩ := hok.next
  have hlen := hok.len
  by_cases h0 : 0 < c.waits.length
  · obtain ⟨b, off, cap', row, hv, hS, hrow, hcells⟩ := (h.below rWait_ok (by decide) (below_alloc w (.cells #[.int .i64 c.id, .int .i64 c.session, .int .i64 c.next, .slice a c.waits.length cap] 63))).row 0 h0
    simp only [Value.slice.injEq] at hv
    obtain ⟨rfl, _, rfl⟩ := hv
    obtain rfl := hrow
    have q0 := hcells 0 _ rfl
    simp only [Nat.add_zero, Nat.zero_mul] at q0
    clear hcells
    have hnb := (hok.all 0 h0).1
    have hgd : c.waits.getD 0 noWait = c.waits[0] := by simp only [List.getD]; rw [List.getElem?_eq_getElem h0]; rfl
    unfold custBad at hnb
    rw [hgd] at hnb
    have HF := Lib.hid (show custAcked c = c.waits[0].seq - 1 by rw [custAcked, if_pos h0, hgd])
    clear h hok hgd
    generalize c.waits[0] = x at *
    have e1 : IntKind.i64.wrap (x.seq - 1) = x.seq - 1 := IntWalk.i64_in _ (by omega)
    clear hnb
    go_enter Tryd.func43, Tryd.ntmps43
    go_wp2
    go_ret
    exact ⟨by rw [HF.out]; rfl, below_alloc w _⟩
  · have HF := Lib.hid (show custAcked c = c.next - 1 by rw [custAcked, if_neg h0])
    have hl0 : c.waits.length = 0 := by omega
    clear h hok h0
    rw [hl0]
    go_enter Tryd.func43, Tryd.ntmps43
    go_wp2
    go_ret
    exact ⟨by rw [HF.out]; rfl, below_alloc w _⟩

set_option linter.unusedSimpArgs false in
set_option maxRecDepth 100000 in
set_option maxHeartbeats 1600000 in
theorem custNew_calls (id : Int) (hi : 1 ≤ id ∧ id ≤ 9) (w : World) :
    Calls Tryd.prog 23 #[.int .i64 id] w fun e w' => e = .returned (.tuple #[.agg #[.int .i64 id, .int .i64 0, .int .i64 1, .slice none 0 0], .int .i64 0]) ∧ Below w.heap.size w w' := by
  obtain ⟨h0, h1⟩ := hi
  go_enter Tryd.func23, Tryd.ntmps23
  go_wp2
  refine bodyPost_ret (v := .tuple #[.agg #[.int .i64 id, .int .i64 0, .int .i64 1, .slice none 0 0], .int .i64 0]) (by simp [results, Tryd.results23, go_sem]) rfl ⟨rfl, ?_⟩
  (repeat (first | with_reducible exact below_alloc w _ | with_reducible refine below_set ?_ (Nat.le_refl _) _ _))

set_option linter.unusedSimpArgs false in
set_option maxRecDepth 100000 in
set_option maxHeartbeats 1600000 in
theorem custCopy_calls (c : CustomerD) (v : Value) (S : Nat → Prop) (w : World) (h : SlR 5 rWait w v c.waits S) (hn : c.waits.length ≤ 1000000) :
    Calls Tryd.prog 44 #[.agg #[.int .i64 c.id, .int .i64 c.session, .int .i64 c.next, v]] w fun e w' => ∃ v', e = .returned (.agg #[.int .i64 c.id, .int .i64 c.session, .int .i64 c.next, v']) ∧ OwR 97 5 rWait w' v' c.waits (fun _ => False) ∧ (∀ g, v'.ownBlock = some g → w.heap.size ≤ g) ∧ Below w.heap.size w w' := by
  have hone := h.oneCell
  obtain ⟨a, cap, hv, hl, hm, -, -⟩ := id h
  subst hv
  unfold maxLen at hm
  have HS := Lib.hid h
  clear h
  go_enter Tryd.func44, Tryd.ntmps44
  go_wp2_with fail
  refine (cloneWait_calls rWait_ok _ _ c.waits _ (HS.out.below rWait_ok (by decide) (below_alloc2 w _ _)) hn).mono ?_
  rintro e w2 ⟨v2, rfl, ho2, hb2, hg2⟩
  rw [size_alloc2] at hb2
  obtain ⟨ra, rc, rfl⟩ := ho2.shape
  have hx := (BoxAt.new (w := w) (cs := [.int .i64 c.id, .int .i64 c.session, .int .i64 c.next, .slice a c.waits.length cap]) (E := 63)).below (below_alloc (w.alloc (.cells #[.int .i64 c.id, .int .i64 c.session, .int .i64 c.next, .slice a c.waits.length cap] 63)) (.cells #[.int .i64 0, .int .i64 0, .int .i64 0, .slice none 0 0] 63))
  have hy := BoxAt.new (w := w.alloc (.cells #[.int .i64 c.id, .int .i64 c.session, .int .i64 c.next, .slice a c.waits.length cap] 63)) (cs := [.int .i64 0, .int .i64 0, .int .i64 0, .slice none 0 0]) (E := 63)
  rw [World.size_alloc] at hy
  have HX := Lib.hid (hx.keep (hb2.block w.heap.size (by omega)))
  have HY := Lib.hid (hy.keep (hb2.block (w.heap.size + 1) (by omega)))
  have HG := Lib.hid (show ∀ g, (Value.slice ra c.waits.length rc).ownBlock = some g → w.heap.size + 2 ≤ g from fun g hg => by have := hg2 g hg; rw [size_alloc2] at this; exact this)
  have HO := Lib.hid (ho2.forget rWait_any (S' := fun _ => False))
  have HB := Lib.hid ((below_alloc2 w (.cells #[.int .i64 c.id, .int .i64 c.session, .int .i64 c.next, .slice a c.waits.length cap] 63) (.cells #[.int .i64 0, .int .i64 0, .int .i64 0, .slice none 0 0] 63)).trans (hb2.mono (by omega)))
  clear hx hy ho2 hb2 hg2
  have x0 := HX.out.cell 0 _ rfl; have x1 := HX.out.cell 1 _ rfl; have x2 := HX.out.cell 2 _ rfl; have x3 := HX.out.cell 3 _ rfl
  have y0 := HY.out.cell 0 _ rfl; have y1 := HY.out.cell 1 _ rfl; have y2 := HY.out.cell 2 _ rfl; have y3 := HY.out.cell 3 _ rfl
  have f3 := HX.out.thaw 3
  have g0 := HY.out.thaw 0; have g1 := HY.out.thaw 1; have g2 := HY.out.thaw 2; have g3 := HY.out.thaw 3
  go_wp2
  have HY3 := HY.out.far (c := w.heap.size) (by omega) 3 (.slice ra c.waits.length rc)
  have hp := ((((HY3).set 0 (by simp) (.int .i64 c.id)).set 1 (by simp) (.int .i64 c.session)).set 2 (by simp) (.int .i64 c.next)).set 3 (by simp) (.slice ra c.waits.length rc)
  have hbf := below_set (below_set (below_set (below_set (Below.refl (w.heap.size) (w2.setCell ⟨w.heap.size, 3, none⟩ (.slice ra c.waits.length rc))) (Nat.le_succ _) 0 (.int .i64 c.id)) (Nat.le_succ _) 1 (.int .i64 c.session)) (Nat.le_succ _) 2 (.int .i64 c.next)) (Nat.le_succ _) 3 (.slice ra c.waits.length rc)
  have hb3 : Below w.heap.size w2 (w2.setCell ⟨w.heap.size, 3, none⟩ (.slice ra c.waits.length rc)) := below_set (Below.refl _ _) (Nat.le_refl _) 3 _
  have ho9 : OwR 97 5 rWait (((((w2.setCell ⟨w.heap.size, 3, none⟩ (.slice ra c.waits.length rc)).setCell ⟨w.heap.size + 1, 0, none⟩ (.int .i64 c.id)).setCell ⟨w.heap.size + 1, 1, none⟩ (.int .i64 c.session)).setCell ⟨w.heap.size + 1, 2, none⟩ (.int .i64 c.next)).setCell ⟨w.heap.size + 1, 3, none⟩ (.slice ra c.waits.length rc)) (.slice ra c.waits.length rc) c.waits (fun _ => False) := HO.out.move rWait_ok (fun g hg => (heap_far (by have := HG.out g hg; omega)).trans ((heap_far (by have := HG.out g hg; omega)).trans ((heap_far (by have := HG.out g hg; omega)).trans ((heap_far (by have := HG.out g hg; omega)).trans (heap_far (by have := HG.out g hg; omega)))))) (fun b hb => hb.elim)
  generalize ((((w2.setCell ⟨w.heap.size, 3, none⟩ (.slice ra c.waits.length rc)).setCell ⟨w.heap.size + 1, 0, none⟩ (.int .i64 c.id)).setCell ⟨w.heap.size + 1, 1, none⟩ (.int .i64 c.session)).setCell ⟨w.heap.size + 1, 2, none⟩ (.int .i64 c.next)).setCell ⟨w.heap.size + 1, 3, none⟩ (.slice ra c.waits.length rc) = wf at *
  have p0 := hp.cell 0 _ rfl; have p1 := hp.cell 1 _ rfl; have p2 := hp.cell 2 _ rfl; have p3 := hp.cell 3 _ rfl
  refine bodyPost_ret (v := .agg #[.int .i64 c.id, .int .i64 c.session, .int .i64 c.next, .slice ra c.waits.length rc]) (by simp [results, Tryd.results44, go_sem, p0, p1, p2, p3]) rfl ⟨_, rfl, ho9, fun g hg => by have := HG.out g hg; omega, HB.out.trans (hb3.trans hbf)⟩
end Go.Proofs.YtphkkkmjkagkbaaDoor
