/- customer.Check, customer.acked. -/
import Derived.Test.YtphkkkmjkagkbaaDoorCustD
import Derived.Test.YtphkkkmjkagkbaaDoorCmdC
import Derived.BigQuiet
import Derived.Deep.QuietTactic
namespace Go.Proofs.YtphkkkmjkagkbaaDoor
open Go.RowKit Go.Tk

set_option linter.unusedSimpArgs false in
set_option maxRecDepth 100000 in
set_option maxHeartbeats 8000000 in
theorem custCheck_calls (c : CustomerD) (v : Value) (S : Nat → Prop) (w : World) (h : SlR 5 rWait w v c.waits S) (hok : CustOk c) :
    Calls Tryd.prog 28 #[.agg #[.int .i64 c.id, .int .i64 c.session, .int .i64 c.next, v]] w fun e w' => e = .returned (.int .i64 0) ∧ Below w.heap.size w w' := by
  obtain ⟨a, cap, hv, hl, hm, hn, hr⟩ := id h
  subst hv
  unfold maxLen at hm
  obtain ⟨i0, i1⟩ := hok.id
  obtain ⟨s0, s1⟩ := hok.session
  obtain ⟨n0, n1⟩ := hok.next
  have hlen := hok.len
  have haw : (c.session == 0) = false ∨ c.waits.length = 0 := by
    by_cases hs : c.session = 0
    · right; rw [hok.away hs]; rfl
    · left; simpa using hs
  have HALL := Lib.hid hok.all
  have HS := Lib.hid h
  clear hr h hok
  rcases haw with haw | haw
  case inr =>
    by_cases hs : c.session = 0
    all_goals
      go_enter Tryd.func28, Tryd.ntmps28
      go_wp2
      go_loopw [3, 4, 5, 52] (fun _ _ _ i wr => i = .int .i64 0 ∧ Hid (Below w.heap.size w wr)) (fun _ _ _ i _ => 0)
      case atStart => exact ⟨rfl, below_alloc w _⟩
      case round =>
        obtain ⟨rfl, hb⟩ := hrel
        go_wp2
        go_ret
        exact ⟨rfl, hb.out⟩
  case inl =>
  go_enter Tryd.func28, Tryd.ntmps28
  go_wp2
  go_loopw [3, 4, 5, 52] (fun _ _ _ i wr => ∃ k : Nat, k ≤ c.waits.length ∧ i = .int .i64 k ∧ Hid (Below (w.heap.size + 1) (w.alloc (.cells #[.int .i64 c.id, .int .i64 c.session, .int .i64 c.next, .slice a c.waits.length cap] 63)) wr))
    (fun _ _ _ i _ => c.waits.length - (intOf i).toNat)
  case atStart => exact ⟨0, by omega, rfl, Below.refl _ _⟩
  case round =>
    obtain ⟨k, hk, rfl, hb⟩ := hrel
    have HBW := Lib.hid (show Below w.heap.size w wr from (below_alloc w _).trans (hb.out.mono (by omega)))
    by_cases hlt : k < c.waits.length
    case neg =>
      go_wp2
      go_ret
      exact ⟨rfl, HBW.out⟩
    obtain ⟨b, off, cap', row, hv, hS, hrow, hcells⟩ := (HS.out.below rWait_ok (by decide) HBW.out).row k hlt
    simp only [Value.slice.injEq] at hv
    obtain ⟨rfl, _, rfl⟩ := hv
    obtain rfl := hrow
    have q0 := hcells 0 _ rfl
    have q1 := hcells 1 _ rfl
    have q2 := hcells 2 _ rfl
    have q3 := hcells 3 _ rfl
    have q4 := hcells 4 _ rfl
    simp only [Nat.add_zero] at q0
    clear hcells
    have hbl : b < wr.heap.size := World.block_lt_of_cell? wr _ q0
    have hfc : wr.cell? ⟨b, off, none⟩ = some (.int .i64 (c.waits.getD 0 noWait).seq) := by
      obtain ⟨b2, off2, cap2, row, hv, hS, hrow, hcells⟩ := (HS.out.below rWait_ok (by decide) HBW.out).row 0 (by omega)
      simp only [Value.slice.injEq, Option.some.injEq, Addr.mk.injEq] at hv
      obtain ⟨⟨rfl, rfl, _⟩, _, rfl⟩ := hv
      obtain rfl := hrow
      rw [show c.waits.getD 0 noWait = c.waits[0] by simp [List.getD]; rw [List.getElem?_eq_getElem (by omega)]; rfl]
      have := hcells 0 _ rfl
      simpa using this
    have hpc : 0 < k → wr.cell? ⟨b, off + (k - 1) * 5, none⟩ = some (.int .i64 (c.waits.getD (k - 1) noWait).seq) := by
      intro hk0
      obtain ⟨b2, off2, cap2, row, hv, hS, hrow, hcells⟩ := (HS.out.below rWait_ok (by decide) HBW.out).row (k - 1) (by omega)
      simp only [Value.slice.injEq, Option.some.injEq, Addr.mk.injEq] at hv
      obtain ⟨⟨rfl, rfl, _⟩, _, rfl⟩ := hv
      obtain rfl := hrow
      rw [show c.waits.getD (k - 1) noWait = c.waits[k - 1] by simp [List.getD, show k - 1 < c.waits.length by omega]]
      exact hcells 0 _ rfl
    obtain ⟨hnb, hop⟩ := HALL.out k hlt
    have hnb0 := (HALL.out 0 (by omega)).1
    rw [show c.waits.getD k noWait = c.waits[k] by simp [List.getD, hlt]] at hop
    unfold custBad at hnb hnb0
    rw [show c.waits.getD k noWait = c.waits[k] by simp [List.getD, hlt]] at hnb
    have HOP := Lib.hid (opCheck_ok.2 hop)
    clear hop
    generalize c.waits.getD (k - 1) noWait = y at *
    generalize c.waits.getD 0 noWait = f at *
    generalize c.waits[k] = x at *
    have hx1 : 1 ≤ x.seq := by omega
    have hx2 : x.seq < c.next := by omega
    have hx3 : 0 < k → y.seq < x.seq := by omega
    have hx4 : x.seq ≤ f.seq + 3 := by omega
    have hf1 : 1 ≤ f.seq := by omega
    have hf2 : f.seq < c.next := by omega
    clear hnb hnb0 i0 i1 s0 s1 haw hlen
    obtain ⟨hz, -, hzs⟩ := Tk.fresh hb.out
    have z2 := hz 2; have z3 := hz 3
    clear hz
    have h00 : 0 < c.waits.length := by omega
    have h01 : (0 : Int) < (c.waits.length : Int) := by omega
    have e1 : IntKind.i64.wrap (f.seq + 4) = f.seq + 4 := IntWalk.i64_in _ (by omega)
    have e2 : IntKind.i64.wrap (f.seq + 4 - 1) = f.seq + 3 := (IntWalk.i64_in _ (by omega)).trans (by omega)
    clear n0 n1 hf1 hf2 hl hm
    by_cases hk0 : 0 < k
    · have hp0 := hpc hk0
      have hyx := hx3 hk0
      have w1 : IntKind.i64.wrap ((k : Int) - 1) = (k : Int) - 1 := IntWalk.i64_in _ (by omega)
      have w2 : 0 ≤ (k : Int) - 1 := by omega
      have w3 : ((k : Int) - 1).toNat = k - 1 := by omega
      have w4 : (k : Int) - 1 < (c.waits.length : Int) := by omega
      have w5 : (1 : Int) ≤ (k : Int) := by omega
      clear hpc hx3
      go_wp2_with fail
      have hb1 : decide (x.seq < 1) = false := by simp; omega
      have hb2 : decide (c.next ≤ x.seq) = false := by simp; omega
      have hb3 : decide (f.seq + 3 < x.seq) = false := by simp; omega
      have hb4 : decide (x.seq ≤ y.seq) = false := by simp; omega
      go_quiet (fail)
      go_wp2_with fail
      refine (checkOp_calls x.op _).mono ?_; rw [HOP.out]; rintro e w2 ⟨rfl, hb2⟩
      have HBF := Lib.hid (hb.out.trans ((below_step (below_drewN (below_alloc wr (.cells #[.int .i64 x.seq, .int .i64 x.op.kind, .string ⟨x.op.a.toArray⟩, .string ⟨x.op.b.toArray⟩, .int .i64 x.op.n] 97)) _) hb2).mono (by have := hb.out.size; rw [World.size_alloc] at this; exact this)))
      clear hb2
      go_wp2
      go_roundw
      case rel => exact ⟨k + 1, by omega, by go_num, HBF⟩
      case measure => simp [intOf]; omega
    · obtain rfl : k = 0 := by omega
      clear hpc hx3 hk0
      simp only [Nat.zero_mul, Nat.add_zero] at q0 q1 q2 q3 q4
      have hxf : f.seq = x.seq := by have := hfc.symm.trans q0; simpa using this
      rw [hxf] at e1 e2 hx4
      clear hfc hxf
      go_wp2_with fail
      clear hx4
      have hx4 : x.seq ≤ x.seq + 3 := by omega
      have hb1 : decide (x.seq < 1) = false := by simp; omega
      have hb2 : decide (c.next ≤ x.seq) = false := by simp; omega
      have hb3 : decide (x.seq + 3 < x.seq) = false := by simp; omega
      go_quiet (fail)
      go_wp2_with fail
      refine (checkOp_calls x.op _).mono ?_; rw [HOP.out]; rintro e w2 ⟨rfl, hb2⟩
      have HBF := Lib.hid (hb.out.trans ((below_step (below_drewN (below_alloc wr (.cells #[.int .i64 x.seq, .int .i64 x.op.kind, .string ⟨x.op.a.toArray⟩, .string ⟨x.op.b.toArray⟩, .int .i64 x.op.n] 97)) _) hb2).mono (by have := hb.out.size; rw [World.size_alloc] at this; exact this)))
      clear hb2
      go_wp2
      go_roundw
      case rel => exact ⟨1, by omega, by first | rfl | go_num, HBF⟩
      case measure => simp [intOf]; omega
end Go.Proofs.YtphkkkmjkagkbaaDoor
