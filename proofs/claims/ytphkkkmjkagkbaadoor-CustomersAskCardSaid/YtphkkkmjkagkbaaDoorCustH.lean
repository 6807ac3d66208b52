/- customer.Hear. -/
import Derived.Test.YtphkkkmjkagkbaaDoorCustS
import Derived.Test.YtphkkkmjkagkbaaDoorIdxWait
import Derived.Test.YtphkkkmjkagkbaaDoorDelWait
import Derived.Conc.MuLone
namespace Go.Tk
open Go Go.RowKit
structure MailOk (m : MailD) : Prop where
  client : -9223372036854775808 ≤ m.client ∧ m.client ≤ 9223372036854775807
  seq : -9223372036854775808 ≤ m.seq ∧ m.seq ≤ 9223372036854775807
  code : -9223372036854775808 ≤ m.reply.code ∧ m.reply.code ≤ 9223372036854775807
  n : -9223372036854775808 ≤ m.reply.n ∧ m.reply.n ≤ 9223372036854775807
def mailCells (m : MailD) : List Value := [.int .i64 m.client, .int .i64 m.seq, .int .i64 m.reply.code, .int .i64 m.reply.n, .string ⟨m.reply.text.toArray⟩]
end Go.Tk
namespace Go.Proofs.YtphkkkmjkagkbaaDoor
open Go.RowKit Go.Tk

set_option maxRecDepth 100000 in
set_option maxHeartbeats 800000 in
theorem hear1_calls (x : WaitD) (m : MailD) (B : Nat) (w : World) (h : w.cell? ⟨B, 1, none⟩ = some (.int .i64 m.seq)) (hl : B < w.heap.size) :
    Calls Tryd.prog 46 #[.agg #[.int .i64 x.seq, .int .i64 x.op.kind, .string ⟨x.op.a.toArray⟩, .string ⟨x.op.b.toArray⟩, .int .i64 x.op.n], .pointer (some ⟨B, 0, none⟩)] w fun e w'' => e = .returned (.bool (x.seq == m.seq)) ∧ Below w.heap.size w w'' := by
  go_enter Tryd.func46, Tryd.ntmps46
  go_wp2
  go_ret
  exact ⟨rfl, below_alloc w _⟩

set_option linter.unusedSimpArgs false in
set_option maxRecDepth 100000 in
set_option maxHeartbeats 6400000 in
theorem custHear_calls (c : CustomerD) (m : MailD) (v : Value) (S : Nat → Prop) (w : World) (h : SlR 5 rWait w v c.waits S) (hok : CustOk c) :
    Calls Tryd.prog 26 #[.agg #[.int .i64 c.id, .int .i64 c.session, .int .i64 c.next, v], .agg #[.int .i64 m.client, .int .i64 m.seq, .int .i64 m.reply.code, .int .i64 m.reply.n, .string ⟨m.reply.text.toArray⟩]] w (RetCust w (custHear c m)) := by
  have HV := Lib.hid (show custHear c m = if m.client ≠ c.id then (noCustomer, 6) else if m.seq = 0 then (if 0 < c.session then (noCustomer, 12) else if m.reply.code ≠ 0 ∧ m.reply.code ≠ 7 then (c, 0) else if m.reply.n < 1 ∨ 1073741824 < m.reply.n then (noCustomer, 2) else (⟨c.id, m.reply.n, c.next, c.waits⟩, 0))
    else if c.waits.length ≤ waitAt c.waits m.seq then (noCustomer, 12) else if m.reply.code = 11 then (⟨c.id, 0, c.next, []⟩, 0) else (⟨c.id, c.session, c.next, c.waits.eraseIdx (waitAt c.waits m.seq)⟩, 0) by rw [custHear, if_neg (by simp [custCheck_ok.2 hok])])
  obtain ⟨s0, s1⟩ := hok.session
  have hlen := hok.len
  have HK := Lib.hid hok
  have hone := h.oneCell
  obtain ⟨a, cap, hv, hl, hm, -, -⟩ := id h
  subst hv
  unfold maxLen at hm
  have HS := Lib.hid h
  clear h hok hm
  go_enter Tryd.func26, Tryd.ntmps26
  go_wp2_with fail
  refine (custCheck_calls c _ S _ (HS.out.below rWait_ok (by decide) (below_step (below_step (below_alloc w _) (below_alloc _ _)) (below_alloc _ _))) HK.out).mono ?_
  rintro e w1 ⟨rfl, hb1⟩
  simp only [World.size_alloc] at hb1
  obtain ⟨hX, hM, hR, hB⟩ := box3 (c1 := [.int .i64 c.id, .int .i64 c.session, .int .i64 c.next, .slice a c.waits.length cap]) (c2 := [.int .i64 m.client, .int .i64 m.seq, .int .i64 m.reply.code, .int .i64 m.reply.n, .string ⟨m.reply.text.toArray⟩]) (c3 := [.int .i64 0, .int .i64 0, .int .i64 0, .slice none 0 0]) hb1
  have HX := Lib.hid hX; have HM := Lib.hid hM; have HR := Lib.hid hR; have HB := Lib.hid hB
  replace HS := Lib.hid (HS.out.below rWait_ok (by decide) hB)
  clear hX hM hR hB hb1
  have x0 := HX.out.cell 0 _ rfl; have x1 := HX.out.cell 1 _ rfl; have x2 := HX.out.cell 2 _ rfl; have x3 := HX.out.cell 3 _ rfl
  have t0 := HX.out.thaw 0; have t1 := HX.out.thaw 1; have t2 := HX.out.thaw 2; have t3 := HX.out.thaw 3
  have m0 := HM.out.cell 0 _ rfl; have m1 := HM.out.cell 1 _ rfl; have m2 := HM.out.cell 2 _ rfl; have m3 := HM.out.cell 3 _ rfl
  have r0 := HR.out.cell 0 _ rfl; have r1 := HR.out.cell 1 _ rfl; have r2 := HR.out.cell 2 _ rfl; have r3 := HR.out.cell 3 _ rfl
  have f0 := HR.out.thaw 0; have f1 := HR.out.thaw 1; have f2 := HR.out.thaw 2; have f3 := HR.out.thaw 3
  by_cases hcl : m.client = c.id
  case neg =>
    have HF := Lib.hid (HV.out.trans (if_pos hcl))
    have hcb : (m.client == c.id) = false := by simpa using hcl
    clear hcl
    go_wp2
    have hp := ((((HR.out).set 0 (by simp) (.int .i64 0)).set 1 (by simp) (.int .i64 0)).set 2 (by simp) (.int .i64 0)).set 3 (by simp) (.slice none 0 0)
    have hbf := below_set (b := w.heap.size + 1 + 1) (below_set (b := w.heap.size + 1 + 1) (below_set (b := w.heap.size + 1 + 1) (below_set (b := w.heap.size + 1 + 1) (Below.refl (w.heap.size) w1) (by omega) 0 (.int .i64 0)) (by omega) 1 (.int .i64 0)) (by omega) 2 (.int .i64 0)) (by omega) 3 (.slice none 0 0)
    generalize (((w1.setCell ⟨w.heap.size + 1 + 1, 0, none⟩ (.int .i64 0)).setCell ⟨w.heap.size + 1 + 1, 1, none⟩ (.int .i64 0)).setCell ⟨w.heap.size + 1 + 1, 2, none⟩ (.int .i64 0)).setCell ⟨w.heap.size + 1 + 1, 3, none⟩ (.slice none 0 0) = wf at *
    have p0 := hp.cell 0 _ rfl; have p1 := hp.cell 1 _ rfl; have p2 := hp.cell 2 _ rfl; have p3 := hp.cell 3 _ rfl
    refine bodyPost_ret (v := .tuple #[.agg #[.int .i64 0, .int .i64 0, .int .i64 0, .slice none 0 0], .int .i64 6]) (by simp [results, Tryd.results26, go_sem, p0, p1, p2, p3]) rfl ?_
    rw [HF.out]
    exact ⟨_, rfl, SlR.nil _ _, HB.out.trans hbf⟩
  have hcb : (m.client == c.id) = true := by simpa using hcl
  have HV2 := Lib.hid (HV.out.trans (if_neg (fun h => h hcl)))
  clear HV hcl
  go_wp2_with fail
  refine (custCopy_calls c _ _ _ HS.out (by omega)).mono ?_
  rintro e w6 ⟨v6, rfl, ho6, hg6, hb6⟩
  obtain ⟨ra, rc, rfl⟩ := ho6.shape
  clear x0 x1 x2 x3 t0 t1 t2 t3 m0 m1 m2 m3 r0 r1 r2 r3 f0 f1 f2 f3
  have hlt6 : w.heap.size + 1 + 1 < w1.heap.size := HR.out.lt
  replace HX := Lib.hid (HX.out.below hb6)
  replace HM := Lib.hid (HM.out.below hb6)
  replace HR := Lib.hid (HR.out.below hb6)
  replace HB := Lib.hid (below_step HB.out hb6)
  replace HS := Lib.hid (HS.out.below rWait_ok (by decide) hb6)
  clear hb6
  have x0 := HX.out.cell 0 _ rfl; have x1 := HX.out.cell 1 _ rfl; have x2 := HX.out.cell 2 _ rfl; have x3 := HX.out.cell 3 _ rfl
  have t0 := HX.out.thaw 0; have t1 := HX.out.thaw 1; have t2 := HX.out.thaw 2; have t3 := HX.out.thaw 3
  have HG6 := Lib.hid (show ∀ g, (Value.slice ra c.waits.length rc).ownBlock = some g → w.heap.size + 1 + 1 < g from fun g hg => Nat.lt_of_lt_of_le hlt6 (hg6 g hg))
  have HX7 := Lib.hid (((((HX.out).set 0 (by simp) (.int .i64 c.id)).set 1 (by simp) (.int .i64 c.session)).set 2 (by simp) (.int .i64 c.next)).set 3 (by simp) (.slice ra c.waits.length rc))
  have HM7 := Lib.hid (HM.out.keep (w' := (((w6.setCell ⟨w.heap.size, 0, none⟩ (.int .i64 c.id)).setCell ⟨w.heap.size, 1, none⟩ (.int .i64 c.session)).setCell ⟨w.heap.size, 2, none⟩ (.int .i64 c.next)).setCell ⟨w.heap.size, 3, none⟩ (.slice ra c.waits.length rc)) ((heap_far (by omega)).trans ((heap_far (by omega)).trans ((heap_far (by omega)).trans (heap_far (by omega))))))
  have HR7 := Lib.hid (HR.out.keep (w' := (((w6.setCell ⟨w.heap.size, 0, none⟩ (.int .i64 c.id)).setCell ⟨w.heap.size, 1, none⟩ (.int .i64 c.session)).setCell ⟨w.heap.size, 2, none⟩ (.int .i64 c.next)).setCell ⟨w.heap.size, 3, none⟩ (.slice ra c.waits.length rc)) ((heap_far (by omega)).trans ((heap_far (by omega)).trans ((heap_far (by omega)).trans (heap_far (by omega))))))
  have HB7 := Lib.hid (HB.out.trans (below_set (below_set (below_set (below_set (Below.refl (w.heap.size) w6) (Nat.le_refl _) 0 (.int .i64 c.id)) (Nat.le_refl _) 1 (.int .i64 c.session)) (Nat.le_refl _) 2 (.int .i64 c.next)) (Nat.le_refl _) 3 (.slice ra c.waits.length rc)))
  have HO7 := Lib.hid (show OwR 97 5 rWait ((((w6.setCell ⟨w.heap.size, 0, none⟩ (.int .i64 c.id)).setCell ⟨w.heap.size, 1, none⟩ (.int .i64 c.session)).setCell ⟨w.heap.size, 2, none⟩ (.int .i64 c.next)).setCell ⟨w.heap.size, 3, none⟩ (.slice ra c.waits.length rc)) (.slice ra c.waits.length rc) c.waits (fun _ => False) from ho6.move rWait_ok (fun g hg => (heap_far (by have := HG6.out g hg; omega)).trans ((heap_far (by have := HG6.out g hg; omega)).trans ((heap_far (by have := HG6.out g hg; omega)).trans (heap_far (by have := HG6.out g hg; omega))))) (fun b hb => hb.elim))
  clear ho6 hg6
  go_upto_region 7 with (fail)
  generalize (((w6.setCell ⟨w.heap.size, 0, none⟩ (.int .i64 c.id)).setCell ⟨w.heap.size, 1, none⟩ (.int .i64 c.session)).setCell ⟨w.heap.size, 2, none⟩ (.int .i64 c.next)).setCell ⟨w.heap.size, 3, none⟩ (.slice ra c.waits.length rc) = w7 at *
  clear x0 x1 x2 x3 t0 t1 t2 t3 HX HM HR HB HS
  have x0 := HX7.out.cell 0 _ rfl; have x1 := HX7.out.cell 1 _ rfl; have x2 := HX7.out.cell 2 _ rfl; have x3 := HX7.out.cell 3 _ rfl
  have t0 := HX7.out.thaw 0; have t1 := HX7.out.thaw 1; have t2 := HX7.out.thaw 2; have t3 := HX7.out.thaw 3
  have m0 := HM7.out.cell 0 _ rfl; have m1 := HM7.out.cell 1 _ rfl; have m2 := HM7.out.cell 2 _ rfl; have m3 := HM7.out.cell 3 _ rfl
  have r0 := HR7.out.cell 0 _ rfl; have r1 := HR7.out.cell 1 _ rfl; have r2 := HR7.out.cell 2 _ rfl; have r3 := HR7.out.cell 3 _ rfl
  have f0 := HR7.out.thaw 0; have f1 := HR7.out.thaw 1; have f2 := HR7.out.thaw 2; have f3 := HR7.out.thaw 3
  by_cases hsq : m.seq = 0
  case pos =>
    have hsb : (m.seq == 0) = true := by simpa using hsq
    have HV3 := Lib.hid (HV2.out.trans (if_pos hsq))
    clear HV2 hsq
    by_cases hss : 0 < c.session
    case pos =>
      have HF := Lib.hid (HV3.out.trans (if_pos hss))
      go_wp2
      have hp := ((((HR7.out).set 0 (by simp) (.int .i64 0)).set 1 (by simp) (.int .i64 0)).set 2 (by simp) (.int .i64 0)).set 3 (by simp) (.slice none 0 0)
      have hbf := below_set (b := w.heap.size + 1 + 1) (below_set (b := w.heap.size + 1 + 1) (below_set (b := w.heap.size + 1 + 1) (below_set (b := w.heap.size + 1 + 1) (Below.refl (w.heap.size) w7) (by omega) 0 (.int .i64 0)) (by omega) 1 (.int .i64 0)) (by omega) 2 (.int .i64 0)) (by omega) 3 (.slice none 0 0)
      generalize (((w7.setCell ⟨w.heap.size + 1 + 1, 0, none⟩ (.int .i64 0)).setCell ⟨w.heap.size + 1 + 1, 1, none⟩ (.int .i64 0)).setCell ⟨w.heap.size + 1 + 1, 2, none⟩ (.int .i64 0)).setCell ⟨w.heap.size + 1 + 1, 3, none⟩ (.slice none 0 0) = wf at *
      have p0 := hp.cell 0 _ rfl; have p1 := hp.cell 1 _ rfl; have p2 := hp.cell 2 _ rfl; have p3 := hp.cell 3 _ rfl
      refine bodyPost_ret (v := .tuple #[.agg #[.int .i64 0, .int .i64 0, .int .i64 0, .slice none 0 0], .int .i64 12]) (by simp [results, Tryd.results26, go_sem, p0, p1, p2, p3]) rfl ?_
      rw [HF.out]
      exact ⟨_, rfl, SlR.nil _ _, HB7.out.trans hbf⟩
    have HV4 := Lib.hid (HV3.out.trans (if_neg hss))
    by_cases hc0 : m.reply.code ≠ 0 ∧ m.reply.code ≠ 7
    case pos =>
      have hcp : ¬ m.reply.code = 0 := hc0.1
      have hc1 : (m.reply.code != 0) = true := by simpa using hc0.1
      have hc2 : (m.reply.code != 7) = true := by simpa using hc0.2
      have HF := Lib.hid (HV4.out.trans (if_pos hc0))
      clear hc0 HV4 HV3
      go_wp2
      have hp := ((((HR7.out).set 0 (by simp) (.int .i64 c.id)).set 1 (by simp) (.int .i64 c.session)).set 2 (by simp) (.int .i64 c.next)).set 3 (by simp) (.slice ra c.waits.length rc)
      have hbf := below_set (b := w.heap.size + 1 + 1) (below_set (b := w.heap.size + 1 + 1) (below_set (b := w.heap.size + 1 + 1) (below_set (b := w.heap.size + 1 + 1) (Below.refl (w.heap.size) w7) (by omega) 0 (.int .i64 c.id)) (by omega) 1 (.int .i64 c.session)) (by omega) 2 (.int .i64 c.next)) (by omega) 3 (.slice ra c.waits.length rc)
      have ho9 : SlR 5 rWait ((((w7.setCell ⟨w.heap.size + 1 + 1, 0, none⟩ (.int .i64 c.id)).setCell ⟨w.heap.size + 1 + 1, 1, none⟩ (.int .i64 c.session)).setCell ⟨w.heap.size + 1 + 1, 2, none⟩ (.int .i64 c.next)).setCell ⟨w.heap.size + 1 + 1, 3, none⟩ (.slice ra c.waits.length rc)) (.slice ra c.waits.length rc) (c.waits) (fun b => w.heap.size ≤ b) := (HO7.out.move (S' := fun _ => False) rWait_ok (fun g hg => (heap_far (by have := HG6.out g hg; omega)).trans ((heap_far (by have := HG6.out g hg; omega)).trans ((heap_far (by have := HG6.out g hg; omega)).trans (heap_far (by have := HG6.out g hg; omega))))) (fun b hb => hb.elim)).waitRead (fun g hg => by have := HG6.out g hg; show w.heap.size ≤ g; omega)
      generalize (((w7.setCell ⟨w.heap.size + 1 + 1, 0, none⟩ (.int .i64 c.id)).setCell ⟨w.heap.size + 1 + 1, 1, none⟩ (.int .i64 c.session)).setCell ⟨w.heap.size + 1 + 1, 2, none⟩ (.int .i64 c.next)).setCell ⟨w.heap.size + 1 + 1, 3, none⟩ (.slice ra c.waits.length rc) = wf at *
      have p0 := hp.cell 0 _ rfl; have p1 := hp.cell 1 _ rfl; have p2 := hp.cell 2 _ rfl; have p3 := hp.cell 3 _ rfl
      refine bodyPost_ret (v := .tuple #[.agg #[.int .i64 c.id, .int .i64 c.session, .int .i64 c.next, .slice ra c.waits.length rc], .int .i64 0]) (by simp [results, Tryd.results26, go_sem, p0, p1, p2, p3]) rfl ?_
      rw [HF.out]
      exact ⟨_, rfl, ho9, HB7.out.trans hbf⟩
    have HV5 := Lib.hid (HV4.out.trans (if_neg hc0))
    have hc1 : m.reply.code = 0 ∨ m.reply.code = 7 := by
      by_cases h : m.reply.code = 0
      · exact .inl h
      · by_cases h7 : m.reply.code = 7
        · exact .inr h7
        · exact absurd ⟨h, h7⟩ hc0
    clear hc0 HV3 HV4
    by_cases hnn : m.reply.n < 1 ∨ 1073741824 < m.reply.n
    case pos =>
      have HF := Lib.hid (HV5.out.trans (if_pos hnn))
      rcases hc1 with hc1 | hc1
      all_goals
        rcases (show m.reply.n < 1 ∨ (1 ≤ m.reply.n ∧ 1073741824 < m.reply.n) by omega) with hn1 | ⟨hn1, hn2⟩
        all_goals
          go_wp2
          have hp := ((((HR7.out).set 0 (by simp) (.int .i64 0)).set 1 (by simp) (.int .i64 0)).set 2 (by simp) (.int .i64 0)).set 3 (by simp) (.slice none 0 0)
          have hbf := below_set (b := w.heap.size + 1 + 1) (below_set (b := w.heap.size + 1 + 1) (below_set (b := w.heap.size + 1 + 1) (below_set (b := w.heap.size + 1 + 1) (Below.refl (w.heap.size) w7) (by omega) 0 (.int .i64 0)) (by omega) 1 (.int .i64 0)) (by omega) 2 (.int .i64 0)) (by omega) 3 (.slice none 0 0)
          generalize (((w7.setCell ⟨w.heap.size + 1 + 1, 0, none⟩ (.int .i64 0)).setCell ⟨w.heap.size + 1 + 1, 1, none⟩ (.int .i64 0)).setCell ⟨w.heap.size + 1 + 1, 2, none⟩ (.int .i64 0)).setCell ⟨w.heap.size + 1 + 1, 3, none⟩ (.slice none 0 0) = wf at *
          have p0 := hp.cell 0 _ rfl; have p1 := hp.cell 1 _ rfl; have p2 := hp.cell 2 _ rfl; have p3 := hp.cell 3 _ rfl
          refine bodyPost_ret (v := .tuple #[.agg #[.int .i64 0, .int .i64 0, .int .i64 0, .slice none 0 0], .int .i64 2]) (by simp [results, Tryd.results26, go_sem, p0, p1, p2, p3]) rfl ?_
          rw [HF.out]
          exact ⟨_, rfl, SlR.nil _ _, HB7.out.trans hbf⟩
    have HF := Lib.hid (HV5.out.trans (if_neg hnn))
    have hn1 : 1 ≤ m.reply.n := by omega
    have hn2 : m.reply.n ≤ 1073741824 := by omega
    clear hnn HV5
    rcases hc1 with hc1 | hc1
    all_goals
      go_wp2
      have hr9 := HR7.out.far (c := w.heap.size) (by omega) 1 (.int .i64 m.reply.n)
      have ho8 := HO7.out.move (w' := w7.setCell ⟨w.heap.size, 1, none⟩ (.int .i64 m.reply.n)) (S' := fun _ => False) rWait_ok (fun g hg => heap_far (by have := HG6.out g hg; omega)) (fun b hb => hb.elim)
      have hb8 := HB7.out.trans (below_set (b := w.heap.size) (Below.refl w.heap.size w7) (Nat.le_refl _) 1 (.int .i64 m.reply.n))
      have hp := ((((hr9).set 0 (by simp) (.int .i64 c.id)).set 1 (by simp) (.int .i64 m.reply.n)).set 2 (by simp) (.int .i64 c.next)).set 3 (by simp) (.slice ra c.waits.length rc)
      have hbf := below_set (b := w.heap.size + 1 + 1) (below_set (b := w.heap.size + 1 + 1) (below_set (b := w.heap.size + 1 + 1) (below_set (b := w.heap.size + 1 + 1) (Below.refl (w.heap.size) (w7.setCell ⟨w.heap.size, 1, none⟩ (.int .i64 m.reply.n))) (by omega) 0 (.int .i64 c.id)) (by omega) 1 (.int .i64 m.reply.n)) (by omega) 2 (.int .i64 c.next)) (by omega) 3 (.slice ra c.waits.length rc)
      have ho9 : SlR 5 rWait (((((w7.setCell ⟨w.heap.size, 1, none⟩ (.int .i64 m.reply.n)).setCell ⟨w.heap.size + 1 + 1, 0, none⟩ (.int .i64 c.id)).setCell ⟨w.heap.size + 1 + 1, 1, none⟩ (.int .i64 m.reply.n)).setCell ⟨w.heap.size + 1 + 1, 2, none⟩ (.int .i64 c.next)).setCell ⟨w.heap.size + 1 + 1, 3, none⟩ (.slice ra c.waits.length rc)) (.slice ra c.waits.length rc) (c.waits) (fun b => w.heap.size ≤ b) := (ho8.move (S' := fun _ => False) rWait_ok (fun g hg => (heap_far (by have := HG6.out g hg; omega)).trans ((heap_far (by have := HG6.out g hg; omega)).trans ((heap_far (by have := HG6.out g hg; omega)).trans (heap_far (by have := HG6.out g hg; omega))))) (fun b hb => hb.elim)).waitRead (fun g hg => by have := HG6.out g hg; show w.heap.size ≤ g; omega)
      generalize ((((w7.setCell ⟨w.heap.size, 1, none⟩ (.int .i64 m.reply.n)).setCell ⟨w.heap.size + 1 + 1, 0, none⟩ (.int .i64 c.id)).setCell ⟨w.heap.size + 1 + 1, 1, none⟩ (.int .i64 m.reply.n)).setCell ⟨w.heap.size + 1 + 1, 2, none⟩ (.int .i64 c.next)).setCell ⟨w.heap.size + 1 + 1, 3, none⟩ (.slice ra c.waits.length rc) = wf at *
      have p0 := hp.cell 0 _ rfl; have p1 := hp.cell 1 _ rfl; have p2 := hp.cell 2 _ rfl; have p3 := hp.cell 3 _ rfl
      refine bodyPost_ret (v := .tuple #[.agg #[.int .i64 c.id, .int .i64 m.reply.n, .int .i64 c.next, .slice ra c.waits.length rc], .int .i64 0]) (by simp [results, Tryd.results26, go_sem, p0, p1, p2, p3]) rfl ?_
      rw [HF.out]
      exact ⟨_, rfl, ho9, hb8.trans hbf⟩
  have hsb : (m.seq == 0) = false := by simpa using hsq
  have HV3 := Lib.hid (HV2.out.trans (if_neg hsq))
  clear HV2 hsq
  have hin := fun args w => MuLone.run_callFunc_enter Tryd.func46 (by kernel_rfl) rfl args w
  have hsl7 := HO7.out.waitRead (S' := fun _ => True) (fun _ _ => trivial)
  have hp : TellsWait w7 none (fun _ => True) 46 (.pointer (some ⟨w.heap.size + 1, 0, none⟩)) (fun x => x.seq == m.seq) := fun w' y hg hr => by
    refine hear1_calls y m (w.heap.size + 1) w' (cell_keep m1 (hg.block _ HM7.out.lt (by simp))) (Nat.lt_of_lt_of_le HM7.out.lt hg.size)
  have HI := Lib.hid (indexWait_calls w7 _ c.waits (fun _ => True) hsl7 (by omega) 46 (.pointer (some ⟨w.heap.size + 1, 0, none⟩)) (fun x => x.seq == m.seq) none hin hp)
  clear hin hsl7 hp
  go_wp2_with fail
  refine HI.out.mono ?_; rw [waitAt_fIdx]; rintro e w8 ⟨rfl, hb8⟩
  clear HI
  clear x0 x1 x2 x3 t0 t1 t2 t3 m0 m1 m2 m3 r0 r1 r2 r3 f0 f1 f2 f3
  have HX8 := Lib.hid (HX7.out.below hb8); have HM8 := Lib.hid (HM7.out.below hb8); have HR8 := Lib.hid (HR7.out.below hb8); have HB8 := Lib.hid (below_step HB7.out hb8); have HO8 := Lib.hid (HO7.out.below rWait_ok hb8)
  clear HX7 HM7 HR7 HB7 HO7 hb8
  have x0 := HX8.out.cell 0 _ rfl; have x1 := HX8.out.cell 1 _ rfl; have x2 := HX8.out.cell 2 _ rfl; have x3 := HX8.out.cell 3 _ rfl
  have t0 := HX8.out.thaw 0; have t1 := HX8.out.thaw 1; have t2 := HX8.out.thaw 2; have t3 := HX8.out.thaw 3
  have m0 := HM8.out.cell 0 _ rfl; have m1 := HM8.out.cell 1 _ rfl; have m2 := HM8.out.cell 2 _ rfl; have m3 := HM8.out.cell 3 _ rfl
  have r0 := HR8.out.cell 0 _ rfl; have r1 := HR8.out.cell 1 _ rfl; have r2 := HR8.out.cell 2 _ rfl; have r3 := HR8.out.cell 3 _ rfl
  have f0 := HR8.out.thaw 0; have f1 := HR8.out.thaw 1; have f2 := HR8.out.thaw 2; have f3 := HR8.out.thaw 3
  by_cases hnf : c.waits.length ≤ waitAt c.waits m.seq
  case pos =>
    have HF := Lib.hid (HV3.out.trans (if_pos hnf))
    rw [if_neg (by omega)]
    go_wp2
    have hp := ((((HR8.out).set 0 (by simp) (.int .i64 0)).set 1 (by simp) (.int .i64 0)).set 2 (by simp) (.int .i64 0)).set 3 (by simp) (.slice none 0 0)
    have hbf := below_set (b := w.heap.size + 1 + 1) (below_set (b := w.heap.size + 1 + 1) (below_set (b := w.heap.size + 1 + 1) (below_set (b := w.heap.size + 1 + 1) (Below.refl (w.heap.size) w8) (by omega) 0 (.int .i64 0)) (by omega) 1 (.int .i64 0)) (by omega) 2 (.int .i64 0)) (by omega) 3 (.slice none 0 0)
    generalize (((w8.setCell ⟨w.heap.size + 1 + 1, 0, none⟩ (.int .i64 0)).setCell ⟨w.heap.size + 1 + 1, 1, none⟩ (.int .i64 0)).setCell ⟨w.heap.size + 1 + 1, 2, none⟩ (.int .i64 0)).setCell ⟨w.heap.size + 1 + 1, 3, none⟩ (.slice none 0 0) = wf at *
    have p0 := hp.cell 0 _ rfl; have p1 := hp.cell 1 _ rfl; have p2 := hp.cell 2 _ rfl; have p3 := hp.cell 3 _ rfl
    refine bodyPost_ret (v := .tuple #[.agg #[.int .i64 0, .int .i64 0, .int .i64 0, .slice none 0 0], .int .i64 12]) (by simp [results, Tryd.results26, go_sem, p0, p1, p2, p3]) rfl ?_
    rw [HF.out]
    exact ⟨_, rfl, SlR.nil _ _, HB8.out.trans hbf⟩
  have HV4 := Lib.hid (HV3.out.trans (if_neg hnf))
  rw [if_pos (by omega)]
  have hwl : waitAt c.waits m.seq < c.waits.length := by omega
  generalize waitAt c.waits m.seq = i at *
  clear hnf HV3
  by_cases hcd : m.reply.code = 11
  case pos =>
    have HF := Lib.hid (HV4.out.trans (if_pos hcd))
    have hcb2 : (m.reply.code == 11) = true := by simpa using hcd
    clear hcd
    go_wp2
    have hr9 := (HR8.out.far (c := w.heap.size) (by omega) 1 (.int .i64 0)).far (c := w.heap.size) (by omega) 3 (.slice none 0 0)
    have hb9 := HB8.out.trans (below_set (b := w.heap.size) (below_set (b := w.heap.size) (Below.refl w.heap.size w8) (Nat.le_refl _) 1 (.int .i64 0)) (Nat.le_refl _) 3 (.slice none 0 0))
    have hp := ((((hr9).set 0 (by simp) (.int .i64 c.id)).set 1 (by simp) (.int .i64 0)).set 2 (by simp) (.int .i64 c.next)).set 3 (by simp) (.slice none 0 0)
    have hbf := below_set (b := w.heap.size + 1 + 1) (below_set (b := w.heap.size + 1 + 1) (below_set (b := w.heap.size + 1 + 1) (below_set (b := w.heap.size + 1 + 1) (Below.refl (w.heap.size) ((w8.setCell ⟨w.heap.size, 1, none⟩ (.int .i64 0)).setCell ⟨w.heap.size, 3, none⟩ (.slice none 0 0))) (by omega) 0 (.int .i64 c.id)) (by omega) 1 (.int .i64 0)) (by omega) 2 (.int .i64 c.next)) (by omega) 3 (.slice none 0 0)
    generalize (((((w8.setCell ⟨w.heap.size, 1, none⟩ (.int .i64 0)).setCell ⟨w.heap.size, 3, none⟩ (.slice none 0 0)).setCell ⟨w.heap.size + 1 + 1, 0, none⟩ (.int .i64 c.id)).setCell ⟨w.heap.size + 1 + 1, 1, none⟩ (.int .i64 0)).setCell ⟨w.heap.size + 1 + 1, 2, none⟩ (.int .i64 c.next)).setCell ⟨w.heap.size + 1 + 1, 3, none⟩ (.slice none 0 0) = wf at *
    have p0 := hp.cell 0 _ rfl; have p1 := hp.cell 1 _ rfl; have p2 := hp.cell 2 _ rfl; have p3 := hp.cell 3 _ rfl
    refine bodyPost_ret (v := .tuple #[.agg #[.int .i64 c.id, .int .i64 0, .int .i64 c.next, .slice none 0 0], .int .i64 0]) (by simp [results, Tryd.results26, go_sem, p0, p1, p2, p3]) rfl ?_
    rw [HF.out]
    exact ⟨_, rfl, SlR.nil _ _, hb9.trans hbf⟩
  have HF := Lib.hid (HV4.out.trans (if_neg hcd))
  have hcb2 : (m.reply.code == 11) = false := by simpa using hcd
  clear hcd HV4
  have HD := Lib.hid (delWait_calls w8 _ c.waits (fun _ => False) (HO8.out.toF rWait_ok) (by omega) i hwl)
  have e1 : IntKind.i64.wrap ((i : Int) + 1) = (i : Int) + 1 := IntWalk.i64_in _ (by omega)
  go_wp2_with fail
  refine HD.out.mono ?_; rintro e w9 ⟨v9, rfl, ho9f, hg9, hv9⟩
  clear HD x0 x1 x2 x3 t0 t1 t2 t3 m0 m1 m2 m3 r0 r1 r2 r3 f0 f1 f2 f3
  obtain ⟨rb, rd, rfl⟩ := ho9f.shape
  have hx9 := HX8.out.grown hg9 (fun e => by have := HG6.out _ e.symm; omega)
  have hr9 := HR8.out.grown hg9 (fun e => by have := HG6.out _ e.symm; omega)
  have HB9 := Lib.hid (HB8.out.grown hg9 HB8.out.size (fun k hk => by have := HG6.out k hk; omega))
  have HG9 := Lib.hid (own_next (v := .slice ra c.waits.length rc) HG6.out HR8.out.lt (.inl hv9))
  have HX9 := Lib.hid hx9; have HR9 := Lib.hid hr9; have HO9 := Lib.hid ho9f
  clear hx9 hr9 hg9 hv9 ho9f
  generalize c.waits.eraseIdx i = L at *
  have x0 := HX9.out.cell 0 _ rfl; have x1 := HX9.out.cell 1 _ rfl; have x2 := HX9.out.cell 2 _ rfl; have x3 := HX9.out.cell 3 _ rfl
  have t0 := HX9.out.thaw 0; have t1 := HX9.out.thaw 1; have t2 := HX9.out.thaw 2; have t3 := HX9.out.thaw 3
  have r0 := HR9.out.cell 0 _ rfl; have r1 := HR9.out.cell 1 _ rfl; have r2 := HR9.out.cell 2 _ rfl; have r3 := HR9.out.cell 3 _ rfl
  have f0 := HR9.out.thaw 0; have f1 := HR9.out.thaw 1; have f2 := HR9.out.thaw 2; have f3 := HR9.out.thaw 3
  go_wp2
  have hr10 := HR9.out.far (c := w.heap.size) (by omega) 3 (.slice rb L.length rd)
  have hb10 := HB9.out.trans (below_set (b := w.heap.size) (Below.refl w.heap.size w9) (Nat.le_refl _) 3 (.slice rb L.length rd))
  have Fo10 := HO9.out.move (w' := w9.setCell ⟨w.heap.size, 3, none⟩ (.slice rb L.length rd)) (S' := fun _ => False) rWait_ok (fun g hg => heap_far (by have := HG9.out g hg; omega)) (fun b hb => hb.elim)
  have hp := ((((hr10).set 0 (by simp) (.int .i64 c.id)).set 1 (by simp) (.int .i64 c.session)).set 2 (by simp) (.int .i64 c.next)).set 3 (by simp) (.slice rb L.length rd)
  have hbf := below_set (b := w.heap.size + 1 + 1) (below_set (b := w.heap.size + 1 + 1) (below_set (b := w.heap.size + 1 + 1) (below_set (b := w.heap.size + 1 + 1) (Below.refl (w.heap.size) (w9.setCell ⟨w.heap.size, 3, none⟩ (.slice rb L.length rd))) (by omega) 0 (.int .i64 c.id)) (by omega) 1 (.int .i64 c.session)) (by omega) 2 (.int .i64 c.next)) (by omega) 3 (.slice rb L.length rd)
  have ho9 : SlR 5 rWait (((((w9.setCell ⟨w.heap.size, 3, none⟩ (.slice rb L.length rd)).setCell ⟨w.heap.size + 1 + 1, 0, none⟩ (.int .i64 c.id)).setCell ⟨w.heap.size + 1 + 1, 1, none⟩ (.int .i64 c.session)).setCell ⟨w.heap.size + 1 + 1, 2, none⟩ (.int .i64 c.next)).setCell ⟨w.heap.size + 1 + 1, 3, none⟩ (.slice rb L.length rd)) (.slice rb L.length rd) (L) (fun b => w.heap.size ≤ b) := (Fo10.move (S' := fun _ => False) rWait_ok (fun g hg => (heap_far (by have := HG9.out g hg; omega)).trans ((heap_far (by have := HG9.out g hg; omega)).trans ((heap_far (by have := HG9.out g hg; omega)).trans (heap_far (by have := HG9.out g hg; omega))))) (fun b hb => hb.elim)).waitReadF (fun g hg => by have := HG9.out g hg; show w.heap.size ≤ g; omega)
  generalize ((((w9.setCell ⟨w.heap.size, 3, none⟩ (.slice rb L.length rd)).setCell ⟨w.heap.size + 1 + 1, 0, none⟩ (.int .i64 c.id)).setCell ⟨w.heap.size + 1 + 1, 1, none⟩ (.int .i64 c.session)).setCell ⟨w.heap.size + 1 + 1, 2, none⟩ (.int .i64 c.next)).setCell ⟨w.heap.size + 1 + 1, 3, none⟩ (.slice rb L.length rd) = wf at *
  have p0 := hp.cell 0 _ rfl; have p1 := hp.cell 1 _ rfl; have p2 := hp.cell 2 _ rfl; have p3 := hp.cell 3 _ rfl
  refine bodyPost_ret (v := .tuple #[.agg #[.int .i64 c.id, .int .i64 c.session, .int .i64 c.next, .slice rb L.length rd], .int .i64 0]) (by simp [results, Tryd.results26, go_sem, p0, p1, p2, p3]) rfl ?_
  rw [HF.out]
  exact ⟨_, rfl, ho9, hb10.trans hbf⟩
end Go.Proofs.YtphkkkmjkagkbaaDoor
