/- tackroomkeep.locks: what locks come of commands. -/
import Derived.Test.YtcjnnkbliapkgaaGone
import Derived.Test.YtcjnnkbliapkgaaLocksP
import Derived.Test.YtcjnnkbliapkgaaNames
import Derived.Test.YtcjnnkbliapkgaaRawD
namespace Go.Tk
open Go Go.RowKit
def lStep (l : List LockD) (r : RawD) : List LockD :=
  if picked r.kind 8 < 5 then (lkTake l (kname r.a) (1 + picked r.c 5) (decide (1 < picked r.kind 8))).1
  else if picked r.kind 8 < 7 then (lkFree l (kname r.a) (1 + picked r.c 5)).1
  else (lkGone l (1 + picked r.c 5)).1
def locksP (l : List RawD) : List LockD := (l.take 30).foldl lStep []
theorem picked_range (n m : Int) (hm : 0 < m) : 0 ≤ picked n m ∧ picked n m < m := by
  unfold picked
  split
  · exact ⟨Int.emod_nonneg _ (by omega), Int.emod_lt_of_pos _ hm⟩
  · exact ⟨Int.emod_nonneg _ (by omega), Int.emod_lt_of_pos _ hm⟩
theorem lStep_ok {l : List LockD} (h : LkOk l) (r : RawD) : LkOk (lStep l r) := by
  have hp := picked_range r.c 5 (by decide)
  have hw : 1 ≤ 1 + picked r.c 5 ∧ 1 + picked r.c 5 ≤ 9 := by omega
  unfold lStep
  split
  · exact (take_ok h (kname_ok _) hw).1
  · split
    · exact (free_ok h (kname_ok _) hw).1
    · exact (gone_ok h hw).1
theorem foldl_ok (r : List RawD) : ∀ {l : List LockD}, LkOk l → LkOk (r.foldl lStep l) := by
  induction r with
  | nil => exact fun h => h
  | cons x r ih => exact fun h => ih (lStep_ok h x)
theorem locksP_ok (r : List RawD) : LkOk (locksP r) := foldl_ok _ lk_nil
theorem locksP_step (l : List RawD) (n : Nat) (hn : n < l.length) : (l.take (n + 1)).foldl lStep [] = lStep ((l.take n).foldl lStep []) l[n] := by
  rw [List.take_succ_eq_append_getElem hn, List.foldl_append]; rfl
end Go.Tk
namespace Go.Proofs.Ytcjnnkbliapkgaa
open Go.RowKit Go.Tk

set_option maxRecDepth 100000 in
set_option maxHeartbeats 1600000 in
theorem locks_calls (l : List RawD) (v : Value) (S : Nat → Prop) (w : World) (h : SlR 4 rRaw w v l S) (hr : ∀ x ∈ l, RawOk x) :
    Calls Try.prog 24 #[v] w fun e w' => ∃ v', e = .returned v' ∧ SlR 4 rLock w' v' (locksP l) (fun b => w.heap.size ≤ b) ∧ Below w.heap.size w w' := by
  obtain ⟨a, cap, hv, hl, hm, hnl, -⟩ := id h
  subst hv
  unfold maxLen at hm
  have HH := Lib.hid h
  have HR := Lib.hid hr
  clear h hr
  go_enter Try.func24, Try.ntmps24
  go_wp2
  go_loopw [3, 4, 5, 6, 7, 8, 9] (fun v i _ _ _ _ _ wr => ∃ n : Nat, n ≤ l.length ∧ n ≤ 30 ∧ i = .int .i64 n ∧ Hid (SlR 4 rLock wr v ((l.take n).foldl lStep []) (fun b => w.heap.size ≤ b)) ∧ Hid (Below w.heap.size w wr))
    (fun _ i _ _ _ _ _ _ => 30 - (intOf i).toNat)
  case atStart => exact ⟨0, by omega, by omega, rfl, SlR.nil _ _, Below.refl _ _⟩
  case round =>
    obtain ⟨n, hn, hn30, rfl, hsl, hbw⟩ := hrel
    by_cases hlt : n < l.length
    · by_cases h30 : n < 30
      · obtain ⟨b, off, cap', row, hv, hS, hrow, hcells⟩ := (HH.out.below rRaw_ok (by decide) hbw.out).row n hlt
        simp only [Value.slice.injEq] at hv
        obtain ⟨rfl, _, rfl⟩ := hv
        have HST := Lib.hid (locksP_step l n hlt)
        have HOK := Lib.hid (foldl_ok (l.take n) lk_nil)
        have hro := HR.out l[n] (List.getElem_mem hlt)
        generalize (l.take n).foldl lStep [] = cur at hsl HST HOK
        generalize l[n] = x at *
        obtain rfl := hrow
        have q0 := hcells 0 _ rfl
        have q1 := hcells 1 _ rfl
        have q2 := hcells 2 _ rfl
        have q3 := hcells 3 _ rfl
        simp only [Nat.add_zero] at q0
        clear hcells
        obtain ⟨⟨rk1, rk2⟩, ⟨ra1, ra2⟩, -, ⟨rc1, rc2⟩⟩ := hro
        obtain ⟨p, hp, hp0, hp1⟩ : ∃ p, picked x.c 5 = p ∧ 0 ≤ p ∧ p < 5 := ⟨_, rfl, picked_range _ _ (by decide)⟩
        obtain ⟨k, hk, hk0, hk1⟩ : ∃ k, picked x.kind 8 = k ∧ 0 ≤ k ∧ k < 8 := ⟨_, rfl, picked_range _ _ (by decide)⟩
        have HP := Lib.hid hp
        have HK := Lib.hid hk
        have HSD := Lib.hid (show lStep cur x = if k < 5 then (lkTake cur (kname x.a) (1 + p) (decide (1 < k))).1 else if k < 7 then (lkFree cur (kname x.a) (1 + p)).1 else (lkGone cur (1 + p)).1 by rw [lStep, hp, hk])
        clear hp hk
        have hw1 : IntKind.i64.wrap (1 + p) = 1 + p := IntWalk.i64_in _ (by omega)
        have hww : 1 ≤ 1 + p ∧ 1 + p ≤ 9 := by omega
        go_wp2_with fail
        refine (picked_calls x.c _ (by omega) (by omega) rc1 rc2 _).mono ?_
        rw [HP.out]; rintro e w' ⟨rfl, rfl⟩
        go_wp2_with fail
        refine (picked_calls x.kind _ (by omega) (by omega) rk1 rk2 _).mono ?_
        rw [HK.out]; rintro e w' ⟨rfl, rfl⟩
        have hba := below_alloc wr (.cells #[.int .i64 x.kind, .int .i64 x.a, .int .i64 x.b, .int .i64 x.c] 101)
        have hszw := hbw.out.size
        rcases (show k < 5 ∨ (¬ k < 5 ∧ k < 7) ∨ (¬ k < 5 ∧ ¬ k < 7) by omega) with h1 | ⟨h1, h2⟩ | ⟨h1, h2⟩
        · obtain ⟨ht1, ht2⟩ := take_ok (wt := decide (1 < k)) HOK.out (kname_ok x.a) hww
          have HT := Lib.hid (HST.out.trans (HSD.out.trans (if_pos h1)))
          have HT2 := Lib.hid ht2
          clear ht1 ht2 HSD HST q0 q1 q2 q3
          go_wp2_with fail
          refine (kname_calls x.a ra1 ra2 _).mono ?_; rintro e w2 ⟨rfl, hb2⟩
          have hb02 := below_step hba hb2
          go_wp2_with fail
          refine (take_calls cur (kname x.a) (1 + p) (decide (1 < k)) _ _ _ (hsl.out.below rLock_ok (by decide) hb02) HOK.out.inner).mono ?_
          rintro e w3 ⟨v3, rfl, hl3, hb3⟩
          rw [HT2.out]
          have HL3 := Lib.hid (hl3.sub (S' := fun b => w.heap.size ≤ b) rLock_ok (by decide) (fun b hb _ => by have := hb02.size; show _ ≤ _; omega))
          have HB3 := Lib.hid (below_step hbw.out (below_step hb02 hb3))
          clear hb2 hb02 hb3 hl3 hsl hba
          generalize (lkTake cur (kname x.a) (1 + p) (decide (1 < k))).2.1 = rp at *
          go_wp2
          go_roundw
          case rel => exact ⟨n + 1, by omega, by omega, by go_num, by show Hid _; rw [HT.out]; exact HL3.out, HB3.out⟩
          case measure => simp [intOf]; omega
        · obtain ⟨ht1, ht2⟩ := free_ok HOK.out (kname_ok x.a) hww
          have HT := Lib.hid (HST.out.trans (HSD.out.trans ((if_neg h1).trans (if_pos h2))))
          have HT2 := Lib.hid ht2
          clear ht1 ht2 HSD HST q0 q1 q2 q3
          go_wp2_with fail
          refine (kname_calls x.a ra1 ra2 _).mono ?_; rintro e w2 ⟨rfl, hb2⟩
          have hb02 := below_step hba hb2
          go_wp2_with fail
          refine (free_calls cur (kname x.a) (1 + p) _ _ _ (hsl.out.below rLock_ok (by decide) hb02) HOK.out.inner).mono ?_
          rintro e w3 ⟨v3, rfl, hl3, hb3⟩
          rw [HT2.out]
          have HL3 := Lib.hid (hl3.sub (S' := fun b => w.heap.size ≤ b) rLock_ok (by decide) (fun b hb _ => by have := hb02.size; show _ ≤ _; omega))
          have HB3 := Lib.hid (below_step hbw.out (below_step hb02 hb3))
          clear hb2 hb02 hb3 hl3 hsl hba
          generalize (lkFree cur (kname x.a) (1 + p)).2.1 = rp at *
          go_wp2
          go_roundw
          case rel => exact ⟨n + 1, by omega, by omega, by go_num, by show Hid _; rw [HT.out]; exact HL3.out, HB3.out⟩
          case measure => simp [intOf]; omega
        · obtain ⟨ht1, ht2⟩ := gone_ok HOK.out hww
          have HT := Lib.hid (HST.out.trans (HSD.out.trans ((if_neg h1).trans (if_neg h2))))
          have HT2 := Lib.hid (show (lkGone cur (1 + p)).2 = 0 by rw [ht2])
          clear ht1 ht2 HSD HST q0 q1 q2 q3
          go_wp2_with fail
          refine (gone_calls cur (1 + p) _ _ _ (hsl.out.below rLock_ok (by decide) hba) HOK.out.inner).mono ?_
          rintro e w3 ⟨v3, rfl, hl3, hb3⟩
          rw [HT2.out]
          have HL3 := Lib.hid (hl3.sub (S' := fun b => w.heap.size ≤ b) rLock_ok (by decide) (fun b hb _ => by have := hba.size; show _ ≤ _; omega))
          have HB3 := Lib.hid (below_step hbw.out (below_step hba hb3))
          clear hb3 hl3 hsl hba
          go_wp2
          go_roundw
          case rel => exact ⟨n + 1, by omega, by omega, by go_num, by show Hid _; rw [HT.out]; exact HL3.out, HB3.out⟩
          case measure => simp [intOf]; omega
      · obtain rfl : n = 30 := by omega
        have HF : Hid (SlR 4 rLock wr u3 (locksP l) (fun b => w.heap.size ≤ b)) := hsl.out
        go_wp2
        go_ret
        exact ⟨_, rfl, HF.out, hbw.out⟩
    · obtain rfl : n = l.length := by omega
      have HF : Hid (SlR 4 rLock wr u3 (locksP l) (fun b => w.heap.size ≤ b)) := by
        have := hsl.out
        rw [List.take_length] at this
        show SlR _ _ _ _ _ _
        rw [locksP, List.take_of_length_le hn30]; exact this
      clear hsl
      go_wp2
      go_ret
      exact ⟨_, rfl, HF.out, hbw.out⟩
end Go.Proofs.Ytcjnnkbliapkgaa
