/- command.CheckOp, command.Check. -/
import Derived.Test.YtphkkkmjkagkbaaDoorLockN
import Derived.Test.YtphkkkmjkagkbaaDoorDeep
import Derived.Test.YtphkkkmjkagkbaaDoorCmdP
namespace Go.Tk
open Go Go.RowKit
theorem op_eq {o p : OpD} (h1 : o.kind = p.kind) (h2 : o.a = p.a) (h3 : o.b = p.b) (h4 : o.n = p.n) : o = p := by
  rcases o with ⟨a, b, c, d⟩; rcases p with ⟨e, f, g, h⟩; simp at h1 h2 h3 h4; subst h1 h2 h3 h4; rfl
end Go.Tk
namespace Go.Proofs.YtphkkkmjkagkbaaDoor
open Go.RowKit Go.Tk

set_option maxRecDepth 100000 in
set_option maxHeartbeats 1600000 in
theorem checkOp_calls (o : OpD) (w : World) : Calls Tryd.prog 42 #[valOp o] w fun e w' => e = .returned (.int .i64 (opCheck o)) ∧ Below w.heap.size w w' := by
  obtain ⟨k, a, b, n⟩ := o
  show Calls _ _ #[.agg #[.int .i64 k, .string ⟨a.toArray⟩, .string ⟨b.toArray⟩, .int .i64 n]] _ _
  by_cases hk : k < 1 ∨ 6 < k
  · have HV := Lib.hid (show opCheck ⟨k, a, b, n⟩ = 3 by rw [opCheck, if_pos hk])
    have hcases : k < 1 ∨ (¬ k < 1 ∧ 6 < k) := by omega
    clear hk
    rcases hcases with h1 | ⟨h1, h2⟩
    all_goals
      go_enter Tryd.func42, Tryd.ntmps42
      go_wp2
      go_ret
      exact ⟨by rw [HV.out]; rfl, below_alloc w _⟩
  · have k1 : ¬ k < 1 := by omega
    have k2 : ¬ 6 < k := by omega
    have HV := Lib.hid (show opCheck ⟨k, a, b, n⟩ = if lkName a = false ∨ (k ≠ 5 ∧ b ≠ []) then 4 else if 12 < b.length then 1 else if (k = 5 ∧ (n < 1 ∨ 1073741824 < n)) ∨ (k ≠ 5 ∧ n ≠ 0) then 2 else 0 by rw [opCheck, if_neg hk])
    clear hk
    go_enter Tryd.func42, Tryd.ntmps42
    go_wp2_with fail
    refine (name_calls a _).mono ?_; rintro e w2 ⟨rfl, hb2⟩
    have hb2' := hb2
    rw [World.size_alloc] at hb2'
    obtain ⟨hz, -, hzs⟩ := Tk.fresh hb2'
    have z0 := hz 0; have z2 := hz 2; have z3 := hz 3
    clear hz
    have hb02 := below_step (below_alloc w _) hb2
    clear hb2 hb2'
    cases hnm : lkName a
    case false =>
      have HF := Lib.hid (HV.out.trans (if_pos (.inl hnm)))
      clear hnm
      go_wp2
      go_ret
      exact ⟨by rw [HF.out]; rfl, hb02⟩
    case true =>
      by_cases h5 : k = 5
      · subst h5
        have HF := Lib.hid (HV.out.trans (if_neg (by rw [hnm]; simp)))
        clear hnm HV
        by_cases hl : 12 < b.length
        · have HF2 := Lib.hid (HF.out.trans (if_pos hl))
          go_wp2
          go_ret
          exact ⟨by rw [HF2.out]; rfl, hb02⟩
        · have HF2 := Lib.hid (HF.out.trans (if_neg hl))
          rcases (show n < 1 ∨ (¬ n < 1 ∧ 1073741824 < n) ∨ (¬ n < 1 ∧ ¬ 1073741824 < n) by omega) with h1 | ⟨h1, h2⟩ | ⟨h1, h2⟩
          · have HF3 := Lib.hid (HF2.out.trans (if_pos (by omega)))
            go_wp2
            go_ret
            exact ⟨by rw [HF3.out]; rfl, hb02⟩
          · have HF3 := Lib.hid (HF2.out.trans (if_pos (by omega)))
            go_wp2
            go_ret
            exact ⟨by rw [HF3.out]; rfl, hb02⟩
          · have HF3 := Lib.hid (HF2.out.trans (if_neg (by omega)))
            go_wp2
            go_ret
            exact ⟨by rw [HF3.out]; rfl, hb02⟩
      · have h5a : (k == 5) = false := by simpa using h5
        have h5b : (k != 5) = true := by simpa using h5
        cases b with
        | cons c r =>
          have HF := Lib.hid (HV.out.trans (if_pos (.inr ⟨h5, by simp⟩)))
          clear hnm HV h5
          go_wp2
          go_ret
          exact ⟨by rw [HF.out]; rfl, hb02⟩
        | nil =>
          have HF := Lib.hid ((HV.out.trans (if_neg (by rw [hnm]; simp))).trans (if_neg (by simp)))
          clear hnm HV
          by_cases hn : n = 0
          · have HF2 := Lib.hid (HF.out.trans (if_neg (by omega)))
            have hn0 : (n != 0) = false := by simpa using hn
            clear hn h5
            go_wp2
            go_ret
            exact ⟨by rw [HF2.out]; rfl, hb02⟩
          · have HF2 := Lib.hid (HF.out.trans (if_pos (by omega)))
            have hn0 : (n != 0) = true := by simpa using hn
            clear hn h5
            go_wp2
            go_ret
            exact ⟨by rw [HF2.out]; rfl, hb02⟩
set_option maxRecDepth 100000 in
set_option maxHeartbeats 1600000 in
theorem cmdCheck_calls (c : CommandD) (w : World) : Calls Tryd.prog 29 #[valCommand c] w fun e w' => e = .returned (.int .i64 (cmdCheck c)) ∧ Below w.heap.size w w' := by
  obtain ⟨k, cl, se, sq, ak, ok, a, b, n⟩ := c
  show Calls _ _ #[.agg #[.int .i64 k, .int .i64 cl, .int .i64 se, .int .i64 sq, .int .i64 ak, .int .i64 ok, .string ⟨a.toArray⟩, .string ⟨b.toArray⟩, .int .i64 n]] _ _
  by_cases hk : k < 1 ∨ 3 < k
  · have HV := Lib.hid (show cmdCheck ⟨k, cl, se, sq, ak, ok, a, b, n⟩ = 3 by rw [cmdCheck, if_pos hk])
    have hcases : k < 1 ∨ (¬ k < 1 ∧ 3 < k) := by omega
    clear hk
    rcases hcases with h1 | ⟨h1, h2⟩
    all_goals
      go_enter Tryd.func29, Tryd.ntmps29
      go_wp2
      go_ret
      exact ⟨by rw [HV.out]; rfl, below_alloc w _⟩
  have k1 : ¬ k < 1 := by omega
  have k2 : ¬ 3 < k := by omega
  by_cases hc : cl < 1 ∨ 9 < cl
  · have HV := Lib.hid (show cmdCheck ⟨k, cl, se, sq, ak, ok, a, b, n⟩ = 2 by rw [cmdCheck, if_neg hk, if_pos hc])
    have hcases : cl < 1 ∨ (¬ cl < 1 ∧ 9 < cl) := by omega
    clear hk hc
    rcases hcases with h1 | ⟨h1, h2⟩
    all_goals
      go_enter Tryd.func29, Tryd.ntmps29
      go_wp2
      go_ret
      exact ⟨by rw [HV.out]; rfl, below_alloc w _⟩
  have c1 : ¬ cl < 1 := by omega
  have c2 : ¬ 9 < cl := by omega
  by_cases h2 : k = 2
  · subst h2
    by_cases hb : se < 1 ∨ 1073741824 < se ∨ sq < 1 ∨ 1048576 < sq ∨ ak < 0 ∨ sq ≤ ak
    · have HV := Lib.hid (show cmdCheck ⟨2, cl, se, sq, ak, ok, a, b, n⟩ = 2 by rw [cmdCheck, if_neg hk, if_neg hc, if_neg (by simp), if_pos hb])
      have hcases : se < 1 ∨ (¬ se < 1 ∧ 1073741824 < se) ∨ (¬ se < 1 ∧ ¬ 1073741824 < se ∧ sq < 1) ∨ (¬ se < 1 ∧ ¬ 1073741824 < se ∧ ¬ sq < 1 ∧ 1048576 < sq) ∨ (¬ se < 1 ∧ ¬ 1073741824 < se ∧ ¬ sq < 1 ∧ ¬ 1048576 < sq ∧ ak < 0) ∨
          (¬ se < 1 ∧ ¬ 1073741824 < se ∧ ¬ sq < 1 ∧ ¬ 1048576 < sq ∧ ¬ ak < 0 ∧ sq ≤ ak) := by omega
      clear hk hc hb
      rcases hcases with g1 | ⟨g1, g2⟩ | ⟨g1, g2, g3⟩ | ⟨g1, g2, g3, g4⟩ | ⟨g1, g2, g3, g4, g5⟩ | ⟨g1, g2, g3, g4, g5, g6⟩
      all_goals
        go_enter Tryd.func29, Tryd.ntmps29
        go_wp2
        go_ret
        exact ⟨by rw [HV.out]; rfl, below_alloc w _⟩
    · have HV := Lib.hid (show cmdCheck ⟨2, cl, se, sq, ak, ok, a, b, n⟩ = opCheck ⟨ok, a, b, n⟩ by rw [cmdCheck, if_neg hk, if_neg hc, if_neg (by simp), if_neg hb])
      have g1 : ¬ se < 1 := by omega
      have g2 : ¬ 1073741824 < se := by omega
      have g3 : ¬ sq < 1 := by omega
      have g4 : ¬ 1048576 < sq := by omega
      have g5 : ¬ ak < 0 := by omega
      have g6 : ¬ sq ≤ ak := by omega
      clear hk hc hb
      go_enter Tryd.func29, Tryd.ntmps29
      go_wp2_with fail
      refine (checkOp_calls ⟨ok, a, b, n⟩ _).mono ?_; rintro e w2 ⟨rfl, hb2⟩
      go_wp2
      go_ret
      exact ⟨by rw [HV.out]; rfl, below_step (below_alloc w _) hb2⟩
  · have hk2 : (k != 2) = true := by simpa using h2
    have HG : Hid (∀ (ok : Int) (a b : List UInt8) (n : Int), cmdCheck ⟨k, cl, 0, 0, 0, ok, a, b, n⟩ = if ok ≠ 0 ∨ a ≠ [] ∨ b ≠ [] ∨ n ≠ 0 then 4 else 0) := fun ok a b n => by
      rw [cmdCheck, if_neg hk, if_neg hc, if_pos h2]; simp
    have HV := Lib.hid (show cmdCheck ⟨k, cl, se, sq, ak, ok, a, b, n⟩ = if se ≠ 0 ∨ sq ≠ 0 ∨ ak ≠ 0 ∨ ok ≠ 0 ∨ a ≠ [] ∨ b ≠ [] ∨ n ≠ 0 then 4 else 0 by rw [cmdCheck, if_neg hk, if_neg hc, if_pos h2])
    clear hk hc h2
    by_cases e1 : se = 0
    case neg =>
      have HF := Lib.hid (HV.out.trans (if_pos (.inl e1)))
      have e1' : (se != 0) = true := by simpa using e1
      clear e1 HV
      go_enter Tryd.func29, Tryd.ntmps29
      go_wp2
      go_ret
      exact ⟨by rw [HF.out]; rfl, below_alloc w _⟩
    subst e1
    by_cases e2 : sq = 0
    case neg =>
      have HF := Lib.hid (HV.out.trans (if_pos (.inr (.inl e2))))
      have e1' : (sq != 0) = true := by simpa using e2
      clear e2 HV
      go_enter Tryd.func29, Tryd.ntmps29
      go_wp2
      go_ret
      exact ⟨by rw [HF.out]; rfl, below_alloc w _⟩
    subst e2
    by_cases e3 : ak = 0
    case neg =>
      have HF := Lib.hid (HV.out.trans (if_pos (.inr (.inr (.inl e3)))))
      have e1' : (ak != 0) = true := by simpa using e3
      clear e3 HV
      go_enter Tryd.func29, Tryd.ntmps29
      go_wp2
      go_ret
      exact ⟨by rw [HF.out]; rfl, below_alloc w _⟩
    subst e3
    go_enter Tryd.func29, Tryd.ntmps29
    go_wp2
    all_goals go_ret
    all_goals refine ⟨ends1 (congrArg (Value.int .i64) ?_), below_alloc w _⟩
    all_goals (rw [HG.out]; simp [*])
end Go.Proofs.YtphkkkmjkagkbaaDoor
