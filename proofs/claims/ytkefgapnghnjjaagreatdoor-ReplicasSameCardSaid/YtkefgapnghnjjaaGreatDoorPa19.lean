/- A part of the proof, laid together from: CmdC, CmdE, CmdB. -/
import Derived.Test.YtkefgapnghnjjaaGreatDoorPa12
import Derived.Test.YtkefgapnghnjjaaGreatDoorPa08
import Derived.Test.YtkefgapnghnjjaaGreatDoorPa05
import Derived.Test.YtkefgapnghnjjaaGreatDoorPa06
import Derived.BigRegion
set_option linter.unusedSimpArgs false
set_option linter.unusedVariables false
namespace Go.Tk
open Go Go.RowKit
end Go.Tk
namespace Go.Proofs.YtkefgapnghnjjaaGreatDoor
open Go.RowKit Go.Tk
set_option maxRecDepth 100000 in
set_option maxHeartbeats 1600000 in
theorem checkOp_calls (o : OpD) (w : World) : Calls Tryz.prog 72 #[valOp o] w fun e w' => e = .returned (.int .i64 (opCheck o)) ∧ Below w.heap.size w w' := by
  obtain ⟨k, a, b, n⟩ := o
  show Calls _ _ #[.agg #[.int .i64 k, .string ⟨a.toArray⟩, .string ⟨b.toArray⟩, .int .i64 n]] _ _
  by_cases hk : k < 1 ∨ 6 < k
  · have HV := Lib.hid (show opCheck ⟨k, a, b, n⟩ = 3 by rw [opCheck, if_pos hk])
    have hcases : k < 1 ∨ (¬ k < 1 ∧ 6 < k) := by omega
    clear hk
    rcases hcases with h1 | ⟨h1, h2⟩
    all_goals
      go_enter Tryz.func72, Tryz.ntmps72
      go_wp2
      go_ret
      exact ⟨by rw [HV.out]; rfl, below_alloc w _⟩
  · have k1 : ¬ k < 1 := by omega
    have k2 : ¬ 6 < k := by omega
    have HV := Lib.hid (show opCheck ⟨k, a, b, n⟩ = if lkName a = false ∨ (k ≠ 5 ∧ b ≠ []) then 4 else if 12 < b.length then 1 else if (k = 5 ∧ (n < 1 ∨ 1073741824 < n)) ∨ (k ≠ 5 ∧ n ≠ 0) then 2 else 0 by rw [opCheck, if_neg hk])
    clear hk
    go_enter Tryz.func72, Tryz.ntmps72
    go_wp2_with fail
    refine (name_calls a _).mono ?_; rintro e w2 ⟨rfl, hb2⟩
    have hb2' := hb2
    rw [World.size_alloc] at hb2'
    obtain ⟨hz, -, hzs⟩ := Tk.fresh hb2'
    have z0 := hz 0; have z2 := hz 2; have z3 := hz 3
    clear hz
    have hb02 := below_step (below_alloc w _) hb2
    clear hb2 hb2'
    cases hnm : lkName a
    case false =>
      have HF := Lib.hid (HV.out.trans (if_pos (.inl hnm)))
      clear hnm
      go_wp2
      go_ret
      exact ⟨by rw [HF.out]; rfl, hb02⟩
    case true =>
      by_cases h5 : k = 5
      · subst h5
        have HF := Lib.hid (HV.out.trans (if_neg (by rw [hnm]; simp)))
        clear hnm HV
        by_cases hl : 12 < b.length
        · have HF2 := Lib.hid (HF.out.trans (if_pos hl))
          go_wp2
          go_ret
          exact ⟨by rw [HF2.out]; rfl, hb02⟩
        · have HF2 := Lib.hid (HF.out.trans (if_neg hl))
          rcases (show n < 1 ∨ (¬ n < 1 ∧ 1073741824 < n) ∨ (¬ n < 1 ∧ ¬ 1073741824 < n) by omega) with h1 | ⟨h1, h2⟩ | ⟨h1, h2⟩
          · have HF3 := Lib.hid (HF2.out.trans (if_pos (by omega)))
            go_wp2
            go_ret
            exact ⟨by rw [HF3.out]; rfl, hb02⟩
          · have HF3 := Lib.hid (HF2.out.trans (if_pos (by omega)))
            go_wp2
            go_ret
            exact ⟨by rw [HF3.out]; rfl, hb02⟩
          · have HF3 := Lib.hid (HF2.out.trans (if_neg (by omega)))
            go_wp2
            go_ret
            exact ⟨by rw [HF3.out]; rfl, hb02⟩
      · have h5a : (k == 5) = false := by simpa using h5
        have h5b : (k != 5) = true := by simpa using h5
        cases b with
        | cons c r =>
          have HF := Lib.hid (HV.out.trans (if_pos (.inr ⟨h5, by simp⟩)))
          clear hnm HV h5
          go_wp2
          go_ret
          exact ⟨by rw [HF.out]; rfl, hb02⟩
        | nil =>
          have HF := Lib.hid ((HV.out.trans (if_neg (by rw [hnm]; simp))).trans (if_neg (by simp)))
          clear hnm HV
          by_cases hn : n = 0
          · have HF2 := Lib.hid (HF.out.trans (if_neg (by omega)))
            have hn0 : (n != 0) = false := by simpa using hn
            clear hn h5
            go_wp2
            go_ret
            exact ⟨by rw [HF2.out]; rfl, hb02⟩
          · have HF2 := Lib.hid (HF.out.trans (if_pos (by omega)))
            have hn0 : (n != 0) = true := by simpa using hn
            clear hn h5
            go_wp2
            go_ret
            exact ⟨by rw [HF2.out]; rfl, hb02⟩
set_option maxRecDepth 100000 in
set_option maxHeartbeats 1600000 in
theorem cmdCheck_calls (c : CommandD) (w : World) : Calls Tryz.prog 51 #[valCommand c] w fun e w' => e = .returned (.int .i64 (cmdCheck c)) ∧ Below w.heap.size w w' := by
  obtain ⟨k, cl, se, sq, ak, ok, a, b, n⟩ := c
  show Calls _ _ #[.agg #[.int .i64 k, .int .i64 cl, .int .i64 se, .int .i64 sq, .int .i64 ak, .int .i64 ok, .string ⟨a.toArray⟩, .string ⟨b.toArray⟩, .int .i64 n]] _ _
  by_cases hk : k < 1 ∨ 3 < k
  · have HV := Lib.hid (show cmdCheck ⟨k, cl, se, sq, ak, ok, a, b, n⟩ = 3 by rw [cmdCheck, if_pos hk])
    have hcases : k < 1 ∨ (¬ k < 1 ∧ 3 < k) := by omega
    clear hk
    rcases hcases with h1 | ⟨h1, h2⟩
    all_goals
      go_enter Tryz.func51, Tryz.ntmps51
      go_wp2
      go_ret
      exact ⟨by rw [HV.out]; rfl, below_alloc w _⟩
  have k1 : ¬ k < 1 := by omega
  have k2 : ¬ 3 < k := by omega
  by_cases hc : cl < 1 ∨ 9 < cl
  · have HV := Lib.hid (show cmdCheck ⟨k, cl, se, sq, ak, ok, a, b, n⟩ = 2 by rw [cmdCheck, if_neg hk, if_pos hc])
    have hcases : cl < 1 ∨ (¬ cl < 1 ∧ 9 < cl) := by omega
    clear hk hc
    rcases hcases with h1 | ⟨h1, h2⟩
    all_goals
      go_enter Tryz.func51, Tryz.ntmps51
      go_wp2
      go_ret
      exact ⟨by rw [HV.out]; rfl, below_alloc w _⟩
  have c1 : ¬ cl < 1 := by omega
  have c2 : ¬ 9 < cl := by omega
  by_cases h2 : k = 2
  · subst h2
    by_cases hb : se < 1 ∨ 1073741824 < se ∨ sq < 1 ∨ 1048576 < sq ∨ ak < 0 ∨ sq ≤ ak
    · have HV := Lib.hid (show cmdCheck ⟨2, cl, se, sq, ak, ok, a, b, n⟩ = 2 by rw [cmdCheck, if_neg hk, if_neg hc, if_neg (by simp), if_pos hb])
      have hcases : se < 1 ∨ (¬ se < 1 ∧ 1073741824 < se) ∨ (¬ se < 1 ∧ ¬ 1073741824 < se ∧ sq < 1) ∨ (¬ se < 1 ∧ ¬ 1073741824 < se ∧ ¬ sq < 1 ∧ 1048576 < sq) ∨ (¬ se < 1 ∧ ¬ 1073741824 < se ∧ ¬ sq < 1 ∧ ¬ 1048576 < sq ∧ ak < 0) ∨
          (¬ se < 1 ∧ ¬ 1073741824 < se ∧ ¬ sq < 1 ∧ ¬ 1048576 < sq ∧ ¬ ak < 0 ∧ sq ≤ ak) := by omega
      clear hk hc hb
      rcases hcases with g1 | ⟨g1, g2⟩ | ⟨g1, g2, g3⟩ | ⟨g1, g2, g3, g4⟩ | ⟨g1, g2, g3, g4, g5⟩ | ⟨g1, g2, g3, g4, g5, g6⟩
      all_goals
        go_enter Tryz.func51, Tryz.ntmps51
        go_wp2
        go_ret
        exact ⟨by rw [HV.out]; rfl, below_alloc w _⟩
    · have HV := Lib.hid (show cmdCheck ⟨2, cl, se, sq, ak, ok, a, b, n⟩ = opCheck ⟨ok, a, b, n⟩ by rw [cmdCheck, if_neg hk, if_neg hc, if_neg (by simp), if_neg hb])
      have g1 : ¬ se < 1 := by omega
      have g2 : ¬ 1073741824 < se := by omega
      have g3 : ¬ sq < 1 := by omega
      have g4 : ¬ 1048576 < sq := by omega
      have g5 : ¬ ak < 0 := by omega
      have g6 : ¬ sq ≤ ak := by omega
      clear hk hc hb
      go_enter Tryz.func51, Tryz.ntmps51
      go_wp2_with fail
      refine (checkOp_calls ⟨ok, a, b, n⟩ _).mono ?_; rintro e w2 ⟨rfl, hb2⟩
      go_wp2
      go_ret
      exact ⟨by rw [HV.out]; rfl, below_step (below_alloc w _) hb2⟩
  · have hk2 : (k != 2) = true := by simpa using h2
    have HG : Hid (∀ (ok : Int) (a b : List UInt8) (n : Int), cmdCheck ⟨k, cl, 0, 0, 0, ok, a, b, n⟩ = if ok ≠ 0 ∨ a ≠ [] ∨ b ≠ [] ∨ n ≠ 0 then 4 else 0) := fun ok a b n => by
      rw [cmdCheck, if_neg hk, if_neg hc, if_pos h2]; simp
    have HV := Lib.hid (show cmdCheck ⟨k, cl, se, sq, ak, ok, a, b, n⟩ = if se ≠ 0 ∨ sq ≠ 0 ∨ ak ≠ 0 ∨ ok ≠ 0 ∨ a ≠ [] ∨ b ≠ [] ∨ n ≠ 0 then 4 else 0 by rw [cmdCheck, if_neg hk, if_neg hc, if_pos h2])
    clear hk hc h2
    by_cases e1 : se = 0
    case neg =>
      have HF := Lib.hid (HV.out.trans (if_pos (.inl e1)))
      have e1' : (se != 0) = true := by simpa using e1
      clear e1 HV
      go_enter Tryz.func51, Tryz.ntmps51
      go_wp2
      go_ret
      exact ⟨by rw [HF.out]; rfl, below_alloc w _⟩
    subst e1
    by_cases e2 : sq = 0
    case neg =>
      have HF := Lib.hid (HV.out.trans (if_pos (.inr (.inl e2))))
      have e1' : (sq != 0) = true := by simpa using e2
      clear e2 HV
      go_enter Tryz.func51, Tryz.ntmps51
      go_wp2
      go_ret
      exact ⟨by rw [HF.out]; rfl, below_alloc w _⟩
    subst e2
    by_cases e3 : ak = 0
    case neg =>
      have HF := Lib.hid (HV.out.trans (if_pos (.inr (.inr (.inl e3)))))
      have e1' : (ak != 0) = true := by simpa using e3
      clear e3 HV
      go_enter Tryz.func51, Tryz.ntmps51
      go_wp2
      go_ret
      exact ⟨by rw [HF.out]; rfl, below_alloc w _⟩
    subst e3
    go_enter Tryz.func51, Tryz.ntmps51
    go_wp2
    all_goals go_ret
    all_goals refine ⟨ends1 (congrArg (Value.int .i64) ?_), below_alloc w _⟩
    all_goals (rw [HG.out]; simp [*])
end Go.Proofs.YtkefgapnghnjjaaGreatDoor

namespace Go.Tk
open Go Go.RowKit
theorem slR_two {w : World} {x y : Int} {E : Nat} (a b : UInt8) (ha : (a.toNat : Int) = x) (hb : (b.toNat : Int) = y) :
    SlR 1 rByte (w.alloc (.cells #[.int .u8 x, .int .u8 y] E)) (.slice (some ⟨w.heap.size, 0, none⟩) 2 2) [a, b] (fun _ => True) := by
  subst ha hb
  refine ⟨_, 2, rfl, Nat.le_refl 2, by decide, (fun h => by cases h), fun i c hi => ?_⟩
  rcases i with _ | _ | i
  · simp at hi; subst hi
    refine ⟨_, _, [.int .u8 a.toNat], rfl, trivial, rfl, fun j u hu => ?_⟩
    rcases j with _ | j
    · simp at hu; subst hu; exact World.cell?_alloc_at _ _ _ _ rfl
    · simp at hu
  · simp at hi; subst hi
    refine ⟨_, _, [.int .u8 b.toNat], rfl, trivial, rfl, fun j u hu => ?_⟩
    rcases j with _ | j
    · simp at hu; subst hu; exact World.cell?_alloc_at _ _ _ _ rfl
    · simp at hu
  · simp at hi
def nums (c : CommandD) : List Int := [c.session, c.seq, c.acked, c.op.kind, c.op.n]
def words (c : CommandD) : List (List UInt8) := [c.op.a, c.op.b]
def numsB (c : CommandD) (k : Nat) : List UInt8 := ((nums c).take k).flatMap fun n => (number n).1
def wordsB (c : CommandD) (k : Nat) : List UInt8 := ((words c).take k).flatMap fun s => (text s).1
theorem numsB_succ (c : CommandD) (k : Nat) (h : k < 5) : numsB c (k + 1) = numsB c k ++ (number ((nums c).getD k 0)).1 := by
  rw [numsB, numsB, List.take_succ_eq_append_getElem (by exact h), List.flatMap_append]
  rw [List.getD, List.getElem?_eq_getElem (show k < (nums c).length from h)]; simp; rfl
theorem wordsB_succ (c : CommandD) (k : Nat) (h : k < 2) : wordsB c (k + 1) = wordsB c k ++ (text ((words c).getD k [])).1 := by
  rw [wordsB, wordsB, List.take_succ_eq_append_getElem (by exact h), List.flatMap_append]
  rw [List.getD, List.getElem?_eq_getElem (show k < (words c).length from h)]; simp; rfl
theorem numsB_len (c : CommandD) : ∀ k, k ≤ 5 → (numsB c k).length ≤ 7 * k
  | 0, _ => by simp [numsB]
  | k + 1, h => by
    have := numsB_len c k (by omega)
    have h2 := number_len ((nums c).getD k 0)
    rw [numsB_succ c k (by omega), List.length_append]; omega
theorem text_any (s : List UInt8) : (text s).1.length ≤ 5007 := by
  by_cases h : s.length ≤ 5000
  · have := text_len s h; omega
  · rw [text, if_pos (by omega)]; simp
theorem wordsB_len (c : CommandD) : ∀ k, k ≤ 2 → (wordsB c k).length ≤ 5007 * k
  | 0, _ => by simp [wordsB]
  | k + 1, h => by
    have := wordsB_len c k (by omega)
    have h2 := text_any ((words c).getD k [])
    rw [wordsB_succ c k (by omega), List.length_append]; omega
theorem nums_cell (c : CommandD) (k : Nat) (h : k < 5) : (#[Value.int .i64 c.session, .int .i64 c.seq, .int .i64 c.acked, .int .i64 c.op.kind, .int .i64 c.op.n])[k]? = some (.int .i64 ((nums c).getD k 0)) := by
  rcases (show k = 0 ∨ k = 1 ∨ k = 2 ∨ k = 3 ∨ k = 4 by omega) with rfl | rfl | rfl | rfl | rfl <;> rfl
theorem words_cell (c : CommandD) (k : Nat) (h : k < 2) : (#[Value.string ⟨c.op.a.toArray⟩, .string ⟨c.op.b.toArray⟩])[k]? = some (.string ⟨((words c).getD k []).toArray⟩) := by
  rcases (show k = 0 ∨ k = 1 by omega) with rfl | rfl <;> rfl
theorem call_bytes (c : CommandD) : numsB c 5 ++ wordsB c 2 = callBytes c := by simp [numsB, wordsB, nums, words, callBytes]
end Go.Tk
namespace Go.Proofs.YtkefgapnghnjjaaGreatDoor
open Go.RowKit Go.Tk
set_option maxRecDepth 100000 in
set_option maxHeartbeats 1600000 in
theorem encode_calls (c : CommandD) (w : World) (hw : ∀ s ∈ words c, s.length ≤ 1000000) :
    Calls Tryz.prog 62 #[valCommand c] w fun e w' => e = .returned (.tuple #[.string ⟨(cmdEncode c).1.toArray⟩, .int .i64 (cmdEncode c).2]) ∧ Below w.heap.size w w' := by
  have HW := Lib.hid hw
  clear hw
  by_cases hok : cmdCheck c = 0
  case neg =>
    have HV := Lib.hid (show cmdEncode c = ([], cmdCheck c) by rw [cmdEncode, if_pos hok])
    have hb : (cmdCheck c != 0) = true := by simpa using hok
    clear hok
    show Calls _ _ #[.agg #[_, _, _, _, _, _, _, _, _]] _ _
    go_enter Tryz.func62, Tryz.ntmps62
    go_wp2_with fail
    refine (cmdCheck_calls c _).mono ?_; rintro e w2 ⟨rfl, hb2⟩
    go_wp2
    go_ret2
    exact ⟨by rw [HV.out]; rfl, below_step (below_alloc w _) hb2⟩
  have hb : (cmdCheck c != 0) = false := by simpa using hok
  have hk := cmdCheck_ok.1 hok
  have HE := Lib.hid (encode_eq hk)
  have HC := Lib.hid (hk.bounds)
  have hkk := hk.bounds.1
  have hcc := hk.bounds.2
  clear hok hk
  obtain ⟨x1, hx1, hk1⟩ : ∃ x : UInt8, x = UInt8.ofNat c.kind.toNat ∧ (x.toNat : Int) = c.kind := ⟨_, rfl, toUInt8_val _ (by omega) (by omega)⟩
  obtain ⟨x2, hx2, hk2⟩ : ∃ x : UInt8, x = UInt8.ofNat c.client.toNat ∧ (x.toNat : Int) = c.client := ⟨_, rfl, toUInt8_val _ (by omega) (by omega)⟩
  have HE2 : Hid (cmdEncode c = (x1 :: x2 :: cmdTail c, 0)) := by rw [hx1, hx2]; exact HE.out
  have HK1 := Lib.hid hk1
  have HK2 := Lib.hid hk2
  clear hk1 hk2 hx1 hx2 HE
  show Calls _ _ #[.agg #[_, _, _, _, _, _, _, _, _]] _ _
  go_enter Tryz.func62, Tryz.ntmps62
  go_wp2_with fail
  refine (cmdCheck_calls c _).mono ?_; rintro e w2 ⟨rfl, hb2⟩
  have hb2' := hb2
  rw [World.size_alloc] at hb2'
  obtain ⟨hz, -, hzs⟩ := Tk.fresh hb2'
  have HBW := Lib.hid (below_step (below_alloc w _) hb2)
  clear hb2 hb2'
  have HZ := Lib.hid hz
  have z0 := hz 0; have z1 := hz 1
  clear hz
  have hcv := run_string_of_bytes (P := Tryz.prog) Tryz.underlying85 Tryz.underlying5 Tryz.underlying9 (slR_two (w := w2) (E := 5) x1 x2 HK1.out HK2.out)
  by_cases h2 : c.kind = 2
  case neg =>
    have h2b : (c.kind != 2) = true := by simpa using h2
    have HF := Lib.hid (HE2.out.trans (show _ = ([x1, x2], (0 : Int)) by rw [cmdTail, if_neg h2]))
    clear h2
    go_wp2
    go_ret2
    exact ⟨by rw [HF.out]; rfl, HBW.out.alloc (by have := HBW.out.size; omega) _⟩
  have h2b : (c.kind != 2) = false := by simpa using h2
  have HF := Lib.hid (HE2.out.trans (show _ = (x1 :: x2 :: (numsB c 5 ++ wordsB c 2), (0 : Int)) by rw [cmdTail, if_pos h2, call_bytes]))
  clear h2 HE2
  have z2 := HZ.out 2; have z3 := HZ.out 3; have z4 := HZ.out 4; have z5 := HZ.out 5; have z8 := HZ.out 8
  go_wp2
  clear z0 z1 z2 z3 z4 z5 z8 hcv
  have hs2 := HBW.out.size
  go_loopw [5, 7, 8, 9, 45] (fun s _ _ _ i wr => ∃ k : Nat, k ≤ 5 ∧ i = .int .i64 k ∧ s = .string ⟨(x1 :: x2 :: numsB c k).toArray⟩ ∧ Hid (Below (w2.heap.size + 2) ((w2.alloc (.cells #[.int .u8 c.kind, .int .u8 c.client] 5)).alloc (.cells #[.int .i64 c.session, .int .i64 c.seq, .int .i64 c.acked, .int .i64 c.op.kind, .int .i64 c.op.n] 3)) wr))
    (fun _ _ _ _ i _ => 5 - (intOf i).toNat)
  case atStart => trace_state; exact ⟨0, by omega, rfl, rfl, Below.refl _ _⟩
  case round =>
    obtain ⟨k, hk, rfl, rfl, hb3⟩ := hrel
    obtain ⟨-, -, hy, -, hzs3⟩ := fresh2 hb3.out
    by_cases hlt : k < 5
    · have hq := (hy k).trans (nums_cell c k hlt)
      have HS := Lib.hid (numsB_succ c k hlt)
      clear hy
      have hl1 := numsB_len c k hk
      generalize (nums c).getD k 0 = n at hq HS
      have hl2 := number_len n
      go_wp2_with fail
      refine (number_calls n _).mono ?_; rintro e w4 ⟨rfl, hb4⟩
      go_wp2
      go_roundw
      case rel => exact ⟨k + 1, by omega, by go_num, by rw [HS.out] <;> first | rfl | simp, hb3.out.trans (hb4.mono (by omega))⟩
      case measure => simp [intOf]; omega
    · obtain rfl : k = 5 := by omega
      clear hy
      have HB5 : Hid (Below w.heap.size w wr) := below_step HBW.out ((below_alloc2 w2 _ _).trans (hb3.out.mono (by omega)))
      have hk0 := cell_keep (HZ.out 6) ((hb3.out.block w.heap.size (by omega)).trans ((Below.heap_alloc _ _ w.heap.size (by simp; omega)).trans (Below.heap_alloc _ _ w.heap.size (by omega))))
      have hk1 := cell_keep (HZ.out 7) ((hb3.out.block w.heap.size (by omega)).trans ((Below.heap_alloc _ _ w.heap.size (by simp; omega)).trans (Below.heap_alloc _ _ w.heap.size (by omega))))
      have hl1 := numsB_len c 5 hk
      clear hzs3 HC HK1 HK2
      rename World => w1
      go_wp2
      have hw3 := hb3.out.size
      simp only [World.size_alloc] at hw3
      go_loopw [5, 11, 12, 13, 66] (fun s _ _ _ i wq => ∃ k : Nat, k ≤ 2 ∧ i = .int .i64 k ∧ s = .string ⟨(x1 :: x2 :: (numsB c 5 ++ wordsB c k)).toArray⟩ ∧ Hid (Below (w1.heap.size + 1) (w1.alloc (.cells #[.string ⟨c.op.a.toArray⟩, .string ⟨c.op.b.toArray⟩] 9)) wq))
        (fun _ _ _ _ i _ => 2 - (intOf i).toNat)
      case atStart => exact ⟨0, by omega, rfl, by simp [wordsB], Below.refl _ _⟩
      case round =>
        obtain ⟨k, hk, rfl, rfl, hb4⟩ := hrel
        obtain ⟨hy, -, hzs4⟩ := Tk.fresh hb4.out
        by_cases hlt : k < 2
        · have hq := (hy k).trans (words_cell c k hlt)
          have HS := Lib.hid (wordsB_succ c k hlt)
          have hwl : ((words c).getD k []).length ≤ 9223372036854775807 := by have := HW.out _ (getD_mem (words c) k [] hlt); omega
          clear hy
          have hl3 := wordsB_len c k hk
          generalize (words c).getD k [] = n at hq HS hwl
          have hl4 := text_any n
          go_wp2_with fail
          refine (text_calls n hwl _).mono ?_; rintro e w4 ⟨rfl, hb5⟩
          go_wp2
          go_roundw
          case rel => (repeat apply Exists.intro); exact ⟨⟨k + 1, by omega, by go_num, by rw [HS.out] <;> first | rfl | simp, hb4.out.trans (hb5.mono (by omega))⟩, rfl⟩
          case measure => simp [intOf]; omega
        · obtain rfl : k = 2 := by omega
          clear hy
          go_wp2
          go_ret2
          exact ⟨by rw [HF.out]; exact ends2 rfl rfl, below_step HB5.out ((below_alloc w1 _).trans (hb4.out.mono (by omega)))⟩
end Go.Proofs.YtkefgapnghnjjaaGreatDoor

namespace Go.Tk
open Go Go.RowKit
def cmdCells (c : CommandD) : List Value := [.int .i64 c.kind, .int .i64 c.client, .int .i64 c.session, .int .i64 c.seq, .int .i64 c.acked, .int .i64 c.op.kind, .string ⟨c.op.a.toArray⟩, .string ⟨c.op.b.toArray⟩, .int .i64 c.op.n]
def CmdAt (w : World) (b : Nat) (c : CommandD) : Prop := (∀ (j : Nat) (u : Value), (cmdCells c)[j]? = some u → w.cell? ⟨b, j, none⟩ = some u) ∧ ∀ j, w.frozen? ⟨b, j, none⟩ = false
theorem CmdAt.of {w : World} {b : Nat} {c : CommandD} {A : Array Value} (hA : A = (cmdCells c).toArray) (h1 : ∀ i, w.cell? ⟨b, i, none⟩ = A[i]?) (h2 : ∀ i, w.frozen? ⟨b, i, none⟩ = false) : CmdAt w b c :=
  ⟨fun j u hu => by rw [h1, hA]; simpa using hu, h2⟩
theorem CmdAt.keep {w w' : World} {b : Nat} {c : CommandD} (h : CmdAt w b c) (hb : w'.heap[b]? = w.heap[b]?) : CmdAt w' b c :=
  ⟨fun j u hu => cell_keep (h.1 j u hu) hb, fun j => (World.frozen?_of_block (a := ⟨b, j, none⟩) hb).trans (h.2 j)⟩
theorem CmdAt.lt {w : World} {b : Nat} {c : CommandD} (h : CmdAt w b c) : b < w.heap.size := World.block_lt_of_cell? w _ (h.1 0 _ rfl)
theorem CmdAt.set {w : World} {b : Nat} {c c' : CommandD} (h : CmdAt w b c) (i : Nat) (hi : i < 9) (u : Value) (hc : cmdCells c' = (cmdCells c).set i u) : CmdAt (w.setCell ⟨b, i, none⟩ u) b c' := by
  refine ⟨fun j v hv => ?_, fun j => (World.frozen?_setCell _ _ _ _).trans (h.2 j)⟩
  rw [hc] at hv
  by_cases hij : i = j
  · subst hij
    rw [List.getElem?_set_self (by exact hi)] at hv
    cases hv
    exact World.cell?_setCell_same w ⟨b, i, none⟩ u (h.1 i _ (List.getElem?_eq_getElem (by exact hi)))
  · rw [List.getElem?_set_ne hij] at hv
    exact (cell_near hij).trans (h.1 j v hv)
def bRest (s : List UInt8) : Nat → List UInt8
  | 0 => s
  | k + 1 => (readNumber (bRest s k)).2.1
def bNum (s : List UInt8) (k : Nat) : Int := (readNumber (bRest s k)).1
def bErr (s : List UInt8) (k : Nat) : Int := (readNumber (bRest s k)).2.2
def bCmd (c : CommandD) (s : List UInt8) : Nat → CommandD
  | 0 => c
  | 1 => ⟨c.kind, c.client, bNum s 0, c.seq, c.acked, c.op⟩
  | 2 => ⟨c.kind, c.client, bNum s 0, bNum s 1, c.acked, c.op⟩
  | 3 => ⟨c.kind, c.client, bNum s 0, bNum s 1, bNum s 2, c.op⟩
  | 4 => ⟨c.kind, c.client, bNum s 0, bNum s 1, bNum s 2, ⟨bNum s 3, c.op.a, c.op.b, c.op.n⟩⟩
  | _ => ⟨c.kind, c.client, bNum s 0, bNum s 1, bNum s 2, ⟨bNum s 3, c.op.a, c.op.b, bNum s 4⟩⟩
def offN : Nat → Nat
  | 0 => 2
  | 1 => 3
  | 2 => 4
  | 3 => 5
  | _ => 8
theorem bCmd_succ (c : CommandD) (s : List UInt8) (k : Nat) (h : k < 5) : cmdCells (bCmd c s (k + 1)) = (cmdCells (bCmd c s k)).set (offN k) (.int .i64 (bNum s k)) := by
  rcases (show k = 0 ∨ k = 1 ∨ k = 2 ∨ k = 3 ∨ k = 4 by omega) with rfl | rfl | rfl | rfl | rfl <;> rfl
theorem offN_lt (k : Nat) : offN k < 9 := by
  unfold offN; split <;> omega
def tRest (s : List UInt8) : Nat → List UInt8
  | 0 => s
  | k + 1 => (readText (tRest s k)).2.1
def tWord (s : List UInt8) (k : Nat) : List UInt8 := (readText (tRest s k)).1
def tErr (s : List UInt8) (k : Nat) : Int := (readText (tRest s k)).2.2
def tCmd (c : CommandD) (s : List UInt8) : Nat → CommandD
  | 0 => c
  | 1 => ⟨c.kind, c.client, c.session, c.seq, c.acked, ⟨c.op.kind, tWord s 0, c.op.b, c.op.n⟩⟩
  | _ => ⟨c.kind, c.client, c.session, c.seq, c.acked, ⟨c.op.kind, tWord s 0, tWord s 1, c.op.n⟩⟩
theorem tCmd_succ (c : CommandD) (s : List UInt8) (k : Nat) (h : k < 2) : cmdCells (tCmd c s (k + 1)) = (cmdCells (tCmd c s k)).set (6 + k) (.string ⟨(tWord s k).toArray⟩) := by
  rcases (show k = 0 ∨ k = 1 by omega) with rfl | rfl <;> rfl
theorem thenNum_ok {α : Type} {s : List UInt8} {fail : Int → α} {k : Int → List UInt8 → α} (h : (readNumber s).2.2 = 0) : thenNum s fail k = k (readNumber s).1 (readNumber s).2.1 := by rw [thenNum, if_neg (by simp [h])]
theorem thenNum_bad {α : Type} {s : List UInt8} {fail : Int → α} {k : Int → List UInt8 → α} (h : (readNumber s).2.2 ≠ 0) : thenNum s fail k = fail (readNumber s).2.2 := by rw [thenNum, if_pos h]
theorem thenText_ok {α : Type} {s : List UInt8} {fail : Int → α} {k : List UInt8 → List UInt8 → α} (h : (readText s).2.2 = 0) : thenText s fail k = k (readText s).1 (readText s).2.1 := by rw [thenText, if_neg (by simp [h])]
theorem thenText_bad {α : Type} {s : List UInt8} {fail : Int → α} {k : List UInt8 → List UInt8 → α} (h : (readText s).2.2 ≠ 0) : thenText s fail k = fail (readText s).2.2 := by rw [thenText, if_pos h]
theorem body_num (c : CommandD) (s : List UInt8) (k : Nat) (hk : k < 5) (h0 : ∀ j, j < k → bErr s j = 0) (h : bErr s k ≠ 0) : cmdBody c s = (noCommand, [], bErr s k) := by
  unfold cmdBody
  rcases (show k = 0 ∨ k = 1 ∨ k = 2 ∨ k = 3 ∨ k = 4 by omega) with rfl | rfl | rfl | rfl | rfl
  · have e := h; simp only [bErr, bRest] at e
    rw [thenNum_bad e]; simp only [bErr, bRest]
  · have e0 := h0 0 (by omega); have e := h; simp only [bErr, bRest] at e0 e
    rw [thenNum_ok e0, thenNum_bad e]; simp only [bErr, bRest]
  · have e0 := h0 0 (by omega); have e1 := h0 1 (by omega); have e := h; simp only [bErr, bRest] at e0 e1 e
    rw [thenNum_ok e0, thenNum_ok e1, thenNum_bad e]; simp only [bErr, bRest]
  · have e0 := h0 0 (by omega); have e1 := h0 1 (by omega); have e2 := h0 2 (by omega); have e := h; simp only [bErr, bRest] at e0 e1 e2 e
    rw [thenNum_ok e0, thenNum_ok e1, thenNum_ok e2, thenNum_bad e]; simp only [bErr, bRest]
  · have e0 := h0 0 (by omega); have e1 := h0 1 (by omega); have e2 := h0 2 (by omega); have e3 := h0 3 (by omega); have e := h; simp only [bErr, bRest] at e0 e1 e2 e3 e
    rw [thenNum_ok e0, thenNum_ok e1, thenNum_ok e2, thenNum_ok e3, thenNum_bad e]; simp only [bErr, bRest]
def bodyT (c : CommandD) (s : List UInt8) : CommandD × List UInt8 × Int :=
  thenText s (fun e => (noCommand, [], e)) fun y1 s => thenText s (fun e => (noCommand, [], e)) fun y2 s => (⟨c.kind, c.client, c.session, c.seq, c.acked, ⟨c.op.kind, y1, y2, c.op.n⟩⟩, s, 0)
theorem body_nums (c : CommandD) (s : List UInt8) (h0 : ∀ j, j < 5 → bErr s j = 0) : cmdBody c s = bodyT (bCmd c s 5) (bRest s 5) := by
  unfold cmdBody bodyT
  have e0 := h0 0 (by omega); have e1 := h0 1 (by omega); have e2 := h0 2 (by omega); have e3 := h0 3 (by omega); have e4 := h0 4 (by omega)
  simp only [bErr, bRest] at e0 e1 e2 e3 e4
  rw [thenNum_ok e0, thenNum_ok e1, thenNum_ok e2, thenNum_ok e3, thenNum_ok e4]
  simp only [bCmd, bRest, bNum]
theorem bodyT_err (c : CommandD) (s : List UInt8) (k : Nat) (hk : k < 2) (h0 : ∀ j, j < k → tErr s j = 0) (h : tErr s k ≠ 0) : bodyT c s = (noCommand, [], tErr s k) := by
  unfold bodyT
  rcases (show k = 0 ∨ k = 1 by omega) with rfl | rfl
  · have e := h; simp only [tErr, tRest] at e
    rw [thenText_bad e]; simp only [tErr, tRest]
  · have e0 := h0 0 (by omega); have e := h; simp only [tErr, tRest] at e0 e
    rw [thenText_ok e0, thenText_bad e]; simp only [tErr, tRest]
theorem bodyT_ok (c : CommandD) (s : List UInt8) (h0 : ∀ j, j < 2 → tErr s j = 0) : bodyT c s = (tCmd c s 2, tRest s 2, 0) := by
  unfold bodyT
  have e0 := h0 0 (by omega); have e1 := h0 1 (by omega)
  simp only [tErr, tRest] at e0 e1
  rw [thenText_ok e0, thenText_ok e1]
  simp only [tCmd, tRest, tWord]
theorem rdGo_rest (s : List UInt8) : ∀ f k m, (rdGo s f k m).2.1.length ≤ s.length
  | 0, k, m => by simp [rdGo]
  | f + 1, k, m => by
    rw [rdGo]
    split
    · split
      · exact rdGo_rest s f _ _
      · split
        · simp
        · simp
    · simp
theorem readNumber_rest (s : List UInt8) : (readNumber s).2.1.length ≤ s.length := rdGo_rest s 6 0 0
theorem readText_rest (s : List UInt8) : (readText s).2.1.length ≤ s.length := by
  have := readNumber_rest s
  rw [readText]
  split
  · simp
  · split
    · simp
    · split
      · simp
      · simp; omega
theorem bRest_len (s : List UInt8) : ∀ k, (bRest s k).length ≤ s.length
  | 0 => Nat.le_refl _
  | k + 1 => Nat.le_trans (readNumber_rest _) (bRest_len s k)
theorem tRest_len (s : List UInt8) : ∀ k, (tRest s k).length ≤ s.length
  | 0 => Nat.le_refl _
  | k + 1 => Nat.le_trans (readText_rest _) (tRest_len s k)
def RetBody (w : World) (b : Nat) (res : CommandD × List UInt8 × Int) (e : Ending) (w' : World) : Prop :=
  e = .returned (.tuple #[.string ⟨res.2.1.toArray⟩, .int .i64 res.2.2]) ∧ w.grownBy w' (some b) ∧ ∃ c', CmdAt w' b c' ∧ (res.2.2 = 0 → c' = res.1)
def PtrN (w : World) (p b : Nat) : Prop := ∀ j, j < 5 → w.cell? ⟨p, j, none⟩ = some (.pointer (some ⟨b, offN j, none⟩))
def PtrT (w : World) (p b : Nat) : Prop := ∀ j, j < 2 → w.cell? ⟨p, j, none⟩ = some (.pointer (some ⟨b, 6 + j, none⟩))
end Go.Tk
namespace Go.Proofs.YtkefgapnghnjjaaGreatDoor
open Go.RowKit Go.Tk
set_option maxRecDepth 100000 in
set_option maxHeartbeats 1600000 in
theorem body_calls (c : CommandD) (s : List UInt8) (b : Nat) (w : World) (h : CmdAt w b c) (hs : s.length ≤ 1000000) :
    Calls Tryz.prog 50 #[.pointer (some ⟨b, 0, none⟩), .string ⟨s.toArray⟩] w (RetBody w b (cmdBody c s)) := by
  have hlt := h.lt
  have HC := Lib.hid h
  clear h
  go_enter Tryz.func50, Tryz.ntmps50
  go_wp2
  go_region
  go_wp2
  go_loopw [1, 7, 8, 31] (fun t _ _ i wr => ∃ k : Nat, k ≤ 5 ∧ i = .int .i64 k ∧ t = .string ⟨(bRest s k).toArray⟩ ∧ Hid (∀ j, j < k → bErr s j = 0) ∧ Hid (CmdAt wr b (bCmd c s k)) ∧ Hid (PtrN wr w.heap.size b) ∧ Hid (w.grownBy wr (some b)) ∧ w.heap.size < wr.heap.size)
    (fun _ _ _ i _ => 5 - (intOf i).toNat)
  case atStart =>
    refine ⟨0, by omega, rfl, rfl, fun j hj => by omega, HC.out.keep ((Go.Tk.heap_drew _ _).trans (Below.heap_alloc _ _ b hlt)), fun j hj => ?_, grownBy_drew (grownBy_alloc (grownBy_refl _ _) _), by simp⟩
    refine (World.cell?_alloc_at _ _ _ _ rfl).trans ?_
    rcases (show j = 0 ∨ j = 1 ∨ j = 2 ∨ j = 3 ∨ j = 4 by omega) with rfl | rfl | rfl | rfl | rfl <;> rfl
  case round =>
    obtain ⟨k, hk, rfl, rfl, HZ, hcm, hpt, hgr, hsz⟩ := hrel
    by_cases h5 : k < 5
    · have q0 := hpt.out k h5
      have HN := Lib.hid (body_num c s k h5 HZ.out)
      have HK := Lib.hid (bCmd_succ c s k h5)
      have hrl : (bRest s k).length ≤ 9223372036854775807 := by have := bRest_len s k; omega
      go_wp2_with fail
      refine (readNumber_calls (bRest s k) hrl _).mono ?_; rintro e w' ⟨rfl, q, rfl⟩
      have hbd : Below wr.heap.size wr (wr.drewN q) := below_drewN (Below.refl _ _) _
      generalize wr.drewN q = wd at hbd ⊢
      have hsd := hbd.size
      have hcd := Lib.hid (hcm.out.keep (hbd.block b hcm.out.lt))
      have hpd : Hid (PtrN wd w.heap.size b) := fun j hj => cell_keep (hpt.out j hj) (hbd.block _ hsz)
      have hgd := Lib.hid (grownBy_below hgr.out hbd)
      clear hcm hpt hgr hbd q0
      obtain ⟨old, c1⟩ : ∃ u, wd.cell? ⟨b, offN k, none⟩ = some u := ⟨_, hcd.out.1 (offN k) _ (List.getElem?_eq_getElem (show offN k < (cmdCells (bCmd c s k)).length from offN_lt k))⟩
      have c2 := hcd.out.2 (offN k)
      have HE := Lib.hid (show (readNumber (bRest s k)).2.2 = bErr s k from rfl)
      have hst : Hid (CmdAt (wd.setCell ⟨b, offN k, none⟩ (.int .i64 (readNumber (bRest s k)).1)) b (bCmd c s (k + 1))) := hcd.out.set (offN k) (offN_lt k) _ HK.out
      have hbl := hcd.out.lt
      by_cases he : (readNumber (bRest s k)).2.2 = 0
      · have heb : ((readNumber (bRest s k)).2.2 != 0) = false := by simpa using he
        have HZ2 : Hid (∀ j, j < k + 1 → bErr s j = 0) := fun j hj => by
          rcases Nat.lt_or_ge j k with h | h
          · exact HZ.out j h
          · obtain rfl : j = k := by omega
            exact he
        clear he
        go_wp2
        go_roundw
        case rel => exact ⟨k + 1, by omega, by go_num, rfl, HZ2.out, hst.out, fun j hj => (cell_far (by omega)).trans (hpd.out j hj), grownBy_set1 hgd.out _ _, by simp [World.setCell]; omega⟩
        case measure => simp [intOf]; omega
      · have heb : ((readNumber (bRest s k)).2.2 != 0) = true := by simpa using he
        have HF := Lib.hid (HN.out he)
        have HX := Lib.hid (show bErr s k ≠ 0 from he)
        clear he
        go_wp2
        go_ret2
        exact ⟨by rw [HF.out]; rfl, grownBy_set1 hgd.out _ _, _, hst.out, fun h => by rw [HF.out] at h; exact absurd h HX.out⟩
    · obtain rfl : k = 5 := by omega
      have HB := Lib.hid (body_nums c s HZ.out)
      have hrl := bRest_len s 5
      rename World => w1
      clear h5 hk HZ
      generalize bRest s 5 = s5 at *
      generalize bCmd c s 5 = c5 at *
      have hlt1 := hcm.out.lt
      clear hpt
      go_wp2
      go_region
      go_wp2
      go_loopw [1, 10, 11, 57] (fun t _ _ i wq => ∃ k : Nat, k ≤ 2 ∧ i = .int .i64 k ∧ t = .string ⟨(tRest s5 k).toArray⟩ ∧ Hid (∀ j, j < k → tErr s5 j = 0) ∧ Hid (CmdAt wq b (tCmd c5 s5 k)) ∧ Hid (PtrT wq w1.heap.size b) ∧ Hid (w.grownBy wq (some b)) ∧ w1.heap.size < wq.heap.size)
        (fun _ _ _ i _ => 2 - (intOf i).toNat)
      case atStart =>
        refine ⟨0, by omega, rfl, rfl, fun j hj => by omega, hcm.out.keep ((Go.Tk.heap_drew _ _).trans (Below.heap_alloc _ _ b hlt1)), fun j hj => ?_, grownBy_drew (grownBy_alloc hgr.out _), by simp⟩
        refine (World.cell?_alloc_at _ _ _ _ rfl).trans ?_
        rcases (show j = 0 ∨ j = 1 by omega) with rfl | rfl <;> rfl
      case round =>
        clear hcm hgr
        obtain ⟨k, hk, rfl, rfl, HZ, hcm, hpt, hgr, hsz2⟩ := hrel
        by_cases h5 : k < 2
        · have q0 := hpt.out k h5
          have HN := Lib.hid (bodyT_err c5 s5 k h5 HZ.out)
          have HK := Lib.hid (tCmd_succ c5 s5 k h5)
          have hrl2 : (tRest s5 k).length ≤ 9223372036854775807 := by have := tRest_len s5 k; omega
          go_wp2_with fail
          refine (readText_calls (tRest s5 k) hrl2 _).mono ?_; rintro e w' ⟨rfl, q, rfl⟩
          have hbd : Below wr.heap.size wr (wr.drewN q) := below_drewN (Below.refl _ _) _
          generalize wr.drewN q = wd at hbd ⊢
          have hsd := hbd.size
          have hcd := Lib.hid (hcm.out.keep (hbd.block b hcm.out.lt))
          have hpd : Hid (PtrT wd w1.heap.size b) := fun j hj => cell_keep (hpt.out j hj) (hbd.block _ hsz2)
          have hgd := Lib.hid (grownBy_below hgr.out hbd)
          clear hcm hpt hgr hbd q0
          obtain ⟨old, c1⟩ : ∃ u, wd.cell? ⟨b, 6 + k, none⟩ = some u := ⟨_, hcd.out.1 (6 + k) _ (List.getElem?_eq_getElem (show 6 + k < 9 by omega))⟩
          have c2 := hcd.out.2 (6 + k)
          have hst : Hid (CmdAt (wd.setCell ⟨b, 6 + k, none⟩ (.string ⟨(readText (tRest s5 k)).1.toArray⟩)) b (tCmd c5 s5 (k + 1))) := hcd.out.set (6 + k) (by omega) _ HK.out
          have hbl := hcd.out.lt
          by_cases he : (readText (tRest s5 k)).2.2 = 0
          · have heb : ((readText (tRest s5 k)).2.2 != 0) = false := by simpa using he
            have HZ2 : Hid (∀ j, j < k + 1 → tErr s5 j = 0) := fun j hj => by
              rcases Nat.lt_or_ge j k with h | h
              · exact HZ.out j h
              · obtain rfl : j = k := by omega
                exact he
            clear he
            go_wp2
            go_roundw
            case rel => (repeat apply Exists.intro); exact ⟨⟨k + 1, by omega, by go_num, rfl, HZ2.out, hst.out, fun j hj => (cell_far (by omega)).trans (hpd.out j hj), grownBy_set1 hgd.out _ _, by simp [World.setCell]; omega⟩, rfl⟩
            case measure => simp [intOf]; omega
          · have heb : ((readText (tRest s5 k)).2.2 != 0) = true := by simpa using he
            have HF := Lib.hid (HB.out.trans (HN.out he))
            have HX := Lib.hid (show tErr s5 k ≠ 0 from he)
            clear he
            go_wp2
            go_ret2
            exact ⟨by rw [HF.out]; rfl, grownBy_set1 hgd.out _ _, _, hst.out, fun h => by rw [HF.out] at h; exact absurd h HX.out⟩
        · obtain rfl : k = 2 := by omega
          have HF := Lib.hid (HB.out.trans (bodyT_ok c5 s5 HZ.out))
          clear h5 hk HZ HB
          go_wp2
          go_ret2
          exact ⟨by rw [HF.out]; rfl, hgr.out, _, hcm.out, fun _ => by rw [HF.out]⟩
end Go.Proofs.YtkefgapnghnjjaaGreatDoor
