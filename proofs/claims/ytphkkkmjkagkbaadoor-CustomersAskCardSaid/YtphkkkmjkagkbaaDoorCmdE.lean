/- command.Encode. -/
import Derived.Test.YtphkkkmjkagkbaaDoorCmdC
import Derived.Test.YtphkkkmjkagkbaaDoorCmdQ
import Derived.Test.YtphkkkmjkagkbaaDoorCodec
namespace Go.Tk
open Go Go.RowKit
/-- Two bytes laid in a block of their own. -/
theorem slR_two {w : World} {x y : Int} {E : Nat} (a b : UInt8) (ha : (a.toNat : Int) = x) (hb : (b.toNat : Int) = y) :
    SlR 1 rByte (w.alloc (.cells #[.int .u8 x, .int .u8 y] E)) (.slice (some ⟨w.heap.size, 0, none⟩) 2 2) [a, b] (fun _ => True) := by
  subst ha hb
  refine ⟨_, 2, rfl, Nat.le_refl 2, by decide, (fun h => by cases h), fun i c hi => ?_⟩
  rcases i with _ | _ | i
  · simp at hi; subst hi
    refine ⟨_, _, [.int .u8 a.toNat], rfl, trivial, rfl, fun j u hu => ?_⟩
    rcases j with _ | j
    · simp at hu; subst hu; exact World.cell?_alloc_at _ _ _ _ rfl
    · simp at hu
  · simp at hi; subst hi
    refine ⟨_, _, [.int .u8 b.toNat], rfl, trivial, rfl, fun j u hu => ?_⟩
    rcases j with _ | j
    · simp at hu; subst hu; exact World.cell?_alloc_at _ _ _ _ rfl
    · simp at hu
  · simp at hi
def nums (c : CommandD) : List Int := [c.session, c.seq, c.acked, c.op.kind, c.op.n]
def words (c : CommandD) : List (List UInt8) := [c.op.a, c.op.b]
/-- The first k numbers, the first k words. -/
def numsB (c : CommandD) (k : Nat) : List UInt8 := ((nums c).take k).flatMap fun n => (number n).1
def wordsB (c : CommandD) (k : Nat) : List UInt8 := ((words c).take k).flatMap fun s => (text s).1
theorem numsB_succ (c : CommandD) (k : Nat) (h : k < 5) : numsB c (k + 1) = numsB c k ++ (number ((nums c).getD k 0)).1 := by
  rw [numsB, numsB, List.take_succ_eq_append_getElem (by exact h), List.flatMap_append]
  rw [List.getD, List.getElem?_eq_getElem (show k < (nums c).length from h)]; simp; rfl
theorem wordsB_succ (c : CommandD) (k : Nat) (h : k < 2) : wordsB c (k + 1) = wordsB c k ++ (text ((words c).getD k [])).1 := by
  rw [wordsB, wordsB, List.take_succ_eq_append_getElem (by exact h), List.flatMap_append]
  rw [List.getD, List.getElem?_eq_getElem (show k < (words c).length from h)]; simp; rfl
theorem numsB_len (c : CommandD) : ∀ k, k ≤ 5 → (numsB c k).length ≤ 7 * k
  | 0, _ => by simp [numsB]
  | k + 1, h => by
    have := numsB_len c k (by omega)
    have h2 := number_len ((nums c).getD k 0)
    rw [numsB_succ c k (by omega), List.length_append]; omega
theorem text_any (s : List UInt8) : (text s).1.length ≤ 5007 := by
  by_cases h : s.length ≤ 5000
  · have := text_len s h; omega
  · rw [text, if_pos (by omega)]; simp
theorem wordsB_len (c : CommandD) : ∀ k, k ≤ 2 → (wordsB c k).length ≤ 5007 * k
  | 0, _ => by simp [wordsB]
  | k + 1, h => by
    have := wordsB_len c k (by omega)
    have h2 := text_any ((words c).getD k [])
    rw [wordsB_succ c k (by omega), List.length_append]; omega
theorem nums_cell (c : CommandD) (k : Nat) (h : k < 5) : (#[Value.int .i64 c.session, .int .i64 c.seq, .int .i64 c.acked, .int .i64 c.op.kind, .int .i64 c.op.n])[k]? = some (.int .i64 ((nums c).getD k 0)) := by
  rcases (show k = 0 ∨ k = 1 ∨ k = 2 ∨ k = 3 ∨ k = 4 by omega) with rfl | rfl | rfl | rfl | rfl <;> rfl
theorem words_cell (c : CommandD) (k : Nat) (h : k < 2) : (#[Value.string ⟨c.op.a.toArray⟩, .string ⟨c.op.b.toArray⟩])[k]? = some (.string ⟨((words c).getD k []).toArray⟩) := by
  rcases (show k = 0 ∨ k = 1 by omega) with rfl | rfl <;> rfl
theorem call_bytes (c : CommandD) : numsB c 5 ++ wordsB c 2 = callBytes c := by simp [numsB, wordsB, nums, words, callBytes]
end Go.Tk
namespace Go.Proofs.YtphkkkmjkagkbaaDoor
open Go.RowKit Go.Tk

set_option maxRecDepth 100000 in
set_option maxHeartbeats 1600000 in
theorem encode_calls (c : CommandD) (w : World) (hw : ∀ s ∈ words c, s.length ≤ 1000000) :
    Calls Tryd.prog 9 #[valCommand c] w fun e w' => e = .returned (.tuple #[.string ⟨(cmdEncode c).1.toArray⟩, .int .i64 (cmdEncode c).2]) ∧ Below w.heap.size w w' := by
  have HW := Lib.hid hw
  clear hw
  by_cases hok : cmdCheck c = 0
  case neg =>
    have HV := Lib.hid (show cmdEncode c = ([], cmdCheck c) by rw [cmdEncode, if_pos hok])
    have hb : (cmdCheck c != 0) = true := by simpa using hok
    clear hok
    show Calls _ _ #[.agg #[_, _, _, _, _, _, _, _, _]] _ _
    go_enter Tryd.func9, Tryd.ntmps9
    go_wp2_with fail
    refine (cmdCheck_calls c _).mono ?_; rintro e w2 ⟨rfl, hb2⟩
    go_wp2
    go_ret2
    exact ⟨by rw [HV.out]; rfl, below_step (below_alloc w _) hb2⟩
  have hb : (cmdCheck c != 0) = false := by simpa using hok
  have hk := cmdCheck_ok.1 hok
  have HE := Lib.hid (encode_eq hk)
  have HC := Lib.hid (hk.bounds)
  have hkk := hk.bounds.1
  have hcc := hk.bounds.2
  clear hok hk
  obtain ⟨x1, hx1, hk1⟩ : ∃ x : UInt8, x = UInt8.ofNat c.kind.toNat ∧ (x.toNat : Int) = c.kind := ⟨_, rfl, toUInt8_val _ (by omega) (by omega)⟩
  obtain ⟨x2, hx2, hk2⟩ : ∃ x : UInt8, x = UInt8.ofNat c.client.toNat ∧ (x.toNat : Int) = c.client := ⟨_, rfl, toUInt8_val _ (by omega) (by omega)⟩
  have HE2 : Hid (cmdEncode c = (x1 :: x2 :: cmdTail c, 0)) := by rw [hx1, hx2]; exact HE.out
  have HK1 := Lib.hid hk1
  have HK2 := Lib.hid hk2
  clear hk1 hk2 hx1 hx2 HE
  show Calls _ _ #[.agg #[_, _, _, _, _, _, _, _, _]] _ _
  go_enter Tryd.func9, Tryd.ntmps9
  go_wp2_with fail
  refine (cmdCheck_calls c _).mono ?_; rintro e w2 ⟨rfl, hb2⟩
  have hb2' := hb2
  rw [World.size_alloc] at hb2'
  obtain ⟨hz, -, hzs⟩ := Tk.fresh hb2'
  have HBW := Lib.hid (below_step (below_alloc w _) hb2)
  clear hb2 hb2'
  have HZ := Lib.hid hz
  have z0 := hz 0; have z1 := hz 1
  clear hz
  have hcv := run_string_of_bytes (P := Tryd.prog) Tryd.underlying76 Tryd.underlying5 Tryd.underlying9 (slR_two (w := w2) (E := 5) x1 x2 HK1.out HK2.out)
  by_cases h2 : c.kind = 2
  case neg =>
    have h2b : (c.kind != 2) = true := by simpa using h2
    have HF := Lib.hid (HE2.out.trans (show _ = ([x1, x2], (0 : Int)) by rw [cmdTail, if_neg h2]))
    clear h2
    go_wp2
    go_ret2
    exact ⟨by rw [HF.out]; rfl, HBW.out.alloc (by have := HBW.out.size; omega) _⟩
  have h2b : (c.kind != 2) = false := by simpa using h2
  have HF := Lib.hid (HE2.out.trans (show _ = (x1 :: x2 :: (numsB c 5 ++ wordsB c 2), (0 : Int)) by rw [cmdTail, if_pos h2, call_bytes]))
  clear h2 HE2
  have z2 := HZ.out 2; have z3 := HZ.out 3; have z4 := HZ.out 4; have z5 := HZ.out 5; have z8 := HZ.out 8
  go_wp2
  clear z0 z1 z2 z3 z4 z5 z8 hcv
  have hs2 := HBW.out.size
  go_loopw [5, 7, 8, 9, 45] (fun s _ _ _ i wr => ∃ k : Nat, k ≤ 5 ∧ i = .int .i64 k ∧ s = .string ⟨(x1 :: x2 :: numsB c k).toArray⟩ ∧ Hid (Below (w2.heap.size + 2) ((w2.alloc (.cells #[.int .u8 c.kind, .int .u8 c.client] 5)).alloc (.cells #[.int .i64 c.session, .int .i64 c.seq, .int .i64 c.acked, .int .i64 c.op.kind, .int .i64 c.op.n] 3)) wr))
    (fun _ _ _ _ i _ => 5 - (intOf i).toNat)
  case atStart => trace_state; exact ⟨0, by omega, rfl, rfl, Below.refl _ _⟩
  case round =>
    obtain ⟨k, hk, rfl, rfl, hb3⟩ := hrel
    obtain ⟨-, -, hy, -, hzs3⟩ := fresh2 hb3.out
    by_cases hlt : k < 5
    · have hq := (hy k).trans (nums_cell c k hlt)
      have HS := Lib.hid (numsB_succ c k hlt)
      clear hy
      have hl1 := numsB_len c k hk
      generalize (nums c).getD k 0 = n at hq HS
      have hl2 := number_len n
      go_wp2_with fail
      refine (number_calls n _).mono ?_; rintro e w4 ⟨rfl, hb4⟩
      go_wp2
      go_roundw
      case rel => exact ⟨k + 1, by omega, by go_num, by rw [HS.out] <;> first | rfl | simp, hb3.out.trans (hb4.mono (by omega))⟩
      case measure => simp [intOf]; omega
    · obtain rfl : k = 5 := by omega
      clear hy
      have HB5 : Hid (Below w.heap.size w wr) := below_step HBW.out ((below_alloc2 w2 _ _).trans (hb3.out.mono (by omega)))
      have hk0 := cell_keep (HZ.out 6) ((hb3.out.block w.heap.size (by omega)).trans ((Below.heap_alloc _ _ w.heap.size (by simp; omega)).trans (Below.heap_alloc _ _ w.heap.size (by omega))))
      have hk1 := cell_keep (HZ.out 7) ((hb3.out.block w.heap.size (by omega)).trans ((Below.heap_alloc _ _ w.heap.size (by simp; omega)).trans (Below.heap_alloc _ _ w.heap.size (by omega))))
      have hl1 := numsB_len c 5 hk
      clear hzs3 HC HK1 HK2
      rename World => w1
      go_wp2
      have hw3 := hb3.out.size
      simp only [World.size_alloc] at hw3
      go_loopw [5, 11, 12, 13, 66] (fun s _ _ _ i wq => ∃ k : Nat, k ≤ 2 ∧ i = .int .i64 k ∧ s = .string ⟨(x1 :: x2 :: (numsB c 5 ++ wordsB c k)).toArray⟩ ∧ Hid (Below (w1.heap.size + 1) (w1.alloc (.cells #[.string ⟨c.op.a.toArray⟩, .string ⟨c.op.b.toArray⟩] 9)) wq))
        (fun _ _ _ _ i _ => 2 - (intOf i).toNat)
      case atStart => exact ⟨0, by omega, rfl, by simp [wordsB], Below.refl _ _⟩
      case round =>
        obtain ⟨k, hk, rfl, rfl, hb4⟩ := hrel
        obtain ⟨hy, -, hzs4⟩ := Tk.fresh hb4.out
        by_cases hlt : k < 2
        · have hq := (hy k).trans (words_cell c k hlt)
          have HS := Lib.hid (wordsB_succ c k hlt)
          have hwl : ((words c).getD k []).length ≤ 9223372036854775807 := by have := HW.out _ (getD_mem (words c) k [] hlt); omega
          clear hy
          have hl3 := wordsB_len c k hk
          generalize (words c).getD k [] = n at hq HS hwl
          have hl4 := text_any n
          go_wp2_with fail
          refine (text_calls n hwl _).mono ?_; rintro e w4 ⟨rfl, hb5⟩
          go_wp2
          go_roundw
          case rel => (repeat apply Exists.intro); exact ⟨⟨k + 1, by omega, by go_num, by rw [HS.out] <;> first | rfl | simp, hb4.out.trans (hb5.mono (by omega))⟩, rfl⟩
          case measure => simp [intOf]; omega
        · obtain rfl : k = 2 := by omega
          clear hy
          go_wp2
          go_ret2
          exact ⟨by rw [HF.out]; exact ends2 rfl rfl, below_step HB5.out ((below_alloc w1 _).trans (hb4.out.mono (by omega)))⟩
end Go.Proofs.YtphkkkmjkagkbaaDoor
