/- A part of the proof, laid together from: Codec, CmdE. -/
import Derived.Test.YtcmmenmjclgjmaaGreatDoorRows
import Derived.Test.YtcmmenmjclgjmaaGreatDoorPa03
import Derived.WalkKit
import Derived.WalkSpells
import Derived.WalkLawsBesides
import Derived.BigQuiet
import Derived.Deep.QuietTactic
import Derived.KernelRfl
import Derived.Test.YtcmmenmjclgjmaaGreatDoorPa26
import Derived.Test.YtcmmenmjclgjmaaGreatDoorPa07
set_option linter.unusedSimpArgs false
set_option linter.unusedVariables false
/- Walks of package codec. -/
namespace Go.Proofs.YtcmmenmjclgjmaaGreatDoor
open Go.RowKit Go.Tk

set_option maxRecDepth 100000 in
set_option maxHeartbeats 400000 in
theorem readNumber_calls (s : List UInt8) (hs : s.length ≤ 9223372036854775807) (w : World) :
    Calls Tryz.prog 107 #[.string ⟨s.toArray⟩] w fun e w' => e = .returned (.tuple #[.int .i64 (readNumber s).1, .string ⟨(readNumber s).2.1.toArray⟩, .int .i64 (readNumber s).2.2]) ∧ ∃ q, w' = w.drewN q := by
  go_enter Tryz.func107, Tryz.ntmps107
  go_wp2
  go_loopw [5, 6] (fun n i wr => ∃ k m : Nat, k ≤ 6 ∧ k ≤ s.length ∧ i = .int .i64 k ∧ n = .int .i64 m ∧ m < 128 ^ k ∧ rdGo s (6 - k) k m = readNumber s ∧ wr = w)
    (fun _ i _ => 6 - (intOf i).toNat)
  case atStart => exact ⟨0, 0, by omega, by omega, rfl, rfl, by decide, rfl, rfl⟩
  case round =>
    obtain ⟨k, m, hk, hks, rfl, rfl, hm, hr, rfl⟩ := hrel
    by_cases h6 : k < 6
    · by_cases hl : k < s.length
      · obtain ⟨x, hx⟩ : ∃ x : Nat, (s[k]'hl).toNat = x := ⟨_, rfl⟩
        have hx1 : ({ data := s.toArray } : ByteArray)[k]'hl = s[k]'hl := rfl
        have hxl : x < 256 := by rw [← hx]; exact UInt8.toNat_lt _
        have hg : (s.getD k 0).toNat = x := by rw [← hx]; simp [List.getD, hl]
        obtain ⟨hor, hnext⟩ := digit_or m x k hm h6 hxl
        have hg : (s.getD k 0).toNat = x := by rw [← hx]; simp [List.getD, hl]
        have hr3 : rdGo s (6 - k) k m = if 128 ≤ x then rdGo s (6 - (k + 1)) (k + 1) (m + x % 128 * 128 ^ k)
          else if x = 0 ∧ 0 < k ∨ 1099511627776 < m + x % 128 * 128 ^ k then (0, [], 4) else ((m + x % 128 * 128 ^ k : Nat), s.drop (k + 1), 0) := by
          rw [show 6 - k = (6 - (k + 1)) + 1 from by omega]; rw [rdGo, if_pos hl, hg]
        rw [hr] at hr3
        clear hm hr hg
        by_cases hb : 128 ≤ x
        · rw [if_pos hb] at hr3
          have HR := Lib.hid hr3
          clear hr3
          go_wp2
          go_roundw
          case rel => refine ⟨k + 1, m + x % 128 * 128 ^ k, by omega, by omega, by go_num, by first | rfl | go_num, hnext, HR.out.symm, trivial⟩
          case measure => simp [intOf]; omega
        · rw [if_neg hb] at hr3
          generalize m + x % 128 * 128 ^ k = y at *
          by_cases hz : x = 0 ∧ 0 < k
          · rw [if_pos (.inl hz)] at hr3
            have h0 : ((x : Int) == 0) = true := by simp [hz.1]
            have h1 := hz.2
            have HR := Lib.hid hr3
            clear hr3 hz
            go_wp2
            go_ret3
            exact ⟨by rw [HR.out]; rfl, 0, rfl⟩
          · by_cases hy : 1099511627776 < y
            · rw [if_pos (.inr hy)] at hr3
              have HR := Lib.hid hr3
              have HZ := Lib.hid hz
              clear hr3 hz
              go_wp2
              all_goals go_ret3
              all_goals exact ⟨by rw [HR.out]; rfl, 0, rfl⟩
            · rw [if_neg (by omega)] at hr3
              have HR := Lib.hid hr3
              have HZ := Lib.hid hz
              clear hr3 hz
              by_cases hx0 : x = 0
              · have h0 : ((x : Int) == 0) = true := by simp [hx0]
                have hk0 : ¬ 0 < k := fun h => HZ.out ⟨hx0, h⟩
                clear hx0
                go_wp2
                go_quiet (fail)
                go_wp2
                go_ret3
                exact ⟨by rw [HR.out]; exact ends3 rfl rfl rfl, _, rfl⟩
              · go_wp2
                go_quiet (fail)
                go_wp2
                go_ret3
                exact ⟨by rw [HR.out]; exact ends3 rfl rfl rfl, _, rfl⟩
      · have hr3 : rdGo s (6 - k) k m = (0, [], 5) := by
          rw [show 6 - k = (6 - (k + 1)) + 1 from by omega]; rw [rdGo, if_neg hl]
        have HR := Lib.hid (hr.symm.trans hr3)
        clear hr hr3 hm
        obtain rfl : k = s.length := by omega
        go_wp2
        go_ret3
        exact ⟨by rw [HR.out]; rfl, 0, rfl⟩
    · obtain rfl : k = 6 := by omega
      have HR := Lib.hid hr
      clear hr hm
      go_wp2
      go_ret3
      exact ⟨by rw [← HR.out]; rfl, 0, rfl⟩

theorem Tryz.tyBytes : SliceTy Tryz.prog 75 5 1 1 := ⟨Tryz.underlying75, by kernel_rfl, by decide⟩

set_option maxRecDepth 100000 in
set_option maxHeartbeats 400000 in
theorem number_yes (m0 : Nat) (hm0 : m0 ≤ 1099511627776) (w : World) :
    Calls Tryz.prog 47 #[.int .i64 (m0 : Int)] w fun e w' => e = .returned (.tuple #[.string ⟨(digs 6 m0).toArray⟩, .int .i64 0]) ∧ Below w.heap.size w w' := by
  go_enter Tryz.func47, Tryz.ntmps47
  go_wp2
  go_loopw [0, 4] (fun n v wr => ∃ (m f : Nat) (ds : List UInt8), n = .int .i64 (m : Int) ∧ m ≤ 1099511627776 ∧ f + ds.length = 6 ∧ m < 128 ^ (f + 1) ∧ digs 6 m0 = ds ++ digs f m ∧
      OwR 5 1 rByte wr v ds (fun _ => True) ∧ (∀ g, v.ownBlock = some g → w.heap.size ≤ g) ∧ Below w.heap.size w wr)
    (fun n _ _ => (intOf n).toNat)
  case atStart => exact ⟨m0, 6, [], rfl, hm0, rfl, by omega, rfl, OwR.nil _ _, by simp [Value.ownBlock], Below.refl _ _⟩
  case round =>
    obtain ⟨m, f, ds, rfl, hm, hf, hmf, hd, hown, hvb, hb⟩ := hrel
    have HD := Lib.hid hd
    clear hd
    by_cases h128 : 128 ≤ m
    · have hor := byte_or m (by omega)
      go_wp2_with (at_builtin; refine wpList_append_one Tryz.tyBytes (.tmp 13) (.tmp 18) rfl rfl rByte_ok ((m % 128 + 128).toUInt8) rfl rfl rfl hown hb hvb rfl (by omega) ?_; intro v' w' hown' hb' hvb')
      go_roundw
      case rel =>
        obtain ⟨f, rfl⟩ : ∃ f', f = f' + 1 := by
          rcases f with _ | f
          · simp at hmf; omega
          · exact ⟨f, rfl⟩
        refine ⟨m / 128, f, ds ++ [(m % 128 + 128).toUInt8], by go_num, by omega, by simp; omega, ?_, ?_, hown', hvb', hb'⟩
        · rw [Nat.pow_succ] at hmf; omega
        · rw [HD.out, digs_big f m h128]; simp
      case measure => simp [intOf]; omega
    · have HD2 := Lib.hid (HD.out.trans (by rw [digs_small f m (by omega)]))
      clear HD
      go_wp2_with (at_builtin; refine wpList_append_one Tryz.tyBytes (.tmp 22) (.tmp 25) rfl rfl rByte_ok (m.toUInt8) rfl rfl rfl hown hb hvb (by simp [rByte]; omega) (by omega) ?_; intro v' w' hown' hb' hvb'; have hcv := run_string_of_bytes (P := Tryz.prog) Tryz.underlying75 Tryz.underlying5 Tryz.underlying9 (hown'.read rByte_ok (by decide) (fun _ _ => trivial)))
      go_ret2
      exact ⟨by rw [HD2.out]; exact ends2 rfl rfl, hb'⟩

theorem number_no (n : Int) (hn : n < 0 ∨ 1099511627776 < n) (w : World) :
    Calls Tryz.prog 47 #[.int .i64 n] w fun e w' => e = .returned (.tuple #[.string ⟨#[]⟩, .int .i64 2]) ∧ Below w.heap.size w w' := by
  rcases hn with h | h
  · go_enter Tryz.func47, Tryz.ntmps47
    go_wp2
    go_ret2
    exact ⟨rfl, Below.refl _ _⟩
  · have h' : ¬ n < 0 := by omega
    go_enter Tryz.func47, Tryz.ntmps47
    go_wp2
    go_ret2
    exact ⟨rfl, Below.refl _ _⟩
theorem number_calls (n : Int) (w : World) :
    Calls Tryz.prog 47 #[.int .i64 n] w fun e w' => e = .returned (.tuple #[.string ⟨(number n).1.toArray⟩, .int .i64 (number n).2]) ∧ Below w.heap.size w w' := by
  by_cases h : n < 0 ∨ 1099511627776 < n
  · rw [number, if_pos h]; exact number_no n h w
  · rw [number, if_neg h]
    obtain ⟨m, rfl⟩ := Int.eq_ofNat_of_zero_le (show 0 ≤ n by omega)
    exact number_yes m (by omega) w

set_option maxRecDepth 100000 in
theorem text_calls (s : List UInt8) (hs : s.length ≤ 9223372036854775807) (w : World) :
    Calls Tryz.prog 48 #[.string ⟨s.toArray⟩] w fun e w' => e = .returned (.tuple #[.string ⟨(text s).1.toArray⟩, .int .i64 (text s).2]) ∧ Below w.heap.size w w' := by
  by_cases h : 5000 < s.length
  · rw [text, if_pos h]
    go_enter Tryz.func48, Tryz.ntmps48
    go_wp2
    go_ret2
    exact ⟨rfl, Below.refl _ _⟩
  · rw [text, if_neg h]
    have hnl := number_len s.length
    go_enter Tryz.func48, Tryz.ntmps48
    go_wp2_with (go_at_call 47; refine (number_calls _ _).mono ?_; rintro e w' ⟨rfl, hb⟩)
    go_ret2
    exact ⟨ends2 rfl rfl, hb⟩

set_option maxRecDepth 100000 in
theorem readText_calls (s : List UInt8) (hs : s.length ≤ 9223372036854775807) (w : World) :
    Calls Tryz.prog 108 #[.string ⟨s.toArray⟩] w fun e w' => e = .returned (.tuple #[.string ⟨(readText s).1.toArray⟩, .string ⟨(readText s).2.1.toArray⟩, .int .i64 (readText s).2.2]) ∧ ∃ q, w' = w.drewN q := by
  go_enter Tryz.func108, Tryz.ntmps108
  go_wp2_with (go_at_call 107; refine (readNumber_calls s hs _).mono ?_; rintro e w' ⟨rfl, q, rfl⟩)
  · have h1 : (readNumber s).2.2 ≠ 0 := by simpa using ‹((readNumber s).2.2 != 0) = true›
    go_ret3
    exact ⟨by rw [readText, if_pos h1]; rfl, q, rfl⟩
  · have h1 : ¬ (readNumber s).2.2 ≠ 0 := by simpa using ‹((readNumber s).2.2 != 0) = false›
    have h2 : 5000 < (readNumber s).1 := by assumption
    go_ret3
    exact ⟨by rw [readText, if_neg h1, if_pos h2]; rfl, q, rfl⟩
  · have h1 : ¬ (readNumber s).2.2 ≠ 0 := by simpa using ‹((readNumber s).2.2 != 0) = false›
    have h2 : (readNumber s).1 ≤ 5000 := by assumption
    have h3 : ((readNumber s).2.1.length : Int) < (readNumber s).1 := by assumption
    go_ret3
    exact ⟨by rw [readText, if_neg h1, if_neg (by omega), if_pos h3]; rfl, q, rfl⟩
  · have h1 : ¬ (readNumber s).2.2 ≠ 0 := by simpa using ‹((readNumber s).2.2 != 0) = false›
    have h2 : (readNumber s).1 ≤ 5000 := by assumption
    have h3 : (readNumber s).1 ≤ ((readNumber s).2.1.length : Int) := by assumption
    have HR := Lib.hid (show readText s = ((readNumber s).2.1.take (readNumber s).1.toNat, (readNumber s).2.1.drop (readNumber s).1.toNat, 0) by rw [readText, if_neg h1, if_neg (by omega), if_neg (by omega)])
    have h0 := readNumber_nonneg s
    clear h1
    go_quiet (fail)
    go_wp2
    go_ret3
    exact ⟨by rw [HR.out]; exact ends3 rfl rfl rfl, _, by rw [World.drewN_drewN]⟩

set_option maxRecDepth 100000 in
theorem picked_calls (n m : Int) (hm : 0 < m) (hm2 : m ≤ 4611686018427387904) (hn : -9223372036854775808 ≤ n) (hn2 : n ≤ 9223372036854775807) (w : World) :
    Calls Tryz.prog 15 #[.int .i64 n, .int .i64 m] w fun e w' => e = .returned (.int .i64 (picked n m)) ∧ w = w' := by
  by_cases h : n < 0
  · rw [picked, if_pos h]
    go_enter Tryz.func15, Tryz.ntmps15
    go_wp2
    go_ret
    have e : (n + 1).tmod m = -(-(n + 1) % m) := by
      rw [← Int.tmod_eq_emod_of_nonneg (by omega), Int.neg_tmod, Int.neg_neg]
    exact ⟨ends1 (by simp [e]), rfl⟩
  · rw [picked, if_neg h]
    go_enter Tryz.func15, Tryz.ntmps15
    go_wp2
    go_ret
    exact ⟨rfl, rfl⟩
end Go.Proofs.YtcmmenmjclgjmaaGreatDoor

/- command.Encode. -/
namespace Go.Tk
open Go Go.RowKit
/-- Two bytes laid in a block of their own. -/
theorem slR_two {w : World} {x y : Int} {E : Nat} (a b : UInt8) (ha : (a.toNat : Int) = x) (hb : (b.toNat : Int) = y) :
    SlR 1 rByte (w.alloc (.cells #[.int .u8 x, .int .u8 y] E)) (.slice (some ⟨w.heap.size, 0, none⟩) 2 2) [a, b] (fun _ => True) := by
  subst ha hb
  refine ⟨_, 2, rfl, Nat.le_refl 2, by decide, (fun h => by cases h), fun i c hi => ?_⟩
  rcases i with _ | _ | i
  · simp at hi; subst hi
    refine ⟨_, _, [.int .u8 a.toNat], rfl, trivial, rfl, fun j u hu => ?_⟩
    rcases j with _ | j
    · simp at hu; subst hu; exact World.cell?_alloc_at _ _ _ _ rfl
    · simp at hu
  · simp at hi; subst hi
    refine ⟨_, _, [.int .u8 b.toNat], rfl, trivial, rfl, fun j u hu => ?_⟩
    rcases j with _ | j
    · simp at hu; subst hu; exact World.cell?_alloc_at _ _ _ _ rfl
    · simp at hu
  · simp at hi
def nums (c : CommandD) : List Int := [c.session, c.seq, c.acked, c.op.kind, c.op.n]
def words (c : CommandD) : List (List UInt8) := [c.op.a, c.op.b]
/-- The first k numbers, the first k words. -/
def numsB (c : CommandD) (k : Nat) : List UInt8 := ((nums c).take k).flatMap fun n => (number n).1
def wordsB (c : CommandD) (k : Nat) : List UInt8 := ((words c).take k).flatMap fun s => (text s).1
theorem numsB_succ (c : CommandD) (k : Nat) (h : k < 5) : numsB c (k + 1) = numsB c k ++ (number ((nums c).getD k 0)).1 := by
  rw [numsB, numsB, List.take_succ_eq_append_getElem (by exact h), List.flatMap_append]
  rw [List.getD, List.getElem?_eq_getElem (show k < (nums c).length from h)]; simp; rfl
theorem wordsB_succ (c : CommandD) (k : Nat) (h : k < 2) : wordsB c (k + 1) = wordsB c k ++ (text ((words c).getD k [])).1 := by
  rw [wordsB, wordsB, List.take_succ_eq_append_getElem (by exact h), List.flatMap_append]
  rw [List.getD, List.getElem?_eq_getElem (show k < (words c).length from h)]; simp; rfl
theorem numsB_len (c : CommandD) : ∀ k, k ≤ 5 → (numsB c k).length ≤ 7 * k
  | 0, _ => by simp [numsB]
  | k + 1, h => by
    have := numsB_len c k (by omega)
    have h2 := number_len ((nums c).getD k 0)
    rw [numsB_succ c k (by omega), List.length_append]; omega
theorem text_any (s : List UInt8) : (text s).1.length ≤ 5007 := by
  by_cases h : s.length ≤ 5000
  · have := text_len s h; omega
  · rw [text, if_pos (by omega)]; simp
theorem wordsB_len (c : CommandD) : ∀ k, k ≤ 2 → (wordsB c k).length ≤ 5007 * k
  | 0, _ => by simp [wordsB]
  | k + 1, h => by
    have := wordsB_len c k (by omega)
    have h2 := text_any ((words c).getD k [])
    rw [wordsB_succ c k (by omega), List.length_append]; omega
theorem nums_cell (c : CommandD) (k : Nat) (h : k < 5) : (#[Value.int .i64 c.session, .int .i64 c.seq, .int .i64 c.acked, .int .i64 c.op.kind, .int .i64 c.op.n])[k]? = some (.int .i64 ((nums c).getD k 0)) := by
  rcases (show k = 0 ∨ k = 1 ∨ k = 2 ∨ k = 3 ∨ k = 4 by omega) with rfl | rfl | rfl | rfl | rfl <;> rfl
theorem words_cell (c : CommandD) (k : Nat) (h : k < 2) : (#[Value.string ⟨c.op.a.toArray⟩, .string ⟨c.op.b.toArray⟩])[k]? = some (.string ⟨((words c).getD k []).toArray⟩) := by
  rcases (show k = 0 ∨ k = 1 by omega) with rfl | rfl <;> rfl
theorem call_bytes (c : CommandD) : numsB c 5 ++ wordsB c 2 = callBytes c := by simp [numsB, wordsB, nums, words, callBytes]
end Go.Tk
namespace Go.Proofs.YtcmmenmjclgjmaaGreatDoor
open Go.RowKit Go.Tk

set_option maxRecDepth 100000 in
set_option maxHeartbeats 1600000 in
theorem encode_calls (c : CommandD) (w : World) (hw : ∀ s ∈ words c, s.length ≤ 1000000) :
    Calls Tryz.prog 20 #[valCommand c] w fun e w' => e = .returned (.tuple #[.string ⟨(cmdEncode c).1.toArray⟩, .int .i64 (cmdEncode c).2]) ∧ Below w.heap.size w w' := by
  have HW := Lib.hid hw
  clear hw
  by_cases hok : cmdCheck c = 0
  case neg =>
    have HV := Lib.hid (show cmdEncode c = ([], cmdCheck c) by rw [cmdEncode, if_pos hok])
    have hb : (cmdCheck c != 0) = true := by simpa using hok
    clear hok
    show Calls _ _ #[.agg #[_, _, _, _, _, _, _, _, _]] _ _
    go_enter Tryz.func20, Tryz.ntmps20
    go_wp2_with fail
    refine (cmdCheck_calls c _).mono ?_; rintro e w2 ⟨rfl, hb2⟩
    go_wp2
    go_ret2
    exact ⟨by rw [HV.out]; rfl, below_step (below_alloc w _) hb2⟩
  have hb : (cmdCheck c != 0) = false := by simpa using hok
  have hk := cmdCheck_ok.1 hok
  have HE := Lib.hid (encode_eq hk)
  have HC := Lib.hid (hk.bounds)
  have hkk := hk.bounds.1
  have hcc := hk.bounds.2
  clear hok hk
  obtain ⟨x1, hx1, hk1⟩ : ∃ x : UInt8, x = UInt8.ofNat c.kind.toNat ∧ (x.toNat : Int) = c.kind := ⟨_, rfl, toUInt8_val _ (by omega) (by omega)⟩
  obtain ⟨x2, hx2, hk2⟩ : ∃ x : UInt8, x = UInt8.ofNat c.client.toNat ∧ (x.toNat : Int) = c.client := ⟨_, rfl, toUInt8_val _ (by omega) (by omega)⟩
  have HE2 : Hid (cmdEncode c = (x1 :: x2 :: cmdTail c, 0)) := by rw [hx1, hx2]; exact HE.out
  have HK1 := Lib.hid hk1
  have HK2 := Lib.hid hk2
  clear hk1 hk2 hx1 hx2 HE
  show Calls _ _ #[.agg #[_, _, _, _, _, _, _, _, _]] _ _
  go_enter Tryz.func20, Tryz.ntmps20
  go_wp2_with fail
  refine (cmdCheck_calls c _).mono ?_; rintro e w2 ⟨rfl, hb2⟩
  have hb2' := hb2
  rw [World.size_alloc] at hb2'
  obtain ⟨hz, -, hzs⟩ := Tk.fresh hb2'
  have HBW := Lib.hid (below_step (below_alloc w _) hb2)
  clear hb2 hb2'
  have HZ := Lib.hid hz
  have z0 := hz 0; have z1 := hz 1
  clear hz
  have hcv := run_string_of_bytes (P := Tryz.prog) Tryz.underlying75 Tryz.underlying5 Tryz.underlying9 (slR_two (w := w2) (E := 5) x1 x2 HK1.out HK2.out)
  by_cases h2 : c.kind = 2
  case neg =>
    have h2b : (c.kind != 2) = true := by simpa using h2
    have HF := Lib.hid (HE2.out.trans (show _ = ([x1, x2], (0 : Int)) by rw [cmdTail, if_neg h2]))
    clear h2
    go_wp2
    go_ret2
    exact ⟨by rw [HF.out]; rfl, HBW.out.alloc (by have := HBW.out.size; omega) _⟩
  have h2b : (c.kind != 2) = false := by simpa using h2
  have HF := Lib.hid (HE2.out.trans (show _ = (x1 :: x2 :: (numsB c 5 ++ wordsB c 2), (0 : Int)) by rw [cmdTail, if_pos h2, call_bytes]))
  clear h2 HE2
  have z2 := HZ.out 2; have z3 := HZ.out 3; have z4 := HZ.out 4; have z5 := HZ.out 5; have z8 := HZ.out 8
  go_wp2
  clear z0 z1 z2 z3 z4 z5 z8 hcv
  have hs2 := HBW.out.size
  go_loopw [5, 7, 8, 9, 45] (fun s _ _ _ i wr => ∃ k : Nat, k ≤ 5 ∧ i = .int .i64 k ∧ s = .string ⟨(x1 :: x2 :: numsB c k).toArray⟩ ∧ Hid (Below (w2.heap.size + 2) ((w2.alloc (.cells #[.int .u8 c.kind, .int .u8 c.client] 5)).alloc (.cells #[.int .i64 c.session, .int .i64 c.seq, .int .i64 c.acked, .int .i64 c.op.kind, .int .i64 c.op.n] 3)) wr))
    (fun _ _ _ _ i _ => 5 - (intOf i).toNat)
  case atStart => trace_state; exact ⟨0, by omega, rfl, rfl, Below.refl _ _⟩
  case round =>
    obtain ⟨k, hk, rfl, rfl, hb3⟩ := hrel
    obtain ⟨-, -, hy, -, hzs3⟩ := fresh2 hb3.out
    by_cases hlt : k < 5
    · have hq := (hy k).trans (nums_cell c k hlt)
      have HS := Lib.hid (numsB_succ c k hlt)
      clear hy
      have hl1 := numsB_len c k hk
      generalize (nums c).getD k 0 = n at hq HS
      have hl2 := number_len n
      go_wp2_with fail
      refine (number_calls n _).mono ?_; rintro e w4 ⟨rfl, hb4⟩
      go_wp2
      go_roundw
      case rel => exact ⟨k + 1, by omega, by go_num, by rw [HS.out] <;> first | rfl | simp, hb3.out.trans (hb4.mono (by omega))⟩
      case measure => simp [intOf]; omega
    · obtain rfl : k = 5 := by omega
      clear hy
      have HB5 : Hid (Below w.heap.size w wr) := below_step HBW.out ((below_alloc2 w2 _ _).trans (hb3.out.mono (by omega)))
      have hk0 := cell_keep (HZ.out 6) ((hb3.out.block w.heap.size (by omega)).trans ((Below.heap_alloc _ _ w.heap.size (by simp; omega)).trans (Below.heap_alloc _ _ w.heap.size (by omega))))
      have hk1 := cell_keep (HZ.out 7) ((hb3.out.block w.heap.size (by omega)).trans ((Below.heap_alloc _ _ w.heap.size (by simp; omega)).trans (Below.heap_alloc _ _ w.heap.size (by omega))))
      have hl1 := numsB_len c 5 hk
      clear hzs3 HC HK1 HK2
      rename World => w1
      go_wp2
      have hw3 := hb3.out.size
      simp only [World.size_alloc] at hw3
      go_loopw [5, 11, 12, 13, 66] (fun s _ _ _ i wq => ∃ k : Nat, k ≤ 2 ∧ i = .int .i64 k ∧ s = .string ⟨(x1 :: x2 :: (numsB c 5 ++ wordsB c k)).toArray⟩ ∧ Hid (Below (w1.heap.size + 1) (w1.alloc (.cells #[.string ⟨c.op.a.toArray⟩, .string ⟨c.op.b.toArray⟩] 9)) wq))
        (fun _ _ _ _ i _ => 2 - (intOf i).toNat)
      case atStart => exact ⟨0, by omega, rfl, by simp [wordsB], Below.refl _ _⟩
      case round =>
        obtain ⟨k, hk, rfl, rfl, hb4⟩ := hrel
        obtain ⟨hy, -, hzs4⟩ := Tk.fresh hb4.out
        by_cases hlt : k < 2
        · have hq := (hy k).trans (words_cell c k hlt)
          have HS := Lib.hid (wordsB_succ c k hlt)
          have hwl : ((words c).getD k []).length ≤ 9223372036854775807 := by have := HW.out _ (getD_mem (words c) k [] hlt); omega
          clear hy
          have hl3 := wordsB_len c k hk
          generalize (words c).getD k [] = n at hq HS hwl
          have hl4 := text_any n
          go_wp2_with fail
          refine (text_calls n hwl _).mono ?_; rintro e w4 ⟨rfl, hb5⟩
          go_wp2
          go_roundw
          case rel => (repeat apply Exists.intro); exact ⟨⟨k + 1, by omega, by go_num, by rw [HS.out] <;> first | rfl | simp, hb4.out.trans (hb5.mono (by omega))⟩, rfl⟩
          case measure => simp [intOf]; omega
        · obtain rfl : k = 2 := by omega
          clear hy
          go_wp2
          go_ret2
          exact ⟨by rw [HF.out]; exact ends2 rfl rfl, below_step HB5.out ((below_alloc w1 _).trans (hb4.out.mono (by omega)))⟩
end Go.Proofs.YtcmmenmjclgjmaaGreatDoor
