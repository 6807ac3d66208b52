/- A part of the proof, laid together from: SnapP, Codec. -/
import Derived.Test.YtkefgapnghnjjaaGreatDoorPa05
import Derived.Test.YtkefgapnghnjjaaGreatDoorRows
import Derived.Test.YtkefgapnghnjjaaGreatDoorPa02
import Derived.WalkKit
import Derived.WalkSpells
import Derived.WalkLawsBesides
import Derived.BigQuiet
import Derived.Deep.QuietTactic
import Derived.KernelRfl
set_option linter.unusedSimpArgs false
set_option linter.unusedVariables false
namespace Go.Tk
open Go Go.RowKit
def sealGo : List UInt8 → Nat → Nat → Nat × Nat
  | [], x, y => (x, y)
  | c :: r, x, y => sealGo r ((x + c.toNat) % 65521) ((y + (x + c.toNat) % 65521) % 65521)
def sealOf (p : Nat × Nat) : Bytes := [(p.2 / 256).toUInt8, p.2.toUInt8, (p.1 / 256).toUInt8, p.1.toUInt8]
def sealB (s : Bytes) : Bytes := sealOf (sealGo s 1 0)
theorem seal_len (s : Bytes) : (sealB s).length = 4 := rfl
theorem sealGo_append : ∀ (a b : Bytes) (x y : Nat), sealGo (a ++ b) x y = sealGo b (sealGo a x y).1 (sealGo a x y).2
  | [], _, _, _ => rfl
  | c :: a, b, x, y => by rw [List.cons_append, sealGo, sealGo]; exact sealGo_append a b _ _
def numB (n : Int) : Bytes := (number n).1
def textB (s : Bytes) : Bytes := (text s).1
def encLine (l : List Int) : Bytes := l.flatMap numB
def encLock (k : LockD) : Bytes := textB k.name ++ (numB k.holder ++ (numB k.fence ++ (numB k.line.length ++ encLine k.line)))
def encPair (p : PairD) : Bytes := textB p.name ++ (textB p.value ++ numB p.version)
def encKept (k : KeptD) : Bytes := numB k.seq ++ (numB k.reply.code ++ (numB k.reply.n ++ textB k.reply.text))
def encSession (x : SessionD) : Bytes := numB x.client ++ (numB x.id ++ (numB x.acked ++ (numB x.last ++ (numB x.replies.length ++ x.replies.flatMap encKept))))
def encState (s : StateD) : Bytes :=
  numB s.index ++ (numB s.locks.length ++ (s.locks.flatMap encLock ++ (numB s.pairs.length ++ (s.pairs.flatMap encPair ++ (numB s.sessions.length ++ s.sessions.flatMap encSession)))))
structure Rd where
  s : Bytes
  e : Int
def rdNum (r : Rd) : Int × Rd := if r.e ≠ 0 then (0, r) else ((readNumber r.s).1, ⟨(readNumber r.s).2.1, (readNumber r.s).2.2⟩)
def rdText (r : Rd) : Bytes × Rd := if r.e ≠ 0 then ([], r) else ((readText r.s).1, ⟨(readText r.s).2.1, (readText r.s).2.2⟩)
theorem rdNum_back {n : Int} (h0 : 0 ≤ n) (hn : n ≤ 1099511627776) (t : Bytes) : rdNum ⟨numB n ++ t, 0⟩ = (n, ⟨t, 0⟩) := by
  have := number_back n h0 hn t
  simp [rdNum, numB, this]
theorem rdText_back {s : Bytes} (h : s.length ≤ 5000) (t : Bytes) : rdText ⟨textB s ++ t, 0⟩ = (s, ⟨t, 0⟩) := by
  have := readText_back s t h
  simp [rdText, textB, this]
theorem numB_len (n : Int) : (numB n).length ≤ 7 := number_len n
theorem textB_len {s : Bytes} (h : s.length ≤ 5000) : (textB s).length ≤ s.length + 7 := text_len s h
theorem flatMap_len {α : Type} {f : α → Bytes} {m : Nat} : ∀ (l : List α), (∀ x ∈ l, (f x).length ≤ m) → (l.flatMap f).length ≤ l.length * m
  | [], _ => by simp
  | x :: l, h => by
    have := flatMap_len l (fun y hy => h y (by simp [hy]))
    have h1 := h x (by simp)
    rw [List.flatMap_cons, List.length_append, List.length_cons, Nat.add_mul]; omega
theorem encState_len {s : StateD} (h : StOk s) : (encState s).length ≤ 4000 := by
  have h2 := h.lock.len
  have h3 := h.pair.len
  have h4 := h.sess.len
  have a1 : (s.locks.flatMap encLock).length ≤ s.locks.length * 60 := flatMap_len _ fun k hk => by
    have ho := h.lock.one k hk
    have g1 := textB_len (s := k.name) (by have := (lkName_len ho.name).2; omega)
    have g2 := (lkName_len ho.name).2
    have g3 := numB_len k.holder; have g4 := numB_len k.fence; have g5 := numB_len k.line.length
    have g6 : (encLine k.line).length ≤ k.line.length * 7 := flatMap_len _ fun x _ => numB_len x
    have g7 := ho.line.len
    simp only [encLock, List.length_append]
    omega
  have a2 : (s.pairs.flatMap encPair).length ≤ s.pairs.length * 60 := flatMap_len _ fun p hp => by
    have ho := h.pair.one p hp
    have g0 := (lkName_len ho.name).2
    have g1 := textB_len (s := p.name) (by omega)
    have g2 := ho.size
    have g3 := textB_len (s := p.value) (by omega)
    have g4 := numB_len p.version
    simp only [encPair, List.length_append]
    omega
  have a3 : (s.sessions.flatMap encSession).length ≤ s.sessions.length * 300 := flatMap_len _ fun x hx => by
    have hr := replies_iff.1 (h.sess.rep x hx)
    have g1 := numB_len x.client; have g2 := numB_len x.id; have g3 := numB_len x.acked; have g4 := numB_len x.last; have g5 := numB_len x.replies.length
    have g6 : (x.replies.flatMap encKept).length ≤ x.replies.length * 50 := flatMap_len _ fun k hk => by
      have := hr.one k hk
      have q1 := numB_len k.seq; have q2 := numB_len k.reply.code; have q3 := numB_len k.reply.n
      have q4 := textB_len (s := k.reply.text) (by omega)
      simp only [encKept, List.length_append]
      omega
    have g7 := replies_len (h.sess.rep x hx)
    simp only [encSession, List.length_append]
    omega
  have b1 := numB_len s.index; have b2 := numB_len s.locks.length; have b3 := numB_len s.pairs.length; have b4 := numB_len s.sessions.length
  simp only [encState, List.length_append]
  omega
end Go.Tk

namespace Go.Proofs.YtkefgapnghnjjaaGreatDoor
open Go.RowKit Go.Tk
set_option maxRecDepth 100000 in
set_option maxHeartbeats 400000 in
theorem readNumber_calls (s : List UInt8) (hs : s.length ≤ 9223372036854775807) (w : World) :
    Calls Tryz.prog 98 #[.string ⟨s.toArray⟩] w fun e w' => e = .returned (.tuple #[.int .i64 (readNumber s).1, .string ⟨(readNumber s).2.1.toArray⟩, .int .i64 (readNumber s).2.2]) ∧ ∃ q, w' = w.drewN q := by
  go_enter Tryz.func98, Tryz.ntmps98
  go_wp2
  go_loopw [5, 6] (fun n i wr => ∃ k m : Nat, k ≤ 6 ∧ k ≤ s.length ∧ i = .int .i64 k ∧ n = .int .i64 m ∧ m < 128 ^ k ∧ rdGo s (6 - k) k m = readNumber s ∧ wr = w)
    (fun _ i _ => 6 - (intOf i).toNat)
  case atStart => exact ⟨0, 0, by omega, by omega, rfl, rfl, by decide, rfl, rfl⟩
  case round =>
    obtain ⟨k, m, hk, hks, rfl, rfl, hm, hr, rfl⟩ := hrel
    by_cases h6 : k < 6
    · by_cases hl : k < s.length
      · obtain ⟨x, hx⟩ : ∃ x : Nat, (s[k]'hl).toNat = x := ⟨_, rfl⟩
        have hx1 : ({ data := s.toArray } : ByteArray)[k]'hl = s[k]'hl := rfl
        have hxl : x < 256 := by rw [← hx]; exact UInt8.toNat_lt _
        have hg : (s.getD k 0).toNat = x := by rw [← hx]; simp [List.getD, hl]
        obtain ⟨hor, hnext⟩ := digit_or m x k hm h6 hxl
        have hg : (s.getD k 0).toNat = x := by rw [← hx]; simp [List.getD, hl]
        have hr3 : rdGo s (6 - k) k m = if 128 ≤ x then rdGo s (6 - (k + 1)) (k + 1) (m + x % 128 * 128 ^ k)
          else if x = 0 ∧ 0 < k ∨ 1099511627776 < m + x % 128 * 128 ^ k then (0, [], 4) else ((m + x % 128 * 128 ^ k : Nat), s.drop (k + 1), 0) := by
          rw [show 6 - k = (6 - (k + 1)) + 1 from by omega]; rw [rdGo, if_pos hl, hg]
        rw [hr] at hr3
        clear hm hr hg
        by_cases hb : 128 ≤ x
        · rw [if_pos hb] at hr3
          have HR := Lib.hid hr3
          clear hr3
          go_wp2
          go_roundw
          case rel => refine ⟨k + 1, m + x % 128 * 128 ^ k, by omega, by omega, by go_num, by first | rfl | go_num, hnext, HR.out.symm, trivial⟩
          case measure => simp [intOf]; omega
        · rw [if_neg hb] at hr3
          generalize m + x % 128 * 128 ^ k = y at *
          by_cases hz : x = 0 ∧ 0 < k
          · rw [if_pos (.inl hz)] at hr3
            have h0 : ((x : Int) == 0) = true := by simp [hz.1]
            have h1 := hz.2
            have HR := Lib.hid hr3
            clear hr3 hz
            go_wp2
            go_ret3
            exact ⟨by rw [HR.out]; rfl, 0, rfl⟩
          · by_cases hy : 1099511627776 < y
            · rw [if_pos (.inr hy)] at hr3
              have HR := Lib.hid hr3
              have HZ := Lib.hid hz
              clear hr3 hz
              go_wp2
              all_goals go_ret3
              all_goals exact ⟨by rw [HR.out]; rfl, 0, rfl⟩
            · rw [if_neg (by omega)] at hr3
              have HR := Lib.hid hr3
              have HZ := Lib.hid hz
              clear hr3 hz
              by_cases hx0 : x = 0
              · have h0 : ((x : Int) == 0) = true := by simp [hx0]
                have hk0 : ¬ 0 < k := fun h => HZ.out ⟨hx0, h⟩
                clear hx0
                go_wp2
                go_quiet (fail)
                go_wp2
                go_ret3
                exact ⟨by rw [HR.out]; exact ends3 rfl rfl rfl, _, rfl⟩
              · go_wp2
                go_quiet (fail)
                go_wp2
                go_ret3
                exact ⟨by rw [HR.out]; exact ends3 rfl rfl rfl, _, rfl⟩
      · have hr3 : rdGo s (6 - k) k m = (0, [], 5) := by
          rw [show 6 - k = (6 - (k + 1)) + 1 from by omega]; rw [rdGo, if_neg hl]
        have HR := Lib.hid (hr.symm.trans hr3)
        clear hr hr3 hm
        obtain rfl : k = s.length := by omega
        go_wp2
        go_ret3
        exact ⟨by rw [HR.out]; rfl, 0, rfl⟩
    · obtain rfl : k = 6 := by omega
      have HR := Lib.hid hr
      clear hr hm
      go_wp2
      go_ret3
      exact ⟨by rw [← HR.out]; rfl, 0, rfl⟩
theorem Tryz.tyBytes : SliceTy Tryz.prog 85 5 1 1 := ⟨Tryz.underlying85, by kernel_rfl, by decide⟩
set_option maxRecDepth 100000 in
set_option maxHeartbeats 400000 in
theorem number_yes (m0 : Nat) (hm0 : m0 ≤ 1099511627776) (w : World) :
    Calls Tryz.prog 111 #[.int .i64 (m0 : Int)] w fun e w' => e = .returned (.tuple #[.string ⟨(digs 6 m0).toArray⟩, .int .i64 0]) ∧ Below w.heap.size w w' := by
  go_enter Tryz.func111, Tryz.ntmps111
  go_wp2
  go_loopw [0, 4] (fun n v wr => ∃ (m f : Nat) (ds : List UInt8), n = .int .i64 (m : Int) ∧ m ≤ 1099511627776 ∧ f + ds.length = 6 ∧ m < 128 ^ (f + 1) ∧ digs 6 m0 = ds ++ digs f m ∧
      OwR 5 1 rByte wr v ds (fun _ => True) ∧ (∀ g, v.ownBlock = some g → w.heap.size ≤ g) ∧ Below w.heap.size w wr)
    (fun n _ _ => (intOf n).toNat)
  case atStart => exact ⟨m0, 6, [], rfl, hm0, rfl, by omega, rfl, OwR.nil _ _, by simp [Value.ownBlock], Below.refl _ _⟩
  case round =>
    obtain ⟨m, f, ds, rfl, hm, hf, hmf, hd, hown, hvb, hb⟩ := hrel
    have HD := Lib.hid hd
    clear hd
    by_cases h128 : 128 ≤ m
    · have hor := byte_or m (by omega)
      go_wp2_with (at_builtin; refine wpList_append_one Tryz.tyBytes (.tmp 13) (.tmp 18) rfl rfl rByte_ok ((m % 128 + 128).toUInt8) rfl rfl rfl hown hb hvb rfl (by omega) ?_; intro v' w' hown' hb' hvb')
      go_roundw
      case rel =>
        obtain ⟨f, rfl⟩ : ∃ f', f = f' + 1 := by
          rcases f with _ | f
          · simp at hmf; omega
          · exact ⟨f, rfl⟩
        refine ⟨m / 128, f, ds ++ [(m % 128 + 128).toUInt8], by go_num, by omega, by simp; omega, ?_, ?_, hown', hvb', hb'⟩
        · rw [Nat.pow_succ] at hmf; omega
        · rw [HD.out, digs_big f m h128]; simp
      case measure => simp [intOf]; omega
    · have HD2 := Lib.hid (HD.out.trans (by rw [digs_small f m (by omega)]))
      clear HD
      go_wp2_with (at_builtin; refine wpList_append_one Tryz.tyBytes (.tmp 22) (.tmp 25) rfl rfl rByte_ok (m.toUInt8) rfl rfl rfl hown hb hvb (by simp [rByte]; omega) (by omega) ?_; intro v' w' hown' hb' hvb'; have hcv := run_string_of_bytes (P := Tryz.prog) Tryz.underlying85 Tryz.underlying5 Tryz.underlying9 (hown'.read rByte_ok (by decide) (fun _ _ => trivial)))
      go_ret2
      exact ⟨by rw [HD2.out]; exact ends2 rfl rfl, hb'⟩
theorem number_no (n : Int) (hn : n < 0 ∨ 1099511627776 < n) (w : World) :
    Calls Tryz.prog 111 #[.int .i64 n] w fun e w' => e = .returned (.tuple #[.string ⟨#[]⟩, .int .i64 2]) ∧ Below w.heap.size w w' := by
  rcases hn with h | h
  · go_enter Tryz.func111, Tryz.ntmps111
    go_wp2
    go_ret2
    exact ⟨rfl, Below.refl _ _⟩
  · have h' : ¬ n < 0 := by omega
    go_enter Tryz.func111, Tryz.ntmps111
    go_wp2
    go_ret2
    exact ⟨rfl, Below.refl _ _⟩
theorem number_calls (n : Int) (w : World) :
    Calls Tryz.prog 111 #[.int .i64 n] w fun e w' => e = .returned (.tuple #[.string ⟨(number n).1.toArray⟩, .int .i64 (number n).2]) ∧ Below w.heap.size w w' := by
  by_cases h : n < 0 ∨ 1099511627776 < n
  · rw [number, if_pos h]; exact number_no n h w
  · rw [number, if_neg h]
    obtain ⟨m, rfl⟩ := Int.eq_ofNat_of_zero_le (show 0 ≤ n by omega)
    exact number_yes m (by omega) w
set_option maxRecDepth 100000 in
theorem text_calls (s : List UInt8) (hs : s.length ≤ 9223372036854775807) (w : World) :
    Calls Tryz.prog 112 #[.string ⟨s.toArray⟩] w fun e w' => e = .returned (.tuple #[.string ⟨(text s).1.toArray⟩, .int .i64 (text s).2]) ∧ Below w.heap.size w w' := by
  by_cases h : 5000 < s.length
  · rw [text, if_pos h]
    go_enter Tryz.func112, Tryz.ntmps112
    go_wp2
    go_ret2
    exact ⟨rfl, Below.refl _ _⟩
  · rw [text, if_neg h]
    have hnl := number_len s.length
    go_enter Tryz.func112, Tryz.ntmps112
    go_wp2_with (go_at_call 111; refine (number_calls _ _).mono ?_; rintro e w' ⟨rfl, hb⟩)
    go_ret2
    exact ⟨ends2 rfl rfl, hb⟩
set_option maxRecDepth 100000 in
theorem readText_calls (s : List UInt8) (hs : s.length ≤ 9223372036854775807) (w : World) :
    Calls Tryz.prog 99 #[.string ⟨s.toArray⟩] w fun e w' => e = .returned (.tuple #[.string ⟨(readText s).1.toArray⟩, .string ⟨(readText s).2.1.toArray⟩, .int .i64 (readText s).2.2]) ∧ ∃ q, w' = w.drewN q := by
  go_enter Tryz.func99, Tryz.ntmps99
  go_wp2_with (go_at_call 98; refine (readNumber_calls s hs _).mono ?_; rintro e w' ⟨rfl, q, rfl⟩)
  · have h1 : (readNumber s).2.2 ≠ 0 := by simpa using ‹((readNumber s).2.2 != 0) = true›
    go_ret3
    exact ⟨by rw [readText, if_pos h1]; rfl, q, rfl⟩
  · have h1 : ¬ (readNumber s).2.2 ≠ 0 := by simpa using ‹((readNumber s).2.2 != 0) = false›
    have h2 : 5000 < (readNumber s).1 := by assumption
    go_ret3
    exact ⟨by rw [readText, if_neg h1, if_pos h2]; rfl, q, rfl⟩
  · have h1 : ¬ (readNumber s).2.2 ≠ 0 := by simpa using ‹((readNumber s).2.2 != 0) = false›
    have h2 : (readNumber s).1 ≤ 5000 := by assumption
    have h3 : ((readNumber s).2.1.length : Int) < (readNumber s).1 := by assumption
    go_ret3
    exact ⟨by rw [readText, if_neg h1, if_neg (by omega), if_pos h3]; rfl, q, rfl⟩
  · have h1 : ¬ (readNumber s).2.2 ≠ 0 := by simpa using ‹((readNumber s).2.2 != 0) = false›
    have h2 : (readNumber s).1 ≤ 5000 := by assumption
    have h3 : (readNumber s).1 ≤ ((readNumber s).2.1.length : Int) := by assumption
    have HR := Lib.hid (show readText s = ((readNumber s).2.1.take (readNumber s).1.toNat, (readNumber s).2.1.drop (readNumber s).1.toNat, 0) by rw [readText, if_neg h1, if_neg (by omega), if_neg (by omega)])
    have h0 := readNumber_nonneg s
    clear h1
    go_quiet (fail)
    go_wp2
    go_ret3
    exact ⟨by rw [HR.out]; exact ends3 rfl rfl rfl, _, by rw [World.drewN_drewN]⟩
set_option maxRecDepth 100000 in
theorem picked_calls (n m : Int) (hm : 0 < m) (hm2 : m ≤ 4611686018427387904) (hn : -9223372036854775808 ≤ n) (hn2 : n ≤ 9223372036854775807) (w : World) :
    Calls Tryz.prog 30 #[.int .i64 n, .int .i64 m] w fun e w' => e = .returned (.int .i64 (picked n m)) ∧ w = w' := by
  by_cases h : n < 0
  · rw [picked, if_pos h]
    go_enter Tryz.func30, Tryz.ntmps30
    go_wp2
    go_ret
    have e : (n + 1).tmod m = -(-(n + 1) % m) := by
      rw [← Int.tmod_eq_emod_of_nonneg (by omega), Int.neg_tmod, Int.neg_neg]
    exact ⟨ends1 (by simp [e]), rfl⟩
  · rw [picked, if_neg h]
    go_enter Tryz.func30, Tryz.ntmps30
    go_wp2
    go_ret
    exact ⟨rfl, rfl⟩
end Go.Proofs.YtkefgapnghnjjaaGreatDoor
