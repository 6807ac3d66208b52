/- A part of the proof, laid together from: LockB0, LockN, LockB, LockC, Strs, BSearchPair. -/
import Derived.Test.YtcmmenmjclgjmaaGreatDoorRows
import Derived.Test.YtcmmenmjclgjmaaGreatDoorPa03
import Derived.Test.YtcmmenmjclgjmaaGreatDoorPa11
import Derived.WalkLawsBesides
import Derived.BigQuiet
import Derived.Deep.QuietTactic
import Derived.Laws.IdiomStrings
import Derived.KernelRfl
import Derived.Test.YtcmmenmjclgjmaaGreatDoorPa01
import Derived.Lib.Bytealg
import Derived.Test.YtcmmenmjclgjmaaGreatDoorPa09
import Derived.Test.YtcmmenmjclgjmaaGreatDoorPa02
import Derived.Test.YtcmmenmjclgjmaaGreatDoorPa05
set_option linter.unusedSimpArgs false
set_option linter.unusedVariables false
/- The small functions of package lock. -/
namespace Go.Proofs.YtcmmenmjclgjmaaGreatDoor
open Go.RowKit Go.Tk

theorem badByte_calls (c : UInt8) (w : World) : Calls Tryz.prog 104 #[.int .u8 c.toNat] w fun e w' => e = .returned (.bool (badByte c)) ∧ w = w' := by
  have HL := Lib.hid (show badByte c = (decide ((c.toNat : Int) < 97) || decide ((122 : Int) < (c.toNat : Int))) from rfl)
  generalize badByte c = bb at HL ⊢
  generalize hx : c.toNat = x at HL ⊢
  have HX := Lib.hid hx
  clear hx
  by_cases h : (x : Int) < 97
  · have HL2 := Lib.hid (HL.out.trans (by rw [decide_eq_true h, Bool.true_or]))
    go_enter Tryz.func104, Tryz.ntmps104
    go_wp2
    go_ret
    exact ⟨by rw [HL2.out]; rfl, rfl⟩
  · have HL2 := Lib.hid (HL.out.trans (by rw [decide_eq_false h, Bool.false_or]))
    go_enter Tryz.func104, Tryz.ntmps104
    go_wp2
    go_ret
    exact ⟨by rw [HL2.out]; rfl, rfl⟩
set_option maxRecDepth 100000 in
set_option maxHeartbeats 400000 in
theorem indexByteF_calls (w : World) (v : Value) (l : List UInt8) (S : Nat → Prop) (h : SlR 1 rByte w v l S) (hn : l.length ≤ 1000000) :
    Calls Tryz.prog 122 #[v, .func (.func 104) #[] #[]] w fun e w' => e = .returned (.int .i64 (fIdx badByte l)) ∧ Below w.heap.size w w' := by
  obtain ⟨a, vc, hv, hl, hm, hnil, -⟩ := id h
  subst hv
  unfold maxLen at hm
  have hlen : (l.length : Int) ≤ 1000000 := by omega
  go_enter Tryz.func122, Tryz.ntmps122
  go_wp2
  go_loopw [8] (fun i wr => ∃ n : Nat, n ≤ l.length ∧ i = .int .i64 n ∧ Hid (∀ (j : Nat) (hj : j < l.length), j < n → badByte l[j] = false) ∧ Below w.heap.size w wr)
    (fun i _ => l.length - (intOf i).toNat)
  case atStart => exact ⟨0, by omega, rfl, fun j _ hj => by omega, Below.refl _ _⟩
  case round =>
    obtain ⟨n, hnl, rfl, hall, hb⟩ := hrel
    have hws := hb.size
    by_cases hlt : n < l.length
    · obtain ⟨b, off, vc', row, hv, hS, hrow, hcells⟩ := (h.below rByte_ok (by decide) hb).row n hlt
      simp only [Value.slice.injEq] at hv
      obtain ⟨rfl, _, rfl⟩ := hv
      have HY : Hid (badByte l[n] = true → fIdx badByte l = n) := fun ht => fIdx_at hlt ht hall.out
      have HN : Hid (badByte l[n] = false → ∀ (j : Nat) (hj : j < l.length), j < n + 1 → badByte l[j] = false) := fun ht j hj hj1 => by
        rcases Nat.lt_or_ge j n with h | h
        · exact hall.out j hj h
        · obtain rfl : j = n := by omega
          exact ht
      clear hall
      generalize hxx : l[n] = x at *
      clear hxx
      obtain rfl := hrow
      have q0 := hcells 0 _ rfl
      simp only [Nat.add_zero, Nat.mul_one] at q0
      clear hcells h
      cases hf : badByte x
      case true =>
        have HF := Lib.hid (HY.out hf)
        have HX := Lib.hid hf
        clear hf
        go_wp2_with fail
        refine (badByte_calls x _).mono ?_; rw [HX.out]; rintro e w2 ⟨rfl, rfl⟩
        go_wp2
        go_ret
        exact ⟨by rw [HF.out]; rfl, hb⟩
      case false =>
        have HX := Lib.hid hf
        have HN2 := Lib.hid (HN.out hf)
        clear hf HN
        go_wp2_with fail
        refine (badByte_calls x _).mono ?_; rw [HX.out]; rintro e w2 ⟨rfl, rfl⟩
        go_wp2
        go_roundw
        case rel => exact ⟨n + 1, by omega, by go_num, HN2.out, hb⟩
        case measure => simp [intOf]; omega
    · obtain rfl : n = l.length := by omega
      have HF : Hid (fIdx badByte l = -1) := fIdx_none fun j hj => hall.out j hj hj
      clear hall h
      go_wp2
      go_ret
      exact ⟨by rw [HF.out]; rfl, hb⟩
theorem fIdx_any {α : Type} (p : α → Bool) (l : List α) : decide (0 ≤ fIdx p l) = l.any p := by
  rcases fIdx_cases p l with ⟨h, h2⟩ | ⟨n, hn, h, h2, _⟩
  · rw [h, Eq.comm]
    refine (List.any_eq_false.2 fun x hx => by rw [h2 x hx]; decide)
  · rw [h]
    have : l.any p = true := List.any_eq_true.2 ⟨_, List.getElem_mem hn, h2⟩
    rw [this]; simp
theorem containsByteF_calls (w : World) (v : Value) (l : List UInt8) (S : Nat → Prop) (h : SlR 1 rByte w v l S) (hn : l.length ≤ 1000000) :
    Calls Tryz.prog 103 #[v, .func (.func 104) #[] #[]] w fun e w' => e = .returned (.bool (l.any badByte)) ∧ Below w.heap.size w w' := by
  have HF := Lib.hid (fIdx_any badByte l)
  go_enter Tryz.func103, Tryz.ntmps103
  go_wp2_with fail
  refine (indexByteF_calls w v l S h hn).mono ?_; rintro e w2 ⟨rfl, hb⟩
  go_wp2
  go_ret
  exact ⟨by rw [HF.out]; rfl, hb⟩
end Go.Proofs.YtcmmenmjclgjmaaGreatDoor

/- lock.Name. -/
namespace Go.Tk
open Go Go.RowKit
theorem SlR.take {α : Type} {k : Nat} {R : Rel α} {w : World} {a : Option Addr} {n cap : Nat} {l : List α} {S : Nat → Prop} (h : SlR k R w (.slice a n cap) l S) (i : Nat) (hi : i ≤ l.length) : SlR k R w (.slice a i cap) (l.take i) S := by
  obtain ⟨a', cap', hv, h1, h2, h3, h4⟩ := h
  simp only [Value.slice.injEq] at hv
  obtain ⟨rfl, rfl, rfl⟩ := hv
  have hl : (l.take i).length = i := by rw [List.length_take]; omega
  refine ⟨a, cap, by rw [hl], by omega, h2, h3, fun j x hx => ?_⟩
  have hj : j < i := by
    rcases Nat.lt_or_ge j i with h | h
    · exact h
    · rw [List.getElem?_eq_none (by omega)] at hx; cases hx
  rw [List.getElem?_take_of_lt hj] at hx
  exact h4 j x hx
theorem conv_bytes {P : Program} (w : World) (src dst e : TypeId) (s : List UInt8) (hs : P.underlying src = some .string) (hd : P.underlying dst = some (.slice e)) (he : P.underlying e = some (.int .u8)) (hl : s.length ≤ 1000000) :
    ∃ cap w1, (convert src dst (.string ⟨s.toArray⟩)).run P w = .ok (.slice (some ⟨w.heap.size, 0, none⟩) s.length cap) w1 ∧ SlR 1 rByte w1 (.slice (some ⟨w.heap.size, 0, none⟩) s.length cap) s (fun _ => True) ∧ Below w.heap.size w w1 := by
  have hsz : (⟨s.toArray⟩ : ByteArray).size = s.length := by simp [ByteArray.size]
  have hr := run_bytes_of_string (P := P) w src dst e ⟨s.toArray⟩ hs hd he
  rw [hsz] at hr
  refine ⟨_, _, hr, ⟨_, _, rfl, grownCap_ge w s.length 0 e, grownCap_le_maxLen w s.length 0 e (by unfold maxLen; omega), (fun h => by cases h), fun i x hx => ⟨w.heap.size, 0, [.int .u8 x.toNat], rfl, trivial, rfl, fun j u hu => ?_⟩⟩, Below.alloc (Below.drew (Below.refl _ _)) (Nat.le_refl _) _⟩
  · cases j with
    | succ j => simp at hu
    | zero =>
      simp at hu
      subst hu
      refine Eq.trans (cells_take (w := w.drew.alloc _) (g := w.heap.size) (heap_alloc_new w.drew _) _) ?_
      have hi : i < s.length := by
        rcases Nat.lt_or_ge i s.length with h | h
        · exact h
        · rw [List.getElem?_eq_none h] at hx; cases hx
      rw [List.getElem?_eq_getElem hi] at hx
      simp only [Option.some.injEq] at hx
      simp [bytesRow, Array.getElem?_append, hi, hx]
end Go.Tk
namespace Go.Proofs.YtcmmenmjclgjmaaGreatDoor
open Go.RowKit Go.Tk

set_option maxRecDepth 100000 in
theorem name_calls (s : List UInt8) (w : World) : Calls Tryz.prog 70 #[.string ⟨s.toArray⟩] w fun e w' => e = .returned (.bool (lkName s)) ∧ Below w.heap.size w w' := by
  cases s with
  | nil =>
    go_enter Tryz.func70, Tryz.ntmps70
    go_wp2
    go_ret
    exact ⟨rfl, Below.refl _ _⟩
  | cons c r =>
    have HL := Lib.hid (show lkName (c :: r) = (decide ((c :: r).length ≤ 6) && !(c :: r).any badByte) from rfl)
    by_cases h6 : (c :: r).length ≤ 6
    · have HL2 := Lib.hid (HL.out.trans (by rw [decide_eq_true h6, Bool.true_and]))
      obtain ⟨cap, w1, hcv, hsl, hb1⟩ := conv_bytes (P := Tryz.prog) w _ _ _ (c :: r) Tryz.underlying9 Tryz.underlying75 Tryz.underlying5 (by omega)
      have HC := Lib.hid (containsByteF_calls w1 _ _ _ hsl (by omega))
      clear hsl
      have hne : (c :: r).isEmpty = false := rfl
      generalize c :: r = s at *
      go_enter Tryz.func70, Tryz.ntmps70
      go_wp2_with fail
      refine HC.out.mono ?_; rintro e w2 ⟨rfl, hb2⟩
      go_wp2
      go_ret
      exact ⟨by rw [HL2.out]; rfl, below_step hb1 hb2⟩
    · have HL2 := Lib.hid (HL.out.trans (by rw [decide_eq_false h6, Bool.false_and]))
      have hne : (c :: r).isEmpty = false := rfl
      generalize c :: r = s at *
      go_enter Tryz.func70, Tryz.ntmps70
      go_wp2
      go_ret
      exact ⟨by rw [HL2.out]; rfl, Below.refl _ _⟩
end Go.Proofs.YtcmmenmjclgjmaaGreatDoor

/- lock.client; search in a slice of numbers. -/
namespace Go.Proofs.YtcmmenmjclgjmaaGreatDoor
open Go.RowKit Go.Tk

theorem client_calls (n : Int) (w : World) : Calls Tryz.prog 71 #[.int .i64 n] w fun e w' => e = .returned (.bool (lkClient n)) ∧ w = w' := by
  have HL := Lib.hid (show lkClient n = (decide (1 ≤ n) && decide (n ≤ 9)) from rfl)
  by_cases h : 1 ≤ n
  · have HL2 := Lib.hid (HL.out.trans (by rw [decide_eq_true h, Bool.true_and]))
    go_enter Tryz.func71, Tryz.ntmps71
    go_wp2
    go_ret
    exact ⟨by rw [HL2.out]; rfl, rfl⟩
  · have HL2 := Lib.hid (HL.out.trans (by rw [decide_eq_false h, Bool.false_and]))
    go_enter Tryz.func71, Tryz.ntmps71
    go_wp2
    go_ret
    exact ⟨by rw [HL2.out]; rfl, rfl⟩
set_option maxRecDepth 100000 in
set_option maxHeartbeats 400000 in
theorem indexInt_calls (w : World) (v : Value) (l : List Int) (S : Nat → Prop) (h : SlR 1 rInt w v l S) (hn : l.length ≤ 1000000) (t : Int) :
    Calls Tryz.prog 109 #[v, .int .i64 t] w fun e w' => e = .returned (.int .i64 (fIdx (fun x => t == x) l)) ∧ Below w.heap.size w w' := by
  obtain ⟨a, vc, hv, hl, hm, hnil, -⟩ := id h
  subst hv
  unfold maxLen at hm
  have hlen : (l.length : Int) ≤ 1000000 := by omega
  go_enter Tryz.func109, Tryz.ntmps109
  go_wp2
  go_loopw [8] (fun i wr => ∃ n : Nat, n ≤ l.length ∧ i = .int .i64 n ∧ Hid (∀ (j : Nat) (hj : j < l.length), j < n → (t == l[j]) = false) ∧ Below w.heap.size w wr)
    (fun i _ => l.length - (intOf i).toNat)
  case atStart => exact ⟨0, by omega, rfl, fun j _ hj => by omega, Below.refl _ _⟩
  case round =>
    obtain ⟨n, hnl, rfl, hall, hb⟩ := hrel
    have hws := hb.size
    by_cases hlt : n < l.length
    · obtain ⟨b, off, vc', row, hv, hS, hrow, hcells⟩ := (h.below rInt_ok (by decide) hb).row n hlt
      simp only [Value.slice.injEq] at hv
      obtain ⟨rfl, _, rfl⟩ := hv
      have HY : Hid ((t == l[n]) = true → fIdx (fun x => t == x) l = n) := fun ht => fIdx_at hlt ht hall.out
      have HN : Hid ((t == l[n]) = false → ∀ (j : Nat) (hj : j < l.length), j < n + 1 → (t == l[j]) = false) := fun ht j hj hj1 => by
        rcases Nat.lt_or_ge j n with h | h
        · exact hall.out j hj h
        · obtain rfl : j = n := by omega
          exact ht
      clear hall
      generalize hxx : l[n] = x at *
      clear hxx
      obtain rfl := hrow
      have q0 := hcells 0 _ rfl
      simp only [Nat.add_zero, Nat.mul_one] at q0
      clear hcells h
      cases hf : (t == x)
      case true =>
        have HF := Lib.hid (HY.out hf)
        go_wp2
        go_ret
        exact ⟨by rw [HF.out]; rfl, hb⟩
      case false =>
        have HN2 := Lib.hid (HN.out hf)
        clear HN
        go_wp2
        go_roundw
        case rel => exact ⟨n + 1, by omega, by go_num, HN2.out, hb⟩
        case measure => simp [intOf]; omega
    · obtain rfl : n = l.length := by omega
      have HF : Hid (fIdx (fun x => t == x) l = -1) := fIdx_none fun j hj => hall.out j hj hj
      clear hall h
      go_wp2
      go_ret
      exact ⟨by rw [HF.out]; rfl, hb⟩
theorem any_contains (l : List Int) (t : Int) : l.any (fun x => t == x) = l.contains t := by
  rw [List.contains_eq_any_beq]
theorem containsInt_calls (w : World) (v : Value) (l : List Int) (S : Nat → Prop) (h : SlR 1 rInt w v l S) (hn : l.length ≤ 1000000) (t : Int) :
    Calls Tryz.prog 105 #[v, .int .i64 t] w fun e w' => e = .returned (.bool (l.contains t)) ∧ Below w.heap.size w w' := by
  have HF := Lib.hid ((fIdx_any (fun x => t == x) l).trans (any_contains l t))
  go_enter Tryz.func105, Tryz.ntmps105
  go_wp2_with fail
  refine (indexInt_calls w v l S h hn t).mono ?_; rintro e w2 ⟨rfl, hb⟩
  go_wp2
  go_ret
  exact ⟨by rw [HF.out]; rfl, hb⟩
end Go.Proofs.YtcmmenmjclgjmaaGreatDoor

/- lock.line, lock.Check. -/
namespace Go.Tk
theorem lkLine_false {k : LockD} {i : Nat} (hi : i < k.line.length) (h0 : firstErr (fun i => if lineBad k i then 1 else 0) i = 0) (hb : lineBad k i) : lkLine k = false := by
  have h1 : (fun i => if lineBad k i then (1 : Int) else 0) i = 1 := if_pos hb
  have h2 : lineErr k = (fun i => if lineBad k i then (1 : Int) else 0) i := firstErr_eq h0 (fun h => by have := h1.symm.trans h; cases this) _ hi
  rw [lkLine, h2.trans h1]; rfl
end Go.Tk
namespace Go.Proofs.YtcmmenmjclgjmaaGreatDoor
open Go.RowKit Go.Tk

set_option maxRecDepth 100000 in
set_option maxHeartbeats 800000 in
theorem line_calls (k : LockD) (v : Value) (S : Nat → Prop) (w : World) (h : SlR 1 rInt w v k.line S) (hn : k.line.length ≤ 1000000) :
    Calls Tryz.prog 72 #[.agg #[.string ⟨k.name.toArray⟩, .int .i64 k.holder, .int .i64 k.fence, v]] w fun e w' => e = .returned (.bool (lkLine k)) ∧ Below w.heap.size w w' := by
  obtain ⟨a, cap, hv, hl, hm, hnl, hr⟩ := id h
  subst hv
  unfold maxLen at hm
  go_enter Tryz.func72, Tryz.ntmps72
  go_wp2
  go_loopw [3, 4, 8] (fun _ _ i wr => ∃ n : Nat, n ≤ k.line.length ∧ i = .int .i64 n ∧ Hid (firstErr (fun i => if lineBad k i then 1 else 0) n = 0) ∧ Hid (Below (w.heap.size + 1) (w.alloc (.cells #[.string ⟨k.name.toArray⟩, .int .i64 k.holder, .int .i64 k.fence, .slice a k.line.length cap] 36)) wr))
    (fun _ _ i _ => k.line.length - (intOf i).toNat)
  case atStart => exact ⟨0, by omega, rfl, rfl, Below.refl _ _⟩
  case round =>
    obtain ⟨n, hnk, rfl, hf, hb⟩ := hrel
    have HBW := Lib.hid (show Below w.heap.size w wr from (below_alloc w _).trans (hb.out.mono (by omega)))
    obtain ⟨hz, -, hzs⟩ := Tk.fresh hb.out
    have z1 := hz 1; have z3 := hz 3
    clear hz
    by_cases hlt : n < k.line.length
    · obtain ⟨b, off, cap', row, hv, hS, hrow, hcells⟩ := (h.below rInt_ok (by decide) HBW.out).row n hlt
      simp only [Value.slice.injEq] at hv
      obtain ⟨rfl, _, rfl⟩ := hv
      obtain rfl := hrow
      have q0 := hcells 0 _ rfl
      simp only [Nat.add_zero, Nat.mul_one] at q0
      clear hcells
      have hgd : k.line.getD n 0 = k.line[n] := by simp [List.getD, hlt]
      have HI : Hid (lineBad k n ↔ lkClient k.line[n] = false ∨ k.line[n] = k.holder ∨ (k.line.take n).contains k.line[n] = true) := by show _ ↔ _; rw [lineBad, hgd]
      have HB : Hid (lineBad k n → lkLine k = false) := fun hbad => lkLine_false hlt hf.out hbad
      have HG : Hid (¬ lineBad k n → firstErr (fun i => if lineBad k i then 1 else 0) (n + 1) = 0) := fun hbad => firstErr_succ hf.out (by rw [if_neg hbad])
      have HT := Lib.hid ((h.below rInt_ok (by decide) HBW.out).take n hnk)
      have hlt2 : (k.line.take n).length ≤ 1000000 := by rw [List.length_take]; omega
      clear hf hgd h
      generalize k.line[n] = x at *
      have hcases : lkClient x = false ∨ (lkClient x = true ∧ (x == k.holder) = true) ∨ (lkClient x = true ∧ (x == k.holder) = false) := by
        cases lkClient x <;> cases (x == k.holder) <;> simp
      rcases hcases with h1 | ⟨h1, h2⟩ | ⟨h1, h2⟩
      · have HF := Lib.hid (HB.out (HI.out.2 (.inl h1)))
        have H1 := Lib.hid h1
        clear h1
        go_wp2_with fail
        refine (client_calls x _).mono ?_; rw [H1.out]; rintro e w2 ⟨rfl, rfl⟩
        go_wp2
        go_ret
        exact ⟨by rw [HF.out]; rfl, HBW.out⟩
      · have HF := Lib.hid (HB.out (HI.out.2 (.inr (.inl (by simpa using h2)))))
        have H1 := Lib.hid h1
        clear h1
        go_wp2_with fail
        refine (client_calls x _).mono ?_; rw [H1.out]; rintro e w2 ⟨rfl, rfl⟩
        go_wp2
        go_ret
        exact ⟨by rw [HF.out]; rfl, HBW.out⟩
      · have H1 := Lib.hid h1
        have HC := Lib.hid (containsInt_calls wr _ (k.line.take n) _ HT.out hlt2 x)
        have HI2 : Hid (lineBad k n ↔ (k.line.take n).contains x = true) := by
          show _ ↔ _
          rw [HI.out, h1]; simp at h2; simp [h2]
        clear h1 HT HI
        go_wp2_with fail
        refine (client_calls x _).mono ?_; rw [H1.out]; rintro e w2 ⟨rfl, rfl⟩
        go_wp2_with fail
        refine HC.out.mono ?_; rintro e w2 ⟨rfl, hb2⟩
        generalize (k.line.take n).contains x = bb at HI2 ⊢
        cases bb
        case true =>
          have HF := Lib.hid (HB.out (HI2.out.2 rfl))
          go_wp2
          go_ret
          exact ⟨by rw [HF.out]; rfl, below_step HBW.out hb2⟩
        case false =>
          have HF := Lib.hid (HG.out (fun hx => by have := HI2.out.1 hx; cases this))
          go_wp2
          go_roundw
          case rel => exact ⟨n + 1, by omega, by go_num, HF.out, hb.out.trans (hb2.mono (by omega))⟩
          case measure => simp [intOf]; omega
    · obtain rfl : n = k.line.length := by omega
      have HF : Hid (lkLine k = (decide (k.line.length ≤ 3) && (k.holder != 0 || k.line.length == 0))) := by
        show _ = _
        rw [lkLine, lineErr, hf.out]; rfl
      clear hf h
      by_cases h3 : k.line.length ≤ 3
      · by_cases h0 : (k.holder != 0) = true
        · have HF2 := Lib.hid (HF.out.trans (by rw [decide_eq_true h3, h0] <;> rfl))
          go_wp2
          go_ret
          exact ⟨by rw [HF2.out]; rfl, HBW.out⟩
        · have h0' : (k.holder != 0) = false := by simpa using h0
          have HF2 := Lib.hid (HF.out.trans (show _ = (k.line.length == 0) by rw [decide_eq_true h3, h0']; rfl))
          have HN := Lib.hid (show ((k.line.length : Int) == 0) = (k.line.length == 0) by rw [Bool.eq_iff_iff, beq_iff_eq, beq_iff_eq]; omega)
          go_wp2
          go_ret
          exact ⟨by rw [HF2.out, ← HN.out]; rfl, HBW.out⟩
      · have HF2 := Lib.hid (HF.out.trans (by rw [decide_eq_false h3] <;> rfl))
        go_wp2
        go_ret
        exact ⟨by rw [HF2.out]; rfl, HBW.out⟩

set_option maxRecDepth 100000 in
set_option maxHeartbeats 800000 in
theorem lkCheck_calls (l : List LockD) (v : Value) (S : Nat → Prop) (w : World) (h : SlR 4 rLock w v l S) (hin : ∀ x ∈ l, x.line.length ≤ 1000000) :
    Calls Tryz.prog 38 #[v] w fun e w' => e = .returned (.int .i64 (lkCheck l)) ∧ Below w.heap.size w w' := by
  obtain ⟨a, cap, hv, hl, hm, hn, hr⟩ := id h
  subst hv
  unfold maxLen at hm
  by_cases h5 : 5 < l.length
  · have HF := Lib.hid (show lkCheck l = 1 by rw [lkCheck, if_pos h5])
    clear hr h
    go_enter Tryz.func38, Tryz.ntmps38
    go_wp2
    go_ret
    exact ⟨ends1 (by rw [HF.out]; rfl), Below.refl _ _⟩
  have HF : Hid (lkCheck l = firstErr (lkErr l) l.length) := by show _ = _; rw [lkCheck, if_neg h5]
  have HN := Lib.hid hin
  clear hr hin
  go_enter Tryz.func38, Tryz.ntmps38
  go_wp2
  go_loopw [3, 4, 10] (fun _ _ i wr => ∃ k : Nat, k ≤ l.length ∧ i = .int .i64 k ∧ Hid (firstErr (lkErr l) k = 0) ∧ Below w.heap.size w wr)
    (fun _ _ i _ => l.length - (intOf i).toNat)
  case atStart => exact ⟨0, by omega, rfl, rfl, Below.refl _ _⟩
  case round =>
    obtain ⟨k, hk, rfl, hf, hb⟩ := hrel
    have hws := hb.size
    by_cases hlt : k < l.length
    · obtain ⟨b, off, cap', row, hv, hS, hrow, hcells⟩ := (h.below rLock_ok (by decide) hb).row k hlt
      simp only [Value.slice.injEq] at hv
      obtain ⟨rfl, _, rfl⟩ := hv
      obtain ⟨rv, rfl, hrv⟩ := hrow
      obtain ⟨ra, rcap, rfl, -⟩ := id hrv
      have q0 := hcells 0 _ rfl
      have q1 := hcells 1 _ rfl
      have q2 := hcells 2 _ rfl
      have q3 := hcells 3 _ rfl
      simp only [Nat.add_zero] at q0
      clear hcells
      have hbl : b < wr.heap.size := World.block_lt_of_cell? wr _ q0
      have hg : l.getD k noLock = l[k] := by simp [List.getD, hlt]
      have HI : Hid (lkErr l k = if lkForm l[k] = false then 4 else if l[k].fence < 1 ∨ 1073741824 < l[k].fence then 2 else if 0 < k ∧ Op.bytesLess (l.getD (k - 1) noLock).name l[k].name = false then 14 else 0) := by
        show _ = _
        rw [lkErr, hg]
      have HE : Hid (∀ e, lkErr l k = e → e ≠ 0 → lkCheck l = e) := fun e he h0 => by
        rw [HF.out, firstErr_eq hf.out (by rw [he]; exact h0) _ hlt, he]
      have HG : Hid (lkErr l k = 0 → firstErr (lkErr l) (k + 1) = 0) := fun h0 => firstErr_succ hf.out h0
      have hp : 0 < k → wr.cell? ⟨b, off + (k - 1) * 4, none⟩ = some (.string ⟨(l.getD (k - 1) noLock).name.toArray⟩) := by
        intro hk0
        obtain ⟨b2, off2, cap2, row, hv, hS, hrow, hcells⟩ := (h.below rLock_ok (by decide) hb).row (k - 1) (by omega)
        simp only [Value.slice.injEq, Option.some.injEq, Addr.mk.injEq] at hv
        obtain ⟨⟨rfl, rfl, _⟩, _, rfl⟩ := hv
        obtain ⟨rv, rfl, hrv⟩ := hrow
        rw [show l.getD (k - 1) noLock = l[k - 1] by simp [List.getD, show k - 1 < l.length by omega]]
        exact hcells 0 _ rfl
      have HXL := Lib.hid (HN.out l[k] (List.getElem_mem hlt))
      clear h
      generalize l.getD (k - 1) noLock = y at *
      generalize l[k] = x at *
      have HP := Lib.hid hp
      clear hf hg HF hp
      have h0c : (x.holder != 0) = false ∨ (x.holder != 0) = true := by cases (x.holder != 0) <;> simp
      have HRV := Lib.hid hrv
      clear hrv
      go_wp2_with fail
      refine (name_calls x.name _).mono ?_; rintro e w2 ⟨rfl, hb2⟩
      have hb2' := hb2
      rw [World.size_alloc] at hb2'
      obtain ⟨hz, -, hzs⟩ := Tk.fresh hb2'
      have z0 := hz 0; have z1 := hz 1; have z2 := hz 2; have z3 := hz 3
      clear hz q0 q1 q2 q3
      have hbr2 : Below wr.heap.size wr w2 := below_step (below_alloc wr _) hb2
      have hb02 := below_step hb hbr2
      cases hnm : lkName x.name
      case false =>
        have HV := Lib.hid (HE.out 4 (by rw [HI.out, if_pos (by simp [lkForm, hnm])]) (by decide))
        go_wp2
        go_ret
        exact ⟨by rw [HV.out]; rfl, hb02⟩
      case true =>
        rcases h0c with h0 | h0
        case' inl =>
          have HFM : Hid (lkForm x = lkLine x) := by
            show _ = _
            have h0' : x.holder = 0 := by simpa using h0
            simp [lkForm, hnm, h0']
          clear hnm
          go_wp2_with fail
        case' inr =>
          have HH : Hid (lkForm x = (lkClient x.holder && lkLine x)) := by
            show _ = _
            have h0' : (x.holder == 0) = false := by simpa using h0
            simp [lkForm, hnm, h0']
          clear hnm
          go_wp2_with fail
          refine (client_calls x.holder _).mono ?_; rintro e w' ⟨rfl, rfl⟩
          cases hcl : lkClient x.holder
          case' false =>
            have HV := Lib.hid (HE.out 4 (by rw [HI.out, if_pos (by rw [HH.out, hcl]; rfl)]) (by decide))
            go_wp2
            go_ret
            exact ⟨by rw [HV.out]; rfl, hb02⟩
          case' true =>
            have HFM : Hid (lkForm x = lkLine x) := by show _ = _; rw [HH.out, hcl]; rfl
            clear hcl HH
            go_wp2_with fail
        all_goals
          refine (line_calls x _ _ _ (HRV.out.below rInt_ok (by decide) hbr2) HXL.out).mono ?_; rintro e w3 ⟨rfl, hb3⟩
          have hb3' := hb2'.trans (hb3.mono (by omega))
          obtain ⟨hz, -, hzs3⟩ := Tk.fresh hb3'
          clear z0 z1 z2 z3
          have z0 := hz 0; have z2 := hz 2
          clear hz
          have hb03 := below_step hb02 hb3
          have hbr3 := below_step hbr2 hb3
          cases hln : lkLine x
          case false =>
            have HV := Lib.hid (HE.out 4 (by rw [HI.out, if_pos (HFM.out.trans hln)]) (by decide))
            go_wp2
            go_ret
            exact ⟨by rw [HV.out]; rfl, hb03⟩
          case true =>
            have HI2 : Hid (lkErr l k = if x.fence < 1 ∨ 1073741824 < x.fence then 2 else if 0 < k ∧ Op.bytesLess y.name x.name = false then 14 else 0) := by
              show _ = _
              rw [HI.out, if_neg (by rw [HFM.out, hln]; decide)]
            clear hln HFM HI
            have hcases : x.fence < 1 ∨ (¬ x.fence < 1 ∧ 1073741824 < x.fence) ∨ (¬ x.fence < 1 ∧ ¬ 1073741824 < x.fence) := by omega
            rcases hcases with f1 | ⟨f1, f2⟩ | ⟨f1, f2⟩
            · have HV := Lib.hid (HE.out 2 (by rw [HI2.out, if_pos (by omega)]) (by decide))
              go_wp2
              go_ret
              exact ⟨by rw [HV.out]; rfl, hb03⟩
            · have HV := Lib.hid (HE.out 2 (by rw [HI2.out, if_pos (by omega)]) (by decide))
              go_wp2
              go_ret
              exact ⟨by rw [HV.out]; rfl, hb03⟩
            have HI3 : Hid (lkErr l k = if 0 < k ∧ Op.bytesLess y.name x.name = false then 14 else 0) := by
              show _ = _
              rw [HI2.out, if_neg (by omega)]
            clear HI2
            by_cases hk0 : 0 < k
            · have hq := cell_keep (HP.out hk0) (hbr3.block b hbl)
              have w1 : IntKind.i64.wrap ((k : Int) - 1) = (k : Int) - 1 := IntWalk.i64_in _ (by omega)
              have w2 : 0 ≤ (k : Int) - 1 := by omega
              have w3 : ((k : Int) - 1).toNat = k - 1 := by omega
              have w4 : (k : Int) - 1 < (l.length : Int) := by omega
              have w5 : (1 : Int) ≤ (k : Int) := by omega
              go_wp2_with fail
              go_quiet (fail)
              clear w1 w2 w3 w4 w5
              cases hbl : Op.bytesLess y.name x.name
              case false =>
                have HV := Lib.hid (HE.out 14 (by rw [HI3.out, if_pos ⟨hk0, hbl⟩]) (by decide))
                go_wp2
                go_ret
                exact ⟨by rw [HV.out]; rfl, below_drewN hb03 _⟩
              case true =>
                have HV := Lib.hid (HG.out (by rw [HI3.out, if_neg (fun hx => by rw [hbl] at hx; cases hx.2)]))
                go_wp2
                go_roundw
                case rel => exact ⟨k + 1, by omega, by go_num, HV.out, below_drewN hb03 _⟩
                case measure => simp [intOf]; omega
            · have hd : decide (0 < k) = false := by simpa using hk0
              have HV := Lib.hid (HG.out (by rw [HI3.out, if_neg (fun hx => hk0 hx.1)]))
              go_wp2_with fail
              go_quiet (fail)
              go_wp2
              go_roundw
              case rel => exact ⟨k + 1, by omega, by go_num, HV.out, below_drewN hb03 _⟩
              case measure => simp [intOf]; omega
    · have hF : Hid (lkCheck l = 0) := by
        have := hf.out
        rw [show k = l.length by omega] at this
        exact HF.out.trans this
      clear hf HF h
      go_wp2
      go_ret
      exact ⟨ends1 (by rw [hF.out]; rfl), hb⟩
end Go.Proofs.YtcmmenmjclgjmaaGreatDoor

/- strings.Compare. -/
namespace Go.Proofs.YtcmmenmjclgjmaaGreatDoor
open Go.RowKit Go.Tk

set_option maxRecDepth 100000 in
theorem compareString_calls (a b : List UInt8) (w : World) :
    Calls Tryz.prog 74 #[.string ⟨a.toArray⟩, .string ⟨b.toArray⟩] w fun e w' => e = .returned (.int .i64 (Lib.compareBytes a b)) ∧ w = w' := by
  go_enter Tryz.func74, Tryz.ntmps74
  go_wp2
  rw [run_callFunc_extern Tryz.func106 (by kernel_rfl) (by kernel_rfl) (by kernel_rfl) (e := Extern.BytealgCompare.compare) (by kernel_rfl), Lib.run_compareString]
  simp only [Result.andThen]
  rw [Oper.upon_value]
  go_wp2
  go_ret
  exact ⟨rfl, rfl⟩
theorem compare_calls (a b : List UInt8) (w : World) :
    Calls Tryz.prog 45 #[.string ⟨a.toArray⟩, .string ⟨b.toArray⟩] w fun e w' => e = .returned (.int .i64 (Lib.compareBytes a b)) ∧ w = w' := by
  go_enter Tryz.func45, Tryz.ntmps45
  go_wp2_with fail
  refine (compareString_calls a b _).mono ?_; rintro e w' ⟨rfl, rfl⟩
  go_wp2
  go_ret
  exact ⟨rfl, rfl⟩
end Go.Proofs.YtcmmenmjclgjmaaGreatDoor

/- slices.BinarySearchFunc over pairs, with the program's own comparison. -/
namespace Go.Proofs.YtcmmenmjclgjmaaGreatDoor
open Go.RowKit Go.Tk

set_option maxRecDepth 100000 in
theorem cmpPair_calls (w : World) (x : PairD) (t : List UInt8) :
    Calls Tryz.prog 94 #[.agg #[.string ⟨x.name.toArray⟩, .string ⟨x.value.toArray⟩, .int .i64 x.version], .string ⟨t.toArray⟩] w fun e w' => e = .returned (.int .i64 (pairCmp x t)) ∧ Below w.heap.size w w' := by
  go_enter Tryz.func94, Tryz.ntmps94
  go_wp2_with fail
  refine (compare_calls x.name t _).mono ?_; rintro e w' ⟨rfl, rfl⟩
  go_wp2
  go_ret
  exact ⟨rfl, (Below.refl _ _).alloc (Nat.le_refl _) _⟩
set_option maxRecDepth 100000 in
set_option maxHeartbeats 400000 in
theorem searchPair_calls (w : World) (v : Value) (l : List PairD) (S : Nat → Prop) (h : SlR 3 rPair w v l S) (hn : l.length ≤ 1000000) (t : List UInt8) :
    Calls Tryz.prog 93 #[v, .string ⟨t.toArray⟩, .func (.func 94) #[] #[]] w fun e w' =>
      e = .returned (.tuple #[.int .i64 (bs (fun i => pairCmp (l.getD i noPair) t) l.length : Nat), .bool (bsFound (fun i => pairCmp (l.getD i noPair) t) l.length)]) ∧ Below w.heap.size w w' := by
  obtain ⟨a, cap, hv, hl, hm, hnil, -⟩ := id h
  subst hv
  unfold maxLen at hm
  go_enter Tryz.func93, Tryz.ntmps93
  go_wp2
  go_loopw [9, 10, 11] (fun i j _ wr => ∃ p q : Nat, p ≤ q ∧ q ≤ l.length ∧ i = .int .i64 p ∧ j = .int .i64 q ∧ Hid (bsGo (fun i => pairCmp (l.getD i noPair) t) (q - p) p q = bs (fun i => pairCmp (l.getD i noPair) t) l.length) ∧ Below w.heap.size w wr)
    (fun i j _ _ => (intOf j).toNat - (intOf i).toNat)
  case atStart => exact ⟨0, l.length, by omega, by omega, rfl, rfl, rfl, Below.refl _ _⟩
  case round =>
    obtain ⟨p, q, hpq, hql, rfl, rfl, hgo, hb⟩ := hrel
    by_cases hlt : p < q
    · have hml : (p + q) / 2 < l.length := by omega
      obtain ⟨b, off, cap', row, hv, hS, hrow, hcells⟩ := (h.below rPair_ok (by decide) hb).row ((p + q) / 2) hml
      simp only [Value.slice.injEq] at hv
      obtain ⟨rfl, _, rfl⟩ := hv
      have hg : l.getD ((p + q) / 2) noPair = l[(p + q) / 2] := by simp [List.getD, hml]

      have HL : Hid (pairCmp l[(p + q) / 2] t < 0 → bsGo (fun i => pairCmp (l.getD i noPair) t) (q - ((p + q) / 2 + 1)) ((p + q) / 2 + 1) q = bs (fun i => pairCmp (l.getD i noPair) t) l.length) := fun hf => by
        rw [← bsGo_less _ hlt (by show pairCmp (l.getD ((p + q) / 2) noPair) t < 0; rw [hg]; exact hf)]; exact hgo.out
      have HM : Hid (¬ pairCmp l[(p + q) / 2] t < 0 → bsGo (fun i => pairCmp (l.getD i noPair) t) ((p + q) / 2 - p) p ((p + q) / 2) = bs (fun i => pairCmp (l.getD i noPair) t) l.length) := fun hf => by
        rw [← bsGo_more _ hlt (by show ¬ pairCmp (l.getD ((p + q) / 2) noPair) t < 0; rw [hg]; exact hf)]; exact hgo.out
      clear hgo hg
      generalize l[(p + q) / 2] = x at *
      obtain rfl := hrow
      have q0 := hcells 0 _ rfl
      have q1 := hcells 1 _ rfl
      have q2 := hcells 2 _ rfl
      simp only [Nat.add_zero] at q0
      clear hcells
      have hws := hb.size
      by_cases hf : pairCmp x t < 0
      all_goals (have HF := Lib.hid hf)
      · go_wp2_with (go_at_call 94; refine (cmpPair_calls _ x t ).mono ?_; rintro e w2 ⟨rfl, hb2⟩)
        go_roundw
        case rel => exact ⟨(p + q) / 2 + 1, q, by omega, hql, by go_num, rfl, HL.out HF.out, hb.trans (hb2.mono hws)⟩
        case measure => simp [intOf]; omega
      · go_wp2_with (go_at_call 94; refine (cmpPair_calls _ x t ).mono ?_; rintro e w2 ⟨rfl, hb2⟩)
        go_roundw
        case rel => exact ⟨p, (p + q) / 2, by omega, by omega, rfl, by go_num, HM.out HF.out, hb.trans (hb2.mono hws)⟩
        case measure => simp [intOf]; omega
    · obtain rfl : p = q := by omega
      have HP : Hid (bs (fun i => pairCmp (l.getD i noPair) t) l.length = p) := by have := hgo.out; rw [Nat.sub_self] at this; exact this.symm
      clear hgo
      have hws := hb.size
      by_cases hml : p < l.length
      · obtain ⟨b, off, cap', row, hv, hS, hrow, hcells⟩ := (h.below rPair_ok (by decide) hb).row p hml
        simp only [Value.slice.injEq] at hv
        obtain ⟨rfl, _, rfl⟩ := hv
        have HG : Hid (bsFound (fun i => pairCmp (l.getD i noPair) t) l.length = (pairCmp l[p] t == 0)) := by
          show _ = _
          rw [bsFound, HP.out, decide_eq_true hml, show l.getD p noPair = l[p] by simp [List.getD, hml]]; rfl
        skip
        clear h
        generalize l[p] = x at *
        obtain rfl := hrow
        have q0 := hcells 0 _ rfl
        have q1 := hcells 1 _ rfl
        have q2 := hcells 2 _ rfl
        simp only [Nat.add_zero] at q0
        clear hcells
        go_wp2_with (go_at_call 94; refine (cmpPair_calls _ x t ).mono ?_; rintro e w2 ⟨rfl, hb2⟩)
        go_ret2
        exact ⟨ends2 (by rw [HP.out]; rfl) (by rw [HG.out]; rfl), hb.trans (hb2.mono hws)⟩
      · have HG : Hid (bsFound (fun i => pairCmp (l.getD i noPair) t) l.length = false) := by
          show _ = _
          rw [bsFound, HP.out, decide_eq_false hml]; rfl
        clear h
        go_wp2
        go_ret2
        exact ⟨ends2 (by rw [HP.out]; rfl) (by rw [HG.out]; rfl), hb⟩
end Go.Proofs.YtcmmenmjclgjmaaGreatDoor
