/- The small functions of package lock. -/
import Derived.Test.YtphkkkmjkagkbaaDoorRows
import Derived.Test.YtphkkkmjkagkbaaDoorLockP
import Derived.Test.YtphkkkmjkagkbaaDoorCodecP
import Derived.Test.YtphkkkmjkagkbaaDoorChg
import Derived.WalkLawsBesides
import Derived.BigQuiet
import Derived.Deep.QuietTactic
import Derived.Laws.IdiomStrings
import Derived.KernelRfl
namespace Go.Proofs.YtphkkkmjkagkbaaDoor
open Go.RowKit Go.Tk

theorem badByte_calls (c : UInt8) (w : World) : Calls Tryd.prog 52 #[.int .u8 c.toNat] w fun e w' => e = .returned (.bool (badByte c)) ∧ w = w' := by
  have HL := Lib.hid (show badByte c = (decide ((c.toNat : Int) < 97) || decide ((122 : Int) < (c.toNat : Int))) from rfl)
  generalize badByte c = bb at HL ⊢
  generalize hx : c.toNat = x at HL ⊢
  have HX := Lib.hid hx
  clear hx
  by_cases h : (x : Int) < 97
  · have HL2 := Lib.hid (HL.out.trans (by rw [decide_eq_true h, Bool.true_or]))
    go_enter Tryd.func52, Tryd.ntmps52
    go_wp2
    go_ret
    exact ⟨by rw [HL2.out]; rfl, rfl⟩
  · have HL2 := Lib.hid (HL.out.trans (by rw [decide_eq_false h, Bool.false_or]))
    go_enter Tryd.func52, Tryd.ntmps52
    go_wp2
    go_ret
    exact ⟨by rw [HL2.out]; rfl, rfl⟩
set_option maxRecDepth 100000 in
set_option maxHeartbeats 400000 in
theorem indexByteF_calls (w : World) (v : Value) (l : List UInt8) (S : Nat → Prop) (h : SlR 1 rByte w v l S) (hn : l.length ≤ 1000000) :
    Calls Tryd.prog 60 #[v, .func (.func 52) #[] #[]] w fun e w' => e = .returned (.int .i64 (fIdx badByte l)) ∧ Below w.heap.size w w' := by
  obtain ⟨a, vc, hv, hl, hm, hnil, -⟩ := id h
  subst hv
  unfold maxLen at hm
  have hlen : (l.length : Int) ≤ 1000000 := by omega
  go_enter Tryd.func60, Tryd.ntmps60
  go_wp2
  go_loopw [8] (fun i wr => ∃ n : Nat, n ≤ l.length ∧ i = .int .i64 n ∧ Hid (∀ (j : Nat) (hj : j < l.length), j < n → badByte l[j] = false) ∧ Below w.heap.size w wr)
    (fun i _ => l.length - (intOf i).toNat)
  case atStart => exact ⟨0, by omega, rfl, fun j _ hj => by omega, Below.refl _ _⟩
  case round =>
    obtain ⟨n, hnl, rfl, hall, hb⟩ := hrel
    have hws := hb.size
    by_cases hlt : n < l.length
    · obtain ⟨b, off, vc', row, hv, hS, hrow, hcells⟩ := (h.below rByte_ok (by decide) hb).row n hlt
      simp only [Value.slice.injEq] at hv
      obtain ⟨rfl, _, rfl⟩ := hv
      have HY : Hid (badByte l[n] = true → fIdx badByte l = n) := fun ht => fIdx_at hlt ht hall.out
      have HN : Hid (badByte l[n] = false → ∀ (j : Nat) (hj : j < l.length), j < n + 1 → badByte l[j] = false) := fun ht j hj hj1 => by
        rcases Nat.lt_or_ge j n with h | h
        · exact hall.out j hj h
        · obtain rfl : j = n := by omega
          exact ht
      clear hall
      generalize hxx : l[n] = x at *
      clear hxx
      obtain rfl := hrow
      have q0 := hcells 0 _ rfl
      simp only [Nat.add_zero, Nat.mul_one] at q0
      clear hcells h
      cases hf : badByte x
      case true =>
        have HF := Lib.hid (HY.out hf)
        have HX := Lib.hid hf
        clear hf
        go_wp2_with fail
        refine (badByte_calls x _).mono ?_; rw [HX.out]; rintro e w2 ⟨rfl, rfl⟩
        go_wp2
        go_ret
        exact ⟨by rw [HF.out]; rfl, hb⟩
      case false =>
        have HX := Lib.hid hf
        have HN2 := Lib.hid (HN.out hf)
        clear hf HN
        go_wp2_with fail
        refine (badByte_calls x _).mono ?_; rw [HX.out]; rintro e w2 ⟨rfl, rfl⟩
        go_wp2
        go_roundw
        case rel => exact ⟨n + 1, by omega, by go_num, HN2.out, hb⟩
        case measure => simp [intOf]; omega
    · obtain rfl : n = l.length := by omega
      have HF : Hid (fIdx badByte l = -1) := fIdx_none fun j hj => hall.out j hj hj
      clear hall h
      go_wp2
      go_ret
      exact ⟨by rw [HF.out]; rfl, hb⟩
theorem fIdx_any {α : Type} (p : α → Bool) (l : List α) : decide (0 ≤ fIdx p l) = l.any p := by
  rcases fIdx_cases p l with ⟨h, h2⟩ | ⟨n, hn, h, h2, _⟩
  · rw [h, Eq.comm]
    refine (List.any_eq_false.2 fun x hx => by rw [h2 x hx]; decide)
  · rw [h]
    have : l.any p = true := List.any_eq_true.2 ⟨_, List.getElem_mem hn, h2⟩
    rw [this]; simp
theorem containsByteF_calls (w : World) (v : Value) (l : List UInt8) (S : Nat → Prop) (h : SlR 1 rByte w v l S) (hn : l.length ≤ 1000000) :
    Calls Tryd.prog 51 #[v, .func (.func 52) #[] #[]] w fun e w' => e = .returned (.bool (l.any badByte)) ∧ Below w.heap.size w w' := by
  have HF := Lib.hid (fIdx_any badByte l)
  go_enter Tryd.func51, Tryd.ntmps51
  go_wp2_with fail
  refine (indexByteF_calls w v l S h hn).mono ?_; rintro e w2 ⟨rfl, hb⟩
  go_wp2
  go_ret
  exact ⟨by rw [HF.out]; rfl, hb⟩
end Go.Proofs.YtphkkkmjkagkbaaDoor
