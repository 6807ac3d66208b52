/- LogsCut: a log that is cut has all that is behind, at its index; no condition. -/
import Derived.Test.YtphkkkmjkagkbaaDoorEnt
import Derived.Test.YtphkkkmjkagkbaaDoorLogE
import Derived.Test.YtphkkkmjkagkbaaDoorLogC
namespace Go.Tk
open Go Go.RowKit
theorem entriesP_ok30 (l : List RawD) (n : Nat) (hn : n ≤ 1000) : (∀ s ∈ entriesP (commandsP l n), decErr s = 0) ∧ (entriesP (commandsP l n)).length ≤ n ∧ ∀ s ∈ entriesP (commandsP l n), s.length ≤ 1000000 :=
  ⟨entries_ok (commandsP_ok l n hn), by rw [entriesP_len, commandsP_len l n hn]; omega, fun s hs => Nat.le_trans (entries_len s hs) (by omega)⟩
end Go.Tk
namespace Go.Proofs.YtphkkkmjkagkbaaDoor
open Go.RowKit Go.Tk

set_option linter.unusedSimpArgs false in
set_option maxRecDepth 100000 in
set_option maxHeartbeats 3200000 in
theorem logsCut_calls (w : World) (l : List RawD) (v : Value) (S : Nat → Prop) (h : SlR 4 rRaw w v l S) (hr : ∀ x ∈ l, RawOk x) (m : Int) (hm1 : -9223372036854775808 ≤ m) (hm2 : m ≤ 9223372036854775807) :
    Calls Tryd.prog 5 #[v, .int .i64 m] w fun e w' => e = .returned (.bool true) ∧ Below w.heap.size w w' := by
  have HH := Lib.hid h
  have HRR := Lib.hid hr
  have hone := h.oneCell
  clear h hr
  go_enter Tryd.func5, Tryd.ntmps5
  go_wp2_with fail
  refine (commands_calls l 30 (by omega) v S _ HH.out HRR.out).mono ?_
  rintro e w1 ⟨v1, rfl, hs1, hb1⟩
  have hone1 := hs1.oneCell
  have HCL := Lib.hid (commandsP_len l 30 (by omega))
  have HAL := Lib.hid (commandsP_ok l 30 (by omega))
  obtain ⟨ha, hal, has⟩ := entriesP_ok30 l 30 (by omega)
  have HB1 := Lib.hid hb1
  have HS1 := Lib.hid hs1
  clear hs1 hb1
  generalize commandsP l 30 = cs at *
  go_wp2_with fail
  refine (entries_calls cs HAL.out (by have := HCL.out; omega) v1 _ _ HS1.out).mono ?_
  rintro e w2 ⟨v2, rfl, hs2, hb2⟩
  have hone2 := hs2.oneCell
  generalize entriesP cs = A at *
  have HS2 := Lib.hid hs2
  have HB2 := Lib.hid (below_step HB1.out hb2)
  have HA := Lib.hid ha
  have HAS := Lib.hid has
  obtain ⟨a2, cap2, hv, hl2, hm2', -, -⟩ := id hs2
  subst hv
  unfold maxLen at hm2'
  clear HB1 HS1 HCL HAL hs2 hb2 ha has
  go_wp2_with fail
  refine (logPut_calls noLog A (.slice none 0 0) _ (fun _ => False) _ _ (SlR.nil _ _) HS2.out noLog_ok (by simp [noLog]) HA.out HAS.out 0 (by omega) (by simp [noLog])).mono ?_
  rw [put_first HA.out (by omega)]
  rintro e w3 ⟨v3, rfl, hs3, hb3⟩
  have hone3 := hs3.oneCell
  obtain ⟨a3, cap3, hv, hl3, hm3, -, -⟩ := id hs3
  subst hv
  unfold maxLen at hm3
  have HS3 := Lib.hid hs3
  have HB3 := Lib.hid hb3
  clear hs3 hb3
  obtain ⟨p, hp, hp0, hp1⟩ : ∃ p, picked m ((A.length : Int) + 1) = p ∧ 0 ≤ p ∧ p < (A.length : Int) + 1 := ⟨_, rfl, picked_in _ _ (by omega)⟩
  obtain ⟨j, rfl⟩ : ∃ j : Nat, p = j := ⟨p.toNat, by omega⟩
  have hjl : j ≤ A.length := by omega
  have HP := Lib.hid hp
  clear hp
  go_wp2_with fail
  refine (picked_calls m ((A.length : Int) + 1) (by omega) (by omega) hm1 hm2 _).mono ?_
  rw [HP.out]; rintro e w4 ⟨rfl, rfl⟩
  obtain ⟨c1, c2, c3, c4, c5⟩ := logs_cut HA.out hal hjl
  have C1 := Lib.hid c1
  have C2 := Lib.hid c2
  have C3 := Lib.hid c3
  have C4 := Lib.hid c4
  have C5 := Lib.hid c5
  clear c1 c2 c3 c4 c5
  have HB3a := Lib.hid (HB3.out.trans ((below_alloc w3 (.cells #[.int .i64 0, .slice a3 A.length cap3] 51)).mono HB3.out.size))
  go_wp2_with fail
  refine (logCut_calls ⟨0, A⟩ (.slice a3 A.length cap3) _ _ (HS3.out.below rStr_ok (by decide) (below_alloc w3 _)) (flat_ok HA.out (by omega)) HAS.out j (by omega)).mono ?_
  rw [C1.out]
  rintro e w5 ⟨v5, rfl, hs5, hb5⟩
  have HB5 := Lib.hid (below_step HB3a.out hb5)
  have HA5 := Lib.hid (hs5.sub (S' := fun b => w2.heap.size ≤ b) rStr_ok (by decide) fun b hb _ => Nat.le_trans HB3a.out.size hb)
  obtain ⟨a5, cap5, hv, hl5, hm5, -, -⟩ := id hs5
  subst hv
  unfold maxLen at hm5
  have hdl : (A.drop j).length = A.length - j := List.length_drop
  clear hs5 hb5 HB3 HB3a HS3
  generalize hD : A.drop j = D at *
  have HD := Lib.hid hD
  have HDL := Lib.hid hdl
  have hd30 : D.length ≤ 30 := by omega
  clear hD hdl
  go_wp2_with fail
  have HX6 := Lib.hid (BoxAt.new (w := w5) (cs := [.int .i64 (j : Int), .slice a5 D.length cap5]) (E := 51))
  have HS6 := Lib.hid (HA5.out.below rStr_ok (by decide) (below_alloc w5 (.cells #[.int .i64 (j : Int), .slice a5 D.length cap5] 51)))
  have HB6 := Lib.hid (below_step HB5.out (below_alloc w5 (.cells #[.int .i64 (j : Int), .slice a5 D.length cap5] 51)))
  clear HA5 HB5
  refine (logLast_calls ⟨(j : Int), D⟩ (.slice a5 D.length cap5) _ _ HS6.out (by simp only; omega) (by simp only; omega)).mono ?_
  rw [C3.out]
  generalize w5.alloc (.cells #[.int .i64 (j : Int), .slice a5 D.length cap5] 51) = w6 at *
  generalize w5.heap.size = B at *
  rintro e w7 ⟨rfl, hb7⟩
  have HB7 := Lib.hid hb7
  clear hb7
  go_wp2
  go_loopw [11, 12, 13] (fun i _ _ wr => ∃ n : Nat, n + j ≤ A.length ∧ i = .int .i64 ((j : Int) + 1 + n) ∧ Hid (Below w6.heap.size w6 wr))
    (fun i _ _ _ => A.length + 1 - (intOf i).toNat)
  case atStart => exact ⟨0, by omega, by simp, HB7⟩
  case round =>
    obtain ⟨n, hn, rfl, hb8⟩ := hrel
    have hx8 := HX6.out.below hb8.out
    have b0 := hx8.cell 0 _ rfl
    have b1 := hx8.cell 1 _ rfl
    clear hx8
    by_cases hlt : n + j < A.length
    case neg =>
      go_wp2_with fail
      refine (logAt_calls ⟨(j : Int), D⟩ (.slice a5 D.length cap5) _ _ (HS6.out.below rStr_ok (by decide) hb8.out) C2.out (fun s hs => HAS.out s (by rw [← HD.out] at hs; exact List.mem_of_mem_drop hs)) j (by omega)).mono ?_
      rw [C4.out]
      rintro e w9 ⟨rfl, hb9⟩
      go_wp2
      go_ret
      exact ⟨rfl, below_step HB2.out (below_step HB6.out (below_step hb8.out hb9))⟩
    have hi : j + n < A.length := by omega
    have HAT := Lib.hid (C5.out (j + 1 + n) (by omega) (by omega))
    have HG := Lib.hid (show A.getD (j + 1 + n - 1) [] = A[j + n] by rw [show j + 1 + n - 1 = j + n by omega, List.getD, List.getElem?_eq_getElem hi]; rfl)
    obtain ⟨b, off, cap', row, hv, hSb, hrow, hcells⟩ := (HS2.out.below rStr_ok (by decide) (below_step HB6.out hb8.out)).row (j + n) hi
    simp only [Value.slice.injEq] at hv
    obtain ⟨rfl, _, rfl⟩ := hv
    obtain rfl := hrow
    have q0 := hcells 0 _ rfl
    simp only [Nat.add_zero, Nat.mul_one] at q0
    clear hcells
    have hql := World.block_lt_of_cell? wr _ q0
    generalize A[j + n] = s at *
    have HAT2 := Lib.hid (show logAt ⟨(j : Int), D⟩ ((j : Int) + 1 + n) = (s, 0) by
      have := HAT.out
      rw [HG.out, show (((j + 1 + n : Nat)) : Int) = (j : Int) + 1 + n by omega] at this
      exact this)
    clear HAT HG
    go_wp2_with fail
    refine (logAt_calls ⟨(j : Int), D⟩ (.slice a5 D.length cap5) _ _ (HS6.out.below rStr_ok (by decide) hb8.out) C2.out (fun s hs => HAS.out s (by rw [← HD.out] at hs; exact List.mem_of_mem_drop hs)) ((j : Int) + 1 + n) (by omega)).mono ?_
    rw [HAT2.out]
    rintro e w9 ⟨rfl, hb9⟩
    have q9 := (hb9.cell (p := ⟨b, off + (j + n), none⟩) hql).trans q0
    have HB9 := Lib.hid (below_step hb8.out hb9)
    have e1 : IntKind.i64.wrap ((j : Int) + 1 + n - 1) = ((j + n : Nat) : Int) := (IntWalk.i64_in _ (by omega)).trans (by omega)
    clear q0 b0 b1 hb8 hb9
    go_wp2
    go_roundw
    case rel => exact ⟨n + 1, by omega, by go_num, HB9⟩
    case measure => simp [intOf]; omega
end Go.Proofs.YtphkkkmjkagkbaaDoor
