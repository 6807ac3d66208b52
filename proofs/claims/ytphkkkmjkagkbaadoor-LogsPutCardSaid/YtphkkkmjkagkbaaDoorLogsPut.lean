/- LogsPut: what was put behind an index stands there, and what was ahead of it stays; no condition. -/
import Derived.Test.YtphkkkmjkagkbaaDoorLogsCut
import Derived.Test.YtphkkkmjkagkbaaDoorEqStr
namespace Go.Tk
open Go Go.RowKit
theorem dec_size {s : Bytes} (h : decErr s = 0) : s.length ≤ 5000 := by
  rcases Nat.lt_or_ge 5000 s.length with h1 | h1
  · rw [decErr, cmdDecode, if_pos h1] at h; cases h
  · exact h1
end Go.Tk
namespace Go.Proofs.YtphkkkmjkagkbaaDoor
open Go.RowKit Go.Tk

set_option linter.unusedSimpArgs false in
set_option maxRecDepth 100000 in
set_option maxHeartbeats 3200000 in
theorem logsPut_calls (w : World) (l : List RawD) (v : Value) (S : Nat → Prop) (h : SlR 4 rRaw w v l S) (hr : ∀ x ∈ l, RawOk x) (lm : List RawD) (vm : Value) (Sm : Nat → Prop) (hmr : SlR 4 rRaw w vm lm Sm) (hrm : ∀ x ∈ lm, RawOk x)
    (m : Int) (hm1 : -9223372036854775808 ≤ m) (hm2 : m ≤ 9223372036854775807) :
    Calls Tryd.prog 6 #[v, vm, .int .i64 m] w fun e w' => e = .returned (.bool true) ∧ Below w.heap.size w w' := by
  have HH := Lib.hid h
  have HRR := Lib.hid hr
  have HM := Lib.hid hmr
  have HRM := Lib.hid hrm
  have hone := h.oneCell
  have honem := hmr.oneCell
  clear h hr hmr hrm
  go_enter Tryd.func6, Tryd.ntmps6
  go_wp2_with fail
  refine (commands_calls l 30 (by omega) v S _ HH.out HRR.out).mono ?_
  rintro e w1 ⟨v1, rfl, hs1, hb1⟩
  have hone1 := hs1.oneCell
  have HCL := Lib.hid (commandsP_len l 30 (by omega))
  have HAL := Lib.hid (commandsP_ok l 30 (by omega))
  obtain ⟨ha, hal, has⟩ := entriesP_ok30 l 30 (by omega)
  have BW := Lib.hid hb1
  have HS1 := Lib.hid hs1
  have SR := Lib.hid (HM.out.below rRaw_ok (by decide) hb1)
  clear hs1 hb1 HH HM
  generalize commandsP l 30 = cs at *
  go_wp2_with fail
  refine (entries_calls cs HAL.out (by have := HCL.out; omega) v1 _ _ HS1.out).mono ?_
  rintro e w2 ⟨v2, rfl, hs2, hb2⟩
  have hone2 := hs2.oneCell
  clear HS1 HCL HAL
  generalize entriesP cs = A at *
  replace BW := Lib.hid (below_step BW.out hb2)
  replace SR := Lib.hid (SR.out.below rRaw_ok (by decide) hb2)
  clear hb2
  have SA := Lib.hid hs2
  have HA := Lib.hid ha
  have HAS := Lib.hid has
  obtain ⟨aA, cA, hv, hlA, hcA, -, -⟩ := id hs2
  subst hv
  unfold maxLen at hcA
  clear ha has hs2
  go_wp2_with fail
  refine (commands_calls lm 10 (by omega) vm Sm _ SR.out HRM.out).mono ?_
  rintro e w3 ⟨v3, rfl, hs3, hb3⟩
  have hone3 := hs3.oneCell
  have HCL := Lib.hid (commandsP_len lm 10 (by omega))
  have HAL := Lib.hid (commandsP_ok lm 10 (by omega))
  obtain ⟨hb_, hbl, hbs⟩ := entriesP_ok30 lm 10 (by omega)
  have HS3 := Lib.hid hs3
  clear hs3 SR
  replace BW := Lib.hid (below_step BW.out hb3)
  replace SA := Lib.hid (SA.out.below rStr_ok (by decide) hb3)
  clear hb3
  generalize commandsP lm 10 = cs at *
  go_wp2_with fail
  refine (entries_calls cs HAL.out (by have := HCL.out; omega) v3 _ _ HS3.out).mono ?_
  rintro e w4 ⟨v4, rfl, hs4, hb4⟩
  have hone4 := hs4.oneCell
  clear HS3 HCL HAL
  generalize entriesP cs = B at *
  replace BW := Lib.hid (below_step BW.out hb4)
  replace SA := Lib.hid (SA.out.below rStr_ok (by decide) hb4)
  clear hb4
  have SB := Lib.hid hs4
  have HB := Lib.hid hb_
  have HBS := Lib.hid hbs
  obtain ⟨aB, cB, hv, hlB, hcB, -, -⟩ := id hs4
  subst hv
  unfold maxLen at hcB
  clear hb_ hbs hs4
  go_wp2_with fail
  refine (logPut_calls noLog A (.slice none 0 0) _ (fun _ => False) _ _ (SlR.nil _ _) SA.out noLog_ok (by simp [noLog]) HA.out HAS.out 0 (by omega) (by simp [noLog])).mono ?_
  rw [put_first HA.out (by omega)]
  rintro e w5 ⟨v5, rfl, hs5, hb5⟩
  replace BW := Lib.hid (below_step BW.out hb5)
  replace SA := Lib.hid (SA.out.below rStr_ok (by decide) hb5)
  replace SB := Lib.hid (SB.out.below rStr_ok (by decide) hb5)
  clear hb5
  have SX := Lib.hid hs5
  obtain ⟨aX, cX, hv, hlX, hcX, -, -⟩ := id hs5
  subst hv
  unfold maxLen at hcX
  clear hs5
  obtain ⟨p, hp, hp0, hp1⟩ : ∃ p, picked m ((A.length : Int) + 1) = p ∧ 0 ≤ p ∧ p < (A.length : Int) + 1 := ⟨_, rfl, picked_in _ _ (by omega)⟩
  obtain ⟨k, rfl⟩ : ∃ j : Nat, p = j := ⟨p.toNat, by omega⟩
  have hkl : k ≤ A.length := by omega
  have HP := Lib.hid hp
  clear hp
  go_wp2_with fail
  have hgo := picked_calls m ((A.length : Int) + 1) (by omega) (by omega) hm1 hm2
  have X9 := Lib.hid (BoxAt.new (w := w5) (cs := [.int .i64 0, .slice aX A.length cX]) (E := 51))
  have hba := below_alloc w5 (.cells #[.int .i64 0, .slice aX A.length cX] 51)
  replace BW := Lib.hid (below_step BW.out hba)
  replace SA := Lib.hid (SA.out.below rStr_ok (by decide) hba)
  replace SB := Lib.hid (SB.out.below rStr_ok (by decide) hba)
  replace SX := Lib.hid (SX.out.below rStr_ok (by decide) hba)
  clear hba
  generalize w5.alloc (.cells #[.int .i64 0, .slice aX A.length cX] 51) = w6 at *
  generalize w5.heap.size = B9 at *
  refine (hgo _).mono ?_
  rw [HP.out]; rintro e w7 ⟨rfl, rfl⟩
  clear hgo
  obtain ⟨Y, y1, y2, y3, y4, y5, y6, y7, y8⟩ := logs_put HA.out HB.out hal hbl hkl
  have Y1 := Lib.hid y1
  have Y2 := Lib.hid y2
  have Y3 := Lib.hid y3
  have Y6 := Lib.hid y6
  have Y7 := Lib.hid y7
  have Y8 := Lib.hid y8
  clear y1 y2 y3 y6 y7 y8
  have b90 := X9.out.cell 0 _ rfl
  have b91 := X9.out.cell 1 _ rfl
  go_wp2_with fail
  refine (logPut_calls ⟨0, A⟩ B (.slice aX A.length cX) _ _ _ _ SX.out SB.out (flat_ok HA.out (by omega)) HAS.out HB.out HBS.out k (by omega) (by simp only; omega)).mono ?_
  rw [Y1.out]
  rintro e w8 ⟨v8, rfl, hs8, hb8⟩
  clear b90 b91
  replace BW := Lib.hid (below_step BW.out hb8)
  replace SA := Lib.hid (SA.out.below rStr_ok (by decide) hb8)
  replace SB := Lib.hid (SB.out.below rStr_ok (by decide) hb8)
  replace SX := Lib.hid (SX.out.below rStr_ok (by decide) hb8)
  replace X9 := Lib.hid (X9.out.below hb8)
  clear hb8
  have SY := Lib.hid hs8
  obtain ⟨aY, cY, hv, hlY, hcY, -, -⟩ := id hs8
  subst hv
  unfold maxLen at hcY
  clear hs8
  have HYS := Lib.hid (show ∀ s ∈ Y, s.length ≤ 1000000 from fun s hs => Nat.le_trans (dec_size (Y3.out.all s hs)) (by decide))
  go_wp2_with fail
  have X12 := Lib.hid (BoxAt.new (w := w8) (cs := [.int .i64 0, .slice aY Y.length cY]) (E := 51))
  have hba := below_alloc w8 (.cells #[.int .i64 0, .slice aY Y.length cY] 51)
  replace BW := Lib.hid (below_step BW.out hba)
  replace SA := Lib.hid (SA.out.below rStr_ok (by decide) hba)
  replace SB := Lib.hid (SB.out.below rStr_ok (by decide) hba)
  replace SX := Lib.hid (SX.out.below rStr_ok (by decide) hba)
  replace X9 := Lib.hid (X9.out.below hba)
  replace SY := Lib.hid (SY.out.below rStr_ok (by decide) hba)
  clear hba
  generalize w8.alloc (.cells #[.int .i64 0, .slice aY Y.length cY] 51) = w9 at *
  generalize w8.heap.size = B12 at *
  have b12_0 := X12.out.cell 0 _ rfl
  have b12_1 := X12.out.cell 1 _ rfl
  refine (logPut_calls ⟨0, Y⟩ B (.slice aY Y.length cY) _ _ _ _ SY.out SB.out Y3.out HYS.out HB.out HBS.out k (by omega) (by simp only; omega)).mono ?_
  rw [Y2.out]
  rintro e w10 ⟨v10, rfl, hs10, hb10⟩
  clear b12_0 b12_1
  replace BW := Lib.hid (below_step BW.out hb10)
  replace SA := Lib.hid (SA.out.below rStr_ok (by decide) hb10)
  replace SB := Lib.hid (SB.out.below rStr_ok (by decide) hb10)
  replace SX := Lib.hid (SX.out.below rStr_ok (by decide) hb10)
  replace X9 := Lib.hid (X9.out.below hb10)
  replace SY := Lib.hid (SY.out.below rStr_ok (by decide) hb10)
  replace X12 := Lib.hid (X12.out.below hb10)
  clear hb10
  have SZ := Lib.hid hs10
  obtain ⟨aZ, cZ, hv, hlZ, hcZ, -, -⟩ := id hs10
  subst hv
  unfold maxLen at hcZ
  clear hs10
  have b90 := X9.out.cell 0 _ rfl
  have b91 := X9.out.cell 1 _ rfl
  have hx9 := X9.out.lt
  go_wp2_with fail
  have X14 := Lib.hid (BoxAt.new (w := w10) (cs := [.int .i64 0, .slice aZ Y.length cZ]) (E := 51))
  have hba := below_alloc w10 (.cells #[.int .i64 0, .slice aZ Y.length cZ] 51)
  replace BW := Lib.hid (below_step BW.out hba)
  replace SA := Lib.hid (SA.out.below rStr_ok (by decide) hba)
  replace SB := Lib.hid (SB.out.below rStr_ok (by decide) hba)
  replace SX := Lib.hid (SX.out.below rStr_ok (by decide) hba)
  replace X9 := Lib.hid (X9.out.below hba)
  replace SY := Lib.hid (SY.out.below rStr_ok (by decide) hba)
  replace X12 := Lib.hid (X12.out.below hba)
  replace SZ := Lib.hid (SZ.out.below rStr_ok (by decide) hba)
  clear hba
  generalize w10.alloc (.cells #[.int .i64 0, .slice aZ Y.length cZ] 51) = w11 at *
  generalize w10.heap.size = B14 at *
  refine (logPut_calls ⟨0, A⟩ B (.slice aX A.length cX) _ _ _ _ SX.out SB.out (flat_ok HA.out (by omega)) HAS.out HB.out HBS.out ((A.length : Int) + 1) (by omega) (by simp only; omega)).mono ?_
  rw [show ((A.length : Int) + 1) = ((A.length + 1 : Nat) : Int) by omega, Y6.out]
  rintro e w12 ⟨v12, rfl, hs12, hb12⟩
  obtain ⟨aW, cW, hv, -, -, -, -⟩ := hs12
  have hv2 : v12 = .slice aW 0 cW := hv
  subst hv2
  clear hv b90 b91 hx9
  replace BW := Lib.hid (below_step BW.out hb12)
  replace SA := Lib.hid (SA.out.below rStr_ok (by decide) hb12)
  replace SB := Lib.hid (SB.out.below rStr_ok (by decide) hb12)
  replace SX := Lib.hid (SX.out.below rStr_ok (by decide) hb12)
  replace X9 := Lib.hid (X9.out.below hb12)
  replace SY := Lib.hid (SY.out.below rStr_ok (by decide) hb12)
  replace X12 := Lib.hid (X12.out.below hb12)
  replace SZ := Lib.hid (SZ.out.below rStr_ok (by decide) hb12)
  replace X14 := Lib.hid (X14.out.below hb12)
  clear hb12
  have b12_0 := X12.out.cell 0 _ rfl
  have b12_1 := X12.out.cell 1 _ rfl
  have hx12 := X12.out.lt
  go_wp2_with fail
  have X16 := Lib.hid (BoxAt.new (w := w12) (cs := [.int .i64 noLog.base, .slice aW 0 cW]) (E := 51))
  have hba := below_alloc w12 (.cells #[.int .i64 noLog.base, .slice aW 0 cW] 51)
  replace BW := Lib.hid (below_step BW.out hba)
  replace SA := Lib.hid (SA.out.below rStr_ok (by decide) hba)
  replace SB := Lib.hid (SB.out.below rStr_ok (by decide) hba)
  replace SX := Lib.hid (SX.out.below rStr_ok (by decide) hba)
  replace X9 := Lib.hid (X9.out.below hba)
  replace SY := Lib.hid (SY.out.below rStr_ok (by decide) hba)
  replace X12 := Lib.hid (X12.out.below hba)
  replace SZ := Lib.hid (SZ.out.below rStr_ok (by decide) hba)
  replace X14 := Lib.hid (X14.out.below hba)
  clear hba
  generalize w12.alloc (.cells #[.int .i64 noLog.base, .slice aW 0 cW] 51) = w13 at *
  generalize w12.heap.size = B16 at *
  clear b12_0 b12_1 hx12
  have b12_0 := X12.out.cell 0 _ rfl
  have b12_1 := X12.out.cell 1 _ rfl
  refine (logBehind_calls ⟨0, Y⟩ (.slice aY Y.length cY) _ _ SY.out Y3.out HYS.out 0 k (by omega) (by omega)).mono ?_
  rw [Y7.out]
  rintro e w14 ⟨v14, rfl, hs14, hb14⟩
  clear b12_0 b12_1
  replace BW := Lib.hid (below_step BW.out hb14)
  replace SA := Lib.hid (SA.out.below rStr_ok (by decide) hb14)
  replace SB := Lib.hid (SB.out.below rStr_ok (by decide) hb14)
  replace SX := Lib.hid (SX.out.below rStr_ok (by decide) hb14)
  replace X9 := Lib.hid (X9.out.below hb14)
  replace SY := Lib.hid (SY.out.below rStr_ok (by decide) hb14)
  replace X12 := Lib.hid (X12.out.below hb14)
  replace SZ := Lib.hid (SZ.out.below rStr_ok (by decide) hb14)
  replace X14 := Lib.hid (X14.out.below hb14)
  replace X16 := Lib.hid (X16.out.below hb14)
  clear hb14
  have SH := Lib.hid hs14
  have hone14 := hs14.oneCell
  clear hs14
  have b12_0 := X12.out.cell 0 _ rfl
  have b12_1 := X12.out.cell 1 _ rfl
  go_wp2_with fail
  refine (logBehind_calls ⟨0, Y⟩ (.slice aY Y.length cY) _ _ SY.out Y3.out HYS.out k B.length (by omega) (by omega)).mono ?_
  rw [Y8.out]
  rintro e w15 ⟨v15, rfl, hs15, hb15⟩
  clear b12_0 b12_1
  replace BW := Lib.hid (below_step BW.out hb15)
  replace SA := Lib.hid (SA.out.below rStr_ok (by decide) hb15)
  replace SB := Lib.hid (SB.out.below rStr_ok (by decide) hb15)
  replace SX := Lib.hid (SX.out.below rStr_ok (by decide) hb15)
  replace X9 := Lib.hid (X9.out.below hb15)
  replace SY := Lib.hid (SY.out.below rStr_ok (by decide) hb15)
  replace X12 := Lib.hid (X12.out.below hb15)
  replace SZ := Lib.hid (SZ.out.below rStr_ok (by decide) hb15)
  replace X14 := Lib.hid (X14.out.below hb15)
  replace X16 := Lib.hid (X16.out.below hb15)
  replace SH := Lib.hid (SH.out.below rStr_ok (by decide) hb15)
  clear hb15
  have ST := Lib.hid hs15
  have hone15 := hs15.oneCell
  clear hs15
  have hkc : k ≤ cA := by omega
  go_wp2_with fail
  refine (equalStr_calls (A.take k) (A.take k) v14 (.slice aA k cA) _ _ _ SH.out (SA.out.take k hkl) (by rw [List.length_take]; omega) (by rw [List.length_take]; omega)).mono ?_
  rw [decide_eq_true rfl]; rintro e w16 ⟨rfl, hb16⟩
  replace BW := Lib.hid (below_step BW.out hb16)
  replace SA := Lib.hid (SA.out.below rStr_ok (by decide) hb16)
  replace SB := Lib.hid (SB.out.below rStr_ok (by decide) hb16)
  replace SX := Lib.hid (SX.out.below rStr_ok (by decide) hb16)
  replace X9 := Lib.hid (X9.out.below hb16)
  replace SY := Lib.hid (SY.out.below rStr_ok (by decide) hb16)
  replace X12 := Lib.hid (X12.out.below hb16)
  replace SZ := Lib.hid (SZ.out.below rStr_ok (by decide) hb16)
  replace X14 := Lib.hid (X14.out.below hb16)
  replace X16 := Lib.hid (X16.out.below hb16)
  replace SH := Lib.hid (SH.out.below rStr_ok (by decide) hb16)
  replace ST := Lib.hid (ST.out.below rStr_ok (by decide) hb16)
  clear hb16
  go_wp2_with fail
  refine (equalStr_calls B B v15 (.slice aB B.length cB) _ _ _ ST.out SB.out (by omega) (by omega)).mono ?_
  rw [decide_eq_true rfl]; rintro e w17 ⟨rfl, hb17⟩
  replace BW := Lib.hid (below_step BW.out hb17)
  replace SA := Lib.hid (SA.out.below rStr_ok (by decide) hb17)
  replace SB := Lib.hid (SB.out.below rStr_ok (by decide) hb17)
  replace SX := Lib.hid (SX.out.below rStr_ok (by decide) hb17)
  replace X9 := Lib.hid (X9.out.below hb17)
  replace SY := Lib.hid (SY.out.below rStr_ok (by decide) hb17)
  replace X12 := Lib.hid (X12.out.below hb17)
  replace SZ := Lib.hid (SZ.out.below rStr_ok (by decide) hb17)
  replace X14 := Lib.hid (X14.out.below hb17)
  replace X16 := Lib.hid (X16.out.below hb17)
  replace SH := Lib.hid (SH.out.below rStr_ok (by decide) hb17)
  replace ST := Lib.hid (ST.out.below rStr_ok (by decide) hb17)
  clear hb17
  have b12_0 := X12.out.cell 0 _ rfl
  have b12_1 := X12.out.cell 1 _ rfl
  have b14_1 := X14.out.cell 1 _ rfl
  go_wp2_with fail
  refine (equalStr_calls Y Y (.slice aY Y.length cY) (.slice aZ Y.length cZ) _ _ _ SY.out SZ.out (by omega) (by omega)).mono ?_
  rw [decide_eq_true rfl]; rintro e w18 ⟨rfl, hb18⟩
  clear b12_0 b12_1 b14_1
  replace BW := Lib.hid (below_step BW.out hb18)
  replace SA := Lib.hid (SA.out.below rStr_ok (by decide) hb18)
  replace SB := Lib.hid (SB.out.below rStr_ok (by decide) hb18)
  replace SX := Lib.hid (SX.out.below rStr_ok (by decide) hb18)
  replace X9 := Lib.hid (X9.out.below hb18)
  replace SY := Lib.hid (SY.out.below rStr_ok (by decide) hb18)
  replace X12 := Lib.hid (X12.out.below hb18)
  replace SZ := Lib.hid (SZ.out.below rStr_ok (by decide) hb18)
  replace X14 := Lib.hid (X14.out.below hb18)
  replace X16 := Lib.hid (X16.out.below hb18)
  replace SH := Lib.hid (SH.out.below rStr_ok (by decide) hb18)
  replace ST := Lib.hid (ST.out.below rStr_ok (by decide) hb18)
  clear hb18
  have b12_0 := X12.out.cell 0 _ rfl
  have b12_1 := X12.out.cell 1 _ rfl
  go_wp2_with fail
  have hlast : logLast ⟨0, Y⟩ = (Y.length : Int) := by simp [logLast]
  refine (logLast_calls ⟨0, Y⟩ (.slice aY Y.length cY) _ _ SY.out (by simp) (by simp only; omega)).mono ?_
  rw [hlast]; rintro e w19 ⟨rfl, hb19⟩
  clear hlast b12_0 b12_1
  replace BW := Lib.hid (below_step BW.out hb19)
  replace SA := Lib.hid (SA.out.below rStr_ok (by decide) hb19)
  replace SB := Lib.hid (SB.out.below rStr_ok (by decide) hb19)
  replace SX := Lib.hid (SX.out.below rStr_ok (by decide) hb19)
  replace X9 := Lib.hid (X9.out.below hb19)
  replace SY := Lib.hid (SY.out.below rStr_ok (by decide) hb19)
  replace X12 := Lib.hid (X12.out.below hb19)
  replace SZ := Lib.hid (SZ.out.below rStr_ok (by decide) hb19)
  replace X14 := Lib.hid (X14.out.below hb19)
  replace X16 := Lib.hid (X16.out.below hb19)
  replace SH := Lib.hid (SH.out.below rStr_ok (by decide) hb19)
  replace ST := Lib.hid (ST.out.below rStr_ok (by decide) hb19)
  clear hb19
  go_wp2
  go_ret
  exact ⟨congrArg (fun b => Ending.returned (.bool b)) (decide_eq_true (by omega)), BW.out⟩
end Go.Proofs.YtphkkkmjkagkbaaDoor
