/- A part of the proof, laid together from: LockC, Strs, BSearchPair, PairC, CloneInt. -/
import Derived.Test.YtkefgapnghnjjaaGreatDoorPa12
import Derived.Test.YtkefgapnghnjjaaGreatDoorRows
import Derived.Test.YtkefgapnghnjjaaGreatDoorPa01
import Derived.Lib.Bytealg
import Derived.WalkLawsBesides
import Derived.KernelRfl
import Derived.Test.YtkefgapnghnjjaaGreatDoorPa07
import Derived.Test.YtkefgapnghnjjaaGreatDoorPa02
import Derived.Test.YtkefgapnghnjjaaGreatDoorPa03
import Derived.BigQuiet
import Derived.Deep.QuietTactic
import Derived.Test.YtkefgapnghnjjaaGreatDoorPa04
set_option linter.unusedSimpArgs false
set_option linter.unusedVariables false
namespace Go.Tk
theorem lkLine_false {k : LockD} {i : Nat} (hi : i < k.line.length) (h0 : firstErr (fun i => if lineBad k i then 1 else 0) i = 0) (hb : lineBad k i) : lkLine k = false := by
  have h1 : (fun i => if lineBad k i then (1 : Int) else 0) i = 1 := if_pos hb
  have h2 : lineErr k = (fun i => if lineBad k i then (1 : Int) else 0) i := firstErr_eq h0 (fun h => by have := h1.symm.trans h; cases this) _ hi
  rw [lkLine, h2.trans h1]; rfl
end Go.Tk
namespace Go.Proofs.YtkefgapnghnjjaaGreatDoor
open Go.RowKit Go.Tk
set_option maxRecDepth 100000 in
set_option maxHeartbeats 800000 in
theorem line_calls (k : LockD) (v : Value) (S : Nat → Prop) (w : World) (h : SlR 1 rInt w v k.line S) (hn : k.line.length ≤ 1000000) :
    Calls Tryz.prog 102 #[.agg #[.string ⟨k.name.toArray⟩, .int .i64 k.holder, .int .i64 k.fence, v]] w fun e w' => e = .returned (.bool (lkLine k)) ∧ Below w.heap.size w w' := by
  obtain ⟨a, cap, hv, hl, hm, hnl, hr⟩ := id h
  subst hv
  unfold maxLen at hm
  go_enter Tryz.func102, Tryz.ntmps102
  go_wp2
  go_loopw [3, 4, 8] (fun _ _ i wr => ∃ n : Nat, n ≤ k.line.length ∧ i = .int .i64 n ∧ Hid (firstErr (fun i => if lineBad k i then 1 else 0) n = 0) ∧ Hid (Below (w.heap.size + 1) (w.alloc (.cells #[.string ⟨k.name.toArray⟩, .int .i64 k.holder, .int .i64 k.fence, .slice a k.line.length cap] 50)) wr))
    (fun _ _ i _ => k.line.length - (intOf i).toNat)
  case atStart => exact ⟨0, by omega, rfl, rfl, Below.refl _ _⟩
  case round =>
    obtain ⟨n, hnk, rfl, hf, hb⟩ := hrel
    have HBW := Lib.hid (show Below w.heap.size w wr from (below_alloc w _).trans (hb.out.mono (by omega)))
    obtain ⟨hz, -, hzs⟩ := Tk.fresh hb.out
    have z1 := hz 1; have z3 := hz 3
    clear hz
    by_cases hlt : n < k.line.length
    · obtain ⟨b, off, cap', row, hv, hS, hrow, hcells⟩ := (h.below rInt_ok (by decide) HBW.out).row n hlt
      simp only [Value.slice.injEq] at hv
      obtain ⟨rfl, _, rfl⟩ := hv
      obtain rfl := hrow
      have q0 := hcells 0 _ rfl
      simp only [Nat.add_zero, Nat.mul_one] at q0
      clear hcells
      have hgd : k.line.getD n 0 = k.line[n] := by simp [List.getD, hlt]
      have HI : Hid (lineBad k n ↔ lkClient k.line[n] = false ∨ k.line[n] = k.holder ∨ (k.line.take n).contains k.line[n] = true) := by show _ ↔ _; rw [lineBad, hgd]
      have HB : Hid (lineBad k n → lkLine k = false) := fun hbad => lkLine_false hlt hf.out hbad
      have HG : Hid (¬ lineBad k n → firstErr (fun i => if lineBad k i then 1 else 0) (n + 1) = 0) := fun hbad => firstErr_succ hf.out (by rw [if_neg hbad])
      have HT := Lib.hid ((h.below rInt_ok (by decide) HBW.out).take n hnk)
      have hlt2 : (k.line.take n).length ≤ 1000000 := by rw [List.length_take]; omega
      clear hf hgd h
      generalize k.line[n] = x at *
      have hcases : lkClient x = false ∨ (lkClient x = true ∧ (x == k.holder) = true) ∨ (lkClient x = true ∧ (x == k.holder) = false) := by
        cases lkClient x <;> cases (x == k.holder) <;> simp
      rcases hcases with h1 | ⟨h1, h2⟩ | ⟨h1, h2⟩
      · have HF := Lib.hid (HB.out (HI.out.2 (.inl h1)))
        have H1 := Lib.hid h1
        clear h1
        go_wp2_with fail
        refine (client_calls x _).mono ?_; rw [H1.out]; rintro e w2 ⟨rfl, rfl⟩
        go_wp2
        go_ret
        exact ⟨by rw [HF.out]; rfl, HBW.out⟩
      · have HF := Lib.hid (HB.out (HI.out.2 (.inr (.inl (by simpa using h2)))))
        have H1 := Lib.hid h1
        clear h1
        go_wp2_with fail
        refine (client_calls x _).mono ?_; rw [H1.out]; rintro e w2 ⟨rfl, rfl⟩
        go_wp2
        go_ret
        exact ⟨by rw [HF.out]; rfl, HBW.out⟩
      · have H1 := Lib.hid h1
        have HC := Lib.hid (containsInt_calls wr _ (k.line.take n) _ HT.out hlt2 x)
        have HI2 : Hid (lineBad k n ↔ (k.line.take n).contains x = true) := by
          show _ ↔ _
          rw [HI.out, h1]; simp at h2; simp [h2]
        clear h1 HT HI
        go_wp2_with fail
        refine (client_calls x _).mono ?_; rw [H1.out]; rintro e w2 ⟨rfl, rfl⟩
        go_wp2_with fail
        refine HC.out.mono ?_; rintro e w2 ⟨rfl, hb2⟩
        generalize (k.line.take n).contains x = bb at HI2 ⊢
        cases bb
        case true =>
          have HF := Lib.hid (HB.out (HI2.out.2 rfl))
          go_wp2
          go_ret
          exact ⟨by rw [HF.out]; rfl, below_step HBW.out hb2⟩
        case false =>
          have HF := Lib.hid (HG.out (fun hx => by have := HI2.out.1 hx; cases this))
          go_wp2
          go_roundw
          case rel => exact ⟨n + 1, by omega, by go_num, HF.out, hb.out.trans (hb2.mono (by omega))⟩
          case measure => simp [intOf]; omega
    · obtain rfl : n = k.line.length := by omega
      have HF : Hid (lkLine k = (decide (k.line.length ≤ 3) && (k.holder != 0 || k.line.length == 0))) := by
        show _ = _
        rw [lkLine, lineErr, hf.out]; rfl
      clear hf h
      by_cases h3 : k.line.length ≤ 3
      · by_cases h0 : (k.holder != 0) = true
        · have HF2 := Lib.hid (HF.out.trans (by rw [decide_eq_true h3, h0] <;> rfl))
          go_wp2
          go_ret
          exact ⟨by rw [HF2.out]; rfl, HBW.out⟩
        · have h0' : (k.holder != 0) = false := by simpa using h0
          have HF2 := Lib.hid (HF.out.trans (show _ = (k.line.length == 0) by rw [decide_eq_true h3, h0']; rfl))
          have HN := Lib.hid (show ((k.line.length : Int) == 0) = (k.line.length == 0) by rw [Bool.eq_iff_iff, beq_iff_eq, beq_iff_eq]; omega)
          go_wp2
          go_ret
          exact ⟨by rw [HF2.out, ← HN.out]; rfl, HBW.out⟩
      · have HF2 := Lib.hid (HF.out.trans (by rw [decide_eq_false h3] <;> rfl))
        go_wp2
        go_ret
        exact ⟨by rw [HF2.out]; rfl, HBW.out⟩
set_option maxRecDepth 100000 in
set_option maxHeartbeats 800000 in
theorem lkCheck_calls (l : List LockD) (v : Value) (S : Nat → Prop) (w : World) (h : SlR 4 rLock w v l S) (hin : ∀ x ∈ l, x.line.length ≤ 1000000) :
    Calls Tryz.prog 52 #[v] w fun e w' => e = .returned (.int .i64 (lkCheck l)) ∧ Below w.heap.size w w' := by
  obtain ⟨a, cap, hv, hl, hm, hn, hr⟩ := id h
  subst hv
  unfold maxLen at hm
  by_cases h5 : 5 < l.length
  · have HF := Lib.hid (show lkCheck l = 1 by rw [lkCheck, if_pos h5])
    clear hr h
    go_enter Tryz.func52, Tryz.ntmps52
    go_wp2
    go_ret
    exact ⟨ends1 (by rw [HF.out]; rfl), Below.refl _ _⟩
  have HF : Hid (lkCheck l = firstErr (lkErr l) l.length) := by show _ = _; rw [lkCheck, if_neg h5]
  have HN := Lib.hid hin
  clear hr hin
  go_enter Tryz.func52, Tryz.ntmps52
  go_wp2
  go_loopw [3, 4, 10] (fun _ _ i wr => ∃ k : Nat, k ≤ l.length ∧ i = .int .i64 k ∧ Hid (firstErr (lkErr l) k = 0) ∧ Below w.heap.size w wr)
    (fun _ _ i _ => l.length - (intOf i).toNat)
  case atStart => exact ⟨0, by omega, rfl, rfl, Below.refl _ _⟩
  case round =>
    obtain ⟨k, hk, rfl, hf, hb⟩ := hrel
    have hws := hb.size
    by_cases hlt : k < l.length
    · obtain ⟨b, off, cap', row, hv, hS, hrow, hcells⟩ := (h.below rLock_ok (by decide) hb).row k hlt
      simp only [Value.slice.injEq] at hv
      obtain ⟨rfl, _, rfl⟩ := hv
      obtain ⟨rv, rfl, hrv⟩ := hrow
      obtain ⟨ra, rcap, rfl, -⟩ := id hrv
      have q0 := hcells 0 _ rfl
      have q1 := hcells 1 _ rfl
      have q2 := hcells 2 _ rfl
      have q3 := hcells 3 _ rfl
      simp only [Nat.add_zero] at q0
      clear hcells
      have hbl : b < wr.heap.size := World.block_lt_of_cell? wr _ q0
      have hg : l.getD k noLock = l[k] := by simp [List.getD, hlt]
      have HI : Hid (lkErr l k = if lkForm l[k] = false then 4 else if l[k].fence < 1 ∨ 1073741824 < l[k].fence then 2 else if 0 < k ∧ Op.bytesLess (l.getD (k - 1) noLock).name l[k].name = false then 14 else 0) := by
        show _ = _
        rw [lkErr, hg]
      have HE : Hid (∀ e, lkErr l k = e → e ≠ 0 → lkCheck l = e) := fun e he h0 => by
        rw [HF.out, firstErr_eq hf.out (by rw [he]; exact h0) _ hlt, he]
      have HG : Hid (lkErr l k = 0 → firstErr (lkErr l) (k + 1) = 0) := fun h0 => firstErr_succ hf.out h0
      have hp : 0 < k → wr.cell? ⟨b, off + (k - 1) * 4, none⟩ = some (.string ⟨(l.getD (k - 1) noLock).name.toArray⟩) := by
        intro hk0
        obtain ⟨b2, off2, cap2, row, hv, hS, hrow, hcells⟩ := (h.below rLock_ok (by decide) hb).row (k - 1) (by omega)
        simp only [Value.slice.injEq, Option.some.injEq, Addr.mk.injEq] at hv
        obtain ⟨⟨rfl, rfl, _⟩, _, rfl⟩ := hv
        obtain ⟨rv, rfl, hrv⟩ := hrow
        rw [show l.getD (k - 1) noLock = l[k - 1] by simp [List.getD, show k - 1 < l.length by omega]]
        exact hcells 0 _ rfl
      have HXL := Lib.hid (HN.out l[k] (List.getElem_mem hlt))
      clear h
      generalize l.getD (k - 1) noLock = y at *
      generalize l[k] = x at *
      have HP := Lib.hid hp
      clear hf hg HF hp
      have h0c : (x.holder != 0) = false ∨ (x.holder != 0) = true := by cases (x.holder != 0) <;> simp
      have HRV := Lib.hid hrv
      clear hrv
      go_wp2_with fail
      refine (name_calls x.name _).mono ?_; rintro e w2 ⟨rfl, hb2⟩
      have hb2' := hb2
      rw [World.size_alloc] at hb2'
      obtain ⟨hz, -, hzs⟩ := Tk.fresh hb2'
      have z0 := hz 0; have z1 := hz 1; have z2 := hz 2; have z3 := hz 3
      clear hz q0 q1 q2 q3
      have hbr2 : Below wr.heap.size wr w2 := below_step (below_alloc wr _) hb2
      have hb02 := below_step hb hbr2
      cases hnm : lkName x.name
      case false =>
        have HV := Lib.hid (HE.out 4 (by rw [HI.out, if_pos (by simp [lkForm, hnm])]) (by decide))
        go_wp2
        go_ret
        exact ⟨by rw [HV.out]; rfl, hb02⟩
      case true =>
        rcases h0c with h0 | h0
        case' inl =>
          have HFM : Hid (lkForm x = lkLine x) := by
            show _ = _
            have h0' : x.holder = 0 := by simpa using h0
            simp [lkForm, hnm, h0']
          clear hnm
          go_wp2_with fail
        case' inr =>
          have HH : Hid (lkForm x = (lkClient x.holder && lkLine x)) := by
            show _ = _
            have h0' : (x.holder == 0) = false := by simpa using h0
            simp [lkForm, hnm, h0']
          clear hnm
          go_wp2_with fail
          refine (client_calls x.holder _).mono ?_; rintro e w' ⟨rfl, rfl⟩
          cases hcl : lkClient x.holder
          case' false =>
            have HV := Lib.hid (HE.out 4 (by rw [HI.out, if_pos (by rw [HH.out, hcl]; rfl)]) (by decide))
            go_wp2
            go_ret
            exact ⟨by rw [HV.out]; rfl, hb02⟩
          case' true =>
            have HFM : Hid (lkForm x = lkLine x) := by show _ = _; rw [HH.out, hcl]; rfl
            clear hcl HH
            go_wp2_with fail
        all_goals
          refine (line_calls x _ _ _ (HRV.out.below rInt_ok (by decide) hbr2) HXL.out).mono ?_; rintro e w3 ⟨rfl, hb3⟩
          have hb3' := hb2'.trans (hb3.mono (by omega))
          obtain ⟨hz, -, hzs3⟩ := Tk.fresh hb3'
          clear z0 z1 z2 z3
          have z0 := hz 0; have z2 := hz 2
          clear hz
          have hb03 := below_step hb02 hb3
          have hbr3 := below_step hbr2 hb3
          cases hln : lkLine x
          case false =>
            have HV := Lib.hid (HE.out 4 (by rw [HI.out, if_pos (HFM.out.trans hln)]) (by decide))
            go_wp2
            go_ret
            exact ⟨by rw [HV.out]; rfl, hb03⟩
          case true =>
            have HI2 : Hid (lkErr l k = if x.fence < 1 ∨ 1073741824 < x.fence then 2 else if 0 < k ∧ Op.bytesLess y.name x.name = false then 14 else 0) := by
              show _ = _
              rw [HI.out, if_neg (by rw [HFM.out, hln]; decide)]
            clear hln HFM HI
            have hcases : x.fence < 1 ∨ (¬ x.fence < 1 ∧ 1073741824 < x.fence) ∨ (¬ x.fence < 1 ∧ ¬ 1073741824 < x.fence) := by omega
            rcases hcases with f1 | ⟨f1, f2⟩ | ⟨f1, f2⟩
            · have HV := Lib.hid (HE.out 2 (by rw [HI2.out, if_pos (by omega)]) (by decide))
              go_wp2
              go_ret
              exact ⟨by rw [HV.out]; rfl, hb03⟩
            · have HV := Lib.hid (HE.out 2 (by rw [HI2.out, if_pos (by omega)]) (by decide))
              go_wp2
              go_ret
              exact ⟨by rw [HV.out]; rfl, hb03⟩
            have HI3 : Hid (lkErr l k = if 0 < k ∧ Op.bytesLess y.name x.name = false then 14 else 0) := by
              show _ = _
              rw [HI2.out, if_neg (by omega)]
            clear HI2
            by_cases hk0 : 0 < k
            · have hq := cell_keep (HP.out hk0) (hbr3.block b hbl)
              have w1 : IntKind.i64.wrap ((k : Int) - 1) = (k : Int) - 1 := IntWalk.i64_in _ (by omega)
              have w2 : 0 ≤ (k : Int) - 1 := by omega
              have w3 : ((k : Int) - 1).toNat = k - 1 := by omega
              have w4 : (k : Int) - 1 < (l.length : Int) := by omega
              have w5 : (1 : Int) ≤ (k : Int) := by omega
              go_wp2_with fail
              go_quiet (fail)
              clear w1 w2 w3 w4 w5
              cases hbl : Op.bytesLess y.name x.name
              case false =>
                have HV := Lib.hid (HE.out 14 (by rw [HI3.out, if_pos ⟨hk0, hbl⟩]) (by decide))
                go_wp2
                go_ret
                exact ⟨by rw [HV.out]; rfl, below_drewN hb03 _⟩
              case true =>
                have HV := Lib.hid (HG.out (by rw [HI3.out, if_neg (fun hx => by rw [hbl] at hx; cases hx.2)]))
                go_wp2
                go_roundw
                case rel => exact ⟨k + 1, by omega, by go_num, HV.out, below_drewN hb03 _⟩
                case measure => simp [intOf]; omega
            · have hd : decide (0 < k) = false := by simpa using hk0
              have HV := Lib.hid (HG.out (by rw [HI3.out, if_neg (fun hx => hk0 hx.1)]))
              go_wp2_with fail
              go_quiet (fail)
              go_wp2
              go_roundw
              case rel => exact ⟨k + 1, by omega, by go_num, HV.out, below_drewN hb03 _⟩
              case measure => simp [intOf]; omega
    · have hF : Hid (lkCheck l = 0) := by
        have := hf.out
        rw [show k = l.length by omega] at this
        exact HF.out.trans this
      clear hf HF h
      go_wp2
      go_ret
      exact ⟨ends1 (by rw [hF.out]; rfl), hb⟩
end Go.Proofs.YtkefgapnghnjjaaGreatDoor

namespace Go.Proofs.YtkefgapnghnjjaaGreatDoor
open Go.RowKit Go.Tk
set_option maxRecDepth 100000 in
theorem compareString_calls (a b : List UInt8) (w : World) :
    Calls Tryz.prog 103 #[.string ⟨a.toArray⟩, .string ⟨b.toArray⟩] w fun e w' => e = .returned (.int .i64 (Lib.compareBytes a b)) ∧ w = w' := by
  go_enter Tryz.func103, Tryz.ntmps103
  go_wp2
  rw [run_callFunc_extern Tryz.func138 (by kernel_rfl) (by kernel_rfl) (by kernel_rfl) (e := Extern.BytealgCompare.compare) (by kernel_rfl), Lib.run_compareString]
  simp only [Result.andThen]
  rw [Oper.upon_value]
  go_wp2
  go_ret
  exact ⟨rfl, rfl⟩
theorem compare_calls (a b : List UInt8) (w : World) :
    Calls Tryz.prog 55 #[.string ⟨a.toArray⟩, .string ⟨b.toArray⟩] w fun e w' => e = .returned (.int .i64 (Lib.compareBytes a b)) ∧ w = w' := by
  go_enter Tryz.func55, Tryz.ntmps55
  go_wp2_with fail
  refine (compareString_calls a b _).mono ?_; rintro e w' ⟨rfl, rfl⟩
  go_wp2
  go_ret
  exact ⟨rfl, rfl⟩
end Go.Proofs.YtkefgapnghnjjaaGreatDoor

namespace Go.Proofs.YtkefgapnghnjjaaGreatDoor
open Go.RowKit Go.Tk
set_option maxRecDepth 100000 in
theorem cmpPair_calls (w : World) (x : PairD) (t : List UInt8) :
    Calls Tryz.prog 158 #[.agg #[.string ⟨x.name.toArray⟩, .string ⟨x.value.toArray⟩, .int .i64 x.version], .string ⟨t.toArray⟩] w fun e w' => e = .returned (.int .i64 (pairCmp x t)) ∧ Below w.heap.size w w' := by
  go_enter Tryz.func158, Tryz.ntmps158
  go_wp2_with fail
  refine (compare_calls x.name t _).mono ?_; rintro e w' ⟨rfl, rfl⟩
  go_wp2
  go_ret
  exact ⟨rfl, (Below.refl _ _).alloc (Nat.le_refl _) _⟩
set_option maxRecDepth 100000 in
set_option maxHeartbeats 400000 in
theorem searchPair_calls (w : World) (v : Value) (l : List PairD) (S : Nat → Prop) (h : SlR 3 rPair w v l S) (hn : l.length ≤ 1000000) (t : List UInt8) :
    Calls Tryz.prog 157 #[v, .string ⟨t.toArray⟩, .func (.func 158) #[] #[]] w fun e w' =>
      e = .returned (.tuple #[.int .i64 (bs (fun i => pairCmp (l.getD i noPair) t) l.length : Nat), .bool (bsFound (fun i => pairCmp (l.getD i noPair) t) l.length)]) ∧ Below w.heap.size w w' := by
  obtain ⟨a, cap, hv, hl, hm, hnil, -⟩ := id h
  subst hv
  unfold maxLen at hm
  go_enter Tryz.func157, Tryz.ntmps157
  go_wp2
  go_loopw [9, 10, 11] (fun i j _ wr => ∃ p q : Nat, p ≤ q ∧ q ≤ l.length ∧ i = .int .i64 p ∧ j = .int .i64 q ∧ Hid (bsGo (fun i => pairCmp (l.getD i noPair) t) (q - p) p q = bs (fun i => pairCmp (l.getD i noPair) t) l.length) ∧ Below w.heap.size w wr)
    (fun i j _ _ => (intOf j).toNat - (intOf i).toNat)
  case atStart => exact ⟨0, l.length, by omega, by omega, rfl, rfl, rfl, Below.refl _ _⟩
  case round =>
    obtain ⟨p, q, hpq, hql, rfl, rfl, hgo, hb⟩ := hrel
    by_cases hlt : p < q
    · have hml : (p + q) / 2 < l.length := by omega
      obtain ⟨b, off, cap', row, hv, hS, hrow, hcells⟩ := (h.below rPair_ok (by decide) hb).row ((p + q) / 2) hml
      simp only [Value.slice.injEq] at hv
      obtain ⟨rfl, _, rfl⟩ := hv
      have hg : l.getD ((p + q) / 2) noPair = l[(p + q) / 2] := by simp [List.getD, hml]
      have HL : Hid (pairCmp l[(p + q) / 2] t < 0 → bsGo (fun i => pairCmp (l.getD i noPair) t) (q - ((p + q) / 2 + 1)) ((p + q) / 2 + 1) q = bs (fun i => pairCmp (l.getD i noPair) t) l.length) := fun hf => by
        rw [← bsGo_less _ hlt (by show pairCmp (l.getD ((p + q) / 2) noPair) t < 0; rw [hg]; exact hf)]; exact hgo.out
      have HM : Hid (¬ pairCmp l[(p + q) / 2] t < 0 → bsGo (fun i => pairCmp (l.getD i noPair) t) ((p + q) / 2 - p) p ((p + q) / 2) = bs (fun i => pairCmp (l.getD i noPair) t) l.length) := fun hf => by
        rw [← bsGo_more _ hlt (by show ¬ pairCmp (l.getD ((p + q) / 2) noPair) t < 0; rw [hg]; exact hf)]; exact hgo.out
      clear hgo hg
      generalize l[(p + q) / 2] = x at *
      obtain rfl := hrow
      have q0 := hcells 0 _ rfl
      have q1 := hcells 1 _ rfl
      have q2 := hcells 2 _ rfl
      simp only [Nat.add_zero] at q0
      clear hcells
      have hws := hb.size
      by_cases hf : pairCmp x t < 0
      all_goals (have HF := Lib.hid hf)
      · go_wp2_with (go_at_call 158; refine (cmpPair_calls _ x t ).mono ?_; rintro e w2 ⟨rfl, hb2⟩)
        go_roundw
        case rel => exact ⟨(p + q) / 2 + 1, q, by omega, hql, by go_num, rfl, HL.out HF.out, hb.trans (hb2.mono hws)⟩
        case measure => simp [intOf]; omega
      · go_wp2_with (go_at_call 158; refine (cmpPair_calls _ x t ).mono ?_; rintro e w2 ⟨rfl, hb2⟩)
        go_roundw
        case rel => exact ⟨p, (p + q) / 2, by omega, by omega, rfl, by go_num, HM.out HF.out, hb.trans (hb2.mono hws)⟩
        case measure => simp [intOf]; omega
    · obtain rfl : p = q := by omega
      have HP : Hid (bs (fun i => pairCmp (l.getD i noPair) t) l.length = p) := by have := hgo.out; rw [Nat.sub_self] at this; exact this.symm
      clear hgo
      have hws := hb.size
      by_cases hml : p < l.length
      · obtain ⟨b, off, cap', row, hv, hS, hrow, hcells⟩ := (h.below rPair_ok (by decide) hb).row p hml
        simp only [Value.slice.injEq] at hv
        obtain ⟨rfl, _, rfl⟩ := hv
        have HG : Hid (bsFound (fun i => pairCmp (l.getD i noPair) t) l.length = (pairCmp l[p] t == 0)) := by
          show _ = _
          rw [bsFound, HP.out, decide_eq_true hml, show l.getD p noPair = l[p] by simp [List.getD, hml]]; rfl
        skip
        clear h
        generalize l[p] = x at *
        obtain rfl := hrow
        have q0 := hcells 0 _ rfl
        have q1 := hcells 1 _ rfl
        have q2 := hcells 2 _ rfl
        simp only [Nat.add_zero] at q0
        clear hcells
        go_wp2_with (go_at_call 158; refine (cmpPair_calls _ x t ).mono ?_; rintro e w2 ⟨rfl, hb2⟩)
        go_ret2
        exact ⟨ends2 (by rw [HP.out]; rfl) (by rw [HG.out]; rfl), hb.trans (hb2.mono hws)⟩
      · have HG : Hid (bsFound (fun i => pairCmp (l.getD i noPair) t) l.length = false) := by
          show _ = _
          rw [bsFound, HP.out, decide_eq_false hml]; rfl
        clear h
        go_wp2
        go_ret2
        exact ⟨ends2 (by rw [HP.out]; rfl) (by rw [HG.out]; rfl), hb⟩
end Go.Proofs.YtkefgapnghnjjaaGreatDoor

namespace Go.Proofs.YtkefgapnghnjjaaGreatDoor
open Go.RowKit Go.Tk
set_option linter.unusedSimpArgs false in
set_option maxRecDepth 100000 in
set_option maxHeartbeats 1600000 in
theorem prCheck_calls (l : List PairD) (v : Value) (S : Nat → Prop) (w : World) (h : SlR 3 rPair w v l S) (hin : ∀ x ∈ l, x.value.length ≤ 1000000) :
    Calls Tryz.prog 74 #[v] w fun e w' => e = .returned (.int .i64 (prCheck l)) ∧ Below w.heap.size w w' := by
  obtain ⟨a, cap, hv, hl, hm, hn, hr⟩ := id h
  subst hv
  unfold maxLen at hm
  by_cases h5 : 5 < l.length
  · have HF := Lib.hid (show prCheck l = 1 by rw [prCheck, if_pos h5])
    clear hr h
    go_enter Tryz.func74, Tryz.ntmps74
    go_wp2
    go_ret
    exact ⟨ends1 (by rw [HF.out]; rfl), Below.refl _ _⟩
  have HF : Hid (prCheck l = firstErr (prErr l) l.length) := by show _ = _; rw [prCheck, if_neg h5]
  have HN := Lib.hid hin
  clear hr hin
  go_enter Tryz.func74, Tryz.ntmps74
  go_wp2
  go_loopw [3, 4, 10] (fun _ _ i wr => ∃ k : Nat, k ≤ l.length ∧ i = .int .i64 k ∧ Hid (firstErr (prErr l) k = 0) ∧ Below w.heap.size w wr)
    (fun _ _ i _ => l.length - (intOf i).toNat)
  case atStart => exact ⟨0, by omega, rfl, rfl, Below.refl _ _⟩
  case round =>
    obtain ⟨k, hk, rfl, hf, hb⟩ := hrel
    have hws := hb.size
    by_cases hlt : k < l.length
    · obtain ⟨b, off, cap', row, hv, hS, hrow, hcells⟩ := (h.below rPair_ok (by decide) hb).row k hlt
      simp only [Value.slice.injEq] at hv
      obtain ⟨rfl, _, rfl⟩ := hv
      obtain rfl := hrow
      have q0 := hcells 0 _ rfl
      have q1 := hcells 1 _ rfl
      have q2 := hcells 2 _ rfl
      simp only [Nat.add_zero] at q0
      clear hcells
      have hbl : b < wr.heap.size := World.block_lt_of_cell? wr _ q0
      have hg : l.getD k noPair = l[k] := by simp [List.getD, hlt]
      have HI : Hid (prErr l k = if lkName l[k].name = false then 4 else if 12 < l[k].value.length then 1 else if l[k].version < 1 ∨ 1073741824 < l[k].version then 2 else if 0 < k ∧ Op.bytesLess (l.getD (k - 1) noPair).name l[k].name = false then 14 else 0) := by
        show _ = _
        rw [prErr, hg]
      have HE : Hid (∀ e, prErr l k = e → e ≠ 0 → prCheck l = e) := fun e he h0 => by
        rw [HF.out, firstErr_eq hf.out (by rw [he]; exact h0) _ hlt, he]
      have HG : Hid (prErr l k = 0 → firstErr (prErr l) (k + 1) = 0) := fun h0 => firstErr_succ hf.out h0
      have hp : 0 < k → wr.cell? ⟨b, off + (k - 1) * 3, none⟩ = some (.string ⟨(l.getD (k - 1) noPair).name.toArray⟩) := by
        intro hk0
        obtain ⟨b2, off2, cap2, row, hv, hS, hrow, hcells⟩ := (h.below rPair_ok (by decide) hb).row (k - 1) (by omega)
        simp only [Value.slice.injEq, Option.some.injEq, Addr.mk.injEq] at hv
        obtain ⟨⟨rfl, rfl, _⟩, _, rfl⟩ := hv
        obtain rfl := hrow
        rw [show l.getD (k - 1) noPair = l[k - 1] by simp [List.getD, show k - 1 < l.length by omega]]
        exact hcells 0 _ rfl
      have hvl := HN.out l[k] (List.getElem_mem hlt)
      clear h
      generalize l.getD (k - 1) noPair = y at *
      generalize l[k] = x at *
      have HP := Lib.hid hp
      clear hf hg HF hp
      go_wp2_with fail
      refine (name_calls x.name _).mono ?_; rintro e w2 ⟨rfl, hb2⟩
      have hb2' := hb2
      rw [World.size_alloc] at hb2'
      obtain ⟨hz, -, hzs⟩ := Tk.fresh hb2'
      have z0 := hz 0; have z1 := hz 1; have z2 := hz 2
      clear hz q0 q1 q2
      have hbr2 : Below wr.heap.size wr w2 := below_step (below_alloc wr _) hb2
      have hb02 := below_step hb hbr2
      cases hnm : lkName x.name
      case false =>
        have HV := Lib.hid (HE.out 4 (by rw [HI.out, if_pos hnm]) (by decide))
        go_wp2
        go_ret
        exact ⟨by rw [HV.out]; rfl, hb02⟩
      case true =>
        by_cases hvb : 12 < x.value.length
        · have HV := Lib.hid (HE.out 1 (by rw [HI.out, if_neg (by rw [hnm]; decide), if_pos hvb]) (by decide))
          clear hnm
          go_wp2
          go_ret
          exact ⟨by rw [HV.out]; rfl, hb02⟩
        have HI2 : Hid (prErr l k = if x.version < 1 ∨ 1073741824 < x.version then 2 else if 0 < k ∧ Op.bytesLess y.name x.name = false then 14 else 0) := by
          show _ = _
          rw [HI.out, if_neg (by rw [hnm]; decide), if_neg hvb]
        clear hnm HI
        have hcases : x.version < 1 ∨ (¬ x.version < 1 ∧ 1073741824 < x.version) ∨ (¬ x.version < 1 ∧ ¬ 1073741824 < x.version) := by omega
        rcases hcases with f1 | ⟨f1, f2⟩ | ⟨f1, f2⟩
        · have HV := Lib.hid (HE.out 2 (by rw [HI2.out, if_pos (by omega)]) (by decide))
          go_wp2
          go_ret
          exact ⟨by rw [HV.out]; rfl, hb02⟩
        · have HV := Lib.hid (HE.out 2 (by rw [HI2.out, if_pos (by omega)]) (by decide))
          go_wp2
          go_ret
          exact ⟨by rw [HV.out]; rfl, hb02⟩
        have HI3 : Hid (prErr l k = if 0 < k ∧ Op.bytesLess y.name x.name = false then 14 else 0) := by
          show _ = _
          rw [HI2.out, if_neg (by omega)]
        clear HI2
        by_cases hk0 : 0 < k
        · have hq := cell_keep (HP.out hk0) (hbr2.block b hbl)
          have w1 : IntKind.i64.wrap ((k : Int) - 1) = (k : Int) - 1 := IntWalk.i64_in _ (by omega)
          have w2 : 0 ≤ (k : Int) - 1 := by omega
          have w3 : ((k : Int) - 1).toNat = k - 1 := by omega
          have w4 : (k : Int) - 1 < (l.length : Int) := by omega
          have w5 : (1 : Int) ≤ (k : Int) := by omega
          go_wp2_with fail
          go_quiet (fail)
          clear w1 w2 w3 w4 w5
          cases hbl : Op.bytesLess y.name x.name
          case false =>
            have HV := Lib.hid (HE.out 14 (by rw [HI3.out, if_pos ⟨hk0, hbl⟩]) (by decide))
            go_wp2
            go_ret
            exact ⟨by rw [HV.out]; rfl, below_drewN hb02 _⟩
          case true =>
            have HV := Lib.hid (HG.out (by rw [HI3.out, if_neg (fun hx => by rw [hbl] at hx; cases hx.2)]))
            go_wp2
            go_roundw
            case rel => exact ⟨k + 1, by omega, by go_num, HV.out, below_drewN hb02 _⟩
            case measure => simp [intOf]; omega
        · have hd : decide (0 < k) = false := by simpa using hk0
          have HV := Lib.hid (HG.out (by rw [HI3.out, if_neg (fun hx => hk0 hx.1)]))
          go_wp2_with fail
          go_quiet (fail)
          go_wp2
          go_roundw
          case rel => exact ⟨k + 1, by omega, by go_num, HV.out, below_drewN hb02 _⟩
          case measure => simp [intOf]; omega
    · have hF : Hid (prCheck l = 0) := by
        have := hf.out
        rw [show k = l.length by omega] at this
        exact HF.out.trans this
      clear hf HF h
      go_wp2
      go_ret
      exact ⟨ends1 (by rw [hF.out]; rfl), hb⟩
set_option maxRecDepth 100000 in
theorem pFind_calls (l : List PairD) (t : List UInt8) (v : Value) (S : Nat → Prop) (w : World) (h : SlR 3 rPair w v l S) (hn : l.length ≤ 1000000) :
    Calls Tryz.prog 132 #[v, .string ⟨t.toArray⟩] w fun e w' => e = .returned (.tuple #[.int .i64 (pFind l t : Nat), .bool (pThere l t)]) ∧ Below w.heap.size w w' := by
  have hone := h.oneCell
  go_enter Tryz.func132, Tryz.ntmps132
  go_wp2_with fail
  refine (searchPair_calls _ v l S h hn t).mono ?_; rintro e w2 ⟨rfl, hb⟩
  go_wp2
  go_ret2
  exact ⟨rfl, hb⟩
end Go.Proofs.YtkefgapnghnjjaaGreatDoor

namespace Go.Proofs.YtkefgapnghnjjaaGreatDoor
open Go.RowKit Go.Tk
theorem Tryz.tycInt : SliceTy Tryz.prog 48 3 1 8 := ⟨Tryz.underlying48, by kernel_rfl, by decide⟩
set_option maxRecDepth 100000 in
set_option maxHeartbeats 400000 in
theorem cloneInt_calls {α : Type} {R : Rel α} (hR : RelOk R 1) (w : World) (v : Value) (l : List α) (S : Nat → Prop) (h : SlR 1 R w v l S) (hn : l.length ≤ 1000000) :
    Calls Tryz.prog 119 #[v] w fun e w' => ∃ v', e = .returned v' ∧ OwR 3 1 R w' v' l S ∧ Below w.heap.size w w' ∧ (∀ g, v'.ownBlock = some g → w.heap.size ≤ g) := by
  obtain ⟨a, cap, hv, hl, hm, hnil, hr⟩ := id h
  subst hv
  have hm' := hm
  unfold maxLen at hm'
  cases a with
  | none =>
    have h0 := hnil rfl
    subst h0
    have hl0 : l = [] := List.eq_nil_of_length_eq_zero (by omega)
    subst hl0
    have he := Lib.run_eql_slice_nil (P := Tryz.prog) (t := 48)
    go_enter Tryz.func119, Tryz.ntmps119
    go_wp2
    go_ret
    exact ⟨_, rfl, OwR.nil w S, Below.refl _ _, by simp [Value.ownBlock]⟩
  | some a =>
    obtain ⟨a', cap', rows, hv, -, -, hrl, hrel, hcells⟩ := h.rows hR (by decide)
    simp only [Value.slice.injEq] at hv
    obtain ⟨rfl, -, rfl⟩ := hv
    have hlen := OwR.rowsLen (E := 3) (v := .slice (some a) l.length cap) hR hrl hrel
    have hone := OwR.cellsOne (E := 3) hR hrl hrel
    have hfl : rows.flatten.length = l.length * 1 := by
      have : ∀ (rs : List (List Value)), (∀ r ∈ rs, r.length = 1) → rs.flatten.length = rs.length * 1 := by
        intro rs
        induction rs with
        | nil => intro _; rfl
        | cons r rs ih => intro hk; rw [List.flatten_cons, List.length_append, hk r (by simp), ih (fun r hr => hk r (by simp [hr]))]; simp; omega
      rw [this rows hlen, hrl]
    have hown0 : (w.alloc (.cells #[] 3)).ownsRow 0 3 1 (.slice (some ⟨w.heap.size, 0, none⟩) 0 0) 0 [] :=
      ⟨rfl, .inr ⟨w.heap.size, 0, #[], rfl, Nat.zero_le _, heap_alloc_new w _, Nat.le_refl _, by decide, rfl, rfl⟩⟩
    obtain ⟨v', w', hrun, g1, g2, g3⟩ := run_append_tk (P := Tryz.prog) (ty := 48) (w.alloc (.cells #[] 3)) Tryz.tycInt _ 0 [] hown0 a l.length cap rows.flatten hfl (fun j u hu => by
      obtain ⟨b, off, ha, _, hc⟩ := hcells j u hu
      simp only [Option.some.injEq] at ha
      subst ha
      have hlt := World.block_lt_of_cell? w _ hc
      rw [Addr.add_lit, World.cell?_alloc_past _ _ _ hlt]; exact hc) hone (by omega)
    have hvb : ∀ g, v'.ownBlock = some g → w.heap.size ≤ g := by
      intro g hg
      rcases g3 with e | ⟨g', e, h⟩
      · rw [e] at hg; cases hg; exact Nat.le_refl _
      · rw [e] at hg; cases hg; simp at h; omega
    have hb : Below w.heap.size w w' := ((Below.refl _ _).alloc (Nat.le_refl _) _).grown g2 (by simp) (fun k hk => by cases hk; exact Nat.le_refl _)
    have hfin : OwR 3 1 R w' v' l S := by
      refine ⟨rows, hrl, by simpa using g1, fun i r x hr hx => hR.move (hrel i r x hr hx) fun b hs hlt => ⟨hb.block b hlt, hs, ?_⟩⟩
      intro hbg
      have := hvb b hbg.symm
      omega
    have HF := Lib.hid hfin
    have HV := Lib.hid hvb
    have he := Lib.run_eql_slice_nil (P := Tryz.prog) (t := 48)
    clear hfin hvb g1 g2 g3 hcells hrel hlen hone hfl hown0 hr h hrl
    go_enter Tryz.func119, Tryz.ntmps119
    go_wp2_with (at_builtin; refine wpList_append_run rfl _ _ _ _ rfl _ _ rfl rfl hrun ?_)
    go_ret
    exact ⟨v', rfl, HF.out, hb, HV.out⟩
end Go.Proofs.YtkefgapnghnjjaaGreatDoor
