/- pair.Check, pair.find. -/
import Derived.Test.YtphkkkmjkagkbaaDoorPairQ
import Derived.Test.YtphkkkmjkagkbaaDoorLockN
import Derived.Test.YtphkkkmjkagkbaaDoorBSearchPair
import Derived.BigQuiet
import Derived.Deep.QuietTactic
namespace Go.Proofs.YtphkkkmjkagkbaaDoor
open Go.RowKit Go.Tk

set_option linter.unusedSimpArgs false in
set_option maxRecDepth 100000 in
set_option maxHeartbeats 1600000 in
theorem prCheck_calls (l : List PairD) (v : Value) (S : Nat → Prop) (w : World) (h : SlR 3 rPair w v l S) (hin : ∀ x ∈ l, x.value.length ≤ 1000000) :
    Calls Tryd.prog 34 #[v] w fun e w' => e = .returned (.int .i64 (prCheck l)) ∧ Below w.heap.size w w' := by
  obtain ⟨a, cap, hv, hl, hm, hn, hr⟩ := id h
  subst hv
  unfold maxLen at hm
  by_cases h5 : 5 < l.length
  · have HF := Lib.hid (show prCheck l = 1 by rw [prCheck, if_pos h5])
    clear hr h
    go_enter Tryd.func34, Tryd.ntmps34
    go_wp2
    go_ret
    exact ⟨ends1 (by rw [HF.out]; rfl), Below.refl _ _⟩
  have HF : Hid (prCheck l = firstErr (prErr l) l.length) := by show _ = _; rw [prCheck, if_neg h5]
  have HN := Lib.hid hin
  clear hr hin
  go_enter Tryd.func34, Tryd.ntmps34
  go_wp2
  go_loopw [3, 4, 10] (fun _ _ i wr => ∃ k : Nat, k ≤ l.length ∧ i = .int .i64 k ∧ Hid (firstErr (prErr l) k = 0) ∧ Below w.heap.size w wr)
    (fun _ _ i _ => l.length - (intOf i).toNat)
  case atStart => exact ⟨0, by omega, rfl, rfl, Below.refl _ _⟩
  case round =>
    obtain ⟨k, hk, rfl, hf, hb⟩ := hrel
    have hws := hb.size
    by_cases hlt : k < l.length
    · obtain ⟨b, off, cap', row, hv, hS, hrow, hcells⟩ := (h.below rPair_ok (by decide) hb).row k hlt
      simp only [Value.slice.injEq] at hv
      obtain ⟨rfl, _, rfl⟩ := hv
      obtain rfl := hrow
      have q0 := hcells 0 _ rfl
      have q1 := hcells 1 _ rfl
      have q2 := hcells 2 _ rfl
      simp only [Nat.add_zero] at q0
      clear hcells
      have hbl : b < wr.heap.size := World.block_lt_of_cell? wr _ q0
      have hg : l.getD k noPair = l[k] := by simp [List.getD, hlt]
      have HI : Hid (prErr l k = if lkName l[k].name = false then 4 else if 12 < l[k].value.length then 1 else if l[k].version < 1 ∨ 1073741824 < l[k].version then 2 else if 0 < k ∧ Op.bytesLess (l.getD (k - 1) noPair).name l[k].name = false then 14 else 0) := by
        show _ = _
        rw [prErr, hg]
      have HE : Hid (∀ e, prErr l k = e → e ≠ 0 → prCheck l = e) := fun e he h0 => by
        rw [HF.out, firstErr_eq hf.out (by rw [he]; exact h0) _ hlt, he]
      have HG : Hid (prErr l k = 0 → firstErr (prErr l) (k + 1) = 0) := fun h0 => firstErr_succ hf.out h0
      have hp : 0 < k → wr.cell? ⟨b, off + (k - 1) * 3, none⟩ = some (.string ⟨(l.getD (k - 1) noPair).name.toArray⟩) := by
        intro hk0
        obtain ⟨b2, off2, cap2, row, hv, hS, hrow, hcells⟩ := (h.below rPair_ok (by decide) hb).row (k - 1) (by omega)
        simp only [Value.slice.injEq, Option.some.injEq, Addr.mk.injEq] at hv
        obtain ⟨⟨rfl, rfl, _⟩, _, rfl⟩ := hv
        obtain rfl := hrow
        rw [show l.getD (k - 1) noPair = l[k - 1] by simp [List.getD, show k - 1 < l.length by omega]]
        exact hcells 0 _ rfl
      have hvl := HN.out l[k] (List.getElem_mem hlt)
      clear h
      generalize l.getD (k - 1) noPair = y at *
      generalize l[k] = x at *
      have HP := Lib.hid hp
      clear hf hg HF hp
      go_wp2_with fail
      refine (name_calls x.name _).mono ?_; rintro e w2 ⟨rfl, hb2⟩
      have hb2' := hb2
      rw [World.size_alloc] at hb2'
      obtain ⟨hz, -, hzs⟩ := Tk.fresh hb2'
      have z0 := hz 0; have z1 := hz 1; have z2 := hz 2
      clear hz q0 q1 q2
      have hbr2 : Below wr.heap.size wr w2 := below_step (below_alloc wr _) hb2
      have hb02 := below_step hb hbr2
      cases hnm : lkName x.name
      case false =>
        have HV := Lib.hid (HE.out 4 (by rw [HI.out, if_pos hnm]) (by decide))
        go_wp2
        go_ret
        exact ⟨by rw [HV.out]; rfl, hb02⟩
      case true =>
        by_cases hvb : 12 < x.value.length
        · have HV := Lib.hid (HE.out 1 (by rw [HI.out, if_neg (by rw [hnm]; decide), if_pos hvb]) (by decide))
          clear hnm
          go_wp2
          go_ret
          exact ⟨by rw [HV.out]; rfl, hb02⟩
        have HI2 : Hid (prErr l k = if x.version < 1 ∨ 1073741824 < x.version then 2 else if 0 < k ∧ Op.bytesLess y.name x.name = false then 14 else 0) := by
          show _ = _
          rw [HI.out, if_neg (by rw [hnm]; decide), if_neg hvb]
        clear hnm HI
        have hcases : x.version < 1 ∨ (¬ x.version < 1 ∧ 1073741824 < x.version) ∨ (¬ x.version < 1 ∧ ¬ 1073741824 < x.version) := by omega
        rcases hcases with f1 | ⟨f1, f2⟩ | ⟨f1, f2⟩
        · have HV := Lib.hid (HE.out 2 (by rw [HI2.out, if_pos (by omega)]) (by decide))
          go_wp2
          go_ret
          exact ⟨by rw [HV.out]; rfl, hb02⟩
        · have HV := Lib.hid (HE.out 2 (by rw [HI2.out, if_pos (by omega)]) (by decide))
          go_wp2
          go_ret
          exact ⟨by rw [HV.out]; rfl, hb02⟩
        have HI3 : Hid (prErr l k = if 0 < k ∧ Op.bytesLess y.name x.name = false then 14 else 0) := by
          show _ = _
          rw [HI2.out, if_neg (by omega)]
        clear HI2
        by_cases hk0 : 0 < k
        · have hq := cell_keep (HP.out hk0) (hbr2.block b hbl)
          have w1 : IntKind.i64.wrap ((k : Int) - 1) = (k : Int) - 1 := IntWalk.i64_in _ (by omega)
          have w2 : 0 ≤ (k : Int) - 1 := by omega
          have w3 : ((k : Int) - 1).toNat = k - 1 := by omega
          have w4 : (k : Int) - 1 < (l.length : Int) := by omega
          have w5 : (1 : Int) ≤ (k : Int) := by omega
          go_wp2_with fail
          go_quiet (fail)
          clear w1 w2 w3 w4 w5
          cases hbl : Op.bytesLess y.name x.name
          case false =>
            have HV := Lib.hid (HE.out 14 (by rw [HI3.out, if_pos ⟨hk0, hbl⟩]) (by decide))
            go_wp2
            go_ret
            exact ⟨by rw [HV.out]; rfl, below_drewN hb02 _⟩
          case true =>
            have HV := Lib.hid (HG.out (by rw [HI3.out, if_neg (fun hx => by rw [hbl] at hx; cases hx.2)]))
            go_wp2
            go_roundw
            case rel => exact ⟨k + 1, by omega, by go_num, HV.out, below_drewN hb02 _⟩
            case measure => simp [intOf]; omega
        · have hd : decide (0 < k) = false := by simpa using hk0
          have HV := Lib.hid (HG.out (by rw [HI3.out, if_neg (fun hx => hk0 hx.1)]))
          go_wp2_with fail
          go_quiet (fail)
          go_wp2
          go_roundw
          case rel => exact ⟨k + 1, by omega, by go_num, HV.out, below_drewN hb02 _⟩
          case measure => simp [intOf]; omega
    · have hF : Hid (prCheck l = 0) := by
        have := hf.out
        rw [show k = l.length by omega] at this
        exact HF.out.trans this
      clear hf HF h
      go_wp2
      go_ret
      exact ⟨ends1 (by rw [hF.out]; rfl), hb⟩

set_option maxRecDepth 100000 in
theorem pFind_calls (l : List PairD) (t : List UInt8) (v : Value) (S : Nat → Prop) (w : World) (h : SlR 3 rPair w v l S) (hn : l.length ≤ 1000000) :
    Calls Tryd.prog 37 #[v, .string ⟨t.toArray⟩] w fun e w' => e = .returned (.tuple #[.int .i64 (pFind l t : Nat), .bool (pThere l t)]) ∧ Below w.heap.size w w' := by
  have hone := h.oneCell
  go_enter Tryd.func37, Tryd.ntmps37
  go_wp2_with fail
  refine (searchPair_calls _ v l S h hn t).mono ?_; rintro e w2 ⟨rfl, hb⟩
  go_wp2
  go_ret2
  exact ⟨rfl, hb⟩
end Go.Proofs.YtphkkkmjkagkbaaDoor
