/- A part of the proof, laid together from: PairC, CloneInt, CopyLock, ClonePair, IdxSess. -/
import Derived.Test.YtcmmenmjclgjmaaGreatDoorPa07
import Derived.Test.YtcmmenmjclgjmaaGreatDoorPa12
import Derived.BigQuiet
import Derived.Deep.QuietTactic
import Derived.Test.YtcmmenmjclgjmaaGreatDoorRows
import Derived.Test.YtcmmenmjclgjmaaGreatDoorPa09
import Derived.Test.YtcmmenmjclgjmaaGreatDoorPa02
import Derived.WalkLawsBesides
import Derived.KernelRfl
import Derived.Test.YtcmmenmjclgjmaaGreatDoorPa11
set_option linter.unusedSimpArgs false
set_option linter.unusedVariables false
/- pair.Check, pair.find. -/
namespace Go.Proofs.YtcmmenmjclgjmaaGreatDoor
open Go.RowKit Go.Tk

set_option linter.unusedSimpArgs false in
set_option maxRecDepth 100000 in
set_option maxHeartbeats 1600000 in
theorem prCheck_calls (l : List PairD) (v : Value) (S : Nat → Prop) (w : World) (h : SlR 3 rPair w v l S) (hin : ∀ x ∈ l, x.value.length ≤ 1000000) :
    Calls Tryz.prog 39 #[v] w fun e w' => e = .returned (.int .i64 (prCheck l)) ∧ Below w.heap.size w w' := by
  obtain ⟨a, cap, hv, hl, hm, hn, hr⟩ := id h
  subst hv
  unfold maxLen at hm
  by_cases h5 : 5 < l.length
  · have HF := Lib.hid (show prCheck l = 1 by rw [prCheck, if_pos h5])
    clear hr h
    go_enter Tryz.func39, Tryz.ntmps39
    go_wp2
    go_ret
    exact ⟨ends1 (by rw [HF.out]; rfl), Below.refl _ _⟩
  have HF : Hid (prCheck l = firstErr (prErr l) l.length) := by show _ = _; rw [prCheck, if_neg h5]
  have HN := Lib.hid hin
  clear hr hin
  go_enter Tryz.func39, Tryz.ntmps39
  go_wp2
  go_loopw [3, 4, 10] (fun _ _ i wr => ∃ k : Nat, k ≤ l.length ∧ i = .int .i64 k ∧ Hid (firstErr (prErr l) k = 0) ∧ Below w.heap.size w wr)
    (fun _ _ i _ => l.length - (intOf i).toNat)
  case atStart => exact ⟨0, by omega, rfl, rfl, Below.refl _ _⟩
  case round =>
    obtain ⟨k, hk, rfl, hf, hb⟩ := hrel
    have hws := hb.size
    by_cases hlt : k < l.length
    · obtain ⟨b, off, cap', row, hv, hS, hrow, hcells⟩ := (h.below rPair_ok (by decide) hb).row k hlt
      simp only [Value.slice.injEq] at hv
      obtain ⟨rfl, _, rfl⟩ := hv
      obtain rfl := hrow
      have q0 := hcells 0 _ rfl
      have q1 := hcells 1 _ rfl
      have q2 := hcells 2 _ rfl
      simp only [Nat.add_zero] at q0
      clear hcells
      have hbl : b < wr.heap.size := World.block_lt_of_cell? wr _ q0
      have hg : l.getD k noPair = l[k] := by simp [List.getD, hlt]
      have HI : Hid (prErr l k = if lkName l[k].name = false then 4 else if 12 < l[k].value.length then 1 else if l[k].version < 1 ∨ 1073741824 < l[k].version then 2 else if 0 < k ∧ Op.bytesLess (l.getD (k - 1) noPair).name l[k].name = false then 14 else 0) := by
        show _ = _
        rw [prErr, hg]
      have HE : Hid (∀ e, prErr l k = e → e ≠ 0 → prCheck l = e) := fun e he h0 => by
        rw [HF.out, firstErr_eq hf.out (by rw [he]; exact h0) _ hlt, he]
      have HG : Hid (prErr l k = 0 → firstErr (prErr l) (k + 1) = 0) := fun h0 => firstErr_succ hf.out h0
      have hp : 0 < k → wr.cell? ⟨b, off + (k - 1) * 3, none⟩ = some (.string ⟨(l.getD (k - 1) noPair).name.toArray⟩) := by
        intro hk0
        obtain ⟨b2, off2, cap2, row, hv, hS, hrow, hcells⟩ := (h.below rPair_ok (by decide) hb).row (k - 1) (by omega)
        simp only [Value.slice.injEq, Option.some.injEq, Addr.mk.injEq] at hv
        obtain ⟨⟨rfl, rfl, _⟩, _, rfl⟩ := hv
        obtain rfl := hrow
        rw [show l.getD (k - 1) noPair = l[k - 1] by simp [List.getD, show k - 1 < l.length by omega]]
        exact hcells 0 _ rfl
      have hvl := HN.out l[k] (List.getElem_mem hlt)
      clear h
      generalize l.getD (k - 1) noPair = y at *
      generalize l[k] = x at *
      have HP := Lib.hid hp
      clear hf hg HF hp
      go_wp2_with fail
      refine (name_calls x.name _).mono ?_; rintro e w2 ⟨rfl, hb2⟩
      have hb2' := hb2
      rw [World.size_alloc] at hb2'
      obtain ⟨hz, -, hzs⟩ := Tk.fresh hb2'
      have z0 := hz 0; have z1 := hz 1; have z2 := hz 2
      clear hz q0 q1 q2
      have hbr2 : Below wr.heap.size wr w2 := below_step (below_alloc wr _) hb2
      have hb02 := below_step hb hbr2
      cases hnm : lkName x.name
      case false =>
        have HV := Lib.hid (HE.out 4 (by rw [HI.out, if_pos hnm]) (by decide))
        go_wp2
        go_ret
        exact ⟨by rw [HV.out]; rfl, hb02⟩
      case true =>
        by_cases hvb : 12 < x.value.length
        · have HV := Lib.hid (HE.out 1 (by rw [HI.out, if_neg (by rw [hnm]; decide), if_pos hvb]) (by decide))
          clear hnm
          go_wp2
          go_ret
          exact ⟨by rw [HV.out]; rfl, hb02⟩
        have HI2 : Hid (prErr l k = if x.version < 1 ∨ 1073741824 < x.version then 2 else if 0 < k ∧ Op.bytesLess y.name x.name = false then 14 else 0) := by
          show _ = _
          rw [HI.out, if_neg (by rw [hnm]; decide), if_neg hvb]
        clear hnm HI
        have hcases : x.version < 1 ∨ (¬ x.version < 1 ∧ 1073741824 < x.version) ∨ (¬ x.version < 1 ∧ ¬ 1073741824 < x.version) := by omega
        rcases hcases with f1 | ⟨f1, f2⟩ | ⟨f1, f2⟩
        · have HV := Lib.hid (HE.out 2 (by rw [HI2.out, if_pos (by omega)]) (by decide))
          go_wp2
          go_ret
          exact ⟨by rw [HV.out]; rfl, hb02⟩
        · have HV := Lib.hid (HE.out 2 (by rw [HI2.out, if_pos (by omega)]) (by decide))
          go_wp2
          go_ret
          exact ⟨by rw [HV.out]; rfl, hb02⟩
        have HI3 : Hid (prErr l k = if 0 < k ∧ Op.bytesLess y.name x.name = false then 14 else 0) := by
          show _ = _
          rw [HI2.out, if_neg (by omega)]
        clear HI2
        by_cases hk0 : 0 < k
        · have hq := cell_keep (HP.out hk0) (hbr2.block b hbl)
          have w1 : IntKind.i64.wrap ((k : Int) - 1) = (k : Int) - 1 := IntWalk.i64_in _ (by omega)
          have w2 : 0 ≤ (k : Int) - 1 := by omega
          have w3 : ((k : Int) - 1).toNat = k - 1 := by omega
          have w4 : (k : Int) - 1 < (l.length : Int) := by omega
          have w5 : (1 : Int) ≤ (k : Int) := by omega
          go_wp2_with fail
          go_quiet (fail)
          clear w1 w2 w3 w4 w5
          cases hbl : Op.bytesLess y.name x.name
          case false =>
            have HV := Lib.hid (HE.out 14 (by rw [HI3.out, if_pos ⟨hk0, hbl⟩]) (by decide))
            go_wp2
            go_ret
            exact ⟨by rw [HV.out]; rfl, below_drewN hb02 _⟩
          case true =>
            have HV := Lib.hid (HG.out (by rw [HI3.out, if_neg (fun hx => by rw [hbl] at hx; cases hx.2)]))
            go_wp2
            go_roundw
            case rel => exact ⟨k + 1, by omega, by go_num, HV.out, below_drewN hb02 _⟩
            case measure => simp [intOf]; omega
        · have hd : decide (0 < k) = false := by simpa using hk0
          have HV := Lib.hid (HG.out (by rw [HI3.out, if_neg (fun hx => hk0 hx.1)]))
          go_wp2_with fail
          go_quiet (fail)
          go_wp2
          go_roundw
          case rel => exact ⟨k + 1, by omega, by go_num, HV.out, below_drewN hb02 _⟩
          case measure => simp [intOf]; omega
    · have hF : Hid (prCheck l = 0) := by
        have := hf.out
        rw [show k = l.length by omega] at this
        exact HF.out.trans this
      clear hf HF h
      go_wp2
      go_ret
      exact ⟨ends1 (by rw [hF.out]; rfl), hb⟩

set_option maxRecDepth 100000 in
theorem pFind_calls (l : List PairD) (t : List UInt8) (v : Value) (S : Nat → Prop) (w : World) (h : SlR 3 rPair w v l S) (hn : l.length ≤ 1000000) :
    Calls Tryz.prog 57 #[v, .string ⟨t.toArray⟩] w fun e w' => e = .returned (.tuple #[.int .i64 (pFind l t : Nat), .bool (pThere l t)]) ∧ Below w.heap.size w w' := by
  have hone := h.oneCell
  go_enter Tryz.func57, Tryz.ntmps57
  go_wp2_with fail
  refine (searchPair_calls _ v l S h hn t).mono ?_; rintro e w2 ⟨rfl, hb⟩
  go_wp2
  go_ret2
  exact ⟨rfl, hb⟩
end Go.Proofs.YtcmmenmjclgjmaaGreatDoor

/- slices.Clone: the same elements in memory of the call's own. -/
namespace Go.Proofs.YtcmmenmjclgjmaaGreatDoor
open Go.RowKit Go.Tk

theorem Tryz.tycInt : SliceTy Tryz.prog 34 3 1 8 := ⟨Tryz.underlying34, by kernel_rfl, by decide⟩

set_option maxRecDepth 100000 in
set_option maxHeartbeats 400000 in
theorem cloneInt_calls {α : Type} {R : Rel α} (hR : RelOk R 1) (w : World) (v : Value) (l : List α) (S : Nat → Prop) (h : SlR 1 R w v l S) (hn : l.length ≤ 1000000) :
    Calls Tryz.prog 10 #[v] w fun e w' => ∃ v', e = .returned v' ∧ OwR 3 1 R w' v' l S ∧ Below w.heap.size w w' ∧ (∀ g, v'.ownBlock = some g → w.heap.size ≤ g) := by
  obtain ⟨a, cap, hv, hl, hm, hnil, hr⟩ := id h
  subst hv
  have hm' := hm
  unfold maxLen at hm'
  cases a with
  | none =>
    have h0 := hnil rfl
    subst h0
    have hl0 : l = [] := List.eq_nil_of_length_eq_zero (by omega)
    subst hl0
    have he := Lib.run_eql_slice_nil (P := Tryz.prog) (t := 34)
    go_enter Tryz.func10, Tryz.ntmps10
    go_wp2
    go_ret
    exact ⟨_, rfl, OwR.nil w S, Below.refl _ _, by simp [Value.ownBlock]⟩
  | some a =>
    obtain ⟨a', cap', rows, hv, -, -, hrl, hrel, hcells⟩ := h.rows hR (by decide)
    simp only [Value.slice.injEq] at hv
    obtain ⟨rfl, -, rfl⟩ := hv
    have hlen := OwR.rowsLen (E := 3) (v := .slice (some a) l.length cap) hR hrl hrel
    have hone := OwR.cellsOne (E := 3) hR hrl hrel
    have hfl : rows.flatten.length = l.length * 1 := by
      have : ∀ (rs : List (List Value)), (∀ r ∈ rs, r.length = 1) → rs.flatten.length = rs.length * 1 := by
        intro rs
        induction rs with
        | nil => intro _; rfl
        | cons r rs ih => intro hk; rw [List.flatten_cons, List.length_append, hk r (by simp), ih (fun r hr => hk r (by simp [hr]))]; simp; omega
      rw [this rows hlen, hrl]
    have hown0 : (w.alloc (.cells #[] 3)).ownsRow 0 3 1 (.slice (some ⟨w.heap.size, 0, none⟩) 0 0) 0 [] :=
      ⟨rfl, .inr ⟨w.heap.size, 0, #[], rfl, Nat.zero_le _, heap_alloc_new w _, Nat.le_refl _, by decide, rfl, rfl⟩⟩
    obtain ⟨v', w', hrun, g1, g2, g3⟩ := run_append_tk (P := Tryz.prog) (ty := 34) (w.alloc (.cells #[] 3)) Tryz.tycInt _ 0 [] hown0 a l.length cap rows.flatten hfl (fun j u hu => by
      obtain ⟨b, off, ha, _, hc⟩ := hcells j u hu
      simp only [Option.some.injEq] at ha
      subst ha
      have hlt := World.block_lt_of_cell? w _ hc
      rw [Addr.add_lit, World.cell?_alloc_past _ _ _ hlt]; exact hc) hone (by omega)
    have hvb : ∀ g, v'.ownBlock = some g → w.heap.size ≤ g := by
      intro g hg
      rcases g3 with e | ⟨g', e, h⟩
      · rw [e] at hg; cases hg; exact Nat.le_refl _
      · rw [e] at hg; cases hg; simp at h; omega
    have hb : Below w.heap.size w w' := ((Below.refl _ _).alloc (Nat.le_refl _) _).grown g2 (by simp) (fun k hk => by cases hk; exact Nat.le_refl _)
    have hfin : OwR 3 1 R w' v' l S := by
      refine ⟨rows, hrl, by simpa using g1, fun i r x hr hx => hR.move (hrel i r x hr hx) fun b hs hlt => ⟨hb.block b hlt, hs, ?_⟩⟩
      intro hbg
      have := hvb b hbg.symm
      omega
    have HF := Lib.hid hfin
    have HV := Lib.hid hvb
    have he := Lib.run_eql_slice_nil (P := Tryz.prog) (t := 34)
    clear hfin hvb g1 g2 g3 hcells hrel hlen hone hfl hown0 hr h hrl
    go_enter Tryz.func10, Tryz.ntmps10
    go_wp2_with (at_builtin; refine wpList_append_run rfl _ _ _ _ rfl _ _ rfl rfl hrun ?_)
    go_ret
    exact ⟨v', rfl, HF.out, hb, HV.out⟩
end Go.Proofs.YtcmmenmjclgjmaaGreatDoor

/- Copy of locks: the same, in memory of the call's own, each element's apart from all others'. -/
namespace Go.Proofs.YtcmmenmjclgjmaaGreatDoor
open Go.RowKit Go.Tk

theorem Tryz.tyyLock : SliceTy Tryz.prog 23 36 4 56 := ⟨Tryz.underlying23, by kernel_rfl, by decide⟩

theorem copyLock_step {EK E : Nat} {w wr w2 : World} {v rv : Value} {l2 : List (LockD × (Nat → Prop))} {x : LockD} (hown : OwR E 4 (rG (rLockO EK)) wr v l2 (fun b => w.heap.size ≤ b)) (hb : Below w.heap.size w wr) (X : Obj)
    (hb2 : Below (wr.alloc X).heap.size (wr.alloc X) w2) (ho2 : OwR EK 1 rInt w2 rv x.line (fun _ => False)) (hf2 : ∀ g, rv.ownBlock = some g → (wr.alloc X).heap.size ≤ g) :
    OwR E 4 (rG (rLockO EK)) (w2.setCell ⟨wr.heap.size, 3, none⟩ rv) v l2 (fun b => w.heap.size ≤ b) ∧ Below w.heap.size w (w2.setCell ⟨wr.heap.size, 3, none⟩ rv) ∧
    rG (rLockO EK) (w2.setCell ⟨wr.heap.size, 3, none⟩ rv) [.string ⟨x.name.toArray⟩, .int .i64 x.holder, .int .i64 x.fence, rv] (x, fun b => rv.ownBlock = some b) (fun b => w.heap.size ≤ b ∧ some b ≠ v.ownBlock) ∧
    (∀ y ∈ l2, ∀ b, y.2 b → ¬ rv.ownBlock = some b) := by
  have hws := hb.size
  have hbw : Below wr.heap.size wr (w2.setCell ⟨wr.heap.size, 3, none⟩ rv) := (((Below.refl _ _).alloc (Nat.le_refl _) X).trans (hb2.mono (by simp))).setCell (Nat.le_refl _) _
  have hne : ∀ g, rv.ownBlock = some g → g ≠ wr.heap.size := fun g hg => by have := hf2 g hg; simp at this; omega
  refine ⟨hown.below (rG_ok (rLockO_ok EK)) hbw, hb.trans (hbw.mono hws), ⟨⟨rv, rfl, ?_, fun g hg => hg⟩, fun b hbg => ⟨⟨?_, ?_⟩, ?_⟩⟩, fun y hy b hyb hrb => ?_⟩
  · exact ho2.move rInt_ok (fun g hg => Below.heap_setCell _ _ _ _ (hne g hg)) (fun b hb => hb.elim)
  · have := hf2 b hbg; simp at this; omega
  · intro hbv
    have := hown.lt b hbv.symm
    have := hf2 b hbg; simp at this; omega
  · simpa using ho2.lt b hbg
  · have h1 := hown.gLt y hy b hyb
    have := hf2 b hrb; simp at this; omega
set_option maxRecDepth 100000 in
set_option maxHeartbeats 800000 in
theorem copyLock_calls (w : World) (v : Value) (l : List LockD) (S : Nat → Prop) (h : SlR 4 rLock w v l S) (hn : l.length ≤ 1000000) (hin : ∀ x ∈ l, x.line.length ≤ 1000000) :
    Calls Tryz.prog 40 #[v] w fun e w' => ∃ v', e = .returned v' ∧ OwD 36 4 (rLockO 3) w' v' l (fun b => w.heap.size ≤ b) ∧ Below w.heap.size w w' ∧ (∀ g, v'.ownBlock = some g → w.heap.size ≤ g) := by
  obtain ⟨a, cap, hv, hl, hm, hnil, -⟩ := id h
  subst hv
  unfold maxLen at hm
  go_enter Tryz.func40, Tryz.ntmps40
  go_wp2
  go_loopw [3, 5, 8] (fun v _ i wr => ∃ (k : Nat) (l2 : List (LockD × (Nat → Prop))), k ≤ l.length ∧ i = .int .i64 k ∧ Hid (l2.map (·.1) = l.take k) ∧ Hid (Apart l2) ∧ OwR 36 4 (rG (rLockO 3)) wr v l2 (fun b => w.heap.size ≤ b) ∧
      Below w.heap.size w wr ∧ (∀ g, v.ownBlock = some g → w.heap.size ≤ g))
    (fun _ _ i _ => l.length - (intOf i).toNat)
  case atStart => exact ⟨0, [], by omega, rfl, rfl, Apart.nil, OwR.nil _ _, Below.refl _ _, by simp [Value.ownBlock]⟩
  case round =>
    obtain ⟨k, l2, hk, rfl, hmap, hap, hown, hb, hvb⟩ := hrel
    have hws := hb.size
    have hll : l2.length = k := by have := congrArg List.length hmap.out; simpa [Nat.min_eq_left hk] using this
    by_cases hlt : k < l.length
    · obtain ⟨b, off, cap', row, hv, hS, hrow, hcells⟩ := (h.below rLock_ok (by decide) hb).row k hlt
      simp only [Value.slice.injEq] at hv
      obtain ⟨rfl, _, rfl⟩ := hv
      have hxin := hin l[k] (List.getElem_mem hlt)
      have HM : Hid (l.take (k + 1) = l.take k ++ [l[k]]) := by show _ = _; rw [List.take_succ_eq_append_getElem hlt]
      generalize l[k] = x at *
      obtain ⟨rv, rfl, hrv⟩ := hrow
      obtain ⟨ra, rcap, rfl, -⟩ := id hrv
      have q0 := hcells 0 _ rfl
      have q1 := hcells 1 _ rfl
      have q2 := hcells 2 _ rfl
      have q3 := hcells 3 _ rfl
      simp only [Nat.add_zero] at q0
      clear hcells
      have hbl : b < wr.heap.size := World.block_lt_of_cell? wr _ q0
      have HL := Lib.hid hll
      clear hll h hS hin hnil
      go_wp2_with (first
        | (go_at_call 10; refine (cloneInt_calls rInt_ok _ _ _ _ (hrv.below rInt_ok (by decide) ((Below.refl _ _).alloc (Nat.le_refl _) _)) hxin).mono ?_; rintro e w2 ⟨rv', rfl, ho2, hb2, hz⟩; obtain ⟨hc2, hz2⟩ := bcell hb2; have hs2 := hb2.size; obtain ⟨ra2, rc2, rfl⟩ := ho2.shape)
        | (at_builtin; obtain ⟨k1, k2, k3, k4⟩ := copyLock_step (x := x) hown hb _ hb2 (ho2.forget (fun _ _ _ _ _ h => h)) hz; refine wpList_append_one Tryz.tyyLock (.tmp 16) (.tmp 18) rfl rfl (rG_ok (rLockO_ok _)) (x, _) rfl rfl (by simp) k1 k2 hvb k3 (by rw [HL.out]; omega) ?_; intro v' w' hown' hb' hvb'))
      go_roundw
      case rel =>
        refine ⟨k + 1, _, by omega, by go_num, ?_, ?_, hown', hb', hvb'⟩
        · show _ = _
          rw [HM.out, List.map_append, hmap.out]; rfl
        · exact hap.out.snoc _ fun y hy b hyb => by
            have h1 := hown.gLt y hy b hyb
            intro hrb
            have := hz b hrb
            simp at this; omega
      case measure => simp [intOf]; omega
    · obtain rfl : k = l.length := by omega
      have hF : Hid (l2.map (·.1) = l) := by have := hmap.out; rw [List.take_length] at this; exact this
      clear hmap h hnil
      go_wp2
      go_ret
      exact ⟨_, rfl, ⟨l2, hF.out, hap.out, hown⟩, hb, hvb⟩
end Go.Proofs.YtcmmenmjclgjmaaGreatDoor

/- slices.Clone: the same elements in memory of the call's own. -/
namespace Go.Proofs.YtcmmenmjclgjmaaGreatDoor
open Go.RowKit Go.Tk

theorem Tryz.tycPair : SliceTy Tryz.prog 24 66 3 40 := ⟨Tryz.underlying24, by kernel_rfl, by decide⟩

set_option maxRecDepth 100000 in
set_option maxHeartbeats 400000 in
theorem clonePair_calls {α : Type} {R : Rel α} (hR : RelOk R 3) (w : World) (v : Value) (l : List α) (S : Nat → Prop) (h : SlR 3 R w v l S) (hn : l.length ≤ 1000000) :
    Calls Tryz.prog 41 #[v] w fun e w' => ∃ v', e = .returned v' ∧ OwR 66 3 R w' v' l S ∧ Below w.heap.size w w' ∧ (∀ g, v'.ownBlock = some g → w.heap.size ≤ g) := by
  obtain ⟨a, cap, hv, hl, hm, hnil, hr⟩ := id h
  subst hv
  have hm' := hm
  unfold maxLen at hm'
  cases a with
  | none =>
    have h0 := hnil rfl
    subst h0
    have hl0 : l = [] := List.eq_nil_of_length_eq_zero (by omega)
    subst hl0
    have he := Lib.run_eql_slice_nil (P := Tryz.prog) (t := 24)
    go_enter Tryz.func41, Tryz.ntmps41
    go_wp2
    go_ret
    exact ⟨_, rfl, OwR.nil w S, Below.refl _ _, by simp [Value.ownBlock]⟩
  | some a =>
    obtain ⟨a', cap', rows, hv, -, -, hrl, hrel, hcells⟩ := h.rows hR (by decide)
    simp only [Value.slice.injEq] at hv
    obtain ⟨rfl, -, rfl⟩ := hv
    have hlen := OwR.rowsLen (E := 66) (v := .slice (some a) l.length cap) hR hrl hrel
    have hone := OwR.cellsOne (E := 66) hR hrl hrel
    have hfl : rows.flatten.length = l.length * 3 := by
      have : ∀ (rs : List (List Value)), (∀ r ∈ rs, r.length = 3) → rs.flatten.length = rs.length * 3 := by
        intro rs
        induction rs with
        | nil => intro _; rfl
        | cons r rs ih => intro hk; rw [List.flatten_cons, List.length_append, hk r (by simp), ih (fun r hr => hk r (by simp [hr]))]; simp; omega
      rw [this rows hlen, hrl]
    have hown0 : (w.alloc (.cells #[] 66)).ownsRow 0 66 3 (.slice (some ⟨w.heap.size, 0, none⟩) 0 0) 0 [] :=
      ⟨rfl, .inr ⟨w.heap.size, 0, #[], rfl, Nat.zero_le _, heap_alloc_new w _, Nat.le_refl _, by decide, rfl, rfl⟩⟩
    obtain ⟨v', w', hrun, g1, g2, g3⟩ := run_append_tk (P := Tryz.prog) (ty := 24) (w.alloc (.cells #[] 66)) Tryz.tycPair _ 0 [] hown0 a l.length cap rows.flatten hfl (fun j u hu => by
      obtain ⟨b, off, ha, _, hc⟩ := hcells j u hu
      simp only [Option.some.injEq] at ha
      subst ha
      have hlt := World.block_lt_of_cell? w _ hc
      rw [Addr.add_lit, World.cell?_alloc_past _ _ _ hlt]; exact hc) hone (by omega)
    have hvb : ∀ g, v'.ownBlock = some g → w.heap.size ≤ g := by
      intro g hg
      rcases g3 with e | ⟨g', e, h⟩
      · rw [e] at hg; cases hg; exact Nat.le_refl _
      · rw [e] at hg; cases hg; simp at h; omega
    have hb : Below w.heap.size w w' := ((Below.refl _ _).alloc (Nat.le_refl _) _).grown g2 (by simp) (fun k hk => by cases hk; exact Nat.le_refl _)
    have hfin : OwR 66 3 R w' v' l S := by
      refine ⟨rows, hrl, by simpa using g1, fun i r x hr hx => hR.move (hrel i r x hr hx) fun b hs hlt => ⟨hb.block b hlt, hs, ?_⟩⟩
      intro hbg
      have := hvb b hbg.symm
      omega
    have HF := Lib.hid hfin
    have HV := Lib.hid hvb
    have he := Lib.run_eql_slice_nil (P := Tryz.prog) (t := 24)
    clear hfin hvb g1 g2 g3 hcells hrel hlen hone hfl hown0 hr h hrl
    go_enter Tryz.func41, Tryz.ntmps41
    go_wp2_with (at_builtin; refine wpList_append_run rfl _ _ _ _ rfl _ _ rfl rfl hrun ?_)
    go_ret
    exact ⟨v', rfl, HF.out, hb, HV.out⟩
end Go.Proofs.YtcmmenmjclgjmaaGreatDoor

/- slices.IndexFunc over sessions. -/
namespace Go.Proofs.YtcmmenmjclgjmaaGreatDoor
open Go.RowKit Go.Tk

/-- What a function value of the program answers on elements, whatever the world has become. -/
def TellsSess (w : World) (r : Option Nat) (S : Nat → Prop) (c : Nat) (cap : Value) (p : SessionD → Bool) : Prop :=
  ∀ (w' : World) (x : SessionD) (rv : Value), w.grownBy w' r → rSession w' [.int .i64 x.client, .int .i64 x.id, .int .i64 x.acked, .int .i64 x.last, rv] x S → Calls Tryz.prog c #[.agg #[.int .i64 x.client, .int .i64 x.id, .int .i64 x.acked, .int .i64 x.last, rv], cap] w' fun e w'' => e = .returned (.bool (p x)) ∧ Below w'.heap.size w' w''

set_option maxRecDepth 100000 in
set_option maxHeartbeats 400000 in
theorem indexSess_calls (w : World) (v : Value) (l : List SessionD) (S : Nat → Prop) (h : SlR 5 rSession w v l S) (hn : l.length ≤ 1000000) (c : Nat) (cap : Value) (p : SessionD → Bool) (r : Option Nat) (hin : ∀ args w, (callFunc c args).run Tryz.prog w = .ok (.enter c args) w) (hp : TellsSess w r S c cap p) :
    Calls Tryz.prog 16 #[v, .func (.func c) #[] #[cap]] w fun e w' =>
      e = .returned (.int .i64 (fIdx p l)) ∧ Below w.heap.size w w' := by
  obtain ⟨a, vc, hv, hl, hm, hnil, -⟩ := id h
  subst hv
  unfold maxLen at hm
  have hlen : (l.length : Int) ≤ 1000000 := by omega
  go_enter Tryz.func16, Tryz.ntmps16
  go_wp2
  go_loopw [8] (fun i wr => ∃ n : Nat, n ≤ l.length ∧ i = .int .i64 n ∧ Hid (∀ (j : Nat) (hj : j < l.length), j < n → p l[j] = false) ∧ Below w.heap.size w wr)
    (fun i _ => l.length - (intOf i).toNat)
  case atStart => exact ⟨0, by omega, rfl, fun j _ hj => by omega, Below.refl _ _⟩
  case round =>
    obtain ⟨n, hnl, rfl, hall, hb⟩ := hrel
    have hws := hb.size
    by_cases hlt : n < l.length
    · obtain ⟨b, off, vc', row, hv, hS, hrow, hcells⟩ := (h.below rSession_ok (by decide) hb).row n hlt
      simp only [Value.slice.injEq] at hv
      obtain ⟨rfl, _, rfl⟩ := hv
      have HY : Hid (p l[n] = true → fIdx p l = n) := fun ht => fIdx_at hlt ht hall.out
      have HN : Hid (p l[n] = false → ∀ (j : Nat) (hj : j < l.length), j < n + 1 → p l[j] = false) := fun ht j hj hj1 => by
        rcases Nat.lt_or_ge j n with h | h
        · exact hall.out j hj h
        · obtain rfl : j = n := by omega
          exact ht
      clear hall
      generalize hxx : l[n] = x at *
      clear hxx
      have hrow' := hrow
      obtain ⟨rv, rfl, hrv⟩ := hrow
      obtain ⟨ra, rcap, rfl, -⟩ := id hrv
      have q0 := hcells 0 _ rfl
      have q1 := hcells 1 _ rfl
      have q2 := hcells 2 _ rfl
      have q3 := hcells 3 _ rfl
      have q4 := hcells 4 _ rfl
      simp only [Nat.add_zero] at q0
      clear hcells
      have HC := Lib.hid (hp _ _ _ (grownBy_any hb r) hrow')
      clear hrow' hp h
      by_cases hf : p x = true
      · have HF := Lib.hid (HY.out hf)
        go_wp2_with fail
        refine HC.out.mono ?_; rw [hf]; rintro e w2 ⟨rfl, hb2⟩
        go_wp2
        go_ret
        exact ⟨by rw [HF.out]; rfl, hb.trans (hb2.mono hws)⟩
      · have hf' : p x = false := by simpa using hf
        go_wp2_with fail
        refine HC.out.mono ?_; rw [hf']; rintro e w2 ⟨rfl, hb2⟩
        go_wp2
        go_roundw
        case rel => exact ⟨n + 1, by omega, by go_num, HN.out hf', hb.trans (hb2.mono hws)⟩
        case measure => simp [intOf]; omega
    · obtain rfl : n = l.length := by omega
      have HF : Hid (fIdx p l = -1) := fIdx_none fun j hj => hall.out j hj hj
      clear hall hp h
      go_wp2
      go_ret
      exact ⟨by rw [HF.out]; rfl, hb⟩
end Go.Proofs.YtcmmenmjclgjmaaGreatDoor
