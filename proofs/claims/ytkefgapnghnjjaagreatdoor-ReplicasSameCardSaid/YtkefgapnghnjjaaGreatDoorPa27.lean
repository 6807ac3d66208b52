/- A part of the proof, laid together from: BSearchLock, BSearchLockW, LockG. -/
import Derived.Test.YtkefgapnghnjjaaGreatDoorRows
import Derived.Test.YtkefgapnghnjjaaGreatDoorPa07
import Derived.Test.YtkefgapnghnjjaaGreatDoorPa01
import Derived.Test.YtkefgapnghnjjaaGreatDoorPa02
import Derived.Test.YtkefgapnghnjjaaGreatDoorPa13
import Derived.WalkLawsBesides
import Derived.BigQuiet
import Derived.Deep.QuietTactic
import Derived.Test.YtkefgapnghnjjaaGreatDoorPa14
import Derived.Test.YtkefgapnghnjjaaGreatDoorPa08
set_option linter.unusedSimpArgs false
set_option linter.unusedVariables false
namespace Go.Proofs.YtkefgapnghnjjaaGreatDoor
open Go.RowKit Go.Tk
set_option maxRecDepth 100000 in
theorem cmpLock_calls (w : World) (x : LockD) (t : List UInt8) (rv : Value) (hrv : rv.oneCell' = true) :
    Calls Tryz.prog 154 #[.agg #[.string ⟨x.name.toArray⟩, .int .i64 x.holder, .int .i64 x.fence, rv], .string ⟨t.toArray⟩] w fun e w' => e = .returned (.int .i64 (lockCmp x t)) ∧ Below w.heap.size w w' := by
  go_enter Tryz.func154, Tryz.ntmps154
  go_wp2_with fail
  refine (compare_calls x.name t _).mono ?_; rintro e w' ⟨rfl, rfl⟩
  go_wp2
  go_ret
  exact ⟨rfl, (Below.refl _ _).alloc (Nat.le_refl _) _⟩
set_option maxRecDepth 100000 in
set_option maxHeartbeats 400000 in
theorem searchLock_calls (w : World) (v : Value) (l : List LockD) (S : Nat → Prop) (h : SlR 4 rLock w v l S) (hn : l.length ≤ 1000000) (t : List UInt8) :
    Calls Tryz.prog 53 #[v, .string ⟨t.toArray⟩, .func (.func 154) #[] #[]] w fun e w' =>
      e = .returned (.tuple #[.int .i64 (bs (fun i => lockCmp (l.getD i noLock) t) l.length : Nat), .bool (bsFound (fun i => lockCmp (l.getD i noLock) t) l.length)]) ∧ Below w.heap.size w w' := by
  obtain ⟨a, cap, hv, hl, hm, hnil, -⟩ := id h
  subst hv
  unfold maxLen at hm
  go_enter Tryz.func53, Tryz.ntmps53
  go_wp2
  go_loopw [9, 10, 11] (fun i j _ wr => ∃ p q : Nat, p ≤ q ∧ q ≤ l.length ∧ i = .int .i64 p ∧ j = .int .i64 q ∧ Hid (bsGo (fun i => lockCmp (l.getD i noLock) t) (q - p) p q = bs (fun i => lockCmp (l.getD i noLock) t) l.length) ∧ Below w.heap.size w wr)
    (fun i j _ _ => (intOf j).toNat - (intOf i).toNat)
  case atStart => exact ⟨0, l.length, by omega, by omega, rfl, rfl, rfl, Below.refl _ _⟩
  case round =>
    obtain ⟨p, q, hpq, hql, rfl, rfl, hgo, hb⟩ := hrel
    by_cases hlt : p < q
    · have hml : (p + q) / 2 < l.length := by omega
      obtain ⟨b, off, cap', row, hv, hS, hrow, hcells⟩ := (h.below rLock_ok (by decide) hb).row ((p + q) / 2) hml
      simp only [Value.slice.injEq] at hv
      obtain ⟨rfl, _, rfl⟩ := hv
      have hg : l.getD ((p + q) / 2) noLock = l[(p + q) / 2] := by simp [List.getD, hml]
      have HL : Hid (lockCmp l[(p + q) / 2] t < 0 → bsGo (fun i => lockCmp (l.getD i noLock) t) (q - ((p + q) / 2 + 1)) ((p + q) / 2 + 1) q = bs (fun i => lockCmp (l.getD i noLock) t) l.length) := fun hf => by
        rw [← bsGo_less _ hlt (by show lockCmp (l.getD ((p + q) / 2) noLock) t < 0; rw [hg]; exact hf)]; exact hgo.out
      have HM : Hid (¬ lockCmp l[(p + q) / 2] t < 0 → bsGo (fun i => lockCmp (l.getD i noLock) t) ((p + q) / 2 - p) p ((p + q) / 2) = bs (fun i => lockCmp (l.getD i noLock) t) l.length) := fun hf => by
        rw [← bsGo_more _ hlt (by show ¬ lockCmp (l.getD ((p + q) / 2) noLock) t < 0; rw [hg]; exact hf)]; exact hgo.out
      clear hgo hg
      generalize l[(p + q) / 2] = x at *
      obtain ⟨rv, rfl, hrv⟩ := hrow
      obtain ⟨ra, rcap, rfl, -⟩ := id hrv
      have q0 := hcells 0 _ rfl
      have q1 := hcells 1 _ rfl
      have q2 := hcells 2 _ rfl
      have q3 := hcells 3 _ rfl
      simp only [Nat.add_zero] at q0
      clear hcells
      have hws := hb.size
      by_cases hf : lockCmp x t < 0
      all_goals (have HF := Lib.hid hf)
      · go_wp2_with (go_at_call 154; refine (cmpLock_calls _ x t _ rfl).mono ?_; rintro e w2 ⟨rfl, hb2⟩)
        go_roundw
        case rel => exact ⟨(p + q) / 2 + 1, q, by omega, hql, by go_num, rfl, HL.out HF.out, hb.trans (hb2.mono hws)⟩
        case measure => simp [intOf]; omega
      · go_wp2_with (go_at_call 154; refine (cmpLock_calls _ x t _ rfl).mono ?_; rintro e w2 ⟨rfl, hb2⟩)
        go_roundw
        case rel => exact ⟨p, (p + q) / 2, by omega, by omega, rfl, by go_num, HM.out HF.out, hb.trans (hb2.mono hws)⟩
        case measure => simp [intOf]; omega
    · obtain rfl : p = q := by omega
      have HP : Hid (bs (fun i => lockCmp (l.getD i noLock) t) l.length = p) := by have := hgo.out; rw [Nat.sub_self] at this; exact this.symm
      clear hgo
      have hws := hb.size
      by_cases hml : p < l.length
      · obtain ⟨b, off, cap', row, hv, hS, hrow, hcells⟩ := (h.below rLock_ok (by decide) hb).row p hml
        simp only [Value.slice.injEq] at hv
        obtain ⟨rfl, _, rfl⟩ := hv
        have HG : Hid (bsFound (fun i => lockCmp (l.getD i noLock) t) l.length = (lockCmp l[p] t == 0)) := by
          show _ = _
          rw [bsFound, HP.out, decide_eq_true hml, show l.getD p noLock = l[p] by simp [List.getD, hml]]; rfl
        skip
        clear h
        generalize l[p] = x at *
        obtain ⟨rv, rfl, hrv⟩ := hrow
        obtain ⟨ra, rcap, rfl, -⟩ := id hrv
        have q0 := hcells 0 _ rfl
        have q1 := hcells 1 _ rfl
        have q2 := hcells 2 _ rfl
        have q3 := hcells 3 _ rfl
        simp only [Nat.add_zero] at q0
        clear hcells
        go_wp2_with (go_at_call 154; refine (cmpLock_calls _ x t _ rfl).mono ?_; rintro e w2 ⟨rfl, hb2⟩)
        go_ret2
        exact ⟨ends2 (by rw [HP.out]; rfl) (by rw [HG.out]; rfl), hb.trans (hb2.mono hws)⟩
      · have HG : Hid (bsFound (fun i => lockCmp (l.getD i noLock) t) l.length = false) := by
          show _ = _
          rw [bsFound, HP.out, decide_eq_false hml]; rfl
        clear h
        go_wp2
        go_ret2
        exact ⟨ends2 (by rw [HP.out]; rfl) (by rw [HG.out]; rfl), hb⟩
end Go.Proofs.YtkefgapnghnjjaaGreatDoor

namespace Go.Proofs.YtkefgapnghnjjaaGreatDoor
open Go.RowKit Go.Tk
set_option maxRecDepth 100000 in
theorem cmpLockW_calls (w : World) (x : LockD) (t : List UInt8) (rv : Value) (hrv : rv.oneCell' = true) :
    Calls Tryz.prog 54 #[.agg #[.string ⟨x.name.toArray⟩, .int .i64 x.holder, .int .i64 x.fence, rv], .string ⟨t.toArray⟩] w fun e w' => e = .returned (.int .i64 (lockCmp x t)) ∧ Below w.heap.size w w' := by
  go_enter Tryz.func54, Tryz.ntmps54
  go_wp2_with fail
  refine (compare_calls x.name t _).mono ?_; rintro e w' ⟨rfl, rfl⟩
  go_wp2
  go_ret
  exact ⟨rfl, (Below.refl _ _).alloc (Nat.le_refl _) _⟩
set_option maxRecDepth 100000 in
set_option maxHeartbeats 400000 in
theorem searchLockW_calls (w : World) (v : Value) (l : List LockD) (S : Nat → Prop) (h : SlR 4 rLock w v l S) (hn : l.length ≤ 1000000) (t : List UInt8) :
    Calls Tryz.prog 53 #[v, .string ⟨t.toArray⟩, .func (.func 54) #[] #[]] w fun e w' =>
      e = .returned (.tuple #[.int .i64 (bs (fun i => lockCmp (l.getD i noLock) t) l.length : Nat), .bool (bsFound (fun i => lockCmp (l.getD i noLock) t) l.length)]) ∧ Below w.heap.size w w' := by
  obtain ⟨a, cap, hv, hl, hm, hnil, -⟩ := id h
  subst hv
  unfold maxLen at hm
  go_enter Tryz.func53, Tryz.ntmps53
  go_wp2
  go_loopw [9, 10, 11] (fun i j _ wr => ∃ p q : Nat, p ≤ q ∧ q ≤ l.length ∧ i = .int .i64 p ∧ j = .int .i64 q ∧ Hid (bsGo (fun i => lockCmp (l.getD i noLock) t) (q - p) p q = bs (fun i => lockCmp (l.getD i noLock) t) l.length) ∧ Below w.heap.size w wr)
    (fun i j _ _ => (intOf j).toNat - (intOf i).toNat)
  case atStart => exact ⟨0, l.length, by omega, by omega, rfl, rfl, rfl, Below.refl _ _⟩
  case round =>
    obtain ⟨p, q, hpq, hql, rfl, rfl, hgo, hb⟩ := hrel
    by_cases hlt : p < q
    · have hml : (p + q) / 2 < l.length := by omega
      obtain ⟨b, off, cap', row, hv, hS, hrow, hcells⟩ := (h.below rLock_ok (by decide) hb).row ((p + q) / 2) hml
      simp only [Value.slice.injEq] at hv
      obtain ⟨rfl, _, rfl⟩ := hv
      have hg : l.getD ((p + q) / 2) noLock = l[(p + q) / 2] := by simp [List.getD, hml]
      have HL : Hid (lockCmp l[(p + q) / 2] t < 0 → bsGo (fun i => lockCmp (l.getD i noLock) t) (q - ((p + q) / 2 + 1)) ((p + q) / 2 + 1) q = bs (fun i => lockCmp (l.getD i noLock) t) l.length) := fun hf => by
        rw [← bsGo_less _ hlt (by show lockCmp (l.getD ((p + q) / 2) noLock) t < 0; rw [hg]; exact hf)]; exact hgo.out
      have HM : Hid (¬ lockCmp l[(p + q) / 2] t < 0 → bsGo (fun i => lockCmp (l.getD i noLock) t) ((p + q) / 2 - p) p ((p + q) / 2) = bs (fun i => lockCmp (l.getD i noLock) t) l.length) := fun hf => by
        rw [← bsGo_more _ hlt (by show ¬ lockCmp (l.getD ((p + q) / 2) noLock) t < 0; rw [hg]; exact hf)]; exact hgo.out
      clear hgo hg
      generalize l[(p + q) / 2] = x at *
      obtain ⟨rv, rfl, hrv⟩ := hrow
      obtain ⟨ra, rcap, rfl, -⟩ := id hrv
      have q0 := hcells 0 _ rfl
      have q1 := hcells 1 _ rfl
      have q2 := hcells 2 _ rfl
      have q3 := hcells 3 _ rfl
      simp only [Nat.add_zero] at q0
      clear hcells
      have hws := hb.size
      by_cases hf : lockCmp x t < 0
      all_goals (have HF := Lib.hid hf)
      · go_wp2_with (go_at_call 54; refine (cmpLockW_calls _ x t _ rfl).mono ?_; rintro e w2 ⟨rfl, hb2⟩)
        go_roundw
        case rel => exact ⟨(p + q) / 2 + 1, q, by omega, hql, by go_num, rfl, HL.out HF.out, hb.trans (hb2.mono hws)⟩
        case measure => simp [intOf]; omega
      · go_wp2_with (go_at_call 54; refine (cmpLockW_calls _ x t _ rfl).mono ?_; rintro e w2 ⟨rfl, hb2⟩)
        go_roundw
        case rel => exact ⟨p, (p + q) / 2, by omega, by omega, rfl, by go_num, HM.out HF.out, hb.trans (hb2.mono hws)⟩
        case measure => simp [intOf]; omega
    · obtain rfl : p = q := by omega
      have HP : Hid (bs (fun i => lockCmp (l.getD i noLock) t) l.length = p) := by have := hgo.out; rw [Nat.sub_self] at this; exact this.symm
      clear hgo
      have hws := hb.size
      by_cases hml : p < l.length
      · obtain ⟨b, off, cap', row, hv, hS, hrow, hcells⟩ := (h.below rLock_ok (by decide) hb).row p hml
        simp only [Value.slice.injEq] at hv
        obtain ⟨rfl, _, rfl⟩ := hv
        have HG : Hid (bsFound (fun i => lockCmp (l.getD i noLock) t) l.length = (lockCmp l[p] t == 0)) := by
          show _ = _
          rw [bsFound, HP.out, decide_eq_true hml, show l.getD p noLock = l[p] by simp [List.getD, hml]]; rfl
        skip
        clear h
        generalize l[p] = x at *
        obtain ⟨rv, rfl, hrv⟩ := hrow
        obtain ⟨ra, rcap, rfl, -⟩ := id hrv
        have q0 := hcells 0 _ rfl
        have q1 := hcells 1 _ rfl
        have q2 := hcells 2 _ rfl
        have q3 := hcells 3 _ rfl
        simp only [Nat.add_zero] at q0
        clear hcells
        go_wp2_with (go_at_call 54; refine (cmpLockW_calls _ x t _ rfl).mono ?_; rintro e w2 ⟨rfl, hb2⟩)
        go_ret2
        exact ⟨ends2 (by rw [HP.out]; rfl) (by rw [HG.out]; rfl), hb.trans (hb2.mono hws)⟩
      · have HG : Hid (bsFound (fun i => lockCmp (l.getD i noLock) t) l.length = false) := by
          show _ = _
          rw [bsFound, HP.out, decide_eq_false hml]; rfl
        clear h
        go_wp2
        go_ret2
        exact ⟨ends2 (by rw [HP.out]; rfl) (by rw [HG.out]; rfl), hb⟩
end Go.Proofs.YtkefgapnghnjjaaGreatDoor

namespace Go.Tk
open Go Go.RowKit
theorem OwD.nil {α : Type} {E k : Nat} {R : Rel α} (w : World) (S : Nat → Prop) : OwD E k R w (.slice none 0 0) [] S := ⟨[], rfl, Apart.nil, OwR.nil _ _⟩
def RetBegin (E EI : Nat) (w : World) (res : List LockD × Int × Bool × Int) (e : Ending) (w' : World) : Prop :=
  ∃ v', e = .returned (.tuple #[v', .int .i64 res.2.1, .bool res.2.2.1, .int .i64 res.2.2.2]) ∧ OwD E 4 (rLockO EI) w' v' res.1 (fun b => w.heap.size ≤ b) ∧ Below w.heap.size w w' ∧ ∀ g, v'.ownBlock = some g → w.heap.size ≤ g
theorem RetBegin.nil {E EI : Nat} {w w' : World} {a c : Int} {b : Bool} (hb : Below w.heap.size w w') : RetBegin E EI w ([], a, b, c) (.returned (.tuple #[.slice none 0 0, .int .i64 a, .bool b, .int .i64 c])) w' :=
  ⟨_, rfl, OwD.nil _ _, hb, fun g hg => by cases hg⟩
end Go.Tk
namespace Go.Proofs.YtkefgapnghnjjaaGreatDoor
open Go.RowKit Go.Tk
theorem lFind_calls (w : World) (v : Value) (l : List LockD) (S : Nat → Prop) (h : SlR 4 rLock w v l S) (hn : l.length ≤ 1000000) (t : List UInt8) :
    Calls Tryz.prog 53 #[v, .string ⟨t.toArray⟩, .func (.func 154) #[] #[]] w fun e w' =>
      e = .returned (.tuple #[.int .i64 (lFind l t : Nat), .bool (lThere l t)]) ∧ Below w.heap.size w w' := searchLock_calls w v l S h hn t
theorem lFindW_calls (w : World) (v : Value) (l : List LockD) (S : Nat → Prop) (h : SlR 4 rLock w v l S) (hn : l.length ≤ 1000000) (t : List UInt8) :
    Calls Tryz.prog 53 #[v, .string ⟨t.toArray⟩, .func (.func 54) #[] #[]] w fun e w' =>
      e = .returned (.tuple #[.int .i64 (lFind l t : Nat), .bool (lThere l t)]) ∧ Below w.heap.size w w' := searchLockW_calls w v l S h hn t
set_option maxRecDepth 100000 in
set_option maxHeartbeats 800000 in
theorem begin_calls (l : List LockD) (name : List UInt8) (who : Int) (v : Value) (S : Nat → Prop) (w : World) (h : SlR 4 rLock w v l S) (hin : ∀ x ∈ l, x.line.length ≤ 1000000) :
    Calls Tryz.prog 129 #[v, .string ⟨name.toArray⟩, .int .i64 who] w (RetBegin 50 3 w (lkBegin l name who)) := by
  have HN := Lib.hid hin
  have HH := Lib.hid h
  clear hin h
  go_enter Tryz.func129, Tryz.ntmps129
  go_wp2_with fail
  refine (lkCheck_calls l v S _ HH.out HN.out).mono ?_; rintro e w1 ⟨rfl, hb1⟩
  by_cases he : lkCheck l = 0
  case neg =>
    have HJ := Lib.hid (show lkBegin l name who = ([], 0, false, lkCheck l) by rw [lkBegin, if_pos he])
    have he' : (lkCheck l != 0) = true := by simpa using he
    clear he
    go_wp2
    refine bodyPost_ret (v := .tuple #[.slice none 0 0, .int .i64 0, .bool false, .int .i64 (lkCheck l)]) (by simp [results, Tryz.results129, go_sem]) rfl ?_
    rw [HJ.out]; exact RetBegin.nil hb1
  have he' : (lkCheck l != 0) = false := by simpa using he
  have HE := Lib.hid he
  have hok := lkCheck_ok.1 he
  have hl5 := hok.len
  clear he hok
  go_wp2_with fail
  refine (name_calls name _).mono ?_; rintro e w2 ⟨rfl, hb2⟩
  cases hnm : lkName name
  case false =>
    have HJ := Lib.hid (show lkBegin l name who = ([], 0, false, 4) by rw [lkBegin, if_neg (by simpa using HE.out), if_pos hnm])
    clear hnm
    go_wp2
    refine bodyPost_ret (v := .tuple #[.slice none 0 0, .int .i64 0, .bool false, .int .i64 4]) (by simp [results, Tryz.results129, go_sem]) rfl ?_
    rw [HJ.out]; exact RetBegin.nil (below_step hb1 hb2)
  go_wp2_with fail
  refine (client_calls who _).mono ?_; rintro e w' ⟨rfl, rfl⟩
  cases hcl : lkClient who
  case false =>
    have HJ := Lib.hid (show lkBegin l name who = ([], 0, false, 2) by rw [lkBegin, if_neg (by simpa using HE.out), if_neg (by rw [hnm]; decide), if_pos hcl])
    clear hcl hnm
    go_wp2
    refine bodyPost_ret (v := .tuple #[.slice none 0 0, .int .i64 0, .bool false, .int .i64 2]) (by simp [results, Tryz.results129, go_sem]) rfl ?_
    rw [HJ.out]; exact RetBegin.nil (below_step hb1 hb2)
  have HJ := Lib.hid (show lkBegin l name who = (l, ((lFind l name : Nat) : Int), lThere l name, (0 : Int)) by rw [lkBegin, if_neg (by simpa using HE.out), if_neg (by rw [hnm]; decide), if_neg (by rw [hcl]; decide)])
  clear hcl hnm
  have hb02 := below_step hb1 hb2
  go_wp2_with fail
  refine (lFind_calls _ v l S (HH.out.below rLock_ok (by decide) hb02) (by omega) name).mono ?_; rintro e w3 ⟨rfl, hb3⟩
  have hb03 := below_step hb02 hb3
  go_wp2_with fail
  refine (copyLock_calls _ v l S (HH.out.below rLock_ok (by decide) hb03) (by omega) HN.out).mono ?_; rintro e w4 ⟨v4, rfl, ho4, hb4, hv4⟩
  have hs3 := hb03.size
  have HO := Lib.hid ho4
  have HV := Lib.hid hv4
  have h1 := ho4.own (rLockO_ok _)
  have hone := h1.oneCell
  clear ho4 hv4 h1
  go_wp2
  refine bodyPost_ret (v := .tuple #[v4, .int .i64 (lFind l name : Nat), .bool (lThere l name), .int .i64 0]) (by simp [results, Tryz.results129, go_sem]) rfl ?_
  rw [HJ.out]
  exact ⟨_, rfl, HO.out.sub (rLockO_ok _) (fun b hb _ => by show _ ≤ _; exact Nat.le_trans hs3 hb), below_step hb03 hb4, fun g hg => Nat.le_trans hs3 (HV.out g hg)⟩
set_option maxRecDepth 100000 in
set_option maxHeartbeats 800000 in
theorem lWho_calls (l : List LockD) (name : List UInt8) (v : Value) (S : Nat → Prop) (w : World) (h : SlR 4 rLock w v l S) (hin : ∀ x ∈ l, x.line.length ≤ 1000000) :
    Calls Tryz.prog 13 #[v, .string ⟨name.toArray⟩] w fun e w' => e = .returned (.tuple #[.int .i64 (lWho l name).1, .int .i64 (lWho l name).2.1, .int .i64 (lWho l name).2.2]) ∧ Below w.heap.size w w' := by
  have HN := Lib.hid hin
  have HH := Lib.hid h
  clear hin h
  go_enter Tryz.func13, Tryz.ntmps13
  go_wp2_with fail
  refine (lkCheck_calls l v S _ HH.out HN.out).mono ?_; rintro e w1 ⟨rfl, hb1⟩
  by_cases he : lkCheck l = 0
  case neg =>
    have HJ := Lib.hid (show lWho l name = (0, 0, lkCheck l) by rw [lWho, if_pos he])
    have he' : (lkCheck l != 0) = true := by simpa using he
    clear he
    go_wp2
    go_ret3
    exact ⟨by rw [HJ.out]; rfl, hb1⟩
  have he' : (lkCheck l != 0) = false := by simpa using he
  have HE := Lib.hid he
  have hok := lkCheck_ok.1 he
  have hl5 := hok.len
  clear he hok
  go_wp2_with fail
  refine (lFindW_calls _ v l S (HH.out.below rLock_ok (by decide) hb1) (by omega) name).mono ?_; rintro e w3 ⟨rfl, hb3⟩
  have hb03 := below_step hb1 hb3
  cases hth : lThere l name
  case false =>
    have HJ := Lib.hid (show lWho l name = (0, 0, 0) by rw [lWho, if_neg (by simpa using HE.out), if_pos (.inl hth)])
    clear hth
    go_wp2
    go_ret3
    exact ⟨by rw [HJ.out]; rfl, hb03⟩
  have hlt := lThere_lt hth
  have HT := Lib.hid hth
  clear hth
  have HJ1 := Lib.hid (show lWho l name = if lThere l name = false ∨ (l.getD (lFind l name) noLock).holder = 0 then (0, 0, 0) else ((l.getD (lFind l name) noLock).holder, (l.getD (lFind l name) noLock).fence, 0) by rw [lWho, if_neg (by simpa using HE.out)])
  generalize lFind l name = fi at *
  obtain ⟨b, off, cap', row, rfl, hS, hrow, hcells⟩ := (HH.out.below rLock_ok (by decide) hb03).row fi hlt
  have hgd : l.getD fi noLock = l[fi] := by simp [List.getD, hlt]
  rw [hgd] at HJ1
  clear hgd
  generalize l[fi] = x at *
  obtain ⟨rv, rfl, hrv⟩ := hrow
  have q1 := hcells 1 _ rfl
  have q2 := hcells 2 _ rfl
  clear hcells hrv
  by_cases h0 : x.holder = 0
  · have HJ := Lib.hid (HJ1.out.trans (if_pos (.inr h0)))
    have h0' : (x.holder == 0) = true := by simpa using h0
    clear h0
    go_wp2
    go_ret3
    exact ⟨by rw [HJ.out]; rfl, hb03⟩
  · have HJ := Lib.hid (HJ1.out.trans (if_neg (by rw [HT.out]; simp [h0])))
    have h0' : (x.holder == 0) = false := by simpa using h0
    clear h0
    go_wp2_with fail
    go_quiet (fail)
    go_wp2
    go_ret3
    exact ⟨by rw [HJ.out]; rfl, below_drewN hb03 _⟩
end Go.Proofs.YtkefgapnghnjjaaGreatDoor
