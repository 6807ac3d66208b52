/- A part of the proof, laid together from: MachA, BSearchLock, BSearchLockW. -/
import Derived.Test.YtcmmenmjclgjmaaGreatDoorPa08
import Derived.Test.YtcmmenmjclgjmaaGreatDoorPa11
import Derived.Test.YtcmmenmjclgjmaaGreatDoorPa12
import Derived.Test.YtcmmenmjclgjmaaGreatDoorPa13
import Derived.Test.YtcmmenmjclgjmaaGreatDoorPa14
import Derived.Deep.RegionLaw
import Derived.BigQuiet
import Derived.Deep.DeepCutAuto
import Derived.Deep.QuietTactic
import Derived.Test.YtcmmenmjclgjmaaGreatDoorRows
import Derived.Test.YtcmmenmjclgjmaaGreatDoorPa09
import Derived.Test.YtcmmenmjclgjmaaGreatDoorPa02
import Derived.Test.YtcmmenmjclgjmaaGreatDoorPa03
import Derived.WalkLawsBesides
set_option linter.unusedSimpArgs false
set_option linter.unusedVariables false
/- machine.Check, machine.Copy; a session among sessions. -/
namespace Go.Tk
open Go Go.RowKit
/-- A state's parts in memory. -/
structure StAt (w : World) (s : StateD) (vl vp vs : Value) (S : Nat → Prop) : Prop where
  lock : SlR 4 rLock w vl s.locks S
  pair : SlR 3 rPair w vp s.pairs S
  sess : SlR 5 rSession w vs s.sessions S
theorem StAt.below {w w' : World} {s : StateD} {vl vp vs : Value} {S : Nat → Prop} (h : StAt w s vl vp vs S) (hb : Below w.heap.size w w') : StAt w' s vl vp vs S :=
  ⟨h.lock.below rLock_ok (by decide) hb, h.pair.below rPair_ok (by decide) hb, h.sess.below rSession_ok (by decide) hb⟩
theorem StAt.sub {w : World} {s : StateD} {vl vp vs : Value} {S S' : Nat → Prop} (h : StAt w s vl vp vs S) (hs : ∀ b, S b → b < w.heap.size → S' b) : StAt w s vl vp vs S' :=
  ⟨h.lock.sub rLock_ok (by decide) hs, h.pair.sub rPair_ok (by decide) hs, h.sess.sub rSession_ok (by decide) hs⟩
theorem StAt.move {w w' : World} {s : StateD} {vl vp vs : Value} {S S' : Nat → Prop} (h : StAt w s vl vp vs S) (hs : ∀ b, S b → b < w.heap.size → w'.heap[b]? = w.heap[b]? ∧ S' b) : StAt w' s vl vp vs S' :=
  ⟨h.lock.move rLock_ok (by decide) hs, h.pair.move rPair_ok (by decide) hs, h.sess.move rSession_ok (by decide) hs⟩
/-- Lengths that a machine holds. -/
structure Fits (s : StateD) : Prop where
  line : ∀ x ∈ s.locks, x.line.length ≤ 1000000
  value : ∀ x ∈ s.pairs, x.value.length ≤ 1000000
  reps : ∀ x ∈ s.sessions, x.replies.length ≤ 1000000
  locks : s.locks.length ≤ 1000000
  pairs : s.pairs.length ≤ 1000000
  sess : s.sessions.length ≤ 1000000
theorem StOk.fits {s : StateD} (h : StOk s) : Fits s :=
  ⟨fun x hx => by have := (h.lock.line x hx).len; omega, fun x hx => by have := (h.pair.one x hx).size; omega, fun x hx => by have := replies_len (h.sess.rep x hx); omega,
   by have := h.lock.len; omega, by have := h.pair.len; omega, by have := h.sess.len; omega⟩
end Go.Tk
namespace Go.Proofs.YtcmmenmjclgjmaaGreatDoor
open Go.RowKit Go.Tk

theorem containsSess_calls (w : World) (v : Value) (l : List SessionD) (S : Nat → Prop) (h : SlR 5 rSession w v l S) (hn : l.length ≤ 1000000) (c : Nat) (cap : Value) (hcap : cap.oneCell' = true) (p : SessionD → Bool) (r : Option Nat) (hin : ∀ args w, (callFunc c args).run Tryz.prog w = .ok (.enter c args) w) (hp : TellsSess w r S c cap p) :
    Calls Tryz.prog 11 #[v, .func (.func c) #[] #[cap]] w fun e w' => e = .returned (.bool (l.any p)) ∧ Below w.heap.size w w' := by
  have HF := Lib.hid (fIdx_any p l)
  have hone := h.oneCell
  have HC := Lib.hid (indexSess_calls w v l S h hn c cap p r hin hp)
  clear hin hp h
  go_enter Tryz.func11, Tryz.ntmps11
  go_wp2_with fail
  refine HC.out.mono ?_; rintro e w2 ⟨rfl, hb⟩
  go_wp2
  go_ret
  exact ⟨by rw [← HF.out]; rfl, hb⟩

set_option linter.unusedSimpArgs false in
set_option maxRecDepth 100000 in
set_option maxHeartbeats 1600000 in
theorem maCheck_calls (s : StateD) (vl vp vs : Value) (S : Nat → Prop) (w : World) (h : StAt w s vl vp vs S) (hf : Fits s) :
    Calls Tryz.prog 13 #[.agg #[.int .i64 s.index, vl, vp, vs]] w fun e w' => e = .returned (.int .i64 (maCheck s)) ∧ Below w.heap.size w w' := by
  have o1 := h.lock.oneCell
  have o2 := h.pair.oneCell
  have o3 := h.sess.oneCell
  have HS := Lib.hid h
  have HF := Lib.hid hf
  clear h hf
  go_enter Tryz.func13, Tryz.ntmps13
  go_wp2_with fail
  have HX := Lib.hid (BoxAt.new (w := w) (cs := [.int .i64 s.index, vl, vp, vs]) (E := 27))
  have HB := Lib.hid (below_alloc w (.cells #[.int .i64 s.index, vl, vp, vs] 27))
  replace HS := Lib.hid (HS.out.below HB.out)
  refine (sessCheck_calls s.sessions s.index vs S _ HS.out.sess).mono ?_
  generalize w.alloc (.cells #[.int .i64 s.index, vl, vp, vs] 27) = w0 at *
  rintro e w1 ⟨rfl, hb1⟩
  by_cases h1 : sessCheck s.sessions s.index = 0
  case neg =>
    have HV := Lib.hid (show maCheck s = sessCheck s.sessions s.index by rw [maCheck, if_pos h1])
    have h1' : (sessCheck s.sessions s.index != 0) = true := by simpa using h1
    clear h1
    go_wp2
    go_ret
    exact ⟨by rw [HV.out]; rfl, below_step HB.out hb1⟩
  rw [h1]
  have x0 := (HX.out.below hb1).cell 1 _ rfl
  go_wp2_with fail
  refine (lkCheck_calls s.locks vl S _ (HS.out.lock.below rLock_ok (by decide) hb1) HF.out.line).mono ?_
  rintro e w2 ⟨rfl, hb2⟩
  by_cases h2 : lkCheck s.locks = 0
  case neg =>
    have HV := Lib.hid (show maCheck s = lkCheck s.locks by rw [maCheck, if_neg (by simp [h1]), if_pos h2])
    have h2' : (lkCheck s.locks != 0) = true := by simpa using h2
    clear h1 h2 x0
    go_wp2
    go_ret
    exact ⟨by rw [HV.out]; rfl, below_step HB.out (below_step hb1 hb2)⟩
  have HV := Lib.hid (show maCheck s = prCheck s.pairs by rw [maCheck, if_neg (by simp [h1]), if_neg (by simp [h2])])
  rw [h2]
  clear x0 h1 h2
  have x0 := (HX.out.below (below_step hb1 hb2)).cell 2 _ rfl
  go_wp2_with fail
  refine (prCheck_calls s.pairs vp S _ (HS.out.pair.below rPair_ok (by decide) (below_step hb1 hb2)) HF.out.value).mono ?_
  rintro e w3 ⟨rfl, hb3⟩
  go_wp2
  go_ret
  exact ⟨by rw [HV.out]; rfl, below_step HB.out (below_step (below_step hb1 hb2) hb3)⟩

set_option linter.unusedSimpArgs false in
set_option maxRecDepth 100000 in
set_option maxHeartbeats 1600000 in
theorem maCopy_calls (s : StateD) (vl vp vs : Value) (S : Nat → Prop) (w : World) (h : StAt w s vl vp vs S) (hf : Fits s) :
    Calls Tryz.prog 14 #[.agg #[.int .i64 s.index, vl, vp, vs]] w fun e w' => ∃ vl' vp' vs', e = .returned (.agg #[.int .i64 s.index, vl', vp', vs']) ∧ StAt w' s vl' vp' vs' (fun b => w.heap.size ≤ b) ∧ Below w.heap.size w w' := by
  have o1 := h.lock.oneCell
  have o2 := h.pair.oneCell
  have o3 := h.sess.oneCell
  have HS := Lib.hid h
  have HF := Lib.hid hf
  clear h hf
  go_enter Tryz.func14, Tryz.ntmps14
  go_upto_region 1 with (fail)
  have HX := Lib.hid ((BoxAt.new (w := w) (cs := [.int .i64 s.index, vl, vp, vs]) (E := 27)).below (below_alloc _ (.cells #[.int .i64 0, .slice none 0 0, .slice none 0 0, .slice none 0 0] 27)))
  have hr := BoxAt.new (w := w.alloc (.cells #[.int .i64 s.index, vl, vp, vs] 27)) (cs := [.int .i64 0, .slice none 0 0, .slice none 0 0, .slice none 0 0]) (E := 27)
  rw [World.size_alloc] at hr
  have HR := Lib.hid hr
  have HB := Lib.hid (below_alloc2 w (.cells #[.int .i64 s.index, vl, vp, vs] 27) (.cells #[.int .i64 0, .slice none 0 0, .slice none 0 0, .slice none 0 0] 27))
  replace HS := Lib.hid (HS.out.below HB.out)
  have hlt := hr.lt
  clear hr
  have go : ∀ (A : Nat) (wz : World) (e : wz = (w.alloc (.cells #[.int .i64 s.index, vl, vp, vs] 27)).alloc (.cells #[.int .i64 0, .slice none 0 0, .slice none 0 0, .slice none 0 0] 27)), True := fun _ _ _ => trivial
  clear go
  generalize (w.alloc (.cells #[.int .i64 s.index, vl, vp, vs] 27)).alloc (.cells #[.int .i64 0, .slice none 0 0, .slice none 0 0, .slice none 0 0] 27) = w0 at *
  refine wp_region_plan 11 (fun wx => Below w0.heap.size w0 wx) (fun wx wy => Below wx.heap.size wx wy) [eqV (.pointer (some ⟨w.heap.size, 0, none⟩)), eqV (.int .i64 s.index), eqV (.pointer (some ⟨w.heap.size, 1, none⟩)), eqV (vl), fun v wx => SlR 4 rLock wx v s.locks (fun b => w0.heap.size ≤ b), eqV (.pointer (some ⟨w.heap.size, 2, none⟩)), eqV (vp), fun v wx => SlR 3 rPair wx v s.pairs (fun b => w0.heap.size ≤ b), eqV (.pointer (some ⟨w.heap.size, 3, none⟩)), eqV (vs), fun v wx => SlR 5 rSession wx v s.sessions (fun b => w0.heap.size ≤ b)] (by kernel_rfl) (by kernel_rfl) rfl ?hJ ?hJS ?hst ?hobl ?hend
  case hJ => exact Below.drew (Below.refl _ _)
  case hJS =>
    exact fun wx wy h1 h2 => below_step h1 h2
  case hst => exact planStab_at _ ⟨eqV_stab _, eqV_stab _, eqV_stab _, eqV_stab _, (by rintro v wx wy - h2 h3; exact h3.below rLock_ok (by decide) h2), eqV_stab _, eqV_stab _, (by rintro v wx wy - h2 h3; exact h3.below rPair_ok (by decide) h2), eqV_stab _, eqV_stab _, (by rintro v wx wy - h2 h3; exact h3.below rSession_ok (by decide) h2), trivial⟩
  case hobl =>
    simp only [planObls, List.take_succ_cons, List.take_zero, planPut, Act.put, List.setIfInBounds_toArray, List.set_cons_zero, List.set_cons_succ, Nat.reduceAdd, Nat.zero_add]
    refine ⟨?_, ?_, ?_, ?_, ?_, ?_, ?_, ?_, ?_, ?_, ?_, trivial⟩
    · intro vs1 wx hJ hn K hK
      simp [planNeeds, VAt, eqV, Region.binds] at hn
      simp only [VAt, eqV, List.getD_cons_zero, List.getD_cons_succ, Act.put, List.setIfInBounds_toArray, List.set_cons_zero, List.set_cons_succ, Nat.reduceAdd, Nat.zero_add] at hK
      go_wp2
      exact hK _ _ (Below.refl _ _) rfl
    · intro vs1 wx hJ hn K hK
      simp [planNeeds, VAt, eqV, Region.binds] at hn
      simp only [VAt, eqV, List.getD_cons_zero, List.getD_cons_succ, Act.put, List.setIfInBounds_toArray, List.set_cons_zero, List.set_cons_succ, Nat.reduceAdd, Nat.zero_add] at hK
      simp only [hn] at hK ⊢
      have x0 := (HX.out.below hJ).cell 0 _ rfl
      go_wp2
      exact hK _ _ (Below.refl _ _) rfl
    · intro vs1 wx hJ hn K hK
      simp [planNeeds, VAt, eqV, Region.binds] at hn
      simp only [VAt, eqV, List.getD_cons_zero, List.getD_cons_succ, Act.put, List.setIfInBounds_toArray, List.set_cons_zero, List.set_cons_succ, Nat.reduceAdd, Nat.zero_add] at hK
      go_wp2
      exact hK _ _ (Below.refl _ _) rfl
    · intro vs1 wx hJ hn K hK
      simp [planNeeds, VAt, eqV, Region.binds] at hn
      simp only [VAt, eqV, List.getD_cons_zero, List.getD_cons_succ, Act.put, List.setIfInBounds_toArray, List.set_cons_zero, List.set_cons_succ, Nat.reduceAdd, Nat.zero_add] at hK
      simp only [hn] at hK ⊢
      have x1 := (HX.out.below hJ).cell 1 _ rfl
      go_wp2
      exact hK _ _ (Below.refl _ _) rfl
    · intro vs1 wx hJ hn K hK
      simp [planNeeds, VAt, eqV, Region.binds] at hn
      simp only [VAt, eqV, List.getD_cons_zero, List.getD_cons_succ, Act.put, List.setIfInBounds_toArray, List.set_cons_zero, List.set_cons_succ, Nat.reduceAdd, Nat.zero_add] at hK
      simp only [hn] at hK ⊢
      have hsx := HS.out.below hJ
      go_wp2_with fail
      refine (copyLock_calls wx _ s.locks _ hsx.lock HF.out.locks HF.out.line).mono ?_; rintro e w2 ⟨v2, rfl, ho2, hb2, hg2⟩
      have hone2 := (ho2.readLock hg2).oneCell
      go_wp2
      exact hK _ _ hb2 ((ho2.readLock hg2).sub rLock_ok (by decide) fun b hb _ => Nat.le_trans hJ.size hb)
    · intro vs1 wx hJ hn K hK
      simp [planNeeds, VAt, eqV, Region.binds] at hn
      simp only [VAt, eqV, List.getD_cons_zero, List.getD_cons_succ, Act.put, List.setIfInBounds_toArray, List.set_cons_zero, List.set_cons_succ, Nat.reduceAdd, Nat.zero_add] at hK
      go_wp2
      exact hK _ _ (Below.refl _ _) rfl
    · intro vs1 wx hJ hn K hK
      simp [planNeeds, VAt, eqV, Region.binds] at hn
      simp only [VAt, eqV, List.getD_cons_zero, List.getD_cons_succ, Act.put, List.setIfInBounds_toArray, List.set_cons_zero, List.set_cons_succ, Nat.reduceAdd, Nat.zero_add] at hK
      simp only [hn] at hK ⊢
      have x2 := (HX.out.below hJ).cell 2 _ rfl
      go_wp2
      exact hK _ _ (Below.refl _ _) rfl
    · intro vs1 wx hJ hn K hK
      simp [planNeeds, VAt, eqV, Region.binds] at hn
      simp only [VAt, eqV, List.getD_cons_zero, List.getD_cons_succ, Act.put, List.setIfInBounds_toArray, List.set_cons_zero, List.set_cons_succ, Nat.reduceAdd, Nat.zero_add] at hK
      simp only [hn] at hK ⊢
      have hsx := HS.out.below hJ
      go_wp2_with fail
      refine (clonePair_calls rPair_ok wx _ s.pairs _ hsx.pair HF.out.pairs).mono ?_; rintro e w2 ⟨v2, rfl, ho2, hb2, hg2⟩
      have hone2 := ho2.oneCell
      go_wp2
      exact hK _ _ hb2 ((ho2.forget (S' := fun b => wx.heap.size ≤ b) (fun _ _ _ _ _ h => h)).read rPair_ok (by decide) hg2 |>.sub rPair_ok (by decide) fun b hb _ => Nat.le_trans hJ.size hb)
    · intro vs1 wx hJ hn K hK
      simp [planNeeds, VAt, eqV, Region.binds] at hn
      simp only [VAt, eqV, List.getD_cons_zero, List.getD_cons_succ, Act.put, List.setIfInBounds_toArray, List.set_cons_zero, List.set_cons_succ, Nat.reduceAdd, Nat.zero_add] at hK
      go_wp2
      exact hK _ _ (Below.refl _ _) rfl
    · intro vs1 wx hJ hn K hK
      simp [planNeeds, VAt, eqV, Region.binds] at hn
      simp only [VAt, eqV, List.getD_cons_zero, List.getD_cons_succ, Act.put, List.setIfInBounds_toArray, List.set_cons_zero, List.set_cons_succ, Nat.reduceAdd, Nat.zero_add] at hK
      simp only [hn] at hK ⊢
      have x3 := (HX.out.below hJ).cell 3 _ rfl
      go_wp2
      exact hK _ _ (Below.refl _ _) rfl
    · intro vs1 wx hJ hn K hK
      simp [planNeeds, VAt, eqV, Region.binds] at hn
      simp only [VAt, eqV, List.getD_cons_zero, List.getD_cons_succ, Act.put, List.setIfInBounds_toArray, List.set_cons_zero, List.set_cons_succ, Nat.reduceAdd, Nat.zero_add] at hK
      simp only [hn] at hK ⊢
      have hsx := HS.out.below hJ
      go_wp2_with fail
      refine (copySess_calls wx _ s.sessions _ hsx.sess HF.out.sess HF.out.reps).mono ?_; rintro e w2 ⟨v2, rfl, ho2, hb2, hg2⟩
      have hone2 := (ho2.readSess hg2).oneCell
      go_wp2
      exact hK _ _ hb2 ((ho2.readSess hg2).sub rSession_ok (by decide) fun b hb _ => Nat.le_trans hJ.size hb)
  case hend =>
    intro vs1 wx hJ hv
    simp [planHave, eqV] at hv
    obtain ⟨e0, e1, e2, e3, h4, e5, e6, h7, e8, e9, h10⟩ := hv
    simp only [List.take_succ_cons, List.take_zero, List.drop_succ_cons, List.drop_zero, planPut, Act.put, List.setIfInBounds_toArray, List.set_cons_zero, List.set_cons_succ, Nat.reduceAdd, Nat.zero_add]
    rw [e0, e1, e2, e3, e5, e6, e8, e9]
    clear e0 e1 e2 e3 e5 e6 e8 e9
    generalize vs1 4 = v4 at *; generalize vs1 7 = v7 at *; generalize vs1 10 = v10 at *
    obtain ⟨a4, k4, e4, -⟩ := id h4; obtain ⟨a7, k7, e7, -⟩ := id h7; obtain ⟨a10, k10, e10, -⟩ := id h10
    subst e4; subst e7; subst e10
    have hr := HR.out.below hJ
    have hlt2 : w.heap.size + 1 < wx.heap.size := hr.lt
    have HP := Lib.hid ((((hr.set 0 (by simp) (.int .i64 s.index)).set 1 (by simp) (.slice a4 s.locks.length k4)).set 2 (by simp) (.slice a7 s.pairs.length k7)).set 3 (by simp) (.slice a10 s.sessions.length k10))
    have z0 := hr.cell 0 _ rfl; have z1 := hr.cell 1 _ rfl; have z2 := hr.cell 2 _ rfl; have z3 := hr.cell 3 _ rfl
    have f0 := hr.thaw 0; have f1 := hr.thaw 1; have f2 := hr.thaw 2; have f3 := hr.thaw 3
    have HBF := Lib.hid ((HB.out.trans (hJ.mono HB.out.size)).trans (Below.mono (below_set (below_set (below_set (below_set (Below.refl (w.heap.size + 1) wx) (Nat.le_refl _) 0 (.int .i64 s.index)) (Nat.le_refl _) 1 (.slice a4 s.locks.length k4)) (Nat.le_refl _) 2 (.slice a7 s.pairs.length k7)) (Nat.le_refl _) 3 (.slice a10 s.sessions.length k10)) (Nat.le_succ _)))
    have hsz := HB.out.size
    have far : ∀ b, w0.heap.size ≤ b → ((((wx.setCell ⟨w.heap.size + 1, 0, none⟩ (.int .i64 s.index)).setCell ⟨w.heap.size + 1, 1, none⟩ (.slice a4 s.locks.length k4)).setCell ⟨w.heap.size + 1, 2, none⟩ (.slice a7 s.pairs.length k7)).setCell ⟨w.heap.size + 1, 3, none⟩ (.slice a10 s.sessions.length k10)).heap[b]? = wx.heap[b]? := fun b hb => (heap_far (by omega)).trans ((heap_far (by omega)).trans ((heap_far (by omega)).trans (heap_far (by omega))))
    have HSF := Lib.hid (StAt.move (w := wx) (w' := (((wx.setCell ⟨w.heap.size + 1, 0, none⟩ (.int .i64 s.index)).setCell ⟨w.heap.size + 1, 1, none⟩ (.slice a4 s.locks.length k4)).setCell ⟨w.heap.size + 1, 2, none⟩ (.slice a7 s.pairs.length k7)).setCell ⟨w.heap.size + 1, 3, none⟩ (.slice a10 s.sessions.length k10)) (s := s) (S' := fun b => w.heap.size ≤ b) (show StAt wx s (.slice a4 s.locks.length k4) (.slice a7 s.pairs.length k7) (.slice a10 s.sessions.length k10) (fun b => w0.heap.size ≤ b) from ⟨h4, h7, h10⟩) fun b hb _ => ⟨far b hb, by show _ ≤ _; have : w0.heap.size ≤ b := hb; omega⟩)
    clear hr far h4 h7 h10 HR
    go_wp2
    generalize (((wx.setCell ⟨w.heap.size + 1, 0, none⟩ (.int .i64 s.index)).setCell ⟨w.heap.size + 1, 1, none⟩ (.slice a4 s.locks.length k4)).setCell ⟨w.heap.size + 1, 2, none⟩ (.slice a7 s.pairs.length k7)).setCell ⟨w.heap.size + 1, 3, none⟩ (.slice a10 s.sessions.length k10) = wf at *
    have p0 := HP.out.cell 0 _ rfl; have p1 := HP.out.cell 1 _ rfl; have p2 := HP.out.cell 2 _ rfl; have p3 := HP.out.cell 3 _ rfl
    refine bodyPost_ret (v := .agg #[.int .i64 s.index, (.slice a4 s.locks.length k4), (.slice a7 s.pairs.length k7), (.slice a10 s.sessions.length k10)]) (by simp [results, Tryz.results14, go_sem, p0, p1, p2, p3]) rfl ⟨_, _, _, rfl, HSF.out, HBF.out⟩
end Go.Proofs.YtcmmenmjclgjmaaGreatDoor

/- slices.BinarySearchFunc over locks, with the program's own comparison. -/
namespace Go.Proofs.YtcmmenmjclgjmaaGreatDoor
open Go.RowKit Go.Tk

set_option maxRecDepth 100000 in
theorem cmpLock_calls (w : World) (x : LockD) (t : List UInt8) (rv : Value) (hrv : rv.oneCell' = true) :
    Calls Tryz.prog 124 #[.agg #[.string ⟨x.name.toArray⟩, .int .i64 x.holder, .int .i64 x.fence, rv], .string ⟨t.toArray⟩] w fun e w' => e = .returned (.int .i64 (lockCmp x t)) ∧ Below w.heap.size w w' := by
  go_enter Tryz.func124, Tryz.ntmps124
  go_wp2_with fail
  refine (compare_calls x.name t _).mono ?_; rintro e w' ⟨rfl, rfl⟩
  go_wp2
  go_ret
  exact ⟨rfl, (Below.refl _ _).alloc (Nat.le_refl _) _⟩
set_option maxRecDepth 100000 in
set_option maxHeartbeats 400000 in
theorem searchLock_calls (w : World) (v : Value) (l : List LockD) (S : Nat → Prop) (h : SlR 4 rLock w v l S) (hn : l.length ≤ 1000000) (t : List UInt8) :
    Calls Tryz.prog 43 #[v, .string ⟨t.toArray⟩, .func (.func 124) #[] #[]] w fun e w' =>
      e = .returned (.tuple #[.int .i64 (bs (fun i => lockCmp (l.getD i noLock) t) l.length : Nat), .bool (bsFound (fun i => lockCmp (l.getD i noLock) t) l.length)]) ∧ Below w.heap.size w w' := by
  obtain ⟨a, cap, hv, hl, hm, hnil, -⟩ := id h
  subst hv
  unfold maxLen at hm
  go_enter Tryz.func43, Tryz.ntmps43
  go_wp2
  go_loopw [9, 10, 11] (fun i j _ wr => ∃ p q : Nat, p ≤ q ∧ q ≤ l.length ∧ i = .int .i64 p ∧ j = .int .i64 q ∧ Hid (bsGo (fun i => lockCmp (l.getD i noLock) t) (q - p) p q = bs (fun i => lockCmp (l.getD i noLock) t) l.length) ∧ Below w.heap.size w wr)
    (fun i j _ _ => (intOf j).toNat - (intOf i).toNat)
  case atStart => exact ⟨0, l.length, by omega, by omega, rfl, rfl, rfl, Below.refl _ _⟩
  case round =>
    obtain ⟨p, q, hpq, hql, rfl, rfl, hgo, hb⟩ := hrel
    by_cases hlt : p < q
    · have hml : (p + q) / 2 < l.length := by omega
      obtain ⟨b, off, cap', row, hv, hS, hrow, hcells⟩ := (h.below rLock_ok (by decide) hb).row ((p + q) / 2) hml
      simp only [Value.slice.injEq] at hv
      obtain ⟨rfl, _, rfl⟩ := hv
      have hg : l.getD ((p + q) / 2) noLock = l[(p + q) / 2] := by simp [List.getD, hml]

      have HL : Hid (lockCmp l[(p + q) / 2] t < 0 → bsGo (fun i => lockCmp (l.getD i noLock) t) (q - ((p + q) / 2 + 1)) ((p + q) / 2 + 1) q = bs (fun i => lockCmp (l.getD i noLock) t) l.length) := fun hf => by
        rw [← bsGo_less _ hlt (by show lockCmp (l.getD ((p + q) / 2) noLock) t < 0; rw [hg]; exact hf)]; exact hgo.out
      have HM : Hid (¬ lockCmp l[(p + q) / 2] t < 0 → bsGo (fun i => lockCmp (l.getD i noLock) t) ((p + q) / 2 - p) p ((p + q) / 2) = bs (fun i => lockCmp (l.getD i noLock) t) l.length) := fun hf => by
        rw [← bsGo_more _ hlt (by show ¬ lockCmp (l.getD ((p + q) / 2) noLock) t < 0; rw [hg]; exact hf)]; exact hgo.out
      clear hgo hg
      generalize l[(p + q) / 2] = x at *
      obtain ⟨rv, rfl, hrv⟩ := hrow
      obtain ⟨ra, rcap, rfl, -⟩ := id hrv
      have q0 := hcells 0 _ rfl
      have q1 := hcells 1 _ rfl
      have q2 := hcells 2 _ rfl
      have q3 := hcells 3 _ rfl
      simp only [Nat.add_zero] at q0
      clear hcells
      have hws := hb.size
      by_cases hf : lockCmp x t < 0
      all_goals (have HF := Lib.hid hf)
      · go_wp2_with (go_at_call 124; refine (cmpLock_calls _ x t _ rfl).mono ?_; rintro e w2 ⟨rfl, hb2⟩)
        go_roundw
        case rel => exact ⟨(p + q) / 2 + 1, q, by omega, hql, by go_num, rfl, HL.out HF.out, hb.trans (hb2.mono hws)⟩
        case measure => simp [intOf]; omega
      · go_wp2_with (go_at_call 124; refine (cmpLock_calls _ x t _ rfl).mono ?_; rintro e w2 ⟨rfl, hb2⟩)
        go_roundw
        case rel => exact ⟨p, (p + q) / 2, by omega, by omega, rfl, by go_num, HM.out HF.out, hb.trans (hb2.mono hws)⟩
        case measure => simp [intOf]; omega
    · obtain rfl : p = q := by omega
      have HP : Hid (bs (fun i => lockCmp (l.getD i noLock) t) l.length = p) := by have := hgo.out; rw [Nat.sub_self] at this; exact this.symm
      clear hgo
      have hws := hb.size
      by_cases hml : p < l.length
      · obtain ⟨b, off, cap', row, hv, hS, hrow, hcells⟩ := (h.below rLock_ok (by decide) hb).row p hml
        simp only [Value.slice.injEq] at hv
        obtain ⟨rfl, _, rfl⟩ := hv
        have HG : Hid (bsFound (fun i => lockCmp (l.getD i noLock) t) l.length = (lockCmp l[p] t == 0)) := by
          show _ = _
          rw [bsFound, HP.out, decide_eq_true hml, show l.getD p noLock = l[p] by simp [List.getD, hml]]; rfl
        skip
        clear h
        generalize l[p] = x at *
        obtain ⟨rv, rfl, hrv⟩ := hrow
        obtain ⟨ra, rcap, rfl, -⟩ := id hrv
        have q0 := hcells 0 _ rfl
        have q1 := hcells 1 _ rfl
        have q2 := hcells 2 _ rfl
        have q3 := hcells 3 _ rfl
        simp only [Nat.add_zero] at q0
        clear hcells
        go_wp2_with (go_at_call 124; refine (cmpLock_calls _ x t _ rfl).mono ?_; rintro e w2 ⟨rfl, hb2⟩)
        go_ret2
        exact ⟨ends2 (by rw [HP.out]; rfl) (by rw [HG.out]; rfl), hb.trans (hb2.mono hws)⟩
      · have HG : Hid (bsFound (fun i => lockCmp (l.getD i noLock) t) l.length = false) := by
          show _ = _
          rw [bsFound, HP.out, decide_eq_false hml]; rfl
        clear h
        go_wp2
        go_ret2
        exact ⟨ends2 (by rw [HP.out]; rfl) (by rw [HG.out]; rfl), hb⟩
end Go.Proofs.YtcmmenmjclgjmaaGreatDoor

/- slices.BinarySearchFunc over locks, with the program's own comparison. -/
namespace Go.Proofs.YtcmmenmjclgjmaaGreatDoor
open Go.RowKit Go.Tk

set_option maxRecDepth 100000 in
theorem cmpLockW_calls (w : World) (x : LockD) (t : List UInt8) (rv : Value) (hrv : rv.oneCell' = true) :
    Calls Tryz.prog 44 #[.agg #[.string ⟨x.name.toArray⟩, .int .i64 x.holder, .int .i64 x.fence, rv], .string ⟨t.toArray⟩] w fun e w' => e = .returned (.int .i64 (lockCmp x t)) ∧ Below w.heap.size w w' := by
  go_enter Tryz.func44, Tryz.ntmps44
  go_wp2_with fail
  refine (compare_calls x.name t _).mono ?_; rintro e w' ⟨rfl, rfl⟩
  go_wp2
  go_ret
  exact ⟨rfl, (Below.refl _ _).alloc (Nat.le_refl _) _⟩
set_option maxRecDepth 100000 in
set_option maxHeartbeats 400000 in
theorem searchLockW_calls (w : World) (v : Value) (l : List LockD) (S : Nat → Prop) (h : SlR 4 rLock w v l S) (hn : l.length ≤ 1000000) (t : List UInt8) :
    Calls Tryz.prog 43 #[v, .string ⟨t.toArray⟩, .func (.func 44) #[] #[]] w fun e w' =>
      e = .returned (.tuple #[.int .i64 (bs (fun i => lockCmp (l.getD i noLock) t) l.length : Nat), .bool (bsFound (fun i => lockCmp (l.getD i noLock) t) l.length)]) ∧ Below w.heap.size w w' := by
  obtain ⟨a, cap, hv, hl, hm, hnil, -⟩ := id h
  subst hv
  unfold maxLen at hm
  go_enter Tryz.func43, Tryz.ntmps43
  go_wp2
  go_loopw [9, 10, 11] (fun i j _ wr => ∃ p q : Nat, p ≤ q ∧ q ≤ l.length ∧ i = .int .i64 p ∧ j = .int .i64 q ∧ Hid (bsGo (fun i => lockCmp (l.getD i noLock) t) (q - p) p q = bs (fun i => lockCmp (l.getD i noLock) t) l.length) ∧ Below w.heap.size w wr)
    (fun i j _ _ => (intOf j).toNat - (intOf i).toNat)
  case atStart => exact ⟨0, l.length, by omega, by omega, rfl, rfl, rfl, Below.refl _ _⟩
  case round =>
    obtain ⟨p, q, hpq, hql, rfl, rfl, hgo, hb⟩ := hrel
    by_cases hlt : p < q
    · have hml : (p + q) / 2 < l.length := by omega
      obtain ⟨b, off, cap', row, hv, hS, hrow, hcells⟩ := (h.below rLock_ok (by decide) hb).row ((p + q) / 2) hml
      simp only [Value.slice.injEq] at hv
      obtain ⟨rfl, _, rfl⟩ := hv
      have hg : l.getD ((p + q) / 2) noLock = l[(p + q) / 2] := by simp [List.getD, hml]

      have HL : Hid (lockCmp l[(p + q) / 2] t < 0 → bsGo (fun i => lockCmp (l.getD i noLock) t) (q - ((p + q) / 2 + 1)) ((p + q) / 2 + 1) q = bs (fun i => lockCmp (l.getD i noLock) t) l.length) := fun hf => by
        rw [← bsGo_less _ hlt (by show lockCmp (l.getD ((p + q) / 2) noLock) t < 0; rw [hg]; exact hf)]; exact hgo.out
      have HM : Hid (¬ lockCmp l[(p + q) / 2] t < 0 → bsGo (fun i => lockCmp (l.getD i noLock) t) ((p + q) / 2 - p) p ((p + q) / 2) = bs (fun i => lockCmp (l.getD i noLock) t) l.length) := fun hf => by
        rw [← bsGo_more _ hlt (by show ¬ lockCmp (l.getD ((p + q) / 2) noLock) t < 0; rw [hg]; exact hf)]; exact hgo.out
      clear hgo hg
      generalize l[(p + q) / 2] = x at *
      obtain ⟨rv, rfl, hrv⟩ := hrow
      obtain ⟨ra, rcap, rfl, -⟩ := id hrv
      have q0 := hcells 0 _ rfl
      have q1 := hcells 1 _ rfl
      have q2 := hcells 2 _ rfl
      have q3 := hcells 3 _ rfl
      simp only [Nat.add_zero] at q0
      clear hcells
      have hws := hb.size
      by_cases hf : lockCmp x t < 0
      all_goals (have HF := Lib.hid hf)
      · go_wp2_with (go_at_call 44; refine (cmpLockW_calls _ x t _ rfl).mono ?_; rintro e w2 ⟨rfl, hb2⟩)
        go_roundw
        case rel => exact ⟨(p + q) / 2 + 1, q, by omega, hql, by go_num, rfl, HL.out HF.out, hb.trans (hb2.mono hws)⟩
        case measure => simp [intOf]; omega
      · go_wp2_with (go_at_call 44; refine (cmpLockW_calls _ x t _ rfl).mono ?_; rintro e w2 ⟨rfl, hb2⟩)
        go_roundw
        case rel => exact ⟨p, (p + q) / 2, by omega, by omega, rfl, by go_num, HM.out HF.out, hb.trans (hb2.mono hws)⟩
        case measure => simp [intOf]; omega
    · obtain rfl : p = q := by omega
      have HP : Hid (bs (fun i => lockCmp (l.getD i noLock) t) l.length = p) := by have := hgo.out; rw [Nat.sub_self] at this; exact this.symm
      clear hgo
      have hws := hb.size
      by_cases hml : p < l.length
      · obtain ⟨b, off, cap', row, hv, hS, hrow, hcells⟩ := (h.below rLock_ok (by decide) hb).row p hml
        simp only [Value.slice.injEq] at hv
        obtain ⟨rfl, _, rfl⟩ := hv
        have HG : Hid (bsFound (fun i => lockCmp (l.getD i noLock) t) l.length = (lockCmp l[p] t == 0)) := by
          show _ = _
          rw [bsFound, HP.out, decide_eq_true hml, show l.getD p noLock = l[p] by simp [List.getD, hml]]; rfl
        skip
        clear h
        generalize l[p] = x at *
        obtain ⟨rv, rfl, hrv⟩ := hrow
        obtain ⟨ra, rcap, rfl, -⟩ := id hrv
        have q0 := hcells 0 _ rfl
        have q1 := hcells 1 _ rfl
        have q2 := hcells 2 _ rfl
        have q3 := hcells 3 _ rfl
        simp only [Nat.add_zero] at q0
        clear hcells
        go_wp2_with (go_at_call 44; refine (cmpLockW_calls _ x t _ rfl).mono ?_; rintro e w2 ⟨rfl, hb2⟩)
        go_ret2
        exact ⟨ends2 (by rw [HP.out]; rfl) (by rw [HG.out]; rfl), hb.trans (hb2.mono hws)⟩
      · have HG : Hid (bsFound (fun i => lockCmp (l.getD i noLock) t) l.length = false) := by
          show _ = _
          rw [bsFound, HP.out, decide_eq_false hml]; rfl
        clear h
        go_wp2
        go_ret2
        exact ⟨ends2 (by rw [HP.out]; rfl) (by rw [HG.out]; rfl), hb⟩
end Go.Proofs.YtcmmenmjclgjmaaGreatDoor
