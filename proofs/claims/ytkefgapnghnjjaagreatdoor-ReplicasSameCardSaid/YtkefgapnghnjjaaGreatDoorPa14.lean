/- A part of the proof, laid together from: CopyLock, ClonePair, IdxSess, MachA. -/
import Derived.Test.YtkefgapnghnjjaaGreatDoorPa13
import Derived.Test.YtkefgapnghnjjaaGreatDoorPa01
import Derived.Test.YtkefgapnghnjjaaGreatDoorRows
import Derived.Test.YtkefgapnghnjjaaGreatDoorPa07
import Derived.WalkLawsBesides
import Derived.KernelRfl
import Derived.Test.YtkefgapnghnjjaaGreatDoorPa02
import Derived.Test.YtkefgapnghnjjaaGreatDoorPa05
import Derived.Test.YtkefgapnghnjjaaGreatDoorPa12
import Derived.Test.YtkefgapnghnjjaaGreatDoorPa09
import Derived.Test.YtkefgapnghnjjaaGreatDoorPa08
import Derived.Deep.RegionLaw
import Derived.BigQuiet
import Derived.Deep.DeepCutAuto
import Derived.Deep.QuietTactic
set_option linter.unusedSimpArgs false
set_option linter.unusedVariables false
namespace Go.Proofs.YtkefgapnghnjjaaGreatDoor
open Go.RowKit Go.Tk
theorem Tryz.tyyLock : SliceTy Tryz.prog 32 50 4 56 := ⟨Tryz.underlying32, by kernel_rfl, by decide⟩
theorem copyLock_step {EK E : Nat} {w wr w2 : World} {v rv : Value} {l2 : List (LockD × (Nat → Prop))} {x : LockD} (hown : OwR E 4 (rG (rLockO EK)) wr v l2 (fun b => w.heap.size ≤ b)) (hb : Below w.heap.size w wr) (X : Obj)
    (hb2 : Below (wr.alloc X).heap.size (wr.alloc X) w2) (ho2 : OwR EK 1 rInt w2 rv x.line (fun _ => False)) (hf2 : ∀ g, rv.ownBlock = some g → (wr.alloc X).heap.size ≤ g) :
    OwR E 4 (rG (rLockO EK)) (w2.setCell ⟨wr.heap.size, 3, none⟩ rv) v l2 (fun b => w.heap.size ≤ b) ∧ Below w.heap.size w (w2.setCell ⟨wr.heap.size, 3, none⟩ rv) ∧
    rG (rLockO EK) (w2.setCell ⟨wr.heap.size, 3, none⟩ rv) [.string ⟨x.name.toArray⟩, .int .i64 x.holder, .int .i64 x.fence, rv] (x, fun b => rv.ownBlock = some b) (fun b => w.heap.size ≤ b ∧ some b ≠ v.ownBlock) ∧
    (∀ y ∈ l2, ∀ b, y.2 b → ¬ rv.ownBlock = some b) := by
  have hws := hb.size
  have hbw : Below wr.heap.size wr (w2.setCell ⟨wr.heap.size, 3, none⟩ rv) := (((Below.refl _ _).alloc (Nat.le_refl _) X).trans (hb2.mono (by simp))).setCell (Nat.le_refl _) _
  have hne : ∀ g, rv.ownBlock = some g → g ≠ wr.heap.size := fun g hg => by have := hf2 g hg; simp at this; omega
  refine ⟨hown.below (rG_ok (rLockO_ok EK)) hbw, hb.trans (hbw.mono hws), ⟨⟨rv, rfl, ?_, fun g hg => hg⟩, fun b hbg => ⟨⟨?_, ?_⟩, ?_⟩⟩, fun y hy b hyb hrb => ?_⟩
  · exact ho2.move rInt_ok (fun g hg => Below.heap_setCell _ _ _ _ (hne g hg)) (fun b hb => hb.elim)
  · have := hf2 b hbg; simp at this; omega
  · intro hbv
    have := hown.lt b hbv.symm
    have := hf2 b hbg; simp at this; omega
  · simpa using ho2.lt b hbg
  · have h1 := hown.gLt y hy b hyb
    have := hf2 b hrb; simp at this; omega
set_option maxRecDepth 100000 in
set_option maxHeartbeats 800000 in
theorem copyLock_calls (w : World) (v : Value) (l : List LockD) (S : Nat → Prop) (h : SlR 4 rLock w v l S) (hn : l.length ≤ 1000000) (hin : ∀ x ∈ l, x.line.length ≤ 1000000) :
    Calls Tryz.prog 75 #[v] w fun e w' => ∃ v', e = .returned v' ∧ OwD 50 4 (rLockO 3) w' v' l (fun b => w.heap.size ≤ b) ∧ Below w.heap.size w w' ∧ (∀ g, v'.ownBlock = some g → w.heap.size ≤ g) := by
  obtain ⟨a, cap, hv, hl, hm, hnil, -⟩ := id h
  subst hv
  unfold maxLen at hm
  go_enter Tryz.func75, Tryz.ntmps75
  go_wp2
  go_loopw [3, 5, 8] (fun v _ i wr => ∃ (k : Nat) (l2 : List (LockD × (Nat → Prop))), k ≤ l.length ∧ i = .int .i64 k ∧ Hid (l2.map (·.1) = l.take k) ∧ Hid (Apart l2) ∧ OwR 50 4 (rG (rLockO 3)) wr v l2 (fun b => w.heap.size ≤ b) ∧
      Below w.heap.size w wr ∧ (∀ g, v.ownBlock = some g → w.heap.size ≤ g))
    (fun _ _ i _ => l.length - (intOf i).toNat)
  case atStart => exact ⟨0, [], by omega, rfl, rfl, Apart.nil, OwR.nil _ _, Below.refl _ _, by simp [Value.ownBlock]⟩
  case round =>
    obtain ⟨k, l2, hk, rfl, hmap, hap, hown, hb, hvb⟩ := hrel
    have hws := hb.size
    have hll : l2.length = k := by have := congrArg List.length hmap.out; simpa [Nat.min_eq_left hk] using this
    by_cases hlt : k < l.length
    · obtain ⟨b, off, cap', row, hv, hS, hrow, hcells⟩ := (h.below rLock_ok (by decide) hb).row k hlt
      simp only [Value.slice.injEq] at hv
      obtain ⟨rfl, _, rfl⟩ := hv
      have hxin := hin l[k] (List.getElem_mem hlt)
      have HM : Hid (l.take (k + 1) = l.take k ++ [l[k]]) := by show _ = _; rw [List.take_succ_eq_append_getElem hlt]
      generalize l[k] = x at *
      obtain ⟨rv, rfl, hrv⟩ := hrow
      obtain ⟨ra, rcap, rfl, -⟩ := id hrv
      have q0 := hcells 0 _ rfl
      have q1 := hcells 1 _ rfl
      have q2 := hcells 2 _ rfl
      have q3 := hcells 3 _ rfl
      simp only [Nat.add_zero] at q0
      clear hcells
      have hbl : b < wr.heap.size := World.block_lt_of_cell? wr _ q0
      have HL := Lib.hid hll
      clear hll h hS hin hnil
      go_wp2_with (first
        | (go_at_call 119; refine (cloneInt_calls rInt_ok _ _ _ _ (hrv.below rInt_ok (by decide) ((Below.refl _ _).alloc (Nat.le_refl _) _)) hxin).mono ?_; rintro e w2 ⟨rv', rfl, ho2, hb2, hz⟩; obtain ⟨hc2, hz2⟩ := bcell hb2; have hs2 := hb2.size; obtain ⟨ra2, rc2, rfl⟩ := ho2.shape)
        | (at_builtin; obtain ⟨k1, k2, k3, k4⟩ := copyLock_step (x := x) hown hb _ hb2 (ho2.forget (fun _ _ _ _ _ h => h)) hz; refine wpList_append_one Tryz.tyyLock (.tmp 16) (.tmp 18) rfl rfl (rG_ok (rLockO_ok _)) (x, _) rfl rfl (by simp) k1 k2 hvb k3 (by rw [HL.out]; omega) ?_; intro v' w' hown' hb' hvb'))
      go_roundw
      case rel =>
        refine ⟨k + 1, _, by omega, by go_num, ?_, ?_, hown', hb', hvb'⟩
        · show _ = _
          rw [HM.out, List.map_append, hmap.out]; rfl
        · exact hap.out.snoc _ fun y hy b hyb => by
            have h1 := hown.gLt y hy b hyb
            intro hrb
            have := hz b hrb
            simp at this; omega
      case measure => simp [intOf]; omega
    · obtain rfl : k = l.length := by omega
      have hF : Hid (l2.map (·.1) = l) := by have := hmap.out; rw [List.take_length] at this; exact this
      clear hmap h hnil
      go_wp2
      go_ret
      exact ⟨_, rfl, ⟨l2, hF.out, hap.out, hown⟩, hb, hvb⟩
end Go.Proofs.YtkefgapnghnjjaaGreatDoor

namespace Go.Proofs.YtkefgapnghnjjaaGreatDoor
open Go.RowKit Go.Tk
theorem Tryz.tycPair : SliceTy Tryz.prog 33 57 3 40 := ⟨Tryz.underlying33, by kernel_rfl, by decide⟩
set_option maxRecDepth 100000 in
set_option maxHeartbeats 400000 in
theorem clonePair_calls {α : Type} {R : Rel α} (hR : RelOk R 3) (w : World) (v : Value) (l : List α) (S : Nat → Prop) (h : SlR 3 R w v l S) (hn : l.length ≤ 1000000) :
    Calls Tryz.prog 76 #[v] w fun e w' => ∃ v', e = .returned v' ∧ OwR 57 3 R w' v' l S ∧ Below w.heap.size w w' ∧ (∀ g, v'.ownBlock = some g → w.heap.size ≤ g) := by
  obtain ⟨a, cap, hv, hl, hm, hnil, hr⟩ := id h
  subst hv
  have hm' := hm
  unfold maxLen at hm'
  cases a with
  | none =>
    have h0 := hnil rfl
    subst h0
    have hl0 : l = [] := List.eq_nil_of_length_eq_zero (by omega)
    subst hl0
    have he := Lib.run_eql_slice_nil (P := Tryz.prog) (t := 33)
    go_enter Tryz.func76, Tryz.ntmps76
    go_wp2
    go_ret
    exact ⟨_, rfl, OwR.nil w S, Below.refl _ _, by simp [Value.ownBlock]⟩
  | some a =>
    obtain ⟨a', cap', rows, hv, -, -, hrl, hrel, hcells⟩ := h.rows hR (by decide)
    simp only [Value.slice.injEq] at hv
    obtain ⟨rfl, -, rfl⟩ := hv
    have hlen := OwR.rowsLen (E := 57) (v := .slice (some a) l.length cap) hR hrl hrel
    have hone := OwR.cellsOne (E := 57) hR hrl hrel
    have hfl : rows.flatten.length = l.length * 3 := by
      have : ∀ (rs : List (List Value)), (∀ r ∈ rs, r.length = 3) → rs.flatten.length = rs.length * 3 := by
        intro rs
        induction rs with
        | nil => intro _; rfl
        | cons r rs ih => intro hk; rw [List.flatten_cons, List.length_append, hk r (by simp), ih (fun r hr => hk r (by simp [hr]))]; simp; omega
      rw [this rows hlen, hrl]
    have hown0 : (w.alloc (.cells #[] 57)).ownsRow 0 57 3 (.slice (some ⟨w.heap.size, 0, none⟩) 0 0) 0 [] :=
      ⟨rfl, .inr ⟨w.heap.size, 0, #[], rfl, Nat.zero_le _, heap_alloc_new w _, Nat.le_refl _, by decide, rfl, rfl⟩⟩
    obtain ⟨v', w', hrun, g1, g2, g3⟩ := run_append_tk (P := Tryz.prog) (ty := 33) (w.alloc (.cells #[] 57)) Tryz.tycPair _ 0 [] hown0 a l.length cap rows.flatten hfl (fun j u hu => by
      obtain ⟨b, off, ha, _, hc⟩ := hcells j u hu
      simp only [Option.some.injEq] at ha
      subst ha
      have hlt := World.block_lt_of_cell? w _ hc
      rw [Addr.add_lit, World.cell?_alloc_past _ _ _ hlt]; exact hc) hone (by omega)
    have hvb : ∀ g, v'.ownBlock = some g → w.heap.size ≤ g := by
      intro g hg
      rcases g3 with e | ⟨g', e, h⟩
      · rw [e] at hg; cases hg; exact Nat.le_refl _
      · rw [e] at hg; cases hg; simp at h; omega
    have hb : Below w.heap.size w w' := ((Below.refl _ _).alloc (Nat.le_refl _) _).grown g2 (by simp) (fun k hk => by cases hk; exact Nat.le_refl _)
    have hfin : OwR 57 3 R w' v' l S := by
      refine ⟨rows, hrl, by simpa using g1, fun i r x hr hx => hR.move (hrel i r x hr hx) fun b hs hlt => ⟨hb.block b hlt, hs, ?_⟩⟩
      intro hbg
      have := hvb b hbg.symm
      omega
    have HF := Lib.hid hfin
    have HV := Lib.hid hvb
    have he := Lib.run_eql_slice_nil (P := Tryz.prog) (t := 33)
    clear hfin hvb g1 g2 g3 hcells hrel hlen hone hfl hown0 hr h hrl
    go_enter Tryz.func76, Tryz.ntmps76
    go_wp2_with (at_builtin; refine wpList_append_run rfl _ _ _ _ rfl _ _ rfl rfl hrun ?_)
    go_ret
    exact ⟨v', rfl, HF.out, hb, HV.out⟩
end Go.Proofs.YtkefgapnghnjjaaGreatDoor

namespace Go.Proofs.YtkefgapnghnjjaaGreatDoor
open Go.RowKit Go.Tk
def TellsSess (w : World) (r : Option Nat) (S : Nat → Prop) (c : Nat) (cap : Value) (p : SessionD → Bool) : Prop :=
  ∀ (w' : World) (x : SessionD) (rv : Value), w.grownBy w' r → rSession w' [.int .i64 x.client, .int .i64 x.id, .int .i64 x.acked, .int .i64 x.last, rv] x S → Calls Tryz.prog c #[.agg #[.int .i64 x.client, .int .i64 x.id, .int .i64 x.acked, .int .i64 x.last, rv], cap] w' fun e w'' => e = .returned (.bool (p x)) ∧ Below w'.heap.size w' w''
set_option maxRecDepth 100000 in
set_option maxHeartbeats 400000 in
theorem indexSess_calls (w : World) (v : Value) (l : List SessionD) (S : Nat → Prop) (h : SlR 5 rSession w v l S) (hn : l.length ≤ 1000000) (c : Nat) (cap : Value) (p : SessionD → Bool) (r : Option Nat) (hin : ∀ args w, (callFunc c args).run Tryz.prog w = .ok (.enter c args) w) (hp : TellsSess w r S c cap p) :
    Calls Tryz.prog 121 #[v, .func (.func c) #[] #[cap]] w fun e w' =>
      e = .returned (.int .i64 (fIdx p l)) ∧ Below w.heap.size w w' := by
  obtain ⟨a, vc, hv, hl, hm, hnil, -⟩ := id h
  subst hv
  unfold maxLen at hm
  have hlen : (l.length : Int) ≤ 1000000 := by omega
  go_enter Tryz.func121, Tryz.ntmps121
  go_wp2
  go_loopw [8] (fun i wr => ∃ n : Nat, n ≤ l.length ∧ i = .int .i64 n ∧ Hid (∀ (j : Nat) (hj : j < l.length), j < n → p l[j] = false) ∧ Below w.heap.size w wr)
    (fun i _ => l.length - (intOf i).toNat)
  case atStart => exact ⟨0, by omega, rfl, fun j _ hj => by omega, Below.refl _ _⟩
  case round =>
    obtain ⟨n, hnl, rfl, hall, hb⟩ := hrel
    have hws := hb.size
    by_cases hlt : n < l.length
    · obtain ⟨b, off, vc', row, hv, hS, hrow, hcells⟩ := (h.below rSession_ok (by decide) hb).row n hlt
      simp only [Value.slice.injEq] at hv
      obtain ⟨rfl, _, rfl⟩ := hv
      have HY : Hid (p l[n] = true → fIdx p l = n) := fun ht => fIdx_at hlt ht hall.out
      have HN : Hid (p l[n] = false → ∀ (j : Nat) (hj : j < l.length), j < n + 1 → p l[j] = false) := fun ht j hj hj1 => by
        rcases Nat.lt_or_ge j n with h | h
        · exact hall.out j hj h
        · obtain rfl : j = n := by omega
          exact ht
      clear hall
      generalize hxx : l[n] = x at *
      clear hxx
      have hrow' := hrow
      obtain ⟨rv, rfl, hrv⟩ := hrow
      obtain ⟨ra, rcap, rfl, -⟩ := id hrv
      have q0 := hcells 0 _ rfl
      have q1 := hcells 1 _ rfl
      have q2 := hcells 2 _ rfl
      have q3 := hcells 3 _ rfl
      have q4 := hcells 4 _ rfl
      simp only [Nat.add_zero] at q0
      clear hcells
      have HC := Lib.hid (hp _ _ _ (grownBy_any hb r) hrow')
      clear hrow' hp h
      by_cases hf : p x = true
      · have HF := Lib.hid (HY.out hf)
        go_wp2_with fail
        refine HC.out.mono ?_; rw [hf]; rintro e w2 ⟨rfl, hb2⟩
        go_wp2
        go_ret
        exact ⟨by rw [HF.out]; rfl, hb.trans (hb2.mono hws)⟩
      · have hf' : p x = false := by simpa using hf
        go_wp2_with fail
        refine HC.out.mono ?_; rw [hf']; rintro e w2 ⟨rfl, hb2⟩
        go_wp2
        go_roundw
        case rel => exact ⟨n + 1, by omega, by go_num, HN.out hf', hb.trans (hb2.mono hws)⟩
        case measure => simp [intOf]; omega
    · obtain rfl : n = l.length := by omega
      have HF : Hid (fIdx p l = -1) := fIdx_none fun j hj => hall.out j hj hj
      clear hall hp h
      go_wp2
      go_ret
      exact ⟨by rw [HF.out]; rfl, hb⟩
end Go.Proofs.YtkefgapnghnjjaaGreatDoor

namespace Go.Tk
open Go Go.RowKit
structure StAt (w : World) (s : StateD) (vl vp vs : Value) (S : Nat → Prop) : Prop where
  lock : SlR 4 rLock w vl s.locks S
  pair : SlR 3 rPair w vp s.pairs S
  sess : SlR 5 rSession w vs s.sessions S
theorem StAt.below {w w' : World} {s : StateD} {vl vp vs : Value} {S : Nat → Prop} (h : StAt w s vl vp vs S) (hb : Below w.heap.size w w') : StAt w' s vl vp vs S :=
  ⟨h.lock.below rLock_ok (by decide) hb, h.pair.below rPair_ok (by decide) hb, h.sess.below rSession_ok (by decide) hb⟩
theorem StAt.sub {w : World} {s : StateD} {vl vp vs : Value} {S S' : Nat → Prop} (h : StAt w s vl vp vs S) (hs : ∀ b, S b → b < w.heap.size → S' b) : StAt w s vl vp vs S' :=
  ⟨h.lock.sub rLock_ok (by decide) hs, h.pair.sub rPair_ok (by decide) hs, h.sess.sub rSession_ok (by decide) hs⟩
theorem StAt.move {w w' : World} {s : StateD} {vl vp vs : Value} {S S' : Nat → Prop} (h : StAt w s vl vp vs S) (hs : ∀ b, S b → b < w.heap.size → w'.heap[b]? = w.heap[b]? ∧ S' b) : StAt w' s vl vp vs S' :=
  ⟨h.lock.move rLock_ok (by decide) hs, h.pair.move rPair_ok (by decide) hs, h.sess.move rSession_ok (by decide) hs⟩
structure Fits (s : StateD) : Prop where
  line : ∀ x ∈ s.locks, x.line.length ≤ 1000000
  value : ∀ x ∈ s.pairs, x.value.length ≤ 1000000
  reps : ∀ x ∈ s.sessions, x.replies.length ≤ 1000000
  locks : s.locks.length ≤ 1000000
  pairs : s.pairs.length ≤ 1000000
  sess : s.sessions.length ≤ 1000000
theorem StOk.fits {s : StateD} (h : StOk s) : Fits s :=
  ⟨fun x hx => by have := (h.lock.line x hx).len; omega, fun x hx => by have := (h.pair.one x hx).size; omega, fun x hx => by have := replies_len (h.sess.rep x hx); omega,
   by have := h.lock.len; omega, by have := h.pair.len; omega, by have := h.sess.len; omega⟩
end Go.Tk
namespace Go.Proofs.YtkefgapnghnjjaaGreatDoor
open Go.RowKit Go.Tk
theorem containsSess_calls (w : World) (v : Value) (l : List SessionD) (S : Nat → Prop) (h : SlR 5 rSession w v l S) (hn : l.length ≤ 1000000) (c : Nat) (cap : Value) (hcap : cap.oneCell' = true) (p : SessionD → Bool) (r : Option Nat) (hin : ∀ args w, (callFunc c args).run Tryz.prog w = .ok (.enter c args) w) (hp : TellsSess w r S c cap p) :
    Calls Tryz.prog 80 #[v, .func (.func c) #[] #[cap]] w fun e w' => e = .returned (.bool (l.any p)) ∧ Below w.heap.size w w' := by
  have HF := Lib.hid (fIdx_any p l)
  have hone := h.oneCell
  have HC := Lib.hid (indexSess_calls w v l S h hn c cap p r hin hp)
  clear hin hp h
  go_enter Tryz.func80, Tryz.ntmps80
  go_wp2_with fail
  refine HC.out.mono ?_; rintro e w2 ⟨rfl, hb⟩
  go_wp2
  go_ret
  exact ⟨by rw [← HF.out]; rfl, hb⟩
set_option linter.unusedSimpArgs false in
set_option maxRecDepth 100000 in
set_option maxHeartbeats 1600000 in
theorem maCheck_calls (s : StateD) (vl vp vs : Value) (S : Nat → Prop) (w : World) (h : StAt w s vl vp vs S) (hf : Fits s) :
    Calls Tryz.prog 41 #[.agg #[.int .i64 s.index, vl, vp, vs]] w fun e w' => e = .returned (.int .i64 (maCheck s)) ∧ Below w.heap.size w w' := by
  have o1 := h.lock.oneCell
  have o2 := h.pair.oneCell
  have o3 := h.sess.oneCell
  have HS := Lib.hid h
  have HF := Lib.hid hf
  clear h hf
  go_enter Tryz.func41, Tryz.ntmps41
  go_wp2_with fail
  have HX := Lib.hid (BoxAt.new (w := w) (cs := [.int .i64 s.index, vl, vp, vs]) (E := 36))
  have HB := Lib.hid (below_alloc w (.cells #[.int .i64 s.index, vl, vp, vs] 36))
  replace HS := Lib.hid (HS.out.below HB.out)
  refine (sessCheck_calls s.sessions s.index vs S _ HS.out.sess).mono ?_
  generalize w.alloc (.cells #[.int .i64 s.index, vl, vp, vs] 36) = w0 at *
  rintro e w1 ⟨rfl, hb1⟩
  by_cases h1 : sessCheck s.sessions s.index = 0
  case neg =>
    have HV := Lib.hid (show maCheck s = sessCheck s.sessions s.index by rw [maCheck, if_pos h1])
    have h1' : (sessCheck s.sessions s.index != 0) = true := by simpa using h1
    clear h1
    go_wp2
    go_ret
    exact ⟨by rw [HV.out]; rfl, below_step HB.out hb1⟩
  rw [h1]
  have x0 := (HX.out.below hb1).cell 1 _ rfl
  go_wp2_with fail
  refine (lkCheck_calls s.locks vl S _ (HS.out.lock.below rLock_ok (by decide) hb1) HF.out.line).mono ?_
  rintro e w2 ⟨rfl, hb2⟩
  by_cases h2 : lkCheck s.locks = 0
  case neg =>
    have HV := Lib.hid (show maCheck s = lkCheck s.locks by rw [maCheck, if_neg (by simp [h1]), if_pos h2])
    have h2' : (lkCheck s.locks != 0) = true := by simpa using h2
    clear h1 h2 x0
    go_wp2
    go_ret
    exact ⟨by rw [HV.out]; rfl, below_step HB.out (below_step hb1 hb2)⟩
  have HV := Lib.hid (show maCheck s = prCheck s.pairs by rw [maCheck, if_neg (by simp [h1]), if_neg (by simp [h2])])
  rw [h2]
  clear x0 h1 h2
  have x0 := (HX.out.below (below_step hb1 hb2)).cell 2 _ rfl
  go_wp2_with fail
  refine (prCheck_calls s.pairs vp S _ (HS.out.pair.below rPair_ok (by decide) (below_step hb1 hb2)) HF.out.value).mono ?_
  rintro e w3 ⟨rfl, hb3⟩
  go_wp2
  go_ret
  exact ⟨by rw [HV.out]; rfl, below_step HB.out (below_step (below_step hb1 hb2) hb3)⟩
set_option linter.unusedSimpArgs false in
set_option maxRecDepth 100000 in
set_option maxHeartbeats 1600000 in
theorem maCopy_calls (s : StateD) (vl vp vs : Value) (S : Nat → Prop) (w : World) (h : StAt w s vl vp vs S) (hf : Fits s) :
    Calls Tryz.prog 42 #[.agg #[.int .i64 s.index, vl, vp, vs]] w fun e w' => ∃ vl' vp' vs', e = .returned (.agg #[.int .i64 s.index, vl', vp', vs']) ∧ StAt w' s vl' vp' vs' (fun b => w.heap.size ≤ b) ∧ Below w.heap.size w w' := by
  have o1 := h.lock.oneCell
  have o2 := h.pair.oneCell
  have o3 := h.sess.oneCell
  have HS := Lib.hid h
  have HF := Lib.hid hf
  clear h hf
  go_enter Tryz.func42, Tryz.ntmps42
  go_upto_region 1 with (fail)
  have HX := Lib.hid ((BoxAt.new (w := w) (cs := [.int .i64 s.index, vl, vp, vs]) (E := 36)).below (below_alloc _ (.cells #[.int .i64 0, .slice none 0 0, .slice none 0 0, .slice none 0 0] 36)))
  have hr := BoxAt.new (w := w.alloc (.cells #[.int .i64 s.index, vl, vp, vs] 36)) (cs := [.int .i64 0, .slice none 0 0, .slice none 0 0, .slice none 0 0]) (E := 36)
  rw [World.size_alloc] at hr
  have HR := Lib.hid hr
  have HB := Lib.hid (below_alloc2 w (.cells #[.int .i64 s.index, vl, vp, vs] 36) (.cells #[.int .i64 0, .slice none 0 0, .slice none 0 0, .slice none 0 0] 36))
  replace HS := Lib.hid (HS.out.below HB.out)
  have hlt := hr.lt
  clear hr
  have go : ∀ (A : Nat) (wz : World) (e : wz = (w.alloc (.cells #[.int .i64 s.index, vl, vp, vs] 36)).alloc (.cells #[.int .i64 0, .slice none 0 0, .slice none 0 0, .slice none 0 0] 36)), True := fun _ _ _ => trivial
  clear go
  generalize (w.alloc (.cells #[.int .i64 s.index, vl, vp, vs] 36)).alloc (.cells #[.int .i64 0, .slice none 0 0, .slice none 0 0, .slice none 0 0] 36) = w0 at *
  refine wp_region_plan 11 (fun wx => Below w0.heap.size w0 wx) (fun wx wy => Below wx.heap.size wx wy) [eqV (.pointer (some ⟨w.heap.size, 0, none⟩)), eqV (.int .i64 s.index), eqV (.pointer (some ⟨w.heap.size, 1, none⟩)), eqV (vl), fun v wx => SlR 4 rLock wx v s.locks (fun b => w0.heap.size ≤ b), eqV (.pointer (some ⟨w.heap.size, 2, none⟩)), eqV (vp), fun v wx => SlR 3 rPair wx v s.pairs (fun b => w0.heap.size ≤ b), eqV (.pointer (some ⟨w.heap.size, 3, none⟩)), eqV (vs), fun v wx => SlR 5 rSession wx v s.sessions (fun b => w0.heap.size ≤ b)] (by kernel_rfl) (by kernel_rfl) rfl ?hJ ?hJS ?hst ?hobl ?hend
  case hJ => exact Below.drew (Below.refl _ _)
  case hJS =>
    exact fun wx wy h1 h2 => below_step h1 h2
  case hst => exact planStab_at _ ⟨eqV_stab _, eqV_stab _, eqV_stab _, eqV_stab _, (by rintro v wx wy - h2 h3; exact h3.below rLock_ok (by decide) h2), eqV_stab _, eqV_stab _, (by rintro v wx wy - h2 h3; exact h3.below rPair_ok (by decide) h2), eqV_stab _, eqV_stab _, (by rintro v wx wy - h2 h3; exact h3.below rSession_ok (by decide) h2), trivial⟩
  case hobl =>
    simp only [planObls, List.take_succ_cons, List.take_zero, planPut, Act.put, List.setIfInBounds_toArray, List.set_cons_zero, List.set_cons_succ, Nat.reduceAdd, Nat.zero_add]
    refine ⟨?_, ?_, ?_, ?_, ?_, ?_, ?_, ?_, ?_, ?_, ?_, trivial⟩
    · intro vs1 wx hJ hn K hK
      simp [planNeeds, VAt, eqV, Region.binds] at hn
      simp only [VAt, eqV, List.getD_cons_zero, List.getD_cons_succ, Act.put, List.setIfInBounds_toArray, List.set_cons_zero, List.set_cons_succ, Nat.reduceAdd, Nat.zero_add] at hK
      go_wp2
      exact hK _ _ (Below.refl _ _) rfl
    · intro vs1 wx hJ hn K hK
      simp [planNeeds, VAt, eqV, Region.binds] at hn
      simp only [VAt, eqV, List.getD_cons_zero, List.getD_cons_succ, Act.put, List.setIfInBounds_toArray, List.set_cons_zero, List.set_cons_succ, Nat.reduceAdd, Nat.zero_add] at hK
      simp only [hn] at hK ⊢
      have x0 := (HX.out.below hJ).cell 0 _ rfl
      go_wp2
      exact hK _ _ (Below.refl _ _) rfl
    · intro vs1 wx hJ hn K hK
      simp [planNeeds, VAt, eqV, Region.binds] at hn
      simp only [VAt, eqV, List.getD_cons_zero, List.getD_cons_succ, Act.put, List.setIfInBounds_toArray, List.set_cons_zero, List.set_cons_succ, Nat.reduceAdd, Nat.zero_add] at hK
      go_wp2
      exact hK _ _ (Below.refl _ _) rfl
    · intro vs1 wx hJ hn K hK
      simp [planNeeds, VAt, eqV, Region.binds] at hn
      simp only [VAt, eqV, List.getD_cons_zero, List.getD_cons_succ, Act.put, List.setIfInBounds_toArray, List.set_cons_zero, List.set_cons_succ, Nat.reduceAdd, Nat.zero_add] at hK
      simp only [hn] at hK ⊢
      have x1 := (HX.out.below hJ).cell 1 _ rfl
      go_wp2
      exact hK _ _ (Below.refl _ _) rfl
    · intro vs1 wx hJ hn K hK
      simp [planNeeds, VAt, eqV, Region.binds] at hn
      simp only [VAt, eqV, List.getD_cons_zero, List.getD_cons_succ, Act.put, List.setIfInBounds_toArray, List.set_cons_zero, List.set_cons_succ, Nat.reduceAdd, Nat.zero_add] at hK
      simp only [hn] at hK ⊢
      have hsx := HS.out.below hJ
      go_wp2_with fail
      refine (copyLock_calls wx _ s.locks _ hsx.lock HF.out.locks HF.out.line).mono ?_; rintro e w2 ⟨v2, rfl, ho2, hb2, hg2⟩
      have hone2 := (ho2.readLock hg2).oneCell
      go_wp2
      exact hK _ _ hb2 ((ho2.readLock hg2).sub rLock_ok (by decide) fun b hb _ => Nat.le_trans hJ.size hb)
    · intro vs1 wx hJ hn K hK
      simp [planNeeds, VAt, eqV, Region.binds] at hn
      simp only [VAt, eqV, List.getD_cons_zero, List.getD_cons_succ, Act.put, List.setIfInBounds_toArray, List.set_cons_zero, List.set_cons_succ, Nat.reduceAdd, Nat.zero_add] at hK
      go_wp2
      exact hK _ _ (Below.refl _ _) rfl
    · intro vs1 wx hJ hn K hK
      simp [planNeeds, VAt, eqV, Region.binds] at hn
      simp only [VAt, eqV, List.getD_cons_zero, List.getD_cons_succ, Act.put, List.setIfInBounds_toArray, List.set_cons_zero, List.set_cons_succ, Nat.reduceAdd, Nat.zero_add] at hK
      simp only [hn] at hK ⊢
      have x2 := (HX.out.below hJ).cell 2 _ rfl
      go_wp2
      exact hK _ _ (Below.refl _ _) rfl
    · intro vs1 wx hJ hn K hK
      simp [planNeeds, VAt, eqV, Region.binds] at hn
      simp only [VAt, eqV, List.getD_cons_zero, List.getD_cons_succ, Act.put, List.setIfInBounds_toArray, List.set_cons_zero, List.set_cons_succ, Nat.reduceAdd, Nat.zero_add] at hK
      simp only [hn] at hK ⊢
      have hsx := HS.out.below hJ
      go_wp2_with fail
      refine (clonePair_calls rPair_ok wx _ s.pairs _ hsx.pair HF.out.pairs).mono ?_; rintro e w2 ⟨v2, rfl, ho2, hb2, hg2⟩
      have hone2 := ho2.oneCell
      go_wp2
      exact hK _ _ hb2 ((ho2.forget (S' := fun b => wx.heap.size ≤ b) (fun _ _ _ _ _ h => h)).read rPair_ok (by decide) hg2 |>.sub rPair_ok (by decide) fun b hb _ => Nat.le_trans hJ.size hb)
    · intro vs1 wx hJ hn K hK
      simp [planNeeds, VAt, eqV, Region.binds] at hn
      simp only [VAt, eqV, List.getD_cons_zero, List.getD_cons_succ, Act.put, List.setIfInBounds_toArray, List.set_cons_zero, List.set_cons_succ, Nat.reduceAdd, Nat.zero_add] at hK
      go_wp2
      exact hK _ _ (Below.refl _ _) rfl
    · intro vs1 wx hJ hn K hK
      simp [planNeeds, VAt, eqV, Region.binds] at hn
      simp only [VAt, eqV, List.getD_cons_zero, List.getD_cons_succ, Act.put, List.setIfInBounds_toArray, List.set_cons_zero, List.set_cons_succ, Nat.reduceAdd, Nat.zero_add] at hK
      simp only [hn] at hK ⊢
      have x3 := (HX.out.below hJ).cell 3 _ rfl
      go_wp2
      exact hK _ _ (Below.refl _ _) rfl
    · intro vs1 wx hJ hn K hK
      simp [planNeeds, VAt, eqV, Region.binds] at hn
      simp only [VAt, eqV, List.getD_cons_zero, List.getD_cons_succ, Act.put, List.setIfInBounds_toArray, List.set_cons_zero, List.set_cons_succ, Nat.reduceAdd, Nat.zero_add] at hK
      simp only [hn] at hK ⊢
      have hsx := HS.out.below hJ
      go_wp2_with fail
      refine (copySess_calls wx _ s.sessions _ hsx.sess HF.out.sess HF.out.reps).mono ?_; rintro e w2 ⟨v2, rfl, ho2, hb2, hg2⟩
      have hone2 := (ho2.readSess hg2).oneCell
      go_wp2
      exact hK _ _ hb2 ((ho2.readSess hg2).sub rSession_ok (by decide) fun b hb _ => Nat.le_trans hJ.size hb)
  case hend =>
    intro vs1 wx hJ hv
    simp [planHave, eqV] at hv
    obtain ⟨e0, e1, e2, e3, h4, e5, e6, h7, e8, e9, h10⟩ := hv
    simp only [List.take_succ_cons, List.take_zero, List.drop_succ_cons, List.drop_zero, planPut, Act.put, List.setIfInBounds_toArray, List.set_cons_zero, List.set_cons_succ, Nat.reduceAdd, Nat.zero_add]
    rw [e0, e1, e2, e3, e5, e6, e8, e9]
    clear e0 e1 e2 e3 e5 e6 e8 e9
    generalize vs1 4 = v4 at *; generalize vs1 7 = v7 at *; generalize vs1 10 = v10 at *
    obtain ⟨a4, k4, e4, -⟩ := id h4; obtain ⟨a7, k7, e7, -⟩ := id h7; obtain ⟨a10, k10, e10, -⟩ := id h10
    subst e4; subst e7; subst e10
    have hr := HR.out.below hJ
    have hlt2 : w.heap.size + 1 < wx.heap.size := hr.lt
    have HP := Lib.hid ((((hr.set 0 (by simp) (.int .i64 s.index)).set 1 (by simp) (.slice a4 s.locks.length k4)).set 2 (by simp) (.slice a7 s.pairs.length k7)).set 3 (by simp) (.slice a10 s.sessions.length k10))
    have z0 := hr.cell 0 _ rfl; have z1 := hr.cell 1 _ rfl; have z2 := hr.cell 2 _ rfl; have z3 := hr.cell 3 _ rfl
    have f0 := hr.thaw 0; have f1 := hr.thaw 1; have f2 := hr.thaw 2; have f3 := hr.thaw 3
    have HBF := Lib.hid ((HB.out.trans (hJ.mono HB.out.size)).trans (Below.mono (below_set (below_set (below_set (below_set (Below.refl (w.heap.size + 1) wx) (Nat.le_refl _) 0 (.int .i64 s.index)) (Nat.le_refl _) 1 (.slice a4 s.locks.length k4)) (Nat.le_refl _) 2 (.slice a7 s.pairs.length k7)) (Nat.le_refl _) 3 (.slice a10 s.sessions.length k10)) (Nat.le_succ _)))
    have hsz := HB.out.size
    have far : ∀ b, w0.heap.size ≤ b → ((((wx.setCell ⟨w.heap.size + 1, 0, none⟩ (.int .i64 s.index)).setCell ⟨w.heap.size + 1, 1, none⟩ (.slice a4 s.locks.length k4)).setCell ⟨w.heap.size + 1, 2, none⟩ (.slice a7 s.pairs.length k7)).setCell ⟨w.heap.size + 1, 3, none⟩ (.slice a10 s.sessions.length k10)).heap[b]? = wx.heap[b]? := fun b hb => (heap_far (by omega)).trans ((heap_far (by omega)).trans ((heap_far (by omega)).trans (heap_far (by omega))))
    have HSF := Lib.hid (StAt.move (w := wx) (w' := (((wx.setCell ⟨w.heap.size + 1, 0, none⟩ (.int .i64 s.index)).setCell ⟨w.heap.size + 1, 1, none⟩ (.slice a4 s.locks.length k4)).setCell ⟨w.heap.size + 1, 2, none⟩ (.slice a7 s.pairs.length k7)).setCell ⟨w.heap.size + 1, 3, none⟩ (.slice a10 s.sessions.length k10)) (s := s) (S' := fun b => w.heap.size ≤ b) (show StAt wx s (.slice a4 s.locks.length k4) (.slice a7 s.pairs.length k7) (.slice a10 s.sessions.length k10) (fun b => w0.heap.size ≤ b) from ⟨h4, h7, h10⟩) fun b hb _ => ⟨far b hb, by show _ ≤ _; have : w0.heap.size ≤ b := hb; omega⟩)
    clear hr far h4 h7 h10 HR
    go_wp2
    generalize (((wx.setCell ⟨w.heap.size + 1, 0, none⟩ (.int .i64 s.index)).setCell ⟨w.heap.size + 1, 1, none⟩ (.slice a4 s.locks.length k4)).setCell ⟨w.heap.size + 1, 2, none⟩ (.slice a7 s.pairs.length k7)).setCell ⟨w.heap.size + 1, 3, none⟩ (.slice a10 s.sessions.length k10) = wf at *
    have p0 := HP.out.cell 0 _ rfl; have p1 := HP.out.cell 1 _ rfl; have p2 := HP.out.cell 2 _ rfl; have p3 := HP.out.cell 3 _ rfl
    refine bodyPost_ret (v := .agg #[.int .i64 s.index, (.slice a4 s.locks.length k4), (.slice a7 s.pairs.length k7), (.slice a10 s.sessions.length k10)]) (by simp [results, Tryz.results42, go_sem, p0, p1, p2, p3]) rfl ⟨_, _, _, rfl, HSF.out, HBF.out⟩
end Go.Proofs.YtkefgapnghnjjaaGreatDoor
