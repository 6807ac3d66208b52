/- Copy of locks: the same, in memory of the call's own, each element's apart from all others'. -/
import Derived.Test.YtcjnnkbliapkgaaCloneInt
import Derived.Test.YtcjnnkbliapkgaaData
namespace Go.Proofs.Ytcjnnkbliapkgaa
open Go.RowKit Go.Tk

theorem Try.tyyLock : SliceTy Try.prog 50 64 4 56 := ⟨Try.underlying50, by kernel_rfl, by decide⟩

theorem copyLock_step {EK E : Nat} {w wr w2 : World} {v rv : Value} {l2 : List (LockD × (Nat → Prop))} {x : LockD} (hown : OwR E 4 (rG (rLockO EK)) wr v l2 (fun b => w.heap.size ≤ b)) (hb : Below w.heap.size w wr) (X : Obj)
    (hb2 : Below (wr.alloc X).heap.size (wr.alloc X) w2) (ho2 : OwR EK 1 rInt w2 rv x.line (fun _ => False)) (hf2 : ∀ g, rv.ownBlock = some g → (wr.alloc X).heap.size ≤ g) :
    OwR E 4 (rG (rLockO EK)) (w2.setCell ⟨wr.heap.size, 3, none⟩ rv) v l2 (fun b => w.heap.size ≤ b) ∧ Below w.heap.size w (w2.setCell ⟨wr.heap.size, 3, none⟩ rv) ∧
    rG (rLockO EK) (w2.setCell ⟨wr.heap.size, 3, none⟩ rv) [.string ⟨x.name.toArray⟩, .int .i64 x.holder, .int .i64 x.fence, rv] (x, fun b => rv.ownBlock = some b) (fun b => w.heap.size ≤ b ∧ some b ≠ v.ownBlock) ∧
    (∀ y ∈ l2, ∀ b, y.2 b → ¬ rv.ownBlock = some b) := by
  have hws := hb.size
  have hbw : Below wr.heap.size wr (w2.setCell ⟨wr.heap.size, 3, none⟩ rv) := (((Below.refl _ _).alloc (Nat.le_refl _) X).trans (hb2.mono (by simp))).setCell (Nat.le_refl _) _
  have hne : ∀ g, rv.ownBlock = some g → g ≠ wr.heap.size := fun g hg => by have := hf2 g hg; simp at this; omega
  refine ⟨hown.below (rG_ok (rLockO_ok EK)) hbw, hb.trans (hbw.mono hws), ⟨⟨rv, rfl, ?_, fun g hg => hg⟩, fun b hbg => ⟨⟨?_, ?_⟩, ?_⟩⟩, fun y hy b hyb hrb => ?_⟩
  · exact ho2.move rInt_ok (fun g hg => Below.heap_setCell _ _ _ _ (hne g hg)) (fun b hb => hb.elim)
  · have := hf2 b hbg; simp at this; omega
  · intro hbv
    have := hown.lt b hbv.symm
    have := hf2 b hbg; simp at this; omega
  · simpa using ho2.lt b hbg
  · have h1 := hown.gLt y hy b hyb
    have := hf2 b hrb; simp at this; omega
set_option maxRecDepth 100000 in
set_option maxHeartbeats 800000 in
theorem copyLock_calls (w : World) (v : Value) (l : List LockD) (S : Nat → Prop) (h : SlR 4 rLock w v l S) (hn : l.length ≤ 1000000) (hin : ∀ x ∈ l, x.line.length ≤ 1000000) :
    Calls Try.prog 51 #[v] w fun e w' => ∃ v', e = .returned v' ∧ OwD 64 4 (rLockO 3) w' v' l (fun b => w.heap.size ≤ b) ∧ Below w.heap.size w w' ∧ (∀ g, v'.ownBlock = some g → w.heap.size ≤ g) := by
  obtain ⟨a, cap, hv, hl, hm, hnil, -⟩ := id h
  subst hv
  unfold maxLen at hm
  go_enter Try.func51, Try.ntmps51
  go_wp2
  go_loopw [3, 5, 8] (fun v _ i wr => ∃ (k : Nat) (l2 : List (LockD × (Nat → Prop))), k ≤ l.length ∧ i = .int .i64 k ∧ Hid (l2.map (·.1) = l.take k) ∧ Hid (Apart l2) ∧ OwR 64 4 (rG (rLockO 3)) wr v l2 (fun b => w.heap.size ≤ b) ∧
      Below w.heap.size w wr ∧ (∀ g, v.ownBlock = some g → w.heap.size ≤ g))
    (fun _ _ i _ => l.length - (intOf i).toNat)
  case atStart => exact ⟨0, [], by omega, rfl, rfl, Apart.nil, OwR.nil _ _, Below.refl _ _, by simp [Value.ownBlock]⟩
  case round =>
    obtain ⟨k, l2, hk, rfl, hmap, hap, hown, hb, hvb⟩ := hrel
    have hws := hb.size
    have hll : l2.length = k := by have := congrArg List.length hmap.out; simpa [Nat.min_eq_left hk] using this
    by_cases hlt : k < l.length
    · obtain ⟨b, off, cap', row, hv, hS, hrow, hcells⟩ := (h.below rLock_ok (by decide) hb).row k hlt
      simp only [Value.slice.injEq] at hv
      obtain ⟨rfl, _, rfl⟩ := hv
      have hxin := hin l[k] (List.getElem_mem hlt)
      have HM : Hid (l.take (k + 1) = l.take k ++ [l[k]]) := by show _ = _; rw [List.take_succ_eq_append_getElem hlt]
      generalize l[k] = x at *
      obtain ⟨rv, rfl, hrv⟩ := hrow
      obtain ⟨ra, rcap, rfl, -⟩ := id hrv
      have q0 := hcells 0 _ rfl
      have q1 := hcells 1 _ rfl
      have q2 := hcells 2 _ rfl
      have q3 := hcells 3 _ rfl
      simp only [Nat.add_zero] at q0
      clear hcells
      have hbl : b < wr.heap.size := World.block_lt_of_cell? wr _ q0
      have HL := Lib.hid hll
      clear hll h hS hin hnil
      go_wp2_with (first
        | (go_at_call 21; refine (cloneInt_calls rInt_ok _ _ _ _ (hrv.below rInt_ok (by decide) ((Below.refl _ _).alloc (Nat.le_refl _) _)) hxin).mono ?_; rintro e w2 ⟨rv', rfl, ho2, hb2, hz⟩; obtain ⟨hc2, hz2⟩ := bcell hb2; have hs2 := hb2.size; obtain ⟨ra2, rc2, rfl⟩ := ho2.shape)
        | (at_builtin; obtain ⟨k1, k2, k3, k4⟩ := copyLock_step (x := x) hown hb _ hb2 (ho2.forget (fun _ _ _ _ _ h => h)) hz; refine wpList_append_one Try.tyyLock (.tmp 16) (.tmp 18) rfl rfl (rG_ok (rLockO_ok _)) (x, _) rfl rfl (by simp) k1 k2 hvb k3 (by rw [HL.out]; omega) ?_; intro v' w' hown' hb' hvb'))
      go_roundw
      case rel =>
        refine ⟨k + 1, _, by omega, by go_num, ?_, ?_, hown', hb', hvb'⟩
        · show _ = _
          rw [HM.out, List.map_append, hmap.out]; rfl
        · exact hap.out.snoc _ fun y hy b hyb => by
            have h1 := hown.gLt y hy b hyb
            intro hrb
            have := hz b hrb
            simp at this; omega
      case measure => simp [intOf]; omega
    · obtain rfl : k = l.length := by omega
      have hF : Hid (l2.map (·.1) = l) := by have := hmap.out; rw [List.take_length] at this; exact this
      clear hmap h hnil
      go_wp2
      go_ret
      exact ⟨_, rfl, ⟨l2, hF.out, hap.out, hown⟩, hb, hvb⟩
end Go.Proofs.Ytcjnnkbliapkgaa
