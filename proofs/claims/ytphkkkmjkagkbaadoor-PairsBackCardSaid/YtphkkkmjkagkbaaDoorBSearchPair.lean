/- slices.BinarySearchFunc over pairs, with the program's own comparison. -/
import Derived.Test.YtphkkkmjkagkbaaDoorRows
import Derived.Test.YtphkkkmjkagkbaaDoorSlice
import Derived.Test.YtphkkkmjkagkbaaDoorData
import Derived.Test.YtphkkkmjkagkbaaDoorSearchP
import Derived.Test.YtphkkkmjkagkbaaDoorStrs
import Derived.Test.YtphkkkmjkagkbaaDoorPairP
import Derived.WalkLawsBesides
import Derived.BigQuiet
import Derived.Deep.QuietTactic
namespace Go.Proofs.YtphkkkmjkagkbaaDoor
open Go.RowKit Go.Tk

set_option maxRecDepth 100000 in
theorem cmpPair_calls (w : World) (x : PairD) (t : List UInt8) :
    Calls Tryd.prog 54 #[.agg #[.string ⟨x.name.toArray⟩, .string ⟨x.value.toArray⟩, .int .i64 x.version], .string ⟨t.toArray⟩] w fun e w' => e = .returned (.int .i64 (pairCmp x t)) ∧ Below w.heap.size w w' := by
  go_enter Tryd.func54, Tryd.ntmps54
  go_wp2_with fail
  refine (compare_calls x.name t _).mono ?_; rintro e w' ⟨rfl, rfl⟩
  go_wp2
  go_ret
  exact ⟨rfl, (Below.refl _ _).alloc (Nat.le_refl _) _⟩
set_option maxRecDepth 100000 in
set_option maxHeartbeats 400000 in
theorem searchPair_calls (w : World) (v : Value) (l : List PairD) (S : Nat → Prop) (h : SlR 3 rPair w v l S) (hn : l.length ≤ 1000000) (t : List UInt8) :
    Calls Tryd.prog 53 #[v, .string ⟨t.toArray⟩, .func (.func 54) #[] #[]] w fun e w' =>
      e = .returned (.tuple #[.int .i64 (bs (fun i => pairCmp (l.getD i noPair) t) l.length : Nat), .bool (bsFound (fun i => pairCmp (l.getD i noPair) t) l.length)]) ∧ Below w.heap.size w w' := by
  obtain ⟨a, cap, hv, hl, hm, hnil, -⟩ := id h
  subst hv
  unfold maxLen at hm
  go_enter Tryd.func53, Tryd.ntmps53
  go_wp2
  go_loopw [9, 10, 11] (fun i j _ wr => ∃ p q : Nat, p ≤ q ∧ q ≤ l.length ∧ i = .int .i64 p ∧ j = .int .i64 q ∧ Hid (bsGo (fun i => pairCmp (l.getD i noPair) t) (q - p) p q = bs (fun i => pairCmp (l.getD i noPair) t) l.length) ∧ Below w.heap.size w wr)
    (fun i j _ _ => (intOf j).toNat - (intOf i).toNat)
  case atStart => exact ⟨0, l.length, by omega, by omega, rfl, rfl, rfl, Below.refl _ _⟩
  case round =>
    obtain ⟨p, q, hpq, hql, rfl, rfl, hgo, hb⟩ := hrel
    by_cases hlt : p < q
    · have hml : (p + q) / 2 < l.length := by omega
      obtain ⟨b, off, cap', row, hv, hS, hrow, hcells⟩ := (h.below rPair_ok (by decide) hb).row ((p + q) / 2) hml
      simp only [Value.slice.injEq] at hv
      obtain ⟨rfl, _, rfl⟩ := hv
      have hg : l.getD ((p + q) / 2) noPair = l[(p + q) / 2] := by simp [List.getD, hml]

      have HL : Hid (pairCmp l[(p + q) / 2] t < 0 → bsGo (fun i => pairCmp (l.getD i noPair) t) (q - ((p + q) / 2 + 1)) ((p + q) / 2 + 1) q = bs (fun i => pairCmp (l.getD i noPair) t) l.length) := fun hf => by
        rw [← bsGo_less _ hlt (by show pairCmp (l.getD ((p + q) / 2) noPair) t < 0; rw [hg]; exact hf)]; exact hgo.out
      have HM : Hid (¬ pairCmp l[(p + q) / 2] t < 0 → bsGo (fun i => pairCmp (l.getD i noPair) t) ((p + q) / 2 - p) p ((p + q) / 2) = bs (fun i => pairCmp (l.getD i noPair) t) l.length) := fun hf => by
        rw [← bsGo_more _ hlt (by show ¬ pairCmp (l.getD ((p + q) / 2) noPair) t < 0; rw [hg]; exact hf)]; exact hgo.out
      clear hgo hg
      generalize l[(p + q) / 2] = x at *
      obtain rfl := hrow
      have q0 := hcells 0 _ rfl
      have q1 := hcells 1 _ rfl
      have q2 := hcells 2 _ rfl
      simp only [Nat.add_zero] at q0
      clear hcells
      have hws := hb.size
      by_cases hf : pairCmp x t < 0
      all_goals (have HF := Lib.hid hf)
      · go_wp2_with (go_at_call 54; refine (cmpPair_calls _ x t ).mono ?_; rintro e w2 ⟨rfl, hb2⟩)
        go_roundw
        case rel => exact ⟨(p + q) / 2 + 1, q, by omega, hql, by go_num, rfl, HL.out HF.out, hb.trans (hb2.mono hws)⟩
        case measure => simp [intOf]; omega
      · go_wp2_with (go_at_call 54; refine (cmpPair_calls _ x t ).mono ?_; rintro e w2 ⟨rfl, hb2⟩)
        go_roundw
        case rel => exact ⟨p, (p + q) / 2, by omega, by omega, rfl, by go_num, HM.out HF.out, hb.trans (hb2.mono hws)⟩
        case measure => simp [intOf]; omega
    · obtain rfl : p = q := by omega
      have HP : Hid (bs (fun i => pairCmp (l.getD i noPair) t) l.length = p) := by have := hgo.out; rw [Nat.sub_self] at this; exact this.symm
      clear hgo
      have hws := hb.size
      by_cases hml : p < l.length
      · obtain ⟨b, off, cap', row, hv, hS, hrow, hcells⟩ := (h.below rPair_ok (by decide) hb).row p hml
        simp only [Value.slice.injEq] at hv
        obtain ⟨rfl, _, rfl⟩ := hv
        have HG : Hid (bsFound (fun i => pairCmp (l.getD i noPair) t) l.length = (pairCmp l[p] t == 0)) := by
          show _ = _
          rw [bsFound, HP.out, decide_eq_true hml, show l.getD p noPair = l[p] by simp [List.getD, hml]]; rfl
        skip
        clear h
        generalize l[p] = x at *
        obtain rfl := hrow
        have q0 := hcells 0 _ rfl
        have q1 := hcells 1 _ rfl
        have q2 := hcells 2 _ rfl
        simp only [Nat.add_zero] at q0
        clear hcells
        go_wp2_with (go_at_call 54; refine (cmpPair_calls _ x t ).mono ?_; rintro e w2 ⟨rfl, hb2⟩)
        go_ret2
        exact ⟨ends2 (by rw [HP.out]; rfl) (by rw [HG.out]; rfl), hb.trans (hb2.mono hws)⟩
      · have HG : Hid (bsFound (fun i => pairCmp (l.getD i noPair) t) l.length = false) := by
          show _ = _
          rw [bsFound, HP.out, decide_eq_false hml]; rfl
        clear h
        go_wp2
        go_ret2
        exact ⟨ends2 (by rw [HP.out]; rfl) (by rw [HG.out]; rfl), hb⟩
end Go.Proofs.YtphkkkmjkagkbaaDoor
