/- GoneAll: who is gone has no lock, and stands in no line; what others had they have still, or more; no condition. -/
import Derived.Test.YtcjnnkbliapkgaaLocks
import Derived.Test.YtcjnnkbliapkgaaRaw
import Derived.ProofKit
import Derived.OpenShut
namespace Go.Tk
open Go Go.RowKit
theorem unline_not {x : LockD} {a : Int} (h : LkOne x) : a ∉ (unline x a).line ∧ (∀ y ∈ (unline x a).line, y ∈ x.line) ∧ (unline x a).holder = x.holder ∧ (unline x a).fence = x.fence := by
  rcases fIdx_cases (fun y => a == y) x.line with ⟨hi, hall⟩ | ⟨n, hn, hi, hp, -⟩
  · rw [unline_neg hi]
    exact ⟨fun hm => by have := hall a hm; simp at this, fun y hy => hy, rfl, rfl⟩
  · rw [unline_pos hi]
    refine ⟨fun hm => ?_, fun y hy => (List.eraseIdx_sublist _ _).subset hy, rfl, rfl⟩
    have hm' : a ∈ x.line.eraseIdx n := hm
    rw [List.mem_eraseIdx_iff_getElem] at hm'
    obtain ⟨i, hi2, hne, he⟩ := hm'
    simp only [beq_iff_eq] at hp
    have hnd := List.pairwise_iff_getElem.1 h.line.nodup
    rcases Nat.lt_or_gt_of_ne hne with h1 | h1
    · exact hnd i n hi2 hn h1 (by rw [he, hp])
    · exact hnd n i hn hi2 h1 (by rw [he, hp])
theorem gone_gone {x : LockD} {a : Int} (h : LkOne x) (ha : 1 ≤ a) : (goneK x a).holder ≠ a ∧ a ∉ (goneK x a).line ∧ (x.holder ≠ 0 → x.holder ≠ a → (goneK x a).holder = x.holder) ∧ x.fence ≤ (goneK x a).fence := by
  obtain ⟨h1, h2, h3, h4⟩ := unline_not (a := a) h
  unfold goneK
  by_cases hh : (unline x a).holder = a
  · rw [if_pos hh]
    refine ⟨?_, ?_, fun _ hne => absurd (h3.symm.trans hh) hne, ?_⟩
    · unfold passP
      split
      · rename_i hc
        intro he
        have hm0 := List.getElem_mem hc.1
        have he' : (unline x a).line[0] = a := by
          rw [← show (unline x a).line.getD 0 0 = (unline x a).line[0] by simp [List.getD, hc.1]]; exact he
        rw [he'] at hm0
        exact h1 hm0
      · show (0 : Int) ≠ a; omega
    · unfold passP
      split
      · exact fun hm => h1 (List.mem_of_mem_drop hm)
      · simp
    · unfold passP
      split
      · show x.fence ≤ (unline x a).fence + 1; omega
      · show x.fence ≤ (unline x a).fence; omega
  · rw [if_neg hh]
    exact ⟨hh, h1, fun _ _ => h3, by omega⟩
end Go.Tk
namespace Go.Proofs.Ytcjnnkbliapkgaa
open Go.RowKit Go.Tk
open Go.ChangeShapes Go.WideShapes Go.ChangeAt
open Go.WideMaps Go.WideElems
open Go.ChangeMaps (setBlock shut_map_nil open_string shut_string keptBut_setBlock frozen?_setBlock heap_setBlock_same)

set_option maxRecDepth 100000 in
set_option maxHeartbeats 400000 in
theorem indexInt_same (w : World) (v : Value) (l : List Int) (S : Nat → Prop) (h : SlR 1 rInt w v l S) (hn : l.length ≤ 1000000) (t : Int) (hall : ∀ x ∈ l, (t == x) = false) :
    Calls Try.prog 44 #[v, .int .i64 t] w fun e w' => e = .returned (.int .i64 (-1)) ∧ w' = w := by
  obtain ⟨a, vc, hv, hl, hm, hnil, -⟩ := id h
  subst hv
  unfold maxLen at hm
  have hlen : (l.length : Int) ≤ 1000000 := by omega
  have HA := Lib.hid hall
  clear hall
  go_enter Try.func44, Try.ntmps44
  go_wp2
  go_loop [8] (fun i => ∃ n : Nat, n ≤ l.length ∧ i = .int .i64 n) (fun i => l.length - (intOf i).toNat)
  case atStart => exact ⟨0, by omega, rfl⟩
  case round =>
    obtain ⟨n, hnl, rfl⟩ := hrel
    by_cases hlt : n < l.length
    · obtain ⟨b, off, vc', row, hv, hS, hrow, hcells⟩ := h.row n hlt
      simp only [Value.slice.injEq] at hv
      obtain ⟨rfl, _, rfl⟩ := hv
      have hf := HA.out l[n] (List.getElem_mem hlt)
      generalize hxx : l[n] = x at *
      clear hxx
      obtain rfl := hrow
      have q0 := hcells 0 _ rfl
      simp only [Nat.add_zero, Nat.mul_one] at q0
      clear hcells h
      go_wp2
      go_round
      case rel => exact ⟨n + 1, by omega, by go_num⟩
      case measure => simp [intOf]; omega
    · obtain rfl : n = l.length := by omega
      clear h
      go_wp2
      go_ret
      exact ⟨rfl, rfl⟩
theorem containsInt_same (w : World) (v : Value) (l : List Int) (S : Nat → Prop) (h : SlR 1 rInt w v l S) (hn : l.length ≤ 1000000) (t : Int) (hall : t ∉ l) :
    Calls Try.prog 27 #[v, .int .i64 t] w fun e w' => e = .returned (.bool false) ∧ w' = w := by
  have HC := Lib.hid (indexInt_same w v l S h hn t (fun x hx => by rw [beq_eq_false_iff_ne]; rintro rfl; exact hall hx))
  go_enter Try.func27, Try.ntmps27
  go_wp2_with fail
  refine HC.out.mono ?_; rintro e w2 ⟨rfl, rfl⟩
  go_wp2
  go_ret
  exact ⟨rfl, rfl⟩

set_option maxRecDepth 100000 in
set_option maxHeartbeats 1600000 in
theorem goneAll_calls (l : List RawD) (v : Value) (S : Nat → Prop) (w : World) (h : SlR 4 rRaw w v l S) (hr : ∀ x ∈ l, RawOk x) (m : Int) (hm : -9223372036854775808 ≤ m) (hm2 : m ≤ 9223372036854775807) :
    Calls Try.prog 8 #[v, .int .i64 m] w fun e w' => e = .returned (.bool true) ∧ Below w.heap.size w w' := by
  obtain ⟨p, hp, hp0, hp1⟩ : ∃ p, picked m 5 = p ∧ 0 ≤ p ∧ p < 5 := ⟨_, rfl, picked_range _ _ (by decide)⟩
  have HP := Lib.hid hp
  have HH := Lib.hid h
  have HRR := Lib.hid hr
  clear hp h hr
  obtain ⟨a, ha⟩ : ∃ a, 1 + p = a := ⟨_, rfl⟩
  have hw1 : IntKind.i64.wrap (1 + p) = a := (IntWalk.i64_in _ (by omega)).trans ha
  have ha1 : 1 ≤ a ∧ a ≤ 9 := by omega
  clear ha
  have HT := Lib.hid (take_nil (wt := false) (show lkName [122, 122] = true by decide) ha1)
  have HL := Lib.hid (locksP_ok l)
  generalize hLL : locksP l = L at HL
  have HLL := Lib.hid hLL
  clear hLL
  have hg := gone_ok HL.out ha1
  have HG := Lib.hid hg.2
  have HGO := Lib.hid (show LkOk (L.map fun k => goneK k a) by have := hg.1; rw [hg.2] at this; exact this)
  clear hg
  have hl5 := HL.out.len
  go_enter Try.func8, Try.ntmps8
  go_wp2_with fail
  refine (locks_calls l v S _ HH.out HRR.out).mono ?_; rw [HLL.out]; rintro e w1 ⟨v1, rfl, hl1, hb1⟩
  obtain ⟨a1, c1, rfl⟩ : ∃ x c, v1 = .slice x L.length c := by obtain ⟨x, c, h, _⟩ := hl1; exact ⟨x, c, h⟩
  go_wp2_with fail
  refine (picked_calls m _ (by omega) (by omega) hm hm2 _).mono ?_
  rw [HP.out]; rintro e w' ⟨rfl, rfl⟩
  go_wp2_with fail
  refine (gone_calls L a _ _ _ hl1 HL.out.inner).mono ?_; rw [HG.out]; rintro e w2 ⟨v2, rfl, hl2, hb2⟩
  have hml : (L.map fun k => goneK k a).length = L.length := List.length_map _
  obtain ⟨a2, c2, rfl⟩ : ∃ x c, v2 = .slice x L.length c := by obtain ⟨x, c, h, _⟩ := hl2; exact ⟨x, c, by rw [h, hml]⟩
  go_wp2_with fail
  refine (take_calls [] [122, 122] a false _ (fun _ => False) _ (SlR.nil _ _) (by simp)).mono ?_
  rw [HT.out]; rintro e w3 ⟨v3, rfl, hl3, hb3⟩
  have hone3 := hl3.oneCell
  have hbx := below_alloc w3 (.cells #[.int .i64 0, .int .i64 1, .string ⟨#[]⟩] 35)
  have HM2 := Lib.hid (hl2.below rLock_ok (by decide) (below_step hb3 hbx))
  have HM1 := Lib.hid (hl1.below rLock_ok (by decide) (below_step hb2 (below_step hb3 hbx)))
  have HBW := Lib.hid (below_step hb1 (below_step hb2 (below_step hb3 hbx)))
  clear hl1 hl2 hl3 hb1 hb2 hb3 hbx
  go_wp2_with fail
  refine (lkCheck_calls _ _ _ _ HM2.out HGO.out.inner).mono ?_; rw [lkCheck_ok.2 HGO.out]; rintro e w4 ⟨rfl, hb4⟩
  have HN2 := Lib.hid (HM2.out.below rLock_ok (by decide) hb4)
  have HN1 := Lib.hid (HM1.out.below rLock_ok (by decide) hb4)
  have HBW4 := Lib.hid (below_step HBW.out hb4)
  clear hb4 HM1 HM2 HBW
  go_wp2
  go_loopw [12, 13, 56] (fun _ _ i wr => ∃ n : Nat, n ≤ L.length ∧ i = .int .i64 n ∧ Hid (Below w4.heap.size w4 wr)) (fun _ _ i _ => L.length - (intOf i).toNat)
  case atStart => exact ⟨0, by omega, rfl, Below.refl _ _⟩
  case round =>
    obtain ⟨n, hn, rfl, hbw⟩ := hrel
    by_cases hlt : n < L.length
    · obtain ⟨b2, off2, cap2, row2, hv2, -, hrow2, hc2⟩ := (HN2.out.below rLock_ok (by decide) hbw.out).row n (by rw [hml]; exact hlt)
      obtain ⟨b1, off1, cap1, row1, hv1, -, hrow1, hc1⟩ := (HN1.out.below rLock_ok (by decide) hbw.out).row n hlt
      rw [List.getElem_map] at hrow2
      simp only [Value.slice.injEq] at hv2 hv1
      obtain ⟨rfl, -, rfl⟩ := hv2
      obtain ⟨rfl, -, rfl⟩ := hv1
      obtain ⟨g1, g2, g3, g4⟩ := gone_gone (HL.out.one L[n] (List.getElem_mem hlt)) ha1.1
      have g5 := (goneK_one (who := a) (HL.out.one L[n] (List.getElem_mem hlt))).line.len
      generalize goneK L[n] a = x at *
      generalize L[n] = y at *
      obtain ⟨ry, rfl, hry⟩ := hrow1
      obtain ⟨rx, rfl, hrx⟩ := hrow2
      obtain ⟨ax, cx, rfl⟩ : ∃ p c, rx = .slice p x.line.length c := by obtain ⟨p, c, h, _⟩ := hrx; exact ⟨p, c, h⟩
      have q0 := hc2 0 _ rfl
      have q1 := hc2 1 _ rfl
      have q2 := hc2 2 _ rfl
      have q3 := hc2 3 _ rfl
      have y1 := hc1 1 _ rfl
      have y2 := hc1 2 _ rfl
      simp only [Nat.add_zero] at q0
      have hl1 : b1 < wr.heap.size := World.block_lt_of_cell? wr _ y1
      have hl2 : b2 < wr.heap.size := World.block_lt_of_cell? wr _ q1
      have HC : Hid (∀ W : World, W.heap = (wr.alloc (.cells #[.string ⟨x.name.toArray⟩, .int .i64 x.holder, .int .i64 x.fence, .slice ax x.line.length cx] 64)).heap → Calls Try.prog 27 #[.slice ax x.line.length cx, .int .i64 a] W fun e w' => e = .returned (.bool false) ∧ w' = W) := fun W hW =>
        containsInt_same W _ x.line (fun _ => True) ((hrx.below rInt_ok (by decide) (below_alloc wr _)).move rInt_ok (by decide) (fun b _ _ => ⟨by rw [hW], trivial⟩)) (by omega) a g2
      have HBX := Lib.hid (fun q : Nat => below_drewN (hbw.out.alloc hbw.out.size (.cells #[.string ⟨x.name.toArray⟩, .int .i64 x.holder, .int .i64 x.fence, .slice ax x.line.length cx] 64)) q)
      have e1 : (x.holder == a) = false := by rw [beq_eq_false_iff_ne]; exact g1
      have e2 : decide (x.fence < y.fence) = false := by rw [decide_eq_false_iff_not]; omega
      clear hc1 hc2 hry hrx g1 g2 hbw
      have hcases : (y.holder != 0) = false ∨ ((y.holder != 0) = true ∧ (y.holder != a) = false) ∨ ((y.holder != 0) = true ∧ (y.holder != a) = true ∧ x.holder = y.holder) := by
        by_cases z0 : y.holder = 0
        · left; simp [z0]
        · by_cases z1 : y.holder = a
          · right; left; simp [z0, z1]; rw [← z1]; exact z0
          · right; right; exact ⟨by simpa using z0, by simpa using z1, g3 z0 z1⟩
      clear g3
      have HCS := Lib.hid hcases
      clear hcases hml
      go_wp2_with fail
      rcases HCS.out with z0 | ⟨z0, z1⟩ | ⟨z0, z1, z2⟩
      · go_quiet ((go_at_call 27; exact Calls.quiet_of_same (HC.out _ rfl)))
        go_wp2
        go_roundw
        case rel => exact ⟨n + 1, by omega, by go_num, HBX.out _⟩
        case measure => simp [intOf]; omega
      · go_quiet ((go_at_call 27; exact Calls.quiet_of_same (HC.out _ rfl)))
        go_wp2
        go_roundw
        case rel => exact ⟨n + 1, by omega, by go_num, HBX.out _⟩
        case measure => simp [intOf]; omega
      · have z3 : (x.holder != y.holder) = false := by rw [z2]; simp
        clear z2
        go_quiet ((go_at_call 27; exact Calls.quiet_of_same (HC.out _ rfl)))
        go_wp2
        go_roundw
        case rel => exact ⟨n + 1, by omega, by go_num, HBX.out _⟩
        case measure => simp [intOf]; omega
    · obtain rfl : n = L.length := by omega
      have HBF := Lib.hid (below_step HBW4.out hbw.out)
      clear hml
      go_wp2
      go_ret
      exact ⟨rfl, HBF.out⟩
end Go.Proofs.Ytcjnnkbliapkgaa
