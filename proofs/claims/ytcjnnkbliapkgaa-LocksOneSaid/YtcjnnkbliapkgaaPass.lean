/- lock.pass. -/
import Derived.Test.YtcjnnkbliapkgaaRows
import Derived.Test.YtcjnnkbliapkgaaFldLockF
import Derived.Test.YtcjnnkbliapkgaaLockP
import Derived.WalkLawsBesides
import Derived.BigRegion
import Derived.BigQuiet
import Derived.Deep.QuietTactic
import Derived.KernelRfl
namespace Go.Tk
open Go Go.RowKit
theorem OwF.empty {α : Type} {E k : Nat} {R : Rel α} {w : World} {g off n cap : Nat} {l : List α} {S : Nat → Prop} (h : OwF E k R w (.slice (some ⟨g, off, none⟩) n cap) l S) : OwF E k R w (.slice (some ⟨g, off, none⟩) 0 0) ([] : List α) S := by
  rcases h with ⟨h, _⟩ | ⟨g', off', cap', cur, rows, hv, hg, h1, h2, h3, h4, h5, h6⟩
  · cases h
  · simp only [Value.slice.injEq, Option.some.injEq, Addr.mk.injEq, and_true] at hv
    obtain ⟨⟨rfl, rfl⟩, rfl, rfl⟩ := hv
    exact .inr ⟨g, off, 0, cur, [], rfl, hg, Nat.le_refl _, by decide, by omega, rfl, fun i r hr => by simp at hr, fun i r x hr => by simp at hr⟩
theorem OwD.at_lt {α : Type} {E k : Nat} {R : Rel α} {w : World} {g cap n : Nat} {l : List α} {S : Nat → Prop} (h : OwD E k R w (.slice (some ⟨g, 0, none⟩) n cap) l S) : l.length = n := by
  obtain ⟨l2, hm, _, ho⟩ := h
  obtain ⟨a, c, e⟩ := ho.shape
  rw [← hm, List.length_map]
  cases e; rfl
theorem grownBy_set1 {a w : World} {g : Nat} (h : a.grownBy w (some g)) (o : Nat) (u : Value) : a.grownBy (w.setCell ⟨g, o, none⟩ u) (some g) := grownBy_set h (.inl rfl) o u
end Go.Tk
namespace Go.Proofs.Ytcjnnkbliapkgaa
open Go.RowKit Go.Tk

set_option maxRecDepth 100000 in
set_option maxHeartbeats 1600000 in
theorem pass_calls (w : World) (g n cap : Nat) (l : List LockD) (S : Nat → Prop) (h : OwD 64 4 (rLockF 3) w (.slice (some ⟨g, 0, none⟩) n cap) l S) (fi : Nat) (hi : fi < l.length) (hf : 0 ≤ l[fi].fence ∧ l[fi].fence ≤ 1073741824) (hn : l[fi].line.length ≤ 1000000) :
    Calls Try.prog 45 #[.pointer (some ⟨g, fi * 4, none⟩)] w fun e w' => e = .returned (.tuple #[]) ∧ OwD 64 4 (rLockF 3) w' (.slice (some ⟨g, 0, none⟩) n cap) (l.set fi (passP l[fi])) S ∧ w.grownBy w' (some g) := by
  obtain ⟨v, hcells, hv, hvg⟩ := h.cellsLockF fi hi
  have hth := h.thaw (by omega)
  have z1 := hth (fi * 4 + 1)
  have z2 := hth (fi * 4 + 2)
  have z3 := hth (fi * 4 + 3)
  have HP := Lib.hid (show passP l[fi] = if 0 < l[fi].line.length ∧ l[fi].fence < 1073741824 then ⟨l[fi].name, l[fi].line.getD 0 0, l[fi].fence + 1, l[fi].line.drop 1⟩ else ⟨l[fi].name, 0, l[fi].fence, []⟩ from rfl)
  have HO := Lib.hid h
  clear hth h
  generalize passP l[fi] = px at HP ⊢
  generalize hxx : l[fi] = x at *
  have HX := Lib.hid hxx
  clear hxx
  have c1 := hcells 1 _ rfl
  have c2 := hcells 2 _ rfl
  have c3 := hcells 3 _ rfl
  have HC := Lib.hid hcells
  have HV := Lib.hid hv
  have HG := Lib.hid hvg
  have hs0 : Hid (OwD 64 4 (rLockF 3) (w.setCell ⟨g, fi * 4 + 1, none⟩ (.int .i64 0)) (.slice (some ⟨g, 0, none⟩) n cap) (l.set fi ⟨x.name, 0, x.fence, x.line⟩) S) :=
    HO.out.setLockF hi (j := 1) (by decide) (.int .i64 0) ⟨x.name, 0, x.fence, x.line⟩ (by rw [HX.out]; rfl) (by rw [HX.out])
  by_cases hc : 0 < x.line.length ∧ x.fence < 1073741824
  case neg =>
    have HJ := Lib.hid (HP.out.trans (if_neg hc))
    have hcases : (x.line.length = 0) ∨ (0 < x.line.length ∧ ¬ x.fence < 1073741824) := by omega
    obtain ⟨ra, rc, rfl⟩ := hv.shape
    clear hcells hv hvg hc HP
    have hfin : Hid (OwD 64 4 (rLockF 3) ((w.setCell ⟨g, fi * 4 + 1, none⟩ (.int .i64 0)).setCell ⟨g, fi * 4 + 3, none⟩ (.slice none 0 0)) (.slice (some ⟨g, 0, none⟩) n cap) (l.set fi px) S) := by
      have := hs0.out.inLockF (i := fi) (by rw [List.length_set]; exact hi) ((cell_near (by omega)).trans c3) (grownBy_refl _ _) (OwF.nil _ _) (.inr (.inl rfl))
      rw [List.set_set, List.getElem_set_self] at this
      rw [HJ.out]; exact this
    rcases hcases with h0 | ⟨h0, h1⟩
    · have h0' : decide (0 < x.line.length) = false := by simp [h0]
      go_enter Try.func45, Try.ntmps45
      go_wp2
      refine bodyPost_end (v := .tuple #[]) (by simp [results, Try.results45, go_sem]) rfl ⟨rfl, hfin.out, ?_⟩
      exact grownBy_set1 (grownBy_set1 (grownBy_refl _ _) _ _) _ _

    · go_enter Try.func45, Try.ntmps45
      go_wp2
      refine bodyPost_end (v := .tuple #[]) (by simp [results, Try.results45, go_sem]) rfl ⟨rfl, hfin.out, ?_⟩
      exact grownBy_set1 (grownBy_set1 (grownBy_refl _ _) _ _) _ _

  case pos =>
    have HJ := Lib.hid (HP.out.trans (if_pos hc))
    obtain ⟨hl0, hf1⟩ := hc
    clear HP
    obtain ⟨b, off, vc, row, rfl, -, hrow, hr0⟩ := (hv.read (S := fun b => w.heap.size = w.heap.size) rInt_ok (fun _ _ => rfl)).row 0 hl0
    obtain rfl := hrow
    have q0 := hr0 0 _ rfl
    simp only [Nat.zero_mul, Nat.add_zero] at q0
    have HL0 := Lib.hid (show x.line.getD 0 0 = x.line[0] by simp [List.getD, hl0])
    generalize x.line[0] = y at *
    have hbg := (hvg b rfl).2.1
    have HDR : Hid (OwF 3 1 rInt w (.slice (some ⟨b, off + 1, none⟩) (x.line.length - 1) (vc - 1)) (x.line.drop 1) (fun _ => False)) := by
      have := HV.out.drop 1 hl0; rw [Nat.mul_one] at this; exact this
    have HEM : Hid (OwF 3 1 rInt w (.slice (some ⟨b, off, none⟩) 0 0) ([] : List Int) (fun _ => False)) := HV.out.empty
    have hlc : x.line.length ≤ vc := by
      rcases HV.out with ⟨h, _⟩ | ⟨g', off', cap', cur, rows, hv, hg, h1, _⟩
      · cases h
      · cases hv; exact h1
    clear hcells hv hvg hr0
    have hg0 : g < w.heap.size := World.block_lt_of_cell? w _ c1
    have hb0 : b < w.heap.size := World.block_lt_of_cell? w _ q0
    go_enter Try.func45, Try.ntmps45
    go_wp2
    have d1 := World.cell?_setCell_same w ⟨g, fi * 4 + 1, none⟩ (.int .i64 0) c1
    have d2 := (cell_near (w := w) (b := g) (o := fi * 4 + 1) (u := .int .i64 0) (o' := fi * 4 + 2) (by omega)).trans c2
    have d3 := (cell_near (w := w) (b := g) (o := fi * 4 + 1) (u := .int .i64 0) (o' := fi * 4 + 3) (by omega)).trans c3
    have e0 := (cell_far (w := w) (b := g) (o := fi * 4 + 1) (u := .int .i64 0) (c := b) (o' := off) (Ne.symm hbg)).trans q0
    have y1 : (w.setCell ⟨g, fi * 4 + 1, none⟩ (.int .i64 0)).frozen? ⟨g, fi * 4 + 1, none⟩ = false := by simp [go_sem, z1]
    have y2 : (w.setCell ⟨g, fi * 4 + 1, none⟩ (.int .i64 0)).frozen? ⟨g, fi * 4 + 2, none⟩ = false := by simp [go_sem, z2]
    have y3 : (w.setCell ⟨g, fi * 4 + 1, none⟩ (.int .i64 0)).frozen? ⟨g, fi * 4 + 3, none⟩ = false := by simp [go_sem, z3]
    have HG1 := Lib.hid (grownBy_set1 (grownBy_refl w (some g)) (fi * 4 + 1) (.int .i64 0))
    have HD2 : Hid (OwF 3 1 rInt (w.setCell ⟨g, fi * 4 + 1, none⟩ (.int .i64 0)) (.slice (some ⟨b, off + 1, none⟩) (x.line.length - 1) (vc - 1)) (x.line.drop 1) (fun _ => False)) := HDR.out.move rInt_ok (fun b' hb' => by cases hb'; exact heap_far hbg) (fun _ h _ _ => h.elim)
    have HE2 : Hid (OwF 3 1 rInt (w.setCell ⟨g, fi * 4 + 1, none⟩ (.int .i64 0)) (.slice (some ⟨b, off, none⟩) 0 0) ([] : List Int) (fun _ => False)) := HEM.out.move rInt_ok (fun b' hb' => by cases hb'; exact heap_far hbg) (fun _ h _ _ => h.elim)
    clear HDR HEM HV HC z1 z2 z3 c1 c2 c3 q0
    generalize w.setCell ⟨g, fi * 4 + 1, none⟩ (.int .i64 0) = w1 at *
    have w0 : IntKind.i64.wrap (x.fence + 1) = x.fence + 1 := IntWalk.i64_in _ (by omega)
    have hl1 : (1 : Int) ≤ (x.line.length : Int) := by omega
    by_cases hvc : vc = 1
    · subst hvc
      have hln : x.line.length = 1 := by omega
      have HD : Hid (x.line.drop 1 = []) := by show _ = _; exact List.eq_nil_of_length_eq_zero (by rw [List.length_drop]; omega)
      simp only [hln] at d3
      have HLN := Lib.hid hln
      clear hln hlc hl1 hl0 hn
      go_region
      go_wp2
      refine bodyPost_ret (v := .tuple #[]) (by simp [results, Try.results45, go_sem]) rfl ⟨rfl, ?_, ?_⟩
      · have k3 := (hs0.out.below (rLockF_ok _) (Below.drew (Below.refl _ _))).setLockF (i := fi) (by rw [List.length_set]; exact hi) (j := 1) (by decide) (.int .i64 y) ⟨x.name, y, x.fence, x.line⟩ (by rw [List.getElem_set_self]; rfl) (by rw [List.getElem_set_self])
        rw [List.set_set] at k3
        have k4 := k3.setLockF (i := fi) (by rw [List.length_set]; exact hi) (j := 2) (by decide) (.int .i64 (x.fence + 1)) ⟨x.name, y, x.fence + 1, x.line⟩ (by rw [List.getElem_set_self]; rfl) (by rw [List.getElem_set_self])
        rw [List.set_set] at k4
        have k5 := k4.inLockF (i := fi) (v := .slice (some ⟨b, off, none⟩) 1 1) (v' := .slice (some ⟨b, off, none⟩) 0 0) (by rw [List.length_set]; exact hi) ((cell_near (by omega)).trans ((cell_near (by omega)).trans d3)) (grownBy_refl _ _)
          (HE2.out.move rInt_ok (fun b' hb' => by cases hb'; exact (heap_far hbg).trans (heap_far hbg)) (fun _ h _ _ => h.elim)) (.inl rfl)
        rw [List.set_set, List.getElem_set_self] at k5
        rw [HJ.out, HL0.out]
        rw [HD.out]
        exact k5
      · exact grownBy_set1 (grownBy_set1 (grownBy_set1 (grownBy_drew HG1.out) _ _) _ _) _ _
    · go_region
      go_wp2
      refine bodyPost_ret (v := .tuple #[]) (by simp [results, Try.results45, go_sem]) rfl ⟨rfl, ?_, ?_⟩
      · have k3 := (hs0.out.below (rLockF_ok _) (Below.drew (Below.refl _ _))).setLockF (i := fi) (by rw [List.length_set]; exact hi) (j := 1) (by decide) (.int .i64 y) ⟨x.name, y, x.fence, x.line⟩ (by rw [List.getElem_set_self]; rfl) (by rw [List.getElem_set_self])
        rw [List.set_set] at k3
        have k4 := k3.setLockF (i := fi) (by rw [List.length_set]; exact hi) (j := 2) (by decide) (.int .i64 (x.fence + 1)) ⟨x.name, y, x.fence + 1, x.line⟩ (by rw [List.getElem_set_self]; rfl) (by rw [List.getElem_set_self])
        rw [List.set_set] at k4
        have k5 := k4.inLockF (i := fi) (v := .slice (some ⟨b, off, none⟩) x.line.length vc) (v' := .slice (some ⟨b, off + 1, none⟩) (x.line.length - 1) (vc - 1)) (by rw [List.length_set]; exact hi) ((cell_near (by omega)).trans ((cell_near (by omega)).trans d3)) (grownBy_refl _ _)
          (HD2.out.move rInt_ok (fun b' hb' => by cases hb'; exact (heap_far hbg).trans (heap_far hbg)) (fun _ h _ _ => h.elim)) (.inl rfl)
        rw [List.set_set, List.getElem_set_self] at k5
        rw [HJ.out, HL0.out]
        exact k5
      · exact grownBy_set1 (grownBy_set1 (grownBy_set1 (grownBy_drew HG1.out) _ _) _ _) _ _
end Go.Proofs.Ytcjnnkbliapkgaa
