/- A part of the proof, laid together from: LogD. -/
import Derived.Test.YtkefgapnghnjjaaGreatDoorPa20
import Derived.Test.YtkefgapnghnjjaaGreatDoorPa12
set_option linter.unusedSimpArgs false
set_option linter.unusedVariables false
namespace Go.Tk
open Go Go.RowKit
theorem SlR.drop {α : Type} {k : Nat} {R : Rel α} {w : World} {b off : Nat} {n cap : Nat} {l : List α} {S : Nat → Prop} (h : SlR k R w (.slice (some ⟨b, off, none⟩) n cap) l S) (i : Nat) (hi : i ≤ l.length) :
    SlR k R w (.slice (some ⟨b, off + i * k, none⟩) (l.length - i) (cap - i)) (l.drop i) S := by
  obtain ⟨a', cap', hv, h1, h2, h3, h4⟩ := h
  simp only [Value.slice.injEq] at hv
  obtain ⟨rfl, rfl, rfl⟩ := hv
  refine ⟨_, _, by rw [List.length_drop], by rw [List.length_drop]; omega, by omega, (fun h => by cases h), fun j x hx => ?_⟩
  rw [List.getElem?_drop] at hx
  obtain ⟨b', off', row, ha, hS, hR, hc⟩ := h4 (i + j) x hx
  cases ha
  exact ⟨_, _, row, rfl, hS, hR, fun m u hu => by have := hc m u hu; rw [← this]; congr 2; rw [Nat.add_mul]; omega⟩
theorem SlR.empty {α : Type} {k : Nat} {R : Rel α} (w : World) (S : Nat → Prop) {a : Option Addr} {cap : Nat} (hc : cap ≤ maxLen) (hn : a = none → cap = 0) : SlR k R w (.slice a 0 cap) [] S :=
  ⟨a, cap, rfl, Nat.zero_le _, hc, hn, fun i x hx => by simp at hx⟩
def RetLog (w : World) (r : LogD × Int) : Ending → World → Prop := fun e w' => ∃ v', e = .returned (.tuple #[.agg #[.int .i64 r.1.base, v'], .int .i64 r.2]) ∧ SlR 1 rStr w' v' r.1.entries (fun b => w.heap.size ≤ b) ∧ Below w.heap.size w w'
theorem two_set {w : World} {B : Nat} {u0 u1 x0 x1 : Value} (z0 : w.cell? ⟨B, 0, none⟩ = some x0) (z1 : w.cell? ⟨B, 1, none⟩ = some x1) :
    ((w.setCell ⟨B, 0, none⟩ u0).setCell ⟨B, 1, none⟩ u1).cell? ⟨B, 0, none⟩ = some u0 ∧ ((w.setCell ⟨B, 0, none⟩ u0).setCell ⟨B, 1, none⟩ u1).cell? ⟨B, 1, none⟩ = some u1 ∧
      Below B w ((w.setCell ⟨B, 0, none⟩ u0).setCell ⟨B, 1, none⟩ u1) ∧ ∀ k, k ≠ B → ((w.setCell ⟨B, 0, none⟩ u0).setCell ⟨B, 1, none⟩ u1).heap[k]? = w.heap[k]? :=
  ⟨(cell_near (by omega)).trans (World.cell?_setCell_same _ _ _ z0), World.cell?_setCell_same _ _ _ ((cell_near (by omega)).trans z1),
    below_set (below_set (Below.refl _ _) (Nat.le_refl _) 0 _) (Nat.le_refl _) 1 _, fun _ hk => (heap_far hk).trans (heap_far hk)⟩
end Go.Tk
namespace Go.Proofs.YtkefgapnghnjjaaGreatDoor
open Go.RowKit Go.Tk
set_option maxRecDepth 100000 in
set_option maxHeartbeats 1600000 in
theorem logCut_calls (l : LogD) (v : Value) (S : Nat → Prop) (w : World) (h : SlR 1 rStr w v l.entries S) (hok : LogOk l) (hs : ∀ s ∈ l.entries, s.length ≤ 1000000) (x : Int) (hx : -9223372036854775808 ≤ x ∧ x ≤ 9223372036854775807) :
    Calls Tryz.prog 69 #[.agg #[.int .i64 l.base, v], .int .i64 x] w (RetLog w (logCut l x)) := by
  have HC := Lib.hid (logCheck_ok.2 hok)
  obtain ⟨hb0, hb1⟩ := hok.base
  have hlen := hok.len
  obtain ⟨hx0, hx1⟩ := hx
  have HV := Lib.hid (show logCut l x = if x < l.base ∨ logLast l < x then (noLog, 2) else if 1073741424 < x then (noLog, 8) else (⟨x, l.entries.drop (x - l.base).toNat⟩, 0) by rw [logCut, if_neg (by rw [HC.out]; simp)])
  obtain ⟨la, hla⟩ : ∃ la, logLast l = la := ⟨_, rfl⟩
  have hlv : la = l.base + l.entries.length := hla.symm
  have HLA := Lib.hid hla
  rw [hla] at HV
  clear hla hok
  obtain ⟨a, cap, hv, hl, hm, hnl, -⟩ := id h
  subst hv
  unfold maxLen at hm
  have HS := Lib.hid h
  have HZ := Lib.hid hs
  clear h hs
  go_enter Tryz.func69, Tryz.ntmps69
  go_wp2_with fail
  refine (logCheck_calls l _ S _ (HS.out.below rStr_ok (by decide) (below_alloc2 w _ _)) HZ.out).mono ?_
  rw [HC.out]; rintro e w1 ⟨rfl, hb⟩
  rw [size_alloc2] at hb
  obtain ⟨hz, -, hr, hrf, hzs⟩ := fresh2 hb
  have z0 := hz 0; have z1 := hz 1
  have r0 := hr 0; have r1 := hr 1
  have f0 := hrf 0; have f1 := hrf 1
  have HBB := Lib.hid hb
  clear hz hr hrf hb
  by_cases h1 : x < l.base
  · have HF := Lib.hid (show logCut l x = (noLog, 2) by rw [HV.out, if_pos (.inl h1)])
    go_wp2
    obtain ⟨p0, p1, hb9, -⟩ := two_set (B := w.heap.size + 1) (u0 := .int .i64 0) (u1 := .slice none 0 0) r0 r1
    generalize (w1.setCell ⟨w.heap.size + 1, 0, none⟩ (.int .i64 0)).setCell ⟨w.heap.size + 1, 1, none⟩ (.slice none 0 0) = wf at *
    refine bodyPost_ret (v := .tuple #[.agg #[.int .i64 0, .slice none 0 0], .int .i64 2]) (by simp [results, Tryz.results69, go_sem, p0, p1]) rfl ?_
    rw [HF.out]
    exact ⟨_, rfl, SlR.nil _ _, ((below_alloc2 w _ _).trans (HBB.out.mono (by omega))).trans (hb9.mono (by omega))⟩
  go_wp2_with fail
  refine (logLast_calls l _ S _ (HS.out.below rStr_ok (by decide) ((below_alloc2 w _ _).trans (HBB.out.mono (by omega)))) (by omega) (by omega)).mono ?_
  rw [HLA.out]; rintro e w2 ⟨rfl, hb2⟩
  have HBB2 := Lib.hid (HBB.out.trans (hb2.mono (by omega)))
  clear z0 z1 r0 r1 f0 f1 hb2
  obtain ⟨hz, -, hr, hrf, hzs2⟩ := fresh2 HBB2.out
  have z0 := hz 0; have z1 := hz 1
  have r0 := hr 0; have r1 := hr 1
  have f0 := hrf 0; have f1 := hrf 1
  clear hz hr hrf
  by_cases h2 : la < x
  · have HF := Lib.hid (show logCut l x = (noLog, 2) by rw [HV.out, if_pos (.inr h2)])
    go_wp2
    obtain ⟨p0, p1, hb9, -⟩ := two_set (B := w.heap.size + 1) (u0 := .int .i64 0) (u1 := .slice none 0 0) r0 r1
    generalize (w2.setCell ⟨w.heap.size + 1, 0, none⟩ (.int .i64 0)).setCell ⟨w.heap.size + 1, 1, none⟩ (.slice none 0 0) = wf at *
    refine bodyPost_ret (v := .tuple #[.agg #[.int .i64 0, .slice none 0 0], .int .i64 2]) (by simp [results, Tryz.results69, go_sem, p0, p1]) rfl ?_
    rw [HF.out]
    exact ⟨_, rfl, SlR.nil _ _, ((below_alloc2 w _ _).trans (HBB2.out.mono (by omega))).trans (hb9.mono (by omega))⟩
  by_cases h3 : 1073741424 < x
  · have HF := Lib.hid (show logCut l x = (noLog, 8) by rw [HV.out, if_neg (by omega), if_pos h3])
    go_wp2
    obtain ⟨p0, p1, hb9, -⟩ := two_set (B := w.heap.size + 1) (u0 := .int .i64 0) (u1 := .slice none 0 0) r0 r1
    generalize (w2.setCell ⟨w.heap.size + 1, 0, none⟩ (.int .i64 0)).setCell ⟨w.heap.size + 1, 1, none⟩ (.slice none 0 0) = wf at *
    refine bodyPost_ret (v := .tuple #[.agg #[.int .i64 0, .slice none 0 0], .int .i64 8]) (by simp [results, Tryz.results69, go_sem, p0, p1]) rfl ?_
    rw [HF.out]
    exact ⟨_, rfl, SlR.nil _ _, ((below_alloc2 w _ _).trans (HBB2.out.mono (by omega))).trans (hb9.mono (by omega))⟩
  obtain ⟨i, hxi⟩ : ∃ i : Nat, x - l.base = i := ⟨(x - l.base).toNat, by omega⟩
  have hi : i ≤ l.entries.length := by omega
  have HF := Lib.hid (show logCut l x = (⟨x, l.entries.drop i⟩, 0) by rw [HV.out, if_neg (by omega), if_neg h3, hxi, Int.toNat_natCast])
  have e1 : IntKind.i64.wrap (x - l.base) = (i : Int) := (IntWalk.i64_in _ (by omega)).trans hxi
  by_cases hl0 : l.entries.length = 0
  · have HE := Lib.hid (List.eq_nil_of_length_eq_zero hl0)
    obtain rfl : i = 0 := by omega
    rw [hl0]
    go_wp2_with fail
    obtain ⟨d, hd⟩ : ∃ d : List Bytes, l.entries.drop 0 = d := ⟨_, rfl⟩
    have hd0 : d = [] := by rw [← hd, HE.out]; rfl
    rw [hd] at HF
    refine (cloneStr_calls rStr_ok w2 (.slice a 0 cap) d S (by rw [hd0]; exact SlR.empty _ _ (by unfold maxLen; omega) hnl) (by rw [hd0]; decide)).mono ?_
    clear hd hd0
    rintro e w3 ⟨v3, rfl, ho3, hb3, hg3⟩
    obtain ⟨ra, rc, rfl⟩ := ho3.shape
    have HB3 := Lib.hid (HBB2.out.trans (hb3.mono (by omega)))
    clear z0 z1 r0 r1 f0 f1
    obtain ⟨hz, -, hr, hrf, hzs3⟩ := fresh2 HB3.out
    have r0 := hr 0; have r1 := hr 1
    have f0 := hrf 0; have f1 := hrf 1
    clear hz hr hrf
    go_wp2
    obtain ⟨p0, p1, hb9, hh9⟩ := two_set (B := w.heap.size + 1) (u0 := .int .i64 x) (u1 := .slice ra (d).length rc) r0 r1
    have ho9 : SlR 1 rStr ((w3.setCell ⟨w.heap.size + 1, 0, none⟩ (.int .i64 x)).setCell ⟨w.heap.size + 1, 1, none⟩ (.slice ra (d).length rc)) (.slice ra (d).length rc) (d) (fun b => w.heap.size ≤ b) := ((ho3.forget (S' := fun _ => False) rStr_any').move (S' := fun _ => False) rStr_ok (fun g hg => hh9 g (by have := hg3 g hg; omega)) (fun b hb => hb.elim)).strRead (fun g hg => by have := hg3 g hg; show w.heap.size ≤ g; omega)
    generalize (w3.setCell ⟨w.heap.size + 1, 0, none⟩ (.int .i64 x)).setCell ⟨w.heap.size + 1, 1, none⟩ (.slice ra (d).length rc) = wf at *
    refine bodyPost_ret (v := .tuple #[.agg #[.int .i64 x, .slice ra (d).length rc], .int .i64 0]) (by simp [results, Tryz.results69, go_sem, p0, p1]) rfl ?_
    rw [HF.out]
    exact ⟨_, rfl, ho9, ((below_alloc2 w _ _).trans (HB3.out.mono (by omega))).trans (hb9.mono (by omega))⟩
  obtain ⟨b, off, cap', row, hv, -, -, -⟩ := HS.out.row 0 (by omega)
  simp only [Value.slice.injEq] at hv
  obtain ⟨rfl, -, rfl⟩ := hv
  by_cases hci : cap = i
  · obtain rfl : cap = l.entries.length := by omega
    obtain rfl : i = l.entries.length := hci.symm
    have HE := Lib.hid (show l.entries.drop l.entries.length = [] from List.drop_length)
    go_wp2_with fail
    obtain ⟨d, hd⟩ : ∃ d : List Bytes, l.entries.drop l.entries.length = d := ⟨_, rfl⟩
    have hd0 : d = [] := by rw [← hd, HE.out]
    rw [hd] at HF
    refine (cloneStr_calls rStr_ok w2 (.slice (some ⟨b, off, none⟩) 0 0) d S (by rw [hd0]; exact SlR.empty _ _ (by decide) (fun _ => rfl)) (by rw [hd0]; decide)).mono ?_
    clear hd hd0
    rintro e w3 ⟨v3, rfl, ho3, hb3, hg3⟩
    obtain ⟨ra, rc, rfl⟩ := ho3.shape
    have HB3 := Lib.hid (HBB2.out.trans (hb3.mono (by omega)))
    clear z0 z1 r0 r1 f0 f1
    obtain ⟨hz, -, hr, hrf, hzs3⟩ := fresh2 HB3.out
    have r0 := hr 0; have r1 := hr 1
    have f0 := hrf 0; have f1 := hrf 1
    clear hz hr hrf
    go_wp2
    obtain ⟨p0, p1, hb9, hh9⟩ := two_set (B := w.heap.size + 1) (u0 := .int .i64 x) (u1 := .slice ra (d).length rc) r0 r1
    have ho9 : SlR 1 rStr ((w3.setCell ⟨w.heap.size + 1, 0, none⟩ (.int .i64 x)).setCell ⟨w.heap.size + 1, 1, none⟩ (.slice ra (d).length rc)) (.slice ra (d).length rc) (d) (fun b => w.heap.size ≤ b) := ((ho3.forget (S' := fun _ => False) rStr_any').move (S' := fun _ => False) rStr_ok (fun g hg => hh9 g (by have := hg3 g hg; omega)) (fun b hb => hb.elim)).strRead (fun g hg => by have := hg3 g hg; show w.heap.size ≤ g; omega)
    generalize (w3.setCell ⟨w.heap.size + 1, 0, none⟩ (.int .i64 x)).setCell ⟨w.heap.size + 1, 1, none⟩ (.slice ra (d).length rc) = wf at *
    refine bodyPost_ret (v := .tuple #[.agg #[.int .i64 x, .slice ra (d).length rc], .int .i64 0]) (by simp [results, Tryz.results69, go_sem, p0, p1]) rfl ?_
    rw [HF.out]
    exact ⟨_, rfl, ho9, ((below_alloc2 w _ _).trans (HB3.out.mono (by omega))).trans (hb9.mono (by omega))⟩
  have HSX := (HS.out.below rStr_ok (by decide) ((below_alloc2 w _ _).trans (HBB2.out.mono (by omega)))).drop i hi
  rw [Nat.mul_one] at HSX
  go_wp2_with fail
  obtain ⟨d, hd⟩ : ∃ d : List Bytes, l.entries.drop i = d := ⟨_, rfl⟩
  have hdl : l.entries.length - i = d.length := by rw [← hd, List.length_drop]
  rw [hd] at HF HSX
  refine (cloneStr_calls rStr_ok w2 _ d S HSX (by rw [← hdl]; omega)).mono ?_
  clear hd
  rintro e w3 ⟨v3, rfl, ho3, hb3, hg3⟩
  obtain ⟨ra, rc, rfl⟩ := ho3.shape
  have HB3 := Lib.hid (HBB2.out.trans (hb3.mono (by omega)))
  clear z0 z1 r0 r1 f0 f1
  obtain ⟨hz, -, hr, hrf, hzs3⟩ := fresh2 HB3.out
  have r0 := hr 0; have r1 := hr 1
  have f0 := hrf 0; have f1 := hrf 1
  clear hz hr hrf
  go_wp2
  obtain ⟨p0, p1, hb9, hh9⟩ := two_set (B := w.heap.size + 1) (u0 := .int .i64 x) (u1 := .slice ra (d).length rc) r0 r1
  have ho9 : SlR 1 rStr ((w3.setCell ⟨w.heap.size + 1, 0, none⟩ (.int .i64 x)).setCell ⟨w.heap.size + 1, 1, none⟩ (.slice ra (d).length rc)) (.slice ra (d).length rc) (d) (fun b => w.heap.size ≤ b) := ((ho3.forget (S' := fun _ => False) rStr_any').move (S' := fun _ => False) rStr_ok (fun g hg => hh9 g (by have := hg3 g hg; omega)) (fun b hb => hb.elim)).strRead (fun g hg => by have := hg3 g hg; show w.heap.size ≤ g; omega)
  generalize (w3.setCell ⟨w.heap.size + 1, 0, none⟩ (.int .i64 x)).setCell ⟨w.heap.size + 1, 1, none⟩ (.slice ra (d).length rc) = wf at *
  refine bodyPost_ret (v := .tuple #[.agg #[.int .i64 x, .slice ra (d).length rc], .int .i64 0]) (by simp [results, Tryz.results69, go_sem, p0, p1]) rfl ?_
  rw [HF.out]
  exact ⟨_, rfl, ho9, ((below_alloc2 w _ _).trans (HB3.out.mono (by omega))).trans (hb9.mono (by omega))⟩
end Go.Proofs.YtkefgapnghnjjaaGreatDoor
