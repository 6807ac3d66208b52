/- A part of the proof, laid together from: PairS. -/
import Derived.Test.YtkefgapnghnjjaaGreatDoorPa32
import Derived.Test.YtkefgapnghnjjaaGreatDoorPa14
set_option linter.unusedSimpArgs false
set_option linter.unusedVariables false
namespace Go.Tk
open Go Go.RowKit
theorem OwR.pairSet {E : Nat} {w : World} {g cap n : Nat} {l : List PairD} {S : Nat → Prop} (h : OwR E 3 rPair w (.slice (some ⟨g, 0, none⟩) n cap) l S) {i : Nat} (hi : i < l.length) (val : List UInt8) (x : Int) :
    OwR E 3 rPair ((w.setCell ⟨g, i * 3 + 1, none⟩ (.string ⟨val.toArray⟩)).setCell ⟨g, i * 3 + 2, none⟩ (.int .i64 x)) (.slice (some ⟨g, 0, none⟩) n cap) (l.set i ⟨l[i].name, val, x⟩) S := by
  obtain ⟨row, hrow, hc⟩ := h.at rPair_ok hi
  obtain rfl := hrow
  have c0 := hc 0 _ rfl
  have c1 := hc 1 _ rfl
  have c2 := hc 2 _ rfl
  refine h.set rPair_ok hi (cs := [.string ⟨l[i].name.toArray⟩, .string ⟨val.toArray⟩, .int .i64 x]) rfl (((KeepsRow.refl _ _).set _ _ _).set _ _ _) (fun j hj => ?_) (fun j u hu => ?_) (fun b _ hb _ => (heap_far hb).trans (heap_far hb))
  · exact (cell_near (by omega)).trans (cell_near (by omega))
  · match j, hu with
    | 0, hu => cases hu; exact (cell_near (by omega)).trans ((cell_near (by omega)).trans c0)
    | 1, hu => cases hu; exact (cell_near (by omega)).trans (World.cell?_setCell_same _ _ _ c1)
    | 2, hu => cases hu; exact World.cell?_setCell_same _ _ _ ((cell_near (by omega)).trans c2)
theorem OwR.thaw2 {α : Type} {E k : Nat} {R : Rel α} {w : World} {g cap n : Nat} {l : List α} {S : Nat → Prop} (h : OwR E k R w (.slice (some ⟨g, 0, none⟩) n cap) l S) (j : Nat) : w.frozen? ⟨g, j, none⟩ = false := by
  obtain ⟨rows, h1, h2, h3⟩ := h
  rcases h2.2 with ⟨hv, _⟩ | ⟨g', cap', cur, hv, -, hg, -⟩
  · simp at hv
  · simp only [Value.slice.injEq, Option.some.injEq, Addr.mk.injEq, and_true] at hv
    obtain ⟨rfl, -, -⟩ := hv
    rw [World.frozen?, hg]; simp
def RetPairs (w : World) (r : List PairD × ReplyD × Int) : Ending → World → Prop := fun e w' => ∃ v', e = .returned (.tuple #[v', .agg #[.int .i64 r.2.1.code, .int .i64 r.2.1.n, .string ⟨r.2.1.text.toArray⟩], .int .i64 r.2.2]) ∧ SlR 3 rPair w' v' r.1 (fun b => w.heap.size ≤ b) ∧ Below w.heap.size w w'
theorem rPair_any (w : World) (cs : List Value) (x : PairD) (S S' : Nat → Prop) (h : rPair w cs x S) : rPair w cs x S' := h
theorem OwR.pairRead {E : Nat} {w : World} {v : Value} {l : List PairD} {S S' : Nat → Prop} (h : OwR E 3 rPair w v l S) (hS : ∀ g, v.ownBlock = some g → S' g) : SlR 3 rPair w v l S' :=
  (h.forget rPair_any).read rPair_ok (by decide) hS
end Go.Tk
namespace Go.Proofs.YtkefgapnghnjjaaGreatDoor
open Go.RowKit Go.Tk
set_option linter.unusedSimpArgs false in
set_option maxRecDepth 100000 in
set_option maxHeartbeats 1600000 in
theorem prSet_calls (l : List PairD) (t val : List UInt8) (v : Value) (S : Nat → Prop) (w : World) (h : SlR 3 rPair w v l S) (hok : PrOk l) (hnm : lkName t = true) (hvl : val.length ≤ 12) :
    Calls Tryz.prog 93 #[v, .string ⟨t.toArray⟩, .string ⟨val.toArray⟩] w (RetPairs w (prSet l t val)) := by
  have hone := h.oneCell
  have hlen := hok.len
  have HC := Lib.hid (prCheck_ok.2 hok)
  have HV := Lib.hid (set_eq hok hnm hvl)
  have HNM := Lib.hid hnm
  have HSZ := Lib.hid (show ∀ x ∈ l, x.value.length ≤ 1000000 from fun x hx => Nat.le_trans (hok.one x hx).size (by decide))
  have HVE := Lib.hid (show ∀ x ∈ l, 1 ≤ x.version ∧ x.version ≤ 1073741824 from fun x hx => (hok.one x hx).vers)
  have HS := Lib.hid h
  clear h hok hnm
  go_enter Tryz.func93, Tryz.ntmps93
  go_wp2_with fail
  refine (prCheck_calls l _ S _ (HS.out.below rPair_ok (by decide) (below_alloc w _)) HSZ.out).mono ?_
  rw [HC.out]; rintro e w1 ⟨rfl, hb1⟩
  rw [World.size_alloc] at hb1
  have HB1 := Lib.hid ((below_alloc w _).trans (hb1.mono (by omega)))
  have HBB := Lib.hid hb1
  clear hb1
  go_wp2_with fail
  refine (name_calls t _).mono ?_; rw [HNM.out]; rintro e w2 ⟨rfl, hb2⟩
  have HB2 := Lib.hid (below_step HB1.out hb2)
  have HBB2 := Lib.hid (HBB.out.trans (hb2.mono (by have := HBB.out.size; rw [World.size_alloc] at this; exact this)))
  clear hb2 HBB HB1
  go_wp2_with fail
  refine (clonePair_calls rPair_ok w2 _ l S (HS.out.below rPair_ok (by decide) HB2.out) (by omega)).mono ?_
  rintro e w3 ⟨v3, rfl, ho3, hb3, hg3⟩
  have hsz2 : w.heap.size + 1 ≤ w2.heap.size := by have := HBB2.out.size; rw [World.size_alloc] at this; exact this
  have HB3 := Lib.hid (below_step HB2.out hb3)
  have HBB3 := Lib.hid (HBB2.out.trans (hb3.mono hsz2))
  have hone3 := ho3.oneCell
  have HG3 := Lib.hid (show ∀ g, v3.ownBlock = some g → w.heap.size + 1 ≤ g from fun g hg => by have := hg3 g hg; omega)
  have HO3 := Lib.hid (ho3.forget rPair_any (S' := fun _ => False))
  clear hb3 HBB2 HB2 ho3 hg3
  go_wp2_with fail
  refine (pFind_calls l t _ _ _ (HO3.out.pairRead (S' := fun _ => True) (fun _ _ => trivial)) (by omega)).mono ?_
  rintro e w4 ⟨rfl, hb4⟩
  have hsz3 : w.heap.size + 1 ≤ w3.heap.size := by have := HBB3.out.size; rw [World.size_alloc] at this; exact this
  have HB4 := Lib.hid (below_step HB3.out hb4)
  have hbb4 := HBB3.out.trans (hb4.mono hsz3)
  have HO4 := Lib.hid (HO3.out.below rPair_ok hb4)
  have HX4 := Lib.hid ((BoxAt.new (w := w) (cs := [.int .i64 0, .int .i64 0, .string ⟨#[]⟩]) (E := 39)).keep (hbb4.block w.heap.size (by omega)))
  obtain ⟨hz, hzf, hzs⟩ := Tk.fresh hbb4
  have z0 := hz 0; have z1 := hz 1; have z2 := hz 2
  have f0 := hzf 0; have f1 := hzf 1; have f2 := hzf 2
  clear hz hzf hb4 HBB3 HB3 HO3 hbb4
  cases ht : pThere l t
  case false =>
    by_cases h5 : l.length = 5
    · have HF := Lib.hid (show prSet l t val = (l, ⟨8, 0, []⟩, 0) by rw [HV.out, if_pos ht, if_pos h5])
      obtain ⟨ra, rc, rfl⟩ := HO4.out.shape
      have h5b : ((l.length : Int) == 5) = true := by rw [beq_iff_eq]; omega
      clear ht h5
      go_wp2
      have hp := ((HX4.out.set 0 (by simp) (.int .i64 8)).set 1 (by simp) (.int .i64 0)).set 2 (by simp) (.string ⟨#[]⟩)
      have hbf := below_set (below_set (below_set (Below.refl w.heap.size w4) (Nat.le_refl _) 0 (.int .i64 8)) (Nat.le_refl _) 1 (.int .i64 0)) (Nat.le_refl _) 2 (.string ⟨#[]⟩)
      have ho9 : SlR 3 rPair (((w4.setCell ⟨w.heap.size, 0, none⟩ (.int .i64 8)).setCell ⟨w.heap.size, 1, none⟩ (.int .i64 0)).setCell ⟨w.heap.size, 2, none⟩ (.string ⟨#[]⟩)) (.slice ra l.length rc) (l) (fun b => w.heap.size ≤ b) := (HO4.out.move (S' := fun _ => False) rPair_ok (fun g hg => (heap_far (by have := HG3.out g hg; omega)).trans ((heap_far (by have := HG3.out g hg; omega)).trans (heap_far (by have := HG3.out g hg; omega)))) (fun b hb => hb.elim)).pairRead (fun g hg => by have := HG3.out g hg; show w.heap.size ≤ g; omega)
      generalize ((w4.setCell ⟨w.heap.size, 0, none⟩ (.int .i64 8)).setCell ⟨w.heap.size, 1, none⟩ (.int .i64 0)).setCell ⟨w.heap.size, 2, none⟩ (.string ⟨#[]⟩) = wf at *
      have p0 := hp.cell 0 _ rfl; have p1 := hp.cell 1 _ rfl; have p2 := hp.cell 2 _ rfl
      refine bodyPost_ret (v := .tuple #[.slice ra l.length rc, .agg #[.int .i64 8, .int .i64 0, .string ⟨#[]⟩], .int .i64 0]) (by simp [results, Tryz.results93, go_sem, p0, p1, p2]) rfl ?_
      rw [HF.out]
      exact ⟨_, rfl, ho9, HB4.out.trans (hbf)⟩
    · have HF := Lib.hid (show prSet l t val = (l.take (pFind l t) ++ ⟨t, val, 1⟩ :: l.drop (pFind l t), ⟨0, 1, []⟩, 0) by rw [HV.out, if_pos ht, if_neg h5])
      obtain ⟨ra, rc, rfl⟩ := HO4.out.shape
      have h5b : ((l.length : Int) == 5) = false := by rw [beq_eq_false_iff_ne]; omega
      have hfl : pFind l t ≤ l.length := bs_le _ _
      clear ht h5
      generalize pFind l t = i at *
      go_wp2_with fail
      refine (insertPair_calls rPair_ok l i hfl ⟨t, val, 1⟩ #[.string ⟨t.toArray⟩, .string ⟨val.toArray⟩, .int .i64 1] w4 _ _ HO4.out rfl (by omega)).mono ?_
      rintro e w5 ⟨v5, rfl, ho5, hg5, hv5⟩
      obtain ⟨rb, rd, rfl⟩ := ho5.shape
      have HX5 := Lib.hid (HX4.out.grown hg5 (fun e => by have := HG3.out _ e.symm; omega))
      have HB5 := Lib.hid (HB4.out.grown hg5 HB4.out.size (fun g hg => by have := HG3.out g hg; omega))
      have HG5 := Lib.hid (show ∀ g, (Value.slice rb (l.take i ++ ⟨t, val, 1⟩ :: l.drop i).length rd).ownBlock = some g → w.heap.size + 1 ≤ g from fun g hg => by
        rcases hv5 with e | ⟨y, e, hy⟩
        · exact HG3.out g (by rw [← e]; exact hg)
        · rw [e] at hg; cases hg; omega)
      have z0' := HX5.out.cell 0 _ rfl; have z1' := HX5.out.cell 1 _ rfl; have z2' := HX5.out.cell 2 _ rfl
      have f0' := HX5.out.thaw 0; have f1' := HX5.out.thaw 1; have f2' := HX5.out.thaw 2
      have HO5 := Lib.hid ho5
      clear z0 z1 z2 f0 f1 f2 hg5 hv5 ho5
      generalize l.take i ++ ⟨t, val, 1⟩ :: l.drop i = L at *
      go_wp2
      have hp := ((HX5.out.set 0 (by simp) (.int .i64 0)).set 1 (by simp) (.int .i64 1)).set 2 (by simp) (.string ⟨#[]⟩)
      have hbf := below_set (below_set (below_set (Below.refl w.heap.size w5) (Nat.le_refl _) 0 (.int .i64 0)) (Nat.le_refl _) 1 (.int .i64 1)) (Nat.le_refl _) 2 (.string ⟨#[]⟩)
      have ho9 : SlR 3 rPair (((w5.setCell ⟨w.heap.size, 0, none⟩ (.int .i64 0)).setCell ⟨w.heap.size, 1, none⟩ (.int .i64 1)).setCell ⟨w.heap.size, 2, none⟩ (.string ⟨#[]⟩)) (.slice rb L.length rd) (L) (fun b => w.heap.size ≤ b) := (HO5.out.move (S' := fun _ => False) rPair_ok (fun g hg => (heap_far (by have := HG5.out g hg; omega)).trans ((heap_far (by have := HG5.out g hg; omega)).trans (heap_far (by have := HG5.out g hg; omega)))) (fun b hb => hb.elim)).pairRead (fun g hg => by have := HG5.out g hg; show w.heap.size ≤ g; omega)
      generalize ((w5.setCell ⟨w.heap.size, 0, none⟩ (.int .i64 0)).setCell ⟨w.heap.size, 1, none⟩ (.int .i64 1)).setCell ⟨w.heap.size, 2, none⟩ (.string ⟨#[]⟩) = wf at *
      have p0 := hp.cell 0 _ rfl; have p1 := hp.cell 1 _ rfl; have p2 := hp.cell 2 _ rfl
      refine bodyPost_ret (v := .tuple #[.slice rb L.length rd, .agg #[.int .i64 0, .int .i64 1, .string ⟨#[]⟩], .int .i64 0]) (by simp [results, Tryz.results93, go_sem, p0, p1, p2]) rfl ?_
      rw [HF.out]
      exact ⟨_, rfl, ho9, HB5.out.trans (hbf)⟩
  case true =>
    have hlt := pThere_lt ht
    have hve := HVE.out _ (List.getElem_mem hlt)
    obtain ⟨ra, rc, rfl⟩ := HO4.out.shape
    obtain ⟨g, rfl⟩ := HO4.out.inBlock (by omega)
    have hgap := HG3.out g rfl
    obtain ⟨row, hrow, hcells⟩ := HO4.out.at rPair_ok hlt
    obtain rfl := hrow
    have q0 := hcells 0 _ rfl
    have q1 := hcells 1 _ rfl
    have q2 := hcells 2 _ rfl
    simp only [Nat.add_zero] at q0
    have hgl := World.block_lt_of_cell? w4 _ q0
    clear hcells
    by_cases hmx : l[pFind l t].version = 1073741824
    · have HF := Lib.hid (show prSet l t val = (l, ⟨8, 0, []⟩, 0) by rw [HV.out, if_neg (by rw [ht]; decide), getD_at hlt, if_pos hmx])
      clear ht
      generalize l[pFind l t] = x at *
      generalize pFind l t = i at *
      have hmb : (x.version == 1073741824) = true := by simpa using hmx
      clear hmx
      go_wp2
      have hp := ((HX4.out.set 0 (by simp) (.int .i64 8)).set 1 (by simp) (.int .i64 0)).set 2 (by simp) (.string ⟨#[]⟩)
      have hbf := below_set (below_set (below_set (Below.refl w.heap.size w4) (Nat.le_refl _) 0 (.int .i64 8)) (Nat.le_refl _) 1 (.int .i64 0)) (Nat.le_refl _) 2 (.string ⟨#[]⟩)
      have ho9 : SlR 3 rPair (((w4.setCell ⟨w.heap.size, 0, none⟩ (.int .i64 8)).setCell ⟨w.heap.size, 1, none⟩ (.int .i64 0)).setCell ⟨w.heap.size, 2, none⟩ (.string ⟨#[]⟩)) (.slice (some ⟨g, 0, none⟩) l.length rc) (l) (fun b => w.heap.size ≤ b) := (HO4.out.move (S' := fun _ => False) rPair_ok (fun g hg => (heap_far (by have := HG3.out g hg; omega)).trans ((heap_far (by have := HG3.out g hg; omega)).trans (heap_far (by have := HG3.out g hg; omega)))) (fun b hb => hb.elim)).pairRead (fun g hg => by have := HG3.out g hg; show w.heap.size ≤ g; omega)
      generalize ((w4.setCell ⟨w.heap.size, 0, none⟩ (.int .i64 8)).setCell ⟨w.heap.size, 1, none⟩ (.int .i64 0)).setCell ⟨w.heap.size, 2, none⟩ (.string ⟨#[]⟩) = wf at *
      have p0 := hp.cell 0 _ rfl; have p1 := hp.cell 1 _ rfl; have p2 := hp.cell 2 _ rfl
      refine bodyPost_ret (v := .tuple #[.slice (some ⟨g, 0, none⟩) l.length rc, .agg #[.int .i64 8, .int .i64 0, .string ⟨#[]⟩], .int .i64 0]) (by simp [results, Tryz.results93, go_sem, p0, p1, p2]) rfl ?_
      rw [HF.out]
      exact ⟨_, rfl, ho9, HB4.out.trans (hbf)⟩
    · have HF := Lib.hid (show prSet l t val = (l.set (pFind l t) ⟨l[pFind l t].name, val, l[pFind l t].version + 1⟩, ⟨0, l[pFind l t].version + 1, []⟩, 0) by rw [HV.out, if_neg (by rw [ht]; decide), getD_at hlt, if_neg hmx])
      have HO5 := Lib.hid (HO4.out.pairSet hlt val (l[pFind l t].version + 1))
      clear ht
      generalize l[pFind l t] = x at *
      generalize pFind l t = i at *
      have hmb : (x.version == 1073741824) = false := by simpa using hmx
      clear hmx
      have t1 := HO4.out.thaw2 (i * 3 + 1)
      have t2 := HO4.out.thaw2 (i * 3 + 2)
      go_wp2
      go_region
      go_wp2
      have HX5 := Lib.hid ((HX4.out.far (c := g) (by omega) (i * 3 + 1) (.string ⟨val.toArray⟩)).far (c := g) (by omega) (i * 3 + 2) (.int .i64 (x.version + 1)))
      have HB5 := Lib.hid (below_set (b := g) (below_set (b := g) HB4.out (by omega) (i * 3 + 1) (.string ⟨val.toArray⟩)) (by omega) (i * 3 + 2) (.int .i64 (x.version + 1)))
      generalize hL : l.set i ⟨x.name, val, x.version + 1⟩ = L at *
      clear hL
      generalize (w4.setCell ⟨g, i * 3 + 1, none⟩ (.string ⟨val.toArray⟩)).setCell ⟨g, i * 3 + 2, none⟩ (.int .i64 (x.version + 1)) = w5 at *
      have hp := ((HX5.out.set 0 (by simp) (.int .i64 0)).set 1 (by simp) (.int .i64 (x.version + 1))).set 2 (by simp) (.string ⟨#[]⟩)
      have hbf := below_set (below_set (below_set (Below.refl w.heap.size w5) (Nat.le_refl _) 0 (.int .i64 0)) (Nat.le_refl _) 1 (.int .i64 (x.version + 1))) (Nat.le_refl _) 2 (.string ⟨#[]⟩)
      have ho9 : SlR 3 rPair (((w5.setCell ⟨w.heap.size, 0, none⟩ (.int .i64 0)).setCell ⟨w.heap.size, 1, none⟩ (.int .i64 (x.version + 1))).setCell ⟨w.heap.size, 2, none⟩ (.string ⟨#[]⟩)) (.slice (some ⟨g, 0, none⟩) l.length rc) (L) (fun b => w.heap.size ≤ b) := (HO5.out.move (S' := fun _ => False) rPair_ok (fun g hg => (heap_far (by have := HG3.out g hg; omega)).trans ((heap_far (by have := HG3.out g hg; omega)).trans (heap_far (by have := HG3.out g hg; omega)))) (fun b hb => hb.elim)).pairRead (fun g hg => by have := HG3.out g hg; show w.heap.size ≤ g; omega)
      generalize ((w5.setCell ⟨w.heap.size, 0, none⟩ (.int .i64 0)).setCell ⟨w.heap.size, 1, none⟩ (.int .i64 (x.version + 1))).setCell ⟨w.heap.size, 2, none⟩ (.string ⟨#[]⟩) = wf at *
      have p0 := hp.drew.cell 0 _ rfl; have p1 := hp.drew.cell 1 _ rfl; have p2 := hp.drew.cell 2 _ rfl
      refine bodyPost_ret (v := .tuple #[.slice (some ⟨g, 0, none⟩) l.length rc, .agg #[.int .i64 0, .int .i64 (x.version + 1), .string ⟨#[]⟩], .int .i64 0]) (by simp [results, Tryz.results93, go_sem, p0, p1, p2]) rfl ?_
      rw [HF.out]
      exact ⟨_, rfl, ho9.below rPair_ok (by decide) (Below.drew (Below.refl _ _)), HB5.out.trans (Below.drew hbf)⟩
end Go.Proofs.YtkefgapnghnjjaaGreatDoor
