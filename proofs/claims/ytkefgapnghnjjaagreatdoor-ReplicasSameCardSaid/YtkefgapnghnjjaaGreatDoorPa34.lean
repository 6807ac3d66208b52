/- A part of the proof, laid together from: MachC. -/
import Derived.Test.YtkefgapnghnjjaaGreatDoorPa32
import Derived.Test.YtkefgapnghnjjaaGreatDoorPa29
import Derived.Test.YtkefgapnghnjjaaGreatDoorPa31
import Derived.Test.YtkefgapnghnjjaaGreatDoorPa33
set_option linter.unusedSimpArgs false
set_option linter.unusedVariables false
namespace Go.Tk
open Go Go.RowKit
theorem undraw {w w' : World} (h : Below w.drew.heap.size w.drew w') : Below w.heap.size w w' := ⟨h.os, h.tape, h.output, h.size, h.block⟩
theorem LkOk.lines {l : List LockD} (h : LkOk l) : ∀ x ∈ l, x.line.length ≤ 1000000 := fun x hx => by have := (h.line x hx).len; omega
structure DoAt (w wx : World) (B : Nat) (S : Nat → Prop) (ix : Int) (lk : List LockD) (pr : List PairD) (vl vp vs : Value) (rc : List Value) : Prop where
  box : BoxAt wx B [.int .i64 ix, vl, vp, vs]
  lock : SlR 4 rLock wx vl lk (fun b => S b ∨ w.heap.size + 3 ≤ b)
  pair : SlR 3 rPair wx vp pr (fun b => S b ∨ w.heap.size + 3 ≤ b)
  res : BoxAt wx (w.heap.size + 1) [.int .i64 0, .int .i64 0, .string ⟨#[]⟩]
  rep : BoxAt wx (w.heap.size + 1 + 1) rc
  grown : w.grownBy wx (some B)
  size : w.heap.size + 3 ≤ wx.heap.size
theorem DoAt.below {w wx wy : World} {B : Nat} {S : Nat → Prop} {ix : Int} {lk : List LockD} {pr : List PairD} {vl vp vs : Value} {rc : List Value} (h : DoAt w wx B S ix lk pr vl vp vs rc) (hb : Below wx.heap.size wx wy) : DoAt w wy B S ix lk pr vl vp vs rc :=
  ⟨h.box.below hb, h.lock.below rLock_ok (by decide) hb, h.pair.below rPair_ok (by decide) hb, h.res.below hb, h.rep.below hb, grownBy_trans h.grown (grownBy_any hb (some B)), Nat.le_trans h.size hb.size⟩
theorem grownBy_new {a w : World} {g : Nat} (h : a.grownBy w (some g)) {b : Nat} (hb : a.heap.size ≤ b) (o : Nat) (u : Value) : a.grownBy (w.setCell ⟨b, o, none⟩ u) (some g) := grownBy_set h (.inr hb) o u
theorem DoAt.reply {w wx : World} {B : Nat} {S : Nat → Prop} {ix : Int} {lk : List LockD} {pr : List PairD} {vl vp vs : Value} {r0 r1 r2 : Value} (h : DoAt w wx B S ix lk pr vl vp vs [r0, r1, r2]) (hS : ∀ b, S b → b ≠ B ∧ b < w.heap.size) (hB : B < w.heap.size) (i : Nat) (hi : i < 3) (u : Value) :
    DoAt w (wx.setCell ⟨w.heap.size + 1 + 1, i, none⟩ u) B S ix lk pr vl vp vs ([r0, r1, r2].set i u) :=
  have far : ∀ b, (S b ∨ w.heap.size + 3 ≤ b) → b < wx.heap.size → (wx.setCell ⟨w.heap.size + 1 + 1, i, none⟩ u).heap[b]? = wx.heap[b]? ∧ (S b ∨ w.heap.size + 3 ≤ b) := fun b hb _ => ⟨heap_far (by rcases hb with hb | hb; (have := hS b hb; omega); omega), hb⟩
  ⟨h.box.far (by omega) _ _, h.lock.move rLock_ok (by decide) far, h.pair.move rPair_ok (by decide) far, h.res.far (by omega) _ _, h.rep.set i hi u, grownBy_new h.grown (by omega) _ _, by rw [World.size_setCell]; exact h.size⟩
theorem DoAt.locks {w wx wy : World} {B : Nat} {S : Nat → Prop} {ix : Int} {lk lk' : List LockD} {pr : List PairD} {vl vp vs v' : Value} {rc : List Value} (h : DoAt w wx B S ix lk pr vl vp vs rc) (hS : ∀ b, S b → b ≠ B ∧ b < w.heap.size) (hB : B < w.heap.size) (hb : Below wx.heap.size wx wy) (hs : SlR 4 rLock wy v' lk' (fun b => wx.heap.size ≤ b)) :
    DoAt w (wy.setCell ⟨B, 1, none⟩ v') B S ix lk' pr v' vp vs rc :=
  have h' := h.below hb
  have hsz := h.size
  ⟨h'.box.set 1 (by simp) v', hs.move rLock_ok (by decide) fun b hb _ => ⟨heap_far (by have : wx.heap.size ≤ b := hb; omega), .inr (by have : wx.heap.size ≤ b := hb; omega)⟩,
   h'.pair.move rPair_ok (by decide) fun b hb _ => ⟨heap_far (by rcases hb with hb | hb; (have := hS b hb; omega); omega), hb⟩, h'.res.far (by omega) _ _, h'.rep.far (by omega) _ _, grownBy_set1 h'.grown _ _, by rw [World.size_setCell]; exact h'.size⟩
theorem DoAt.pairs {w wx wy : World} {B : Nat} {S : Nat → Prop} {ix : Int} {lk : List LockD} {pr pr' : List PairD} {vl vp vs v' : Value} {rc : List Value} (h : DoAt w wx B S ix lk pr vl vp vs rc) (hS : ∀ b, S b → b ≠ B ∧ b < w.heap.size) (hB : B < w.heap.size) (hb : Below wx.heap.size wx wy) (hs : SlR 3 rPair wy v' pr' (fun b => wx.heap.size ≤ b)) :
    DoAt w (wy.setCell ⟨B, 2, none⟩ v') B S ix lk pr' vl v' vs rc :=
  have h' := h.below hb
  have hsz := h.size
  ⟨h'.box.set 2 (by simp) v', h'.lock.move rLock_ok (by decide) fun b hb _ => ⟨heap_far (by rcases hb with hb | hb; (have := hS b hb; omega); omega), hb⟩,
   hs.move rPair_ok (by decide) fun b hb _ => ⟨heap_far (by have : wx.heap.size ≤ b := hb; omega), .inr (by have : wx.heap.size ≤ b := hb; omega)⟩, h'.res.far (by omega) _ _, h'.rep.far (by omega) _ _, grownBy_set1 h'.grown _ _, by rw [World.size_setCell]; exact h'.size⟩
theorem DoAt.fin {w wx : World} {B : Nat} {S : Nat → Prop} {ix : Int} {lk : List LockD} {pr : List PairD} {vl vp vs : Value} {rc : List Value} (h : DoAt w wx B S ix lk pr vl vp vs rc) (hS : ∀ b, S b → b ≠ B ∧ b < w.heap.size) (hB : B < w.heap.size) (r0 r1 r2 : Value) :
    BoxAt (((wx.setCell ⟨w.heap.size + 1, 0, none⟩ r0).setCell ⟨w.heap.size + 1, 1, none⟩ r1).setCell ⟨w.heap.size + 1, 2, none⟩ r2) (w.heap.size + 1) [r0, r1, r2] ∧
    BoxAt (((wx.setCell ⟨w.heap.size + 1, 0, none⟩ r0).setCell ⟨w.heap.size + 1, 1, none⟩ r1).setCell ⟨w.heap.size + 1, 2, none⟩ r2) B [.int .i64 ix, vl, vp, vs] ∧
    SlR 4 rLock (((wx.setCell ⟨w.heap.size + 1, 0, none⟩ r0).setCell ⟨w.heap.size + 1, 1, none⟩ r1).setCell ⟨w.heap.size + 1, 2, none⟩ r2) vl lk (fun b => S b ∨ w.heap.size ≤ b) ∧
    SlR 3 rPair (((wx.setCell ⟨w.heap.size + 1, 0, none⟩ r0).setCell ⟨w.heap.size + 1, 1, none⟩ r1).setCell ⟨w.heap.size + 1, 2, none⟩ r2) vp pr (fun b => S b ∨ w.heap.size ≤ b) ∧
    w.grownBy (((wx.setCell ⟨w.heap.size + 1, 0, none⟩ r0).setCell ⟨w.heap.size + 1, 1, none⟩ r1).setCell ⟨w.heap.size + 1, 2, none⟩ r2) (some B) :=
  have far : ∀ b, (S b ∨ w.heap.size + 3 ≤ b) → b < wx.heap.size → (((wx.setCell ⟨w.heap.size + 1, 0, none⟩ r0).setCell ⟨w.heap.size + 1, 1, none⟩ r1).setCell ⟨w.heap.size + 1, 2, none⟩ r2).heap[b]? = wx.heap[b]? ∧ (S b ∨ w.heap.size ≤ b) := fun b hb _ =>
    ⟨by have : b ≠ w.heap.size + 1 := by (rcases hb with hb | hb; (have := hS b hb; omega); omega)
        exact (heap_far this).trans ((heap_far this).trans (heap_far this)), hb.imp id (fun h => by omega)⟩
  ⟨((h.res.set 0 (by simp) r0).set 1 (by simp) r1).set 2 (by simp) r2, ((h.box.far (by omega) _ _).far (by omega) _ _).far (by omega) _ _, h.lock.move rLock_ok (by decide) far, h.pair.move rPair_ok (by decide) far,
   grownBy_new (grownBy_new (grownBy_new h.grown (by omega) _ _) (by omega) _ _) (by omega) _ _⟩
theorem DoAt.drew {w wx : World} {B : Nat} {S : Nat → Prop} {ix : Int} {lk : List LockD} {pr : List PairD} {vl vp vs : Value} {rc : List Value} (h : DoAt w wx B S ix lk pr vl vp vs rc) : DoAt w wx.drew B S ix lk pr vl vp vs rc := h.below (Below.drew (Below.refl _ _))
theorem do_start {w : World} {B : Nat} {S : Nat → Prop} {ix : Int} {lk : List LockD} {pr : List PairD} {vl vp vs : Value} {o : Obj} {E : Nat} {cs : List Value} {E2 : Nat} (hx : BoxAt w B [.int .i64 ix, vl, vp, vs]) (hl : SlR 4 rLock w vl lk S) (hp : SlR 3 rPair w vp pr S) :
    DoAt w (((w.alloc o).alloc (.cells (List.toArray [.int .i64 0, .int .i64 0, .string ⟨#[]⟩]) E)).alloc (.cells cs.toArray E2)) B S ix lk pr vl vp vs cs := by
  have hb : Below w.heap.size w (((w.alloc o).alloc (.cells (List.toArray [.int .i64 0, .int .i64 0, .string ⟨#[]⟩]) E)).alloc (.cells cs.toArray E2)) := below_step (below_alloc2 w _ _) (below_alloc _ _)
  have h1 := (BoxAt.new (w := w.alloc o) (cs := [.int .i64 0, .int .i64 0, .string ⟨#[]⟩]) (E := E)).below (below_alloc _ (.cells cs.toArray E2))
  have h2 := BoxAt.new (w := (w.alloc o).alloc (.cells (List.toArray [.int .i64 0, .int .i64 0, .string ⟨#[]⟩]) E)) (cs := cs) (E := E2)
  rw [World.size_alloc] at h1
  rw [World.size_alloc, World.size_alloc] at h2
  refine ⟨hx.below hb, (hl.below rLock_ok (by decide) hb).sub rLock_ok (by decide) fun b hb _ => .inl hb, (hp.below rPair_ok (by decide) hb).sub rPair_ok (by decide) fun b hb _ => .inl hb, h1, h2, grownBy_any hb _, ?_⟩
  rw [World.size_alloc, World.size_alloc, World.size_alloc]; omega
end Go.Tk
namespace Go.Proofs.YtkefgapnghnjjaaGreatDoor
open Go.RowKit Go.Tk
set_option linter.unusedSimpArgs false in
set_option maxRecDepth 100000 in
set_option maxHeartbeats 6400000 in
theorem maDo_calls (s : StateD) (B : Nat) (vl vp vs : Value) (hvs : vs.oneCell' = true) (who : Int) (o : OpD) (S : Nat → Prop) (w : World) (hx : BoxAt w B [.int .i64 s.index, vl, vp, vs]) (hl : SlR 4 rLock w vl s.locks S) (hp : SlR 3 rPair w vp s.pairs S)
    (hS : ∀ b, S b → b ≠ B ∧ b < w.heap.size) (hlok : LkOk s.locks) (hpok : PrOk s.pairs) (ho : OpOk o) :
    Calls Tryz.prog 48 #[.pointer (some ⟨B, 0, none⟩), .int .i64 who, .agg #[.int .i64 o.kind, .string ⟨o.a.toArray⟩, .string ⟨o.b.toArray⟩, .int .i64 o.n]] w fun e w' =>
      ∃ vl' vp', e = .returned (.agg #[.int .i64 (maDo s who o).2.code, .int .i64 (maDo s who o).2.n, .string ⟨(maDo s who o).2.text.toArray⟩]) ∧ BoxAt w' B [.int .i64 s.index, vl', vp', vs] ∧
        SlR 4 rLock w' vl' (maDo s who o).1.locks (fun b => S b ∨ w.heap.size ≤ b) ∧ SlR 3 rPair w' vp' (maDo s who o).1.pairs (fun b => S b ∨ w.heap.size ≤ b) ∧ w.grownBy w' (some B) := by
  have o1 := hl.oneCell
  have o2 := hp.oneCell
  have hBlt := hx.lt
  have HX := Lib.hid hx
  have HL := Lib.hid hl
  have HP := Lib.hid hp
  have HS := Lib.hid hS
  have HLO := Lib.hid hlok
  have HPO := Lib.hid hpok
  have HNM := Lib.hid ho.name
  have HSZ := Lib.hid ho.size
  have hkind := ho.kind
  clear hx hl hp hS hlok hpok ho
  obtain ⟨kd, oa, ob, on⟩ := o
  simp only at HNM HSZ hkind ⊢
  go_enter Tryz.func48, Tryz.ntmps48
  go_upto_region 2 with (fail)
  have HD := Lib.hid (show DoAt w (((w.alloc (.cells #[.int .i64 kd, .string ⟨oa.toArray⟩, .string ⟨ob.toArray⟩, .int .i64 on] 43)).alloc (.cells #[.int .i64 0, .int .i64 0, .string ⟨#[]⟩] 39)).alloc (.cells #[.int .i64 0, .int .i64 0, .string ⟨#[]⟩] 39)) B S s.index s.locks s.pairs vl vp vs [.int .i64 0, .int .i64 0, .string ⟨#[]⟩] from do_start HX.out HL.out HP.out)
  have HO := Lib.hid (show BoxAt (((w.alloc (.cells #[.int .i64 kd, .string ⟨oa.toArray⟩, .string ⟨ob.toArray⟩, .int .i64 on] 43)).alloc (.cells #[.int .i64 0, .int .i64 0, .string ⟨#[]⟩] 39)).alloc (.cells #[.int .i64 0, .int .i64 0, .string ⟨#[]⟩] 39)) w.heap.size [.int .i64 kd, .string ⟨oa.toArray⟩, .string ⟨ob.toArray⟩, .int .i64 on] from ((BoxAt.new (cs := [.int .i64 kd, .string ⟨oa.toArray⟩, .string ⟨ob.toArray⟩, .int .i64 on])).below (below_alloc _ _)).below (below_alloc _ _))
  generalize ((w.alloc (.cells #[.int .i64 kd, .string ⟨oa.toArray⟩, .string ⟨ob.toArray⟩, .int .i64 on] 43)).alloc (.cells #[.int .i64 0, .int .i64 0, .string ⟨#[]⟩] 39)).alloc (.cells #[.int .i64 0, .int .i64 0, .string ⟨#[]⟩] 39) = w3 at *
  clear HX HL HP
  go_cut [8, 9, 10] (fun h f e wx => h = .int .i64 (lWho s.locks oa).1 ∧ f = .int .i64 (lWho s.locks oa).2.1 ∧ e = .int .i64 (lWho s.locks oa).2.2 ∧ Hid (DoAt w wx B S s.index s.locks s.pairs vl vp vs [.int .i64 0, .int .i64 0, .string ⟨#[]⟩]) ∧ Hid (BoxAt wx w.heap.size [.int .i64 kd, .string ⟨oa.toArray⟩, .string ⟨ob.toArray⟩, .int .i64 on]))
  case first =>
    have b1 := HD.out.box.cell 1 _ rfl
    have p1 := HO.out.cell 1 _ rfl
    have HT := Lib.hid (lWho_calls s.locks oa vl _ w3.drew HD.out.drew.lock HLO.out.lines)
    go_region_law (go_simp; go_at_call 13; refine HT.out.mono ?_; rintro e w7 ⟨rfl, hb7'⟩; have hb7 := undraw hb7')
    all_goals
      go_wp2
      go_meet
      exact ⟨rfl, rfl, rfl, Lib.hid (HD.out.below hb7), Lib.hid (HO.out.below hb7)⟩
  case rest =>
    obtain ⟨rfl, rfl, rfl, HD, HO⟩ := hcut
    rename World => w4
    obtain rfl | rfl | rfl | rfl | rfl | rfl : kd = 1 ∨ kd = 2 ∨ kd = 3 ∨ kd = 4 ∨ kd = 5 ∨ kd = 6 := by omega
    · have F : maDo s who ⟨1, oa, ob, on⟩ = (⟨s.index, (lkTake s.locks oa who false).1, s.pairs, s.sessions⟩, (lkTake s.locks oa who false).2.1) := by rw [maDo, if_pos (by simp)]; simp
      have b1 := HD.out.box.cell 1 _ rfl; have b2 := HD.out.box.cell 2 _ rfl
      have p0 := HO.out.cell 0 _ rfl; have p1 := HO.out.cell 1 _ rfl; have p2 := HO.out.cell 2 _ rfl; have p3 := HO.out.cell 3 _ rfl
      have HT := Lib.hid (take_calls s.locks oa who false vl _ w4.drew HD.out.drew.lock HLO.out.lines)
      go_upto_region 5 with (fail)
      go_region_law (go_simp; go_at_call 90; refine HT.out.mono ?_; rintro e w7 ⟨v7, rfl, hs7, hb7'⟩; have hb7 := undraw hb7'; obtain ⟨a7, c7, e7, -⟩ := id hs7; subst e7; have hd7 := HD.out.below hb7; have u1 := hd7.box.cell 1 _ rfl; have t1 := hd7.box.thaw 1; have hd8 := HD.out.locks HS.out hBlt hb7 hs7; have y0 := hd7.rep.cell 0 _ rfl; have y1 := hd7.rep.cell 1 _ rfl; have y2 := hd7.rep.cell 2 _ rfl; have y3 := hd7.rep.thaw 0; have y4 := hd7.rep.thaw 1; have y5 := hd7.rep.thaw 2)
      all_goals
        have HF := Lib.hid (((hd8.reply HS.out hBlt 0 (by decide) (.int .i64 (lkTake s.locks oa who false).2.1.code)).reply HS.out hBlt 1 (by decide) (.int .i64 (lkTake s.locks oa who false).2.1.n)).reply HS.out hBlt 2 (by decide) (.string ⟨(lkTake s.locks oa who false).2.1.text.toArray⟩))
        generalize ((((w7.setCell ⟨B, 1, none⟩ (.slice a7 (lkTake s.locks oa who false).1.length c7)).setCell ⟨w.heap.size + 1 + 1, 0, none⟩ (.int .i64 (lkTake s.locks oa who false).2.1.code)).setCell ⟨w.heap.size + 1 + 1, 1, none⟩ (.int .i64 (lkTake s.locks oa who false).2.1.n)).setCell ⟨w.heap.size + 1 + 1, 2, none⟩ (.string ⟨(lkTake s.locks oa who false).2.1.text.toArray⟩)) = w9 at *
        have c0 := HF.out.rep.cell 0 _ rfl; have c1 := HF.out.rep.cell 1 _ rfl; have c2 := HF.out.rep.cell 2 _ rfl
        have d0 := HF.out.res.cell 0 _ rfl; have d1 := HF.out.res.cell 1 _ rfl; have d2 := HF.out.res.cell 2 _ rfl
        have s0 := HF.out.res.thaw 0; have s1 := HF.out.res.thaw 1; have s2 := HF.out.res.thaw 2
        simp only [List.set_cons_zero, List.set_cons_succ] at HF
        go_wp2
        obtain ⟨hrx, hbx, hlk, hpr, hgr⟩ := HF.out.fin HS.out hBlt (.int .i64 (lkTake s.locks oa who false).2.1.code) (.int .i64 (lkTake s.locks oa who false).2.1.n) (.string ⟨(lkTake s.locks oa who false).2.1.text.toArray⟩)
        generalize ((w9.setCell ⟨w.heap.size + 1, 0, none⟩ (.int .i64 (lkTake s.locks oa who false).2.1.code)).setCell ⟨w.heap.size + 1, 1, none⟩ (.int .i64 (lkTake s.locks oa who false).2.1.n)).setCell ⟨w.heap.size + 1, 2, none⟩ (.string ⟨(lkTake s.locks oa who false).2.1.text.toArray⟩) = wf at *
        have g0 := hrx.cell 0 _ rfl; have g1 := hrx.cell 1 _ rfl; have g2 := hrx.cell 2 _ rfl
        refine bodyPost_ret (v := .agg #[.int .i64 (lkTake s.locks oa who false).2.1.code, .int .i64 (lkTake s.locks oa who false).2.1.n, .string ⟨(lkTake s.locks oa who false).2.1.text.toArray⟩]) (by simp [results, Tryz.results48, go_sem, g0, g1, g2]) rfl ?_
        rw [F]
        exact ⟨_, _, rfl, hbx, hlk, hpr, hgr⟩
    · have F : maDo s who ⟨2, oa, ob, on⟩ = (⟨s.index, (lkTake s.locks oa who true).1, s.pairs, s.sessions⟩, (lkTake s.locks oa who true).2.1) := by rw [maDo, if_pos (by simp)]; simp
      have b1 := HD.out.box.cell 1 _ rfl; have b2 := HD.out.box.cell 2 _ rfl
      have p0 := HO.out.cell 0 _ rfl; have p1 := HO.out.cell 1 _ rfl; have p2 := HO.out.cell 2 _ rfl; have p3 := HO.out.cell 3 _ rfl
      have HT := Lib.hid (take_calls s.locks oa who true vl _ w4.drew HD.out.drew.lock HLO.out.lines)
      go_upto_region 5 with (fail)
      go_region_law (go_simp; go_at_call 90; refine HT.out.mono ?_; rintro e w7 ⟨v7, rfl, hs7, hb7'⟩; have hb7 := undraw hb7'; obtain ⟨a7, c7, e7, -⟩ := id hs7; subst e7; have hd7 := HD.out.below hb7; have u1 := hd7.box.cell 1 _ rfl; have t1 := hd7.box.thaw 1; have hd8 := HD.out.locks HS.out hBlt hb7 hs7; have y0 := hd7.rep.cell 0 _ rfl; have y1 := hd7.rep.cell 1 _ rfl; have y2 := hd7.rep.cell 2 _ rfl; have y3 := hd7.rep.thaw 0; have y4 := hd7.rep.thaw 1; have y5 := hd7.rep.thaw 2)
      all_goals
        have HF := Lib.hid (((hd8.reply HS.out hBlt 0 (by decide) (.int .i64 (lkTake s.locks oa who true).2.1.code)).reply HS.out hBlt 1 (by decide) (.int .i64 (lkTake s.locks oa who true).2.1.n)).reply HS.out hBlt 2 (by decide) (.string ⟨(lkTake s.locks oa who true).2.1.text.toArray⟩))
        generalize ((((w7.setCell ⟨B, 1, none⟩ (.slice a7 (lkTake s.locks oa who true).1.length c7)).setCell ⟨w.heap.size + 1 + 1, 0, none⟩ (.int .i64 (lkTake s.locks oa who true).2.1.code)).setCell ⟨w.heap.size + 1 + 1, 1, none⟩ (.int .i64 (lkTake s.locks oa who true).2.1.n)).setCell ⟨w.heap.size + 1 + 1, 2, none⟩ (.string ⟨(lkTake s.locks oa who true).2.1.text.toArray⟩)) = w9 at *
        have c0 := HF.out.rep.cell 0 _ rfl; have c1 := HF.out.rep.cell 1 _ rfl; have c2 := HF.out.rep.cell 2 _ rfl
        have d0 := HF.out.res.cell 0 _ rfl; have d1 := HF.out.res.cell 1 _ rfl; have d2 := HF.out.res.cell 2 _ rfl
        have s0 := HF.out.res.thaw 0; have s1 := HF.out.res.thaw 1; have s2 := HF.out.res.thaw 2
        simp only [List.set_cons_zero, List.set_cons_succ] at HF
        go_wp2
        obtain ⟨hrx, hbx, hlk, hpr, hgr⟩ := HF.out.fin HS.out hBlt (.int .i64 (lkTake s.locks oa who true).2.1.code) (.int .i64 (lkTake s.locks oa who true).2.1.n) (.string ⟨(lkTake s.locks oa who true).2.1.text.toArray⟩)
        generalize ((w9.setCell ⟨w.heap.size + 1, 0, none⟩ (.int .i64 (lkTake s.locks oa who true).2.1.code)).setCell ⟨w.heap.size + 1, 1, none⟩ (.int .i64 (lkTake s.locks oa who true).2.1.n)).setCell ⟨w.heap.size + 1, 2, none⟩ (.string ⟨(lkTake s.locks oa who true).2.1.text.toArray⟩) = wf at *
        have g0 := hrx.cell 0 _ rfl; have g1 := hrx.cell 1 _ rfl; have g2 := hrx.cell 2 _ rfl
        refine bodyPost_ret (v := .agg #[.int .i64 (lkTake s.locks oa who true).2.1.code, .int .i64 (lkTake s.locks oa who true).2.1.n, .string ⟨(lkTake s.locks oa who true).2.1.text.toArray⟩]) (by simp [results, Tryz.results48, go_sem, g0, g1, g2]) rfl ?_
        rw [F]
        exact ⟨_, _, rfl, hbx, hlk, hpr, hgr⟩
    · have F : maDo s who ⟨3, oa, ob, on⟩ = (⟨s.index, (lkFree s.locks oa who).1, s.pairs, s.sessions⟩, (lkFree s.locks oa who).2.1) := by rw [maDo, if_neg (by simp), if_pos (by simp)]
      have b1 := HD.out.box.cell 1 _ rfl; have b2 := HD.out.box.cell 2 _ rfl
      have p0 := HO.out.cell 0 _ rfl; have p1 := HO.out.cell 1 _ rfl; have p2 := HO.out.cell 2 _ rfl; have p3 := HO.out.cell 3 _ rfl
      have HT := Lib.hid (free_calls s.locks oa who vl _ w4.drew HD.out.drew.lock HLO.out.lines)
      go_upto_region 7 with (fail)
      go_region_law (go_simp; go_at_call 91; refine HT.out.mono ?_; rintro e w7 ⟨v7, rfl, hs7, hb7'⟩; have hb7 := undraw hb7'; obtain ⟨a7, c7, e7, -⟩ := id hs7; subst e7; have hd7 := HD.out.below hb7; have u1 := hd7.box.cell 1 _ rfl; have t1 := hd7.box.thaw 1; have hd8 := HD.out.locks HS.out hBlt hb7 hs7; have y0 := hd7.rep.cell 0 _ rfl; have y1 := hd7.rep.cell 1 _ rfl; have y2 := hd7.rep.cell 2 _ rfl; have y3 := hd7.rep.thaw 0; have y4 := hd7.rep.thaw 1; have y5 := hd7.rep.thaw 2)
      all_goals
        have HF := Lib.hid (((hd8.reply HS.out hBlt 0 (by decide) (.int .i64 (lkFree s.locks oa who).2.1.code)).reply HS.out hBlt 1 (by decide) (.int .i64 (lkFree s.locks oa who).2.1.n)).reply HS.out hBlt 2 (by decide) (.string ⟨(lkFree s.locks oa who).2.1.text.toArray⟩))
        generalize ((((w7.setCell ⟨B, 1, none⟩ (.slice a7 (lkFree s.locks oa who).1.length c7)).setCell ⟨w.heap.size + 1 + 1, 0, none⟩ (.int .i64 (lkFree s.locks oa who).2.1.code)).setCell ⟨w.heap.size + 1 + 1, 1, none⟩ (.int .i64 (lkFree s.locks oa who).2.1.n)).setCell ⟨w.heap.size + 1 + 1, 2, none⟩ (.string ⟨(lkFree s.locks oa who).2.1.text.toArray⟩)) = w9 at *
        have c0 := HF.out.rep.cell 0 _ rfl; have c1 := HF.out.rep.cell 1 _ rfl; have c2 := HF.out.rep.cell 2 _ rfl
        have d0 := HF.out.res.cell 0 _ rfl; have d1 := HF.out.res.cell 1 _ rfl; have d2 := HF.out.res.cell 2 _ rfl
        have s0 := HF.out.res.thaw 0; have s1 := HF.out.res.thaw 1; have s2 := HF.out.res.thaw 2
        simp only [List.set_cons_zero, List.set_cons_succ] at HF
        go_wp2
        obtain ⟨hrx, hbx, hlk, hpr, hgr⟩ := HF.out.fin HS.out hBlt (.int .i64 (lkFree s.locks oa who).2.1.code) (.int .i64 (lkFree s.locks oa who).2.1.n) (.string ⟨(lkFree s.locks oa who).2.1.text.toArray⟩)
        generalize ((w9.setCell ⟨w.heap.size + 1, 0, none⟩ (.int .i64 (lkFree s.locks oa who).2.1.code)).setCell ⟨w.heap.size + 1, 1, none⟩ (.int .i64 (lkFree s.locks oa who).2.1.n)).setCell ⟨w.heap.size + 1, 2, none⟩ (.string ⟨(lkFree s.locks oa who).2.1.text.toArray⟩) = wf at *
        have g0 := hrx.cell 0 _ rfl; have g1 := hrx.cell 1 _ rfl; have g2 := hrx.cell 2 _ rfl
        refine bodyPost_ret (v := .agg #[.int .i64 (lkFree s.locks oa who).2.1.code, .int .i64 (lkFree s.locks oa who).2.1.n, .string ⟨(lkFree s.locks oa who).2.1.text.toArray⟩]) (by simp [results, Tryz.results48, go_sem, g0, g1, g2]) rfl ?_
        rw [F]
        exact ⟨_, _, rfl, hbx, hlk, hpr, hgr⟩
    · have F : maDo s who ⟨4, oa, ob, on⟩ = (s, ⟨0, (lWho s.locks oa).1, []⟩) := by rw [maDo, if_neg (by simp), if_neg (by simp), if_pos (by simp)]
      have b1 := HD.out.box.cell 1 _ rfl; have b2 := HD.out.box.cell 2 _ rfl
      have p0 := HO.out.cell 0 _ rfl; have p1 := HO.out.cell 1 _ rfl; have p2 := HO.out.cell 2 _ rfl; have p3 := HO.out.cell 3 _ rfl
      have y1 := HD.out.rep.cell 1 _ rfl; have y4 := HD.out.rep.thaw 1
      go_upto_region 14 with (fail)
      have HF := Lib.hid (HD.out.reply HS.out hBlt 1 (by decide) (.int .i64 (lWho s.locks oa).1))
      generalize w4.setCell ⟨w.heap.size + 1 + 1, 1, none⟩ (.int .i64 (lWho s.locks oa).1) = w9 at *
      have c0 := HF.out.rep.cell 0 _ rfl; have c1 := HF.out.rep.cell 1 _ rfl; have c2 := HF.out.rep.cell 2 _ rfl
      have d0 := HF.out.res.cell 0 _ rfl; have d1 := HF.out.res.cell 1 _ rfl; have d2 := HF.out.res.cell 2 _ rfl
      have s0 := HF.out.res.thaw 0; have s1 := HF.out.res.thaw 1; have s2 := HF.out.res.thaw 2
      simp only [List.set_cons_zero, List.set_cons_succ] at HF
      go_wp2
      obtain ⟨hrx, hbx, hlk, hpr, hgr⟩ := HF.out.fin HS.out hBlt (.int .i64 0) (.int .i64 (lWho s.locks oa).1) (.string ⟨#[]⟩)
      generalize ((w9.setCell ⟨w.heap.size + 1, 0, none⟩ (.int .i64 0)).setCell ⟨w.heap.size + 1, 1, none⟩ (.int .i64 (lWho s.locks oa).1)).setCell ⟨w.heap.size + 1, 2, none⟩ (.string ⟨#[]⟩) = wf at *
      have g0 := hrx.cell 0 _ rfl; have g1 := hrx.cell 1 _ rfl; have g2 := hrx.cell 2 _ rfl
      refine bodyPost_ret (v := .agg #[.int .i64 0, .int .i64 (lWho s.locks oa).1, .string ⟨#[]⟩]) (by simp [results, Tryz.results48, go_sem, g0, g1, g2]) rfl ?_
      rw [F]
      exact ⟨_, _, rfl, hbx, hlk, hpr, hgr⟩
    · have b1 := HD.out.box.cell 1 _ rfl; have b2 := HD.out.box.cell 2 _ rfl
      have p0 := HO.out.cell 0 _ rfl; have p1 := HO.out.cell 1 _ rfl; have p2 := HO.out.cell 2 _ rfl; have p3 := HO.out.cell 3 _ rfl
      by_cases hh : (lWho s.locks oa).1 ≠ who ∨ (lWho s.locks oa).2.1 ≠ on
      · have F : maDo s who ⟨5, oa, ob, on⟩ = (s, ⟨10, (lWho s.locks oa).1, []⟩) := by rw [maDo, if_neg (by simp), if_neg (by simp), if_neg (by simp), if_neg (by simp), if_pos hh]
        have y0 := HD.out.rep.cell 0 _ rfl; have y1 := HD.out.rep.cell 1 _ rfl; have y2 := HD.out.rep.cell 2 _ rfl; have y3 := HD.out.rep.thaw 0; have y4 := HD.out.rep.thaw 1; have y5 := HD.out.rep.thaw 2
        generalize (lWho s.locks oa).1 = lw1 at *
        generalize (lWho s.locks oa).2.1 = lw2 at *
        have HH := Lib.hid hh
        by_cases h1 : lw1 = who
        · have h1b : (lw1 != who) = false := by simpa using h1
          have h2b : (lw2 != on) = true := by rcases HH.out with h | h; exact absurd h1 h; simpa using h
          clear hh h1
          go_upto_region 14 with (fail)
          have HF := Lib.hid (((HD.out.reply HS.out hBlt 0 (by decide) (.int .i64 10)).reply HS.out hBlt 1 (by decide) (.int .i64 lw1)).reply HS.out hBlt 2 (by decide) (.string ⟨#[]⟩))
          generalize ((((w4).setCell ⟨w.heap.size + 1 + 1, 0, none⟩ (.int .i64 10)).setCell ⟨w.heap.size + 1 + 1, 1, none⟩ (.int .i64 lw1)).setCell ⟨w.heap.size + 1 + 1, 2, none⟩ (.string ⟨#[]⟩)) = w9 at *
          have c0 := HF.out.rep.cell 0 _ rfl; have c1 := HF.out.rep.cell 1 _ rfl; have c2 := HF.out.rep.cell 2 _ rfl
          have d0 := HF.out.res.cell 0 _ rfl; have d1 := HF.out.res.cell 1 _ rfl; have d2 := HF.out.res.cell 2 _ rfl
          have s0 := HF.out.res.thaw 0; have s1 := HF.out.res.thaw 1; have s2 := HF.out.res.thaw 2
          simp only [List.set_cons_zero, List.set_cons_succ] at HF
          go_wp2
          obtain ⟨hrx, hbx, hlk, hpr, hgr⟩ := HF.out.fin HS.out hBlt (.int .i64 10) (.int .i64 lw1) (.string ⟨#[]⟩)
          generalize ((w9.setCell ⟨w.heap.size + 1, 0, none⟩ (.int .i64 10)).setCell ⟨w.heap.size + 1, 1, none⟩ (.int .i64 lw1)).setCell ⟨w.heap.size + 1, 2, none⟩ (.string ⟨#[]⟩) = wf at *
          have g0 := hrx.cell 0 _ rfl; have g1 := hrx.cell 1 _ rfl; have g2 := hrx.cell 2 _ rfl
          refine bodyPost_ret (v := .agg #[.int .i64 10, .int .i64 lw1, .string ⟨#[]⟩]) (by simp [results, Tryz.results48, go_sem, g0, g1, g2]) rfl ?_
          rw [F]
          exact ⟨_, _, rfl, hbx, hlk, hpr, hgr⟩
        · have h1b : (lw1 != who) = true := by simpa using h1
          clear hh h1
          go_upto_region 14 with (fail)
          have HF := Lib.hid (((HD.out.reply HS.out hBlt 0 (by decide) (.int .i64 10)).reply HS.out hBlt 1 (by decide) (.int .i64 lw1)).reply HS.out hBlt 2 (by decide) (.string ⟨#[]⟩))
          generalize ((((w4).setCell ⟨w.heap.size + 1 + 1, 0, none⟩ (.int .i64 10)).setCell ⟨w.heap.size + 1 + 1, 1, none⟩ (.int .i64 lw1)).setCell ⟨w.heap.size + 1 + 1, 2, none⟩ (.string ⟨#[]⟩)) = w9 at *
          have c0 := HF.out.rep.cell 0 _ rfl; have c1 := HF.out.rep.cell 1 _ rfl; have c2 := HF.out.rep.cell 2 _ rfl
          have d0 := HF.out.res.cell 0 _ rfl; have d1 := HF.out.res.cell 1 _ rfl; have d2 := HF.out.res.cell 2 _ rfl
          have s0 := HF.out.res.thaw 0; have s1 := HF.out.res.thaw 1; have s2 := HF.out.res.thaw 2
          simp only [List.set_cons_zero, List.set_cons_succ] at HF
          go_wp2
          obtain ⟨hrx, hbx, hlk, hpr, hgr⟩ := HF.out.fin HS.out hBlt (.int .i64 10) (.int .i64 lw1) (.string ⟨#[]⟩)
          generalize ((w9.setCell ⟨w.heap.size + 1, 0, none⟩ (.int .i64 10)).setCell ⟨w.heap.size + 1, 1, none⟩ (.int .i64 lw1)).setCell ⟨w.heap.size + 1, 2, none⟩ (.string ⟨#[]⟩) = wf at *
          have g0 := hrx.cell 0 _ rfl; have g1 := hrx.cell 1 _ rfl; have g2 := hrx.cell 2 _ rfl
          refine bodyPost_ret (v := .agg #[.int .i64 10, .int .i64 lw1, .string ⟨#[]⟩]) (by simp [results, Tryz.results48, go_sem, g0, g1, g2]) rfl ?_
          rw [F]
          exact ⟨_, _, rfl, hbx, hlk, hpr, hgr⟩
      · have F : maDo s who ⟨5, oa, ob, on⟩ = (⟨s.index, s.locks, (prSet s.pairs oa ob).1, s.sessions⟩, (prSet s.pairs oa ob).2.1) := by rw [maDo, if_neg (by simp), if_neg (by simp), if_neg (by simp), if_neg (by simp), if_neg hh]
        have h1b : ((lWho s.locks oa).1 != who) = false := by simp only [bne_eq_false_iff_eq]; exact Decidable.byContradiction fun h => hh (.inl h)
        have h2b : ((lWho s.locks oa).2.1 != on) = false := by simp only [bne_eq_false_iff_eq]; exact Decidable.byContradiction fun h => hh (.inr h)
        generalize (lWho s.locks oa).1 = lw1 at *
        generalize (lWho s.locks oa).2.1 = lw2 at *
        clear hh
        have HT := Lib.hid (prSet_calls s.pairs oa ob vp _ w4.drew HD.out.drew.pair HPO.out HNM.out HSZ.out)
        go_upto_region 3 with (fail)
        go_region_law (go_simp; go_at_call 93; refine HT.out.mono ?_; rintro e w7 ⟨v7, rfl, hs7, hb7'⟩; have hb7 := undraw hb7'; obtain ⟨a7, c7, e7, -⟩ := id hs7; subst e7; have hd7 := HD.out.below hb7; have u1 := hd7.box.cell 2 _ rfl; have t1 := hd7.box.thaw 2; have hd8 := HD.out.pairs HS.out hBlt hb7 hs7; have y0 := hd7.rep.cell 0 _ rfl; have y1 := hd7.rep.cell 1 _ rfl; have y2 := hd7.rep.cell 2 _ rfl; have y3 := hd7.rep.thaw 0; have y4 := hd7.rep.thaw 1; have y5 := hd7.rep.thaw 2)
        all_goals
          have HF := Lib.hid (((hd8.reply HS.out hBlt 0 (by decide) (.int .i64 (prSet s.pairs oa ob).2.1.code)).reply HS.out hBlt 1 (by decide) (.int .i64 (prSet s.pairs oa ob).2.1.n)).reply HS.out hBlt 2 (by decide) (.string ⟨(prSet s.pairs oa ob).2.1.text.toArray⟩))
          generalize ((((w7.setCell ⟨B, 2, none⟩ (.slice a7 (prSet s.pairs oa ob).1.length c7)).setCell ⟨w.heap.size + 1 + 1, 0, none⟩ (.int .i64 (prSet s.pairs oa ob).2.1.code)).setCell ⟨w.heap.size + 1 + 1, 1, none⟩ (.int .i64 (prSet s.pairs oa ob).2.1.n)).setCell ⟨w.heap.size + 1 + 1, 2, none⟩ (.string ⟨(prSet s.pairs oa ob).2.1.text.toArray⟩)) = w9 at *
          have c0 := HF.out.rep.cell 0 _ rfl; have c1 := HF.out.rep.cell 1 _ rfl; have c2 := HF.out.rep.cell 2 _ rfl
          have d0 := HF.out.res.cell 0 _ rfl; have d1 := HF.out.res.cell 1 _ rfl; have d2 := HF.out.res.cell 2 _ rfl
          have s0 := HF.out.res.thaw 0; have s1 := HF.out.res.thaw 1; have s2 := HF.out.res.thaw 2
          simp only [List.set_cons_zero, List.set_cons_succ] at HF
          go_wp2
          obtain ⟨hrx, hbx, hlk, hpr, hgr⟩ := HF.out.fin HS.out hBlt (.int .i64 (prSet s.pairs oa ob).2.1.code) (.int .i64 (prSet s.pairs oa ob).2.1.n) (.string ⟨(prSet s.pairs oa ob).2.1.text.toArray⟩)
          generalize ((w9.setCell ⟨w.heap.size + 1, 0, none⟩ (.int .i64 (prSet s.pairs oa ob).2.1.code)).setCell ⟨w.heap.size + 1, 1, none⟩ (.int .i64 (prSet s.pairs oa ob).2.1.n)).setCell ⟨w.heap.size + 1, 2, none⟩ (.string ⟨(prSet s.pairs oa ob).2.1.text.toArray⟩) = wf at *
          have g0 := hrx.cell 0 _ rfl; have g1 := hrx.cell 1 _ rfl; have g2 := hrx.cell 2 _ rfl
          refine bodyPost_ret (v := .agg #[.int .i64 (prSet s.pairs oa ob).2.1.code, .int .i64 (prSet s.pairs oa ob).2.1.n, .string ⟨(prSet s.pairs oa ob).2.1.text.toArray⟩]) (by simp [results, Tryz.results48, go_sem, g0, g1, g2]) rfl ?_
          rw [F]
          exact ⟨_, _, rfl, hbx, hlk, hpr, hgr⟩
    · have F : maDo s who ⟨6, oa, ob, on⟩ = (s, (prGet s.pairs oa).1) := by rw [maDo, if_neg (by simp), if_neg (by simp), if_neg (by simp), if_pos (by simp)]
      have b1 := HD.out.box.cell 1 _ rfl; have b2 := HD.out.box.cell 2 _ rfl
      have p0 := HO.out.cell 0 _ rfl; have p1 := HO.out.cell 1 _ rfl; have p2 := HO.out.cell 2 _ rfl; have p3 := HO.out.cell 3 _ rfl
      have HT := Lib.hid (prGet_calls s.pairs oa vp _ w4.drew HD.out.drew.pair HPO.out)
      go_upto_region 11 with (fail)
      go_region_law (go_simp; go_at_call 92; refine HT.out.mono ?_; rintro e w7 ⟨rfl, hb7'⟩; have hb7 := undraw hb7'; have hd8 := HD.out.below hb7; have y0 := hd8.rep.cell 0 _ rfl; have y1 := hd8.rep.cell 1 _ rfl; have y2 := hd8.rep.cell 2 _ rfl; have y3 := hd8.rep.thaw 0; have y4 := hd8.rep.thaw 1; have y5 := hd8.rep.thaw 2)
      all_goals
        have HF := Lib.hid (((hd8.reply HS.out hBlt 0 (by decide) (.int .i64 (prGet s.pairs oa).1.code)).reply HS.out hBlt 1 (by decide) (.int .i64 (prGet s.pairs oa).1.n)).reply HS.out hBlt 2 (by decide) (.string ⟨(prGet s.pairs oa).1.text.toArray⟩))
        generalize ((((w7).setCell ⟨w.heap.size + 1 + 1, 0, none⟩ (.int .i64 (prGet s.pairs oa).1.code)).setCell ⟨w.heap.size + 1 + 1, 1, none⟩ (.int .i64 (prGet s.pairs oa).1.n)).setCell ⟨w.heap.size + 1 + 1, 2, none⟩ (.string ⟨(prGet s.pairs oa).1.text.toArray⟩)) = w9 at *
        have c0 := HF.out.rep.cell 0 _ rfl; have c1 := HF.out.rep.cell 1 _ rfl; have c2 := HF.out.rep.cell 2 _ rfl
        have d0 := HF.out.res.cell 0 _ rfl; have d1 := HF.out.res.cell 1 _ rfl; have d2 := HF.out.res.cell 2 _ rfl
        have s0 := HF.out.res.thaw 0; have s1 := HF.out.res.thaw 1; have s2 := HF.out.res.thaw 2
        simp only [List.set_cons_zero, List.set_cons_succ] at HF
        go_wp2
        obtain ⟨hrx, hbx, hlk, hpr, hgr⟩ := HF.out.fin HS.out hBlt (.int .i64 (prGet s.pairs oa).1.code) (.int .i64 (prGet s.pairs oa).1.n) (.string ⟨(prGet s.pairs oa).1.text.toArray⟩)
        generalize ((w9.setCell ⟨w.heap.size + 1, 0, none⟩ (.int .i64 (prGet s.pairs oa).1.code)).setCell ⟨w.heap.size + 1, 1, none⟩ (.int .i64 (prGet s.pairs oa).1.n)).setCell ⟨w.heap.size + 1, 2, none⟩ (.string ⟨(prGet s.pairs oa).1.text.toArray⟩) = wf at *
        have g0 := hrx.cell 0 _ rfl; have g1 := hrx.cell 1 _ rfl; have g2 := hrx.cell 2 _ rfl
        refine bodyPost_ret (v := .agg #[.int .i64 (prGet s.pairs oa).1.code, .int .i64 (prGet s.pairs oa).1.n, .string ⟨(prGet s.pairs oa).1.text.toArray⟩]) (by simp [results, Tryz.results48, go_sem, g0, g1, g2]) rfl ?_
        rw [F]
        exact ⟨_, _, rfl, hbx, hlk, hpr, hgr⟩
end Go.Proofs.YtkefgapnghnjjaaGreatDoor
