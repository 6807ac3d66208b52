/- A part of the proof, laid together from: MachD. -/
import Derived.Test.YtkefgapnghnjjaaGreatDoorPa34
import Derived.Test.YtkefgapnghnjjaaGreatDoorPa35
import Derived.Test.YtkefgapnghnjjaaGreatDoorPa12
import Derived.Test.YtkefgapnghnjjaaGreatDoorPa37
import Derived.Test.YtkefgapnghnjjaaGreatDoorPa38
import Derived.Test.YtkefgapnghnjjaaGreatDoorPa20
import Derived.Test.YtkefgapnghnjjaaGreatDoorPa05
set_option linter.unusedSimpArgs false
set_option linter.unusedVariables false
namespace Go.Tk
open Go Go.RowKit
theorem below_grown {n : Nat} {w wx wy : World} (h : Below n w wx) (hg : wx.grownBy wy (some n)) (hn : n ≤ wx.heap.size) : Below n w wy :=
  h.trans ⟨hg.os, hg.tape, hg.output, hg.size, fun b hb => hg.block b (by omega) (fun e => by have := Option.some.inj e; omega)⟩
structure ApB (w wx : World) (cs : List Value) : Prop where
  box : BoxAt wx w.heap.size cs
  res : BoxAt wx (w.heap.size + 1) [.int .i64 0, .slice none 0 0, .slice none 0 0, .slice none 0 0]
  rep : BoxAt wx (w.heap.size + 1 + 1) [.int .i64 0, .int .i64 0, .string ⟨#[]⟩]
  old : Below w.heap.size w wx
  size : w.heap.size + 3 ≤ wx.heap.size
theorem ApB.grown {w wx wy : World} {cs cs' : List Value} (h : ApB w wx cs) (hg : wx.grownBy wy (some w.heap.size)) (hx : BoxAt wy w.heap.size cs') : ApB w wy cs' :=
  have hs := h.size
  ⟨hx, h.res.grown hg (fun e => by have := Option.some.inj e; omega), h.rep.grown hg (fun e => by have := Option.some.inj e; omega), below_grown h.old hg (by omega), Nat.le_trans hs hg.size⟩
theorem ApB.below {w wx wy : World} {cs : List Value} (h : ApB w wx cs) (hb : Below wx.heap.size wx wy) : ApB w wy cs :=
  h.grown (grownBy_any hb _) (h.box.below hb)
theorem ApB.set {w wx : World} {cs : List Value} (h : ApB w wx cs) (i : Nat) (hi : i < cs.length) (u : Value) : ApB w (wx.setCell ⟨w.heap.size, i, none⟩ u) (cs.set i u) :=
  h.grown (grownBy_set1 (grownBy_refl _ _) i u) (h.box.set i hi u)
theorem ap_start (w : World) (cs : List Value) (E1 E2 E3 : Nat) : ApB w (((w.alloc (.cells cs.toArray E1)).alloc (.cells (List.toArray [.int .i64 0, .slice none 0 0, .slice none 0 0, .slice none 0 0]) E2)).alloc (.cells (List.toArray [.int .i64 0, .int .i64 0, .string ⟨#[]⟩]) E3)) cs := by
  have h0 := ((BoxAt.new (w := w) (cs := cs) (E := E1)).below (below_alloc _ (.cells (List.toArray [.int .i64 0, .slice none 0 0, .slice none 0 0, .slice none 0 0]) E2))).below (below_alloc _ (.cells (List.toArray [.int .i64 0, .int .i64 0, .string ⟨#[]⟩]) E3))
  have h1 := (BoxAt.new (w := w.alloc (.cells cs.toArray E1)) (cs := [.int .i64 0, .slice none 0 0, .slice none 0 0, .slice none 0 0]) (E := E2)).below (below_alloc _ (.cells (List.toArray [.int .i64 0, .int .i64 0, .string ⟨#[]⟩]) E3))
  have h2 := BoxAt.new (w := (w.alloc (.cells cs.toArray E1)).alloc (.cells (List.toArray [.int .i64 0, .slice none 0 0, .slice none 0 0, .slice none 0 0]) E2)) (cs := [.int .i64 0, .int .i64 0, .string ⟨#[]⟩]) (E := E3)
  rw [World.size_alloc] at h1
  rw [World.size_alloc, World.size_alloc] at h2
  refine ⟨h0, h1, h2, below_step (below_alloc2 w _ _) (below_alloc _ _), ?_⟩
  rw [World.size_alloc, World.size_alloc, World.size_alloc]; omega
structure ApAt (w wx : World) (P : Nat → Prop) (s : StateD) (vl vp vs : Value) : Prop where
  b : ApB w wx [.int .i64 s.index, vl, vp, vs]
  st : StAt wx s vl vp vs P
  far : ∀ b, P b → w.heap.size + 3 ≤ b
  up : ∀ b, wx.heap.size ≤ b → P b
theorem ApAt.below {w wx wy : World} {P : Nat → Prop} {s : StateD} {vl vp vs : Value} (h : ApAt w wx P s vl vp vs) (hb : Below wx.heap.size wx wy) : ApAt w wy P s vl vp vs :=
  ⟨h.b.below hb, h.st.below hb, h.far, fun b hb' => h.up b (Nat.le_trans hb.size hb')⟩
theorem ApAt.copy {w wx wy : World} {s : StateD} {cs : List Value} {vl vp vs : Value} (h : ApB w wx cs) (hcs : cs.length = 4) (hb : Below wx.heap.size wx wy) (hs : StAt wy s vl vp vs (fun b => wx.heap.size ≤ b)) :
    ApAt w ((((wy.setCell ⟨w.heap.size, 0, none⟩ (.int .i64 s.index)).setCell ⟨w.heap.size, 1, none⟩ vl).setCell ⟨w.heap.size, 2, none⟩ vp).setCell ⟨w.heap.size, 3, none⟩ vs) (fun b => wx.heap.size ≤ b) s vl vp vs := by
  obtain ⟨c0, c1, c2, c3, rfl⟩ : ∃ a b c d, cs = [a, b, c, d] := by
    match cs, hcs with
    | [a, b, c, d], _ => exact ⟨a, b, c, d, rfl⟩
  have h' := h.below hb
  have hz := h.size
  have far : ∀ b, wx.heap.size ≤ b → b < wy.heap.size → ((((wy.setCell ⟨w.heap.size, 0, none⟩ (.int .i64 s.index)).setCell ⟨w.heap.size, 1, none⟩ vl).setCell ⟨w.heap.size, 2, none⟩ vp).setCell ⟨w.heap.size, 3, none⟩ vs).heap[b]? = wy.heap[b]? ∧ wx.heap.size ≤ b := fun b hb _ =>
    ⟨(heap_far (by omega)).trans ((heap_far (by omega)).trans ((heap_far (by omega)).trans (heap_far (by omega)))), hb⟩
  refine ⟨(((h'.set 0 (by simp) _).set 1 (by simp) _).set 2 (by simp) _).set 3 (by simp) _, hs.move far, fun b hb => Nat.le_trans hz hb, fun b hb' => ?_⟩
  simp only [World.size_setCell] at hb'
  exact Nat.le_trans hb.size hb'
theorem ApAt.sess {w wx wy : World} {P : Nat → Prop} {s : StateD} {vl vp vs v' : Value} {l' : List SessionD} (h : ApAt w wx P s vl vp vs) (hb : Below wx.heap.size wx wy) (hs : SlR 5 rSession wy v' l' (fun b => wx.heap.size ≤ b)) :
    ApAt w (wy.setCell ⟨w.heap.size, 3, none⟩ v') P ⟨s.index, s.locks, s.pairs, l'⟩ vl vp v' := by
  have h' := h.below hb
  have hz := h.b.size
  have far : ∀ b, P b → b < wy.heap.size → (wy.setCell ⟨w.heap.size, 3, none⟩ v').heap[b]? = wy.heap[b]? ∧ P b := fun b hb _ => ⟨heap_far (by have := h.far b hb; omega), hb⟩
  refine ⟨h'.b.set 3 (by simp) v', ⟨h'.st.lock.move rLock_ok (by decide) far, h'.st.pair.move rPair_ok (by decide) far, hs.move rSession_ok (by decide) fun b hb _ => ⟨heap_far (by have : wx.heap.size ≤ b := hb; omega), h.up b hb⟩⟩, h.far, fun b hb => h'.up b (by simpa using hb)⟩
theorem ApAt.gone {w wx wy : World} {P : Nat → Prop} {s : StateD} {vl vp vs v' : Value} {l' : List LockD} (h : ApAt w wx P s vl vp vs) (hg : wx.grownBy wy (some w.heap.size)) (hx : BoxAt wy w.heap.size [.int .i64 s.index, v', vp, vs]) (hs : SlR 4 rLock wy v' l' (fun b => P b ∨ wx.heap.size ≤ b)) :
    ApAt w wy P ⟨s.index, l', s.pairs, s.sessions⟩ v' vp vs :=
  ⟨h.b.grown hg hx, ⟨hs.sub rLock_ok (by decide) fun b hb _ => hb.elim id (h.up b), h.st.pair.grown rPair_ok (by decide) hg (fun b hb => by have := h.far b hb; omega), h.st.sess.grown rSession_ok (by decide) hg (fun b hb => by have := h.far b hb; omega)⟩, h.far, fun b hb => h.up b (Nat.le_trans hg.size hb)⟩
theorem ApAt.does {w wx wy : World} {P : Nat → Prop} {s t : StateD} {vl vp vs v' p' : Value} (h : ApAt w wx P s vl vp vs) (hi : t.index = s.index) (hse : t.sessions = s.sessions) (hg : wx.grownBy wy (some w.heap.size)) (hx : BoxAt wy w.heap.size [.int .i64 s.index, v', p', vs]) (hl : SlR 4 rLock wy v' t.locks (fun b => (P b ∧ b < wx.heap.size) ∨ wx.heap.size ≤ b)) (hp : SlR 3 rPair wy p' t.pairs (fun b => (P b ∧ b < wx.heap.size) ∨ wx.heap.size ≤ b)) :
    ApAt w wy P t v' p' vs :=
  ⟨by rw [hi]; exact h.b.grown hg hx, ⟨hl.sub rLock_ok (by decide) fun b hb _ => hb.elim (·.1) (h.up b), hp.sub rPair_ok (by decide) fun b hb _ => hb.elim (·.1) (h.up b), by rw [hse]; exact h.st.sess.grown rSession_ok (by decide) hg (fun b hb => by have := h.far b hb; omega)⟩, h.far, fun b hb => h.up b (Nat.le_trans hg.size hb)⟩
theorem ApAt.next {w wx : World} {P : Nat → Prop} {s : StateD} {vl vp vs : Value} (h : ApAt w wx P s vl vp vs) (n : Int) :
    ApAt w (wx.setCell ⟨w.heap.size, 0, none⟩ (.int .i64 n)) P ⟨n, s.locks, s.pairs, s.sessions⟩ vl vp vs := by
  have hz := h.b.size
  have far : ∀ b, P b → b < wx.heap.size → (wx.setCell ⟨w.heap.size, 0, none⟩ (.int .i64 n)).heap[b]? = wx.heap[b]? ∧ P b := fun b hb _ => ⟨heap_far (by have := h.far b hb; omega), hb⟩
  have h' := h.st.move far
  exact ⟨h.b.set 0 (by simp) _, ⟨h'.lock, h'.pair, h'.sess⟩, h.far, fun b hb => h.up b (by simpa using hb)⟩
theorem ApAt.reply {w wx : World} {P : Nat → Prop} {s : StateD} {vl vp vs : Value} (h : ApAt w wx P s vl vp vs) (o : Obj) :
    ApAt w (wx.alloc o) (fun b => P b ∧ b ≠ wx.heap.size) s vl vp vs := by
  have h' := h.below (below_alloc wx o)
  have h2 := (h.st.sub (S' := fun b => P b ∧ b ≠ wx.heap.size) fun b hb hlt => ⟨hb, by omega⟩).below (below_alloc wx o)
  refine ⟨h'.b, h2, fun b hb => h.far b hb.1, fun b hb => ?_⟩
  rw [World.size_alloc] at hb
  exact ⟨h.up b (by omega), by omega⟩
theorem ApAt.out {w wx : World} {P : Nat → Prop} {s : StateD} {vl vp vs : Value} (h : ApAt w wx P s vl vp vs) {r : Nat} (hr : w.heap.size + 3 ≤ r) (hp : ¬ P r) (i : Nat) (u : Value) : ApAt w (wx.setCell ⟨r, i, none⟩ u) P s vl vp vs := by
  have far : ∀ b, P b → b < wx.heap.size → (wx.setCell ⟨r, i, none⟩ u).heap[b]? = wx.heap[b]? ∧ P b := fun b hb _ => ⟨heap_far (fun e => hp (e ▸ hb)), hb⟩
  exact ⟨⟨h.b.box.far (by omega) _ _, h.b.res.far (by omega) _ _, h.b.rep.far (by omega) _ _, below_set h.b.old (by omega) i u, by simpa using h.b.size⟩, h.st.move far, h.far, fun b hb => h.up b (by simpa using hb)⟩
theorem ApAt.fin {w wx : World} {P : Nat → Prop} {s : StateD} {vl vp vs : Value} (h : ApAt w wx P s vl vp vs) (r0 r1 r2 : Value) :
    BoxAt (((((((wx.setCell ⟨w.heap.size + 1, 0, none⟩ (.int .i64 s.index)).setCell ⟨w.heap.size + 1, 1, none⟩ vl).setCell ⟨w.heap.size + 1, 2, none⟩ vp).setCell ⟨w.heap.size + 1, 3, none⟩ vs).setCell ⟨w.heap.size + 1 + 1, 0, none⟩ r0).setCell ⟨w.heap.size + 1 + 1, 1, none⟩ r1).setCell ⟨w.heap.size + 1 + 1, 2, none⟩ r2) (w.heap.size + 1) [.int .i64 s.index, vl, vp, vs] ∧
    BoxAt (((((((wx.setCell ⟨w.heap.size + 1, 0, none⟩ (.int .i64 s.index)).setCell ⟨w.heap.size + 1, 1, none⟩ vl).setCell ⟨w.heap.size + 1, 2, none⟩ vp).setCell ⟨w.heap.size + 1, 3, none⟩ vs).setCell ⟨w.heap.size + 1 + 1, 0, none⟩ r0).setCell ⟨w.heap.size + 1 + 1, 1, none⟩ r1).setCell ⟨w.heap.size + 1 + 1, 2, none⟩ r2) (w.heap.size + 1 + 1) [r0, r1, r2] ∧
    StAt (((((((wx.setCell ⟨w.heap.size + 1, 0, none⟩ (.int .i64 s.index)).setCell ⟨w.heap.size + 1, 1, none⟩ vl).setCell ⟨w.heap.size + 1, 2, none⟩ vp).setCell ⟨w.heap.size + 1, 3, none⟩ vs).setCell ⟨w.heap.size + 1 + 1, 0, none⟩ r0).setCell ⟨w.heap.size + 1 + 1, 1, none⟩ r1).setCell ⟨w.heap.size + 1 + 1, 2, none⟩ r2) s vl vp vs (fun b => w.heap.size ≤ b) ∧
    Below w.heap.size w (((((((wx.setCell ⟨w.heap.size + 1, 0, none⟩ (.int .i64 s.index)).setCell ⟨w.heap.size + 1, 1, none⟩ vl).setCell ⟨w.heap.size + 1, 2, none⟩ vp).setCell ⟨w.heap.size + 1, 3, none⟩ vs).setCell ⟨w.heap.size + 1 + 1, 0, none⟩ r0).setCell ⟨w.heap.size + 1 + 1, 1, none⟩ r1).setCell ⟨w.heap.size + 1 + 1, 2, none⟩ r2) := by
  refine ⟨?_, ?_, h.st.move fun b hb _ => ⟨?_, ?_⟩, ?_⟩
  · exact ((((((h.b.res.set 0 (by simp) _).set 1 (by simp) _).set 2 (by simp) _).set 3 (by simp) _).far (by omega) _ _).far (by omega) _ _).far (by omega) _ _
  · exact (((((((h.b.rep.far (by omega) _ _).far (by omega) _ _).far (by omega) _ _).far (by omega) _ _).set 0 (by simp) _).set 1 (by simp) _).set 2 (by simp) _)
  · have := h.far b hb
    exact (heap_far (by omega)).trans ((heap_far (by omega)).trans ((heap_far (by omega)).trans ((heap_far (by omega)).trans ((heap_far (by omega)).trans ((heap_far (by omega)).trans (heap_far (by omega)))))))
  · have := h.far b hb
    show w.heap.size ≤ b
    omega
  · exact below_set (below_set (below_set (below_set (below_set (below_set (below_set h.b.old (by omega) _ _) (by omega) _ _) (by omega) _ _) (by omega) _ _) (by omega) _ _) (by omega) _ _) (by omega) _ _
def RetState (w : World) (res : StateD × ReplyD × Int) (e : Ending) (w' : World) : Prop :=
  ∃ vl vp vs, e = .returned (.tuple #[.agg #[.int .i64 res.1.index, vl, vp, vs], .agg #[.int .i64 res.2.1.code, .int .i64 res.2.1.n, .string ⟨res.2.1.text.toArray⟩], .int .i64 res.2.2]) ∧ StAt w' res.1 vl vp vs (fun b => w.heap.size ≤ b) ∧ Below w.heap.size w w'
end Go.Tk
namespace Go.Proofs.YtkefgapnghnjjaaGreatDoor
open Go.RowKit Go.Tk
set_option linter.unusedSimpArgs false in
set_option maxRecDepth 100000 in
set_option maxHeartbeats 6400000 in
theorem maApply_calls (s : StateD) (vl vp vs : Value) (S : Nat → Prop) (entry : List UInt8) (w : World) (h : StAt w s vl vp vs S) (hok : StOk s) (hi : s.index < 1073741824) (hd : decErr entry = 0) :
    Calls Tryz.prog 11 #[.agg #[.int .i64 s.index, vl, vp, vs], .string ⟨entry.toArray⟩] w (RetState w (maApply s entry)) := by
  have o1 := h.lock.oneCell
  have o2 := h.pair.oneCell
  have o3 := h.sess.oneCell
  have HF := Lib.hid hok.fits
  have HOK := Lib.hid hok
  have HV := Lib.hid (apply_eq hok hi hd)
  have hd2 : (cmdDecode entry).2 = 0 := hd
  have hce := decode_ok hd
  have hen : entry.length ≤ 1000000 := by
    rcases Nat.lt_or_ge 5000 entry.length with h1 | h1
    · rw [cmdDecode, if_pos h1] at hd2; cases hd2
    · omega
  have hi0 := hok.sess.idx
  rw [HV.out]
  clear HV hok hd
  go_enter Tryz.func11, Tryz.ntmps11
  go_upto_region 1 with (fail)
  have HA := Lib.hid (ap_start w [.int .i64 s.index, vl, vp, vs] 36 36 39)
  have HS := Lib.hid (h.below HA.out.old)
  clear h
  generalize ((w.alloc (.cells #[.int .i64 s.index, vl, vp, vs] 36)).alloc (.cells #[.int .i64 0, .slice none 0 0, .slice none 0 0, .slice none 0 0] 36)).alloc (.cells #[.int .i64 0, .int .i64 0, .string ⟨#[]⟩] 39) = w3 at *
  have b0 := HA.out.box.cell 0 _ rfl; have b1 := HA.out.box.cell 1 _ rfl; have b2 := HA.out.box.cell 2 _ rfl; have b3 := HA.out.box.cell 3 _ rfl
  go_wp2_with fail
  refine (maCheck_calls s vl vp vs S w3 HS.out HF.out).mono ?_
  rw [maCheck_ok.2 HOK.out]
  rintro e w4 ⟨rfl, hb4⟩
  clear b0 b1 b2 b3
  replace HA := Lib.hid (HA.out.below hb4)
  replace HS := Lib.hid (HS.out.below hb4)
  clear hb4
  have b0 := HA.out.box.cell 0 _ rfl
  have hne : (s.index == 1073741824) = false := by simp; omega
  go_wp2_with fail
  refine (decode_calls entry w4 hen).mono ?_
  rw [hd2]
  generalize (cmdDecode entry).1 = c at *
  simp only [valCommand]
  rintro e w5 ⟨rfl, hb5⟩
  clear b0 hne hd2
  replace HA := Lib.hid (HA.out.below hb5)
  replace HS := Lib.hid (HS.out.below hb5)
  clear hb5
  have HB := Lib.hid (BoxAt.new (w := w5) (cs := [.int .i64 c.kind, .int .i64 c.client, .int .i64 c.session, .int .i64 c.seq, .int .i64 c.acked, .int .i64 c.op.kind, .string ⟨c.op.a.toArray⟩, .string ⟨c.op.b.toArray⟩, .int .i64 c.op.n]) (E := 45))
  have hba := below_alloc w5 (.cells #[.int .i64 c.kind, .int .i64 c.client, .int .i64 c.session, .int .i64 c.seq, .int .i64 c.acked, .int .i64 c.op.kind, .string ⟨c.op.a.toArray⟩, .string ⟨c.op.b.toArray⟩, .int .i64 c.op.n] 45)
  have hK := HA.out.size
  replace HA := Lib.hid (HA.out.below hba)
  replace HS := Lib.hid (HS.out.below hba)
  clear hba
  go_upto_region 9 with (fail)
  generalize w5.alloc (.cells #[.int .i64 c.kind, .int .i64 c.client, .int .i64 c.session, .int .i64 c.seq, .int .i64 c.acked, .int .i64 c.op.kind, .string ⟨c.op.a.toArray⟩, .string ⟨c.op.b.toArray⟩, .int .i64 c.op.n] 45) = w6 at *
  generalize w5.heap.size = K at *
  have b0 := HA.out.box.cell 0 _ rfl; have b1 := HA.out.box.cell 1 _ rfl; have b2 := HA.out.box.cell 2 _ rfl; have b3 := HA.out.box.cell 3 _ rfl
  have HCP := Lib.hid (maCopy_calls s vl vp vs S w6 HS.out HF.out)
  clear HS
  go_wp2_with fail
  refine HCP.out.mono ?_
  rintro e w7 ⟨vl7, vp7, vs7, rfl, hs7, hb7⟩
  clear b0 b1 b2 b3 HCP
  have hKlt := HB.out.lt
  replace HB := Lib.hid (HB.out.below hb7)
  have q1 := hs7.lock.oneCell; have q2 := hs7.pair.oneCell; have q3 := hs7.sess.oneCell
  obtain ⟨al, cl, rfl, -, -, -, -⟩ := id hs7.lock; obtain ⟨ap, cp, rfl, -, -, -, -⟩ := id hs7.pair; obtain ⟨az, cz, rfl, -, -, -, -⟩ := id hs7.sess
  have ha7 := HA.out.below hb7
  have y0 := ha7.box.cell 0 _ rfl; have y1 := ha7.box.cell 1 _ rfl; have y2 := ha7.box.cell 2 _ rfl; have y3 := ha7.box.cell 3 _ rfl
  have t0 := ha7.box.thaw 0; have t1 := ha7.box.thaw 1; have t2 := ha7.box.thaw 2; have t3 := ha7.box.thaw 3
  have HA8 := Lib.hid (ApAt.copy HA.out rfl hb7 hs7)
  have HKm := Lib.hid (show ¬ (w6.heap.size ≤ K) by omega)
  have hKw : K ≠ w.heap.size := by omega
  go_upto_region 10 with (fail)
  replace HB := Lib.hid ((((HB.out.far hKw 0 (.int .i64 s.index)).far hKw 1 (.slice al s.locks.length cl)).far hKw 2 (.slice ap s.pairs.length cp)).far hKw 3 (.slice az s.sessions.length cz))
  clear y0 y1 y2 y3 t0 t1 t2 t3 ha7 hs7 hb7 HA
  generalize (((w7.setCell ⟨w.heap.size, 0, none⟩ (.int .i64 s.index)).setCell ⟨w.heap.size, 1, none⟩ (.slice al s.locks.length cl)).setCell ⟨w.heap.size, 2, none⟩ (.slice ap s.pairs.length cp)).setCell ⟨w.heap.size, 3, none⟩ (.slice az s.sessions.length cz) = w8 at *
  generalize w6.heap.size = m at *
  have b0 := HA8.out.b.box.cell 0 _ rfl; have b3 := HA8.out.b.box.cell 3 _ rfl
  have HFR := Lib.hid (fresh_calls s.sessions s.index (.slice az s.sessions.length cz) _ w8 HA8.out.st.sess)
  go_wp2_with fail
  refine HFR.out.mono ?_
  rintro e w9 ⟨v9, rfl, hs9, hb9⟩
  clear b0 b3 HFR
  have hone9 := hs9.oneCell
  obtain ⟨a9, c9, rfl, -, -, -, -⟩ := id hs9
  have ha9 := HA8.out.below hb9
  have y3 := ha9.b.box.cell 3 _ rfl; have t3 := ha9.b.box.thaw 3
  have HW := Lib.hid (ha9.st.sess.move (w' := w9.setCell ⟨w.heap.size, 3, none⟩ (.slice a9 (freshL s.sessions s.index).1.length c9)) (S' := fun b => m ≤ b) rSession_ok (by decide) fun b hb _ => ⟨heap_far (by have := ha9.far b hb; omega), hb⟩)
  have HA9 := Lib.hid (HA8.out.sess hb9 hs9)
  replace HB := Lib.hid ((HB.out.below hb9).far hKw 3 (.slice a9 (freshL s.sessions s.index).1.length c9))
  clear ha9 HA8 hs9 hb9
  obtain ⟨hfok, -, -⟩ := fresh_step HOK.out
  have HFOK := Lib.hid hfok
  go_upto_region 12 with (fail)
  generalize w9.setCell ⟨w.heap.size, 3, none⟩ (.slice a9 (freshL s.sessions s.index).1.length c9) = w10 at *
  have HG := Lib.hid (maGone_calls ⟨s.index, s.locks, s.pairs, (freshL s.sessions s.index).1⟩ w.heap.size _ _ _ _ s.sessions _ w10 HA9.out.b.box HA9.out.st HW.out (fun b hb => by have := HA9.out.far b hb; omega) HOK.out.lock HOK.out.sess.clients (Nat.le_trans hfok.sess.len (by omega)) (Nat.le_trans HOK.out.sess.len (by omega)))
  clear y3 t3 hfok
  go_wp2_with fail
  refine HG.out.mono ?_
  rintro e w11 ⟨rfl, vl11, hx11, hs11, hg11⟩
  obtain ⟨a11, c11, rfl, -, -, -, -⟩ := id hs11
  have HA := Lib.hid (show ApAt w w11 (fun b => m ≤ b) (maFresh s) (.slice a11 (maFresh s).locks.length c11) (.slice ap s.pairs.length cp) (.slice a9 (freshL s.sessions s.index).1.length c9) from HA9.out.gone hg11 hx11 hs11)
  replace HB := Lib.hid (HB.out.grown hg11 (fun e => by have := Option.some.inj e; omega))
  clear HG HW HA9 hx11 hs11 hg11 HOK HF
  have hfi : (maFresh s).index = s.index := rfl
  rw [← hfi] at hi hi0
  have e1 : s.pairs.length = (maFresh s).pairs.length := rfl
  have e2 : (freshL s.sessions s.index).1.length = (maFresh s).sessions.length := rfl
  simp only [e1, e2] at HA ⊢
  clear e1 e2 hfi
  generalize maFresh s = f at *
  go_upto_region 14 with (fail)
  have HR := Lib.hid (BoxAt.new (w := w11) (cs := [.int .i64 0, .int .i64 0, .string ⟨#[]⟩]) (E := 39))
  replace HB := Lib.hid (HB.out.below (below_alloc w11 (.cells #[.int .i64 0, .int .i64 0, .string ⟨#[]⟩] 39)))
  have hRw := HA.out.b.size
  have hRm : m ≤ w11.heap.size := HA.out.up _ (Nat.le_refl _)
  replace HA := Lib.hid (HA.out.reply (.cells #[.int .i64 0, .int .i64 0, .string ⟨#[]⟩] 39))
  generalize w11.alloc (.cells #[.int .i64 0, .int .i64 0, .string ⟨#[]⟩] 39) = w12 at *
  generalize w11.heap.size = R at *
  have hPR : ¬ ((fun b => m ≤ b ∧ b ≠ R) R) := fun h => h.2 rfl
  have hKR : K ≠ R := by have := HKm.out; omega
  have hbd := hce.bounds
  have HCE := Lib.hid hce
  clear hce
  have k0 := HB.out.cell 0 _ rfl
  have hop1 := HA.out.st.lock.oneCell; have hop2 := HA.out.st.pair.oneCell; have hop3 := HA.out.st.sess.oneCell
  obtain ⟨knd, cl, se, sq, ak, op⟩ := c
  simp only at hbd HB k0 ⊢
  obtain rfl | rfl | rfl : knd = 1 ∨ knd = 3 ∨ knd = 2 := by omega
  · have HF := Lib.hid (show maCmd f ⟨1, cl, se, sq, ak, op⟩ = (⟨f.index, f.locks, f.pairs, (join f.sessions f.index cl).1⟩, (join f.sessions f.index cl).2.1) from rfl)
    have i0 := HA.out.b.box.cell 0 _ rfl; have i3 := HA.out.b.box.cell 3 _ rfl; have k1 := HB.out.cell 1 _ rfl
    have HJ := Lib.hid (join_calls f.sessions f.index cl _ _ w12 HA.out.st.sess (by omega))
    go_wp2_with fail
    refine HJ.out.mono ?_
    rintro e w14 ⟨v14, rfl, hs14, hb14⟩
    clear i0 i3 k0 k1 HJ
    have hone14 := hs14.oneCell
    obtain ⟨a14, c14, rfl, -, -, -, -⟩ := id hs14
    have ha := HA.out.below hb14
    have hr := HR.out.below hb14
    have y3 := ha.b.box.cell 3 _ rfl; have t3 := ha.b.box.thaw 3
    have z0 := hr.cell 0 _ rfl; have z1 := hr.cell 1 _ rfl; have z2 := hr.cell 2 _ rfl
    have x0 := hr.thaw 0; have x1 := hr.thaw 1; have x2 := hr.thaw 2
    replace HA := Lib.hid ((((HA.out.sess hb14 hs14).out hRw hPR 0 (.int .i64 (join f.sessions f.index cl).2.1.code)).out hRw hPR 1 (.int .i64 (join f.sessions f.index cl).2.1.n)).out hRw hPR 2 (.string ⟨(join f.sessions f.index cl).2.1.text.toArray⟩))
    replace HR := Lib.hid ((((hr.far (c := w.heap.size) (by omega) 3 (.slice a14 (join f.sessions f.index cl).1.length c14)).set 0 (by simp) (.int .i64 (join f.sessions f.index cl).2.1.code)).set 1 (by simp) (.int .i64 (join f.sessions f.index cl).2.1.n)).set 2 (by simp) (.string ⟨(join f.sessions f.index cl).2.1.text.toArray⟩))
    replace HB := Lib.hid (((((HB.out.below hb14).far hKw 3 (.slice a14 (join f.sessions f.index cl).1.length c14)).far hKR 0 (.int .i64 (join f.sessions f.index cl).2.1.code)).far hKR 1 (.int .i64 (join f.sessions f.index cl).2.1.n)).far hKR 2 (.string ⟨(join f.sessions f.index cl).2.1.text.toArray⟩))
    clear ha hr hb14 hs14
    go_upto_region 26 with (fail)
    clear y3 t3 z0 z1 z2 x0 x1 x2
    generalize (((w14.setCell ⟨w.heap.size, 3, none⟩ (.slice a14 (join f.sessions f.index cl).1.length c14)).setCell ⟨R, 0, none⟩ (.int .i64 (join f.sessions f.index cl).2.1.code)).setCell ⟨R, 1, none⟩ (.int .i64 (join f.sessions f.index cl).2.1.n)).setCell ⟨R, 2, none⟩ (.string ⟨(join f.sessions f.index cl).2.1.text.toArray⟩) = wz at *
    have i0 := HA.out.b.box.cell 0 _ rfl; have i1 := HA.out.b.box.thaw 0
    go_upto_region 27 with (fail)
    have HN := Lib.hid (HA.out.next (f.index + 1))
    have HRN := Lib.hid (HR.out.far (c := w.heap.size) (by omega) 0 (.int .i64 (f.index + 1)))
    have hz1 := HN.out.st.lock.oneCell; have hz2 := HN.out.st.pair.oneCell; have hz3 := HN.out.st.sess.oneCell
    generalize wz.setCell ⟨w.heap.size, 0, none⟩ (.int .i64 (f.index + 1)) = wy at *
    clear i0 i1 HA HR HB
    have b0 := HN.out.b.box.cell 0 _ rfl; have b1 := HN.out.b.box.cell 1 _ rfl; have b2 := HN.out.b.box.cell 2 _ rfl; have b3 := HN.out.b.box.cell 3 _ rfl
    have r0 := HRN.out.cell 0 _ rfl; have r1 := HRN.out.cell 1 _ rfl; have r2 := HRN.out.cell 2 _ rfl
    have s0 := HN.out.b.res.cell 0 _ rfl; have s1 := HN.out.b.res.cell 1 _ rfl; have s2 := HN.out.b.res.cell 2 _ rfl; have s3 := HN.out.b.res.cell 3 _ rfl
    have t0 := HN.out.b.res.thaw 0; have t1 := HN.out.b.res.thaw 1; have t2 := HN.out.b.res.thaw 2; have t3 := HN.out.b.res.thaw 3
    have p0 := HN.out.b.rep.cell 0 _ rfl; have p1 := HN.out.b.rep.cell 1 _ rfl; have p2 := HN.out.b.rep.cell 2 _ rfl
    have q0 := HN.out.b.rep.thaw 0; have q1 := HN.out.b.rep.thaw 1; have q2 := HN.out.b.rep.thaw 2
    go_region
    obtain ⟨h1, h2, h3, h4⟩ := HN.out.fin (.int .i64 (join f.sessions f.index cl).2.1.code) (.int .i64 (join f.sessions f.index cl).2.1.n) (.string ⟨(join f.sessions f.index cl).2.1.text.toArray⟩)
    clear b0 b1 b2 b3 r0 r1 r2 s0 s1 s2 s3 t0 t1 t2 t3 p0 p1 p2 q0 q1 q2 HN HRN
    generalize ((((((wy.setCell ⟨w.heap.size + 1, 0, none⟩ (.int .i64 (f.index + 1))).setCell ⟨w.heap.size + 1, 1, none⟩ (.slice a11 f.locks.length c11)).setCell ⟨w.heap.size + 1, 2, none⟩ (.slice ap f.pairs.length cp)).setCell ⟨w.heap.size + 1, 3, none⟩ (.slice a14 (join f.sessions f.index cl).1.length c14)).setCell ⟨w.heap.size + 1 + 1, 0, none⟩ (.int .i64 (join f.sessions f.index cl).2.1.code)).setCell ⟨w.heap.size + 1 + 1, 1, none⟩ (.int .i64 (join f.sessions f.index cl).2.1.n)).setCell ⟨w.heap.size + 1 + 1, 2, none⟩ (.string ⟨(join f.sessions f.index cl).2.1.text.toArray⟩) = wf at *
    have hf1 := h1.drew; have hf2 := h2.drew
    have hf3 := h3.move (w' := wf.drew) (S' := fun b => w.heap.size ≤ b) fun b hb _ => ⟨rfl, hb⟩
    have hf4 : Below w.heap.size w wf.drew := Below.drew h4
    clear h1 h2 h3 h4
    generalize wf.drew = wg at *
    refine then_abs (fun wx => wx = wg) rfl ?_
    rintro _ rfl
    go_wp2
    have g0 := hf1.cell 0 _ rfl; have g1 := hf1.cell 1 _ rfl; have g2 := hf1.cell 2 _ rfl; have g3 := hf1.cell 3 _ rfl
    have g4 := hf2.cell 0 _ rfl; have g5 := hf2.cell 1 _ rfl; have g6 := hf2.cell 2 _ rfl
    rw [HF.out, maBump]
    refine bodyPost_ret (v := .tuple #[.agg #[.int .i64 (f.index + 1), .slice a11 f.locks.length c11, .slice ap f.pairs.length cp, .slice a14 (join f.sessions f.index cl).1.length c14], .agg #[.int .i64 (join f.sessions f.index cl).2.1.code, .int .i64 (join f.sessions f.index cl).2.1.n, .string ⟨(join f.sessions f.index cl).2.1.text.toArray⟩], .int .i64 0]) (by simp [results, Tryz.results11, go_sem, g0, g1, g2, g3, g4, g5, g6]) rfl ⟨_, _, _, rfl, hf3, hf4⟩
  · have HF := Lib.hid (show maCmd f ⟨3, cl, se, sq, ak, op⟩ = (⟨f.index, maGone f.locks (leave f.sessions f.index cl).1 f.sessions, f.pairs, (leave f.sessions f.index cl).1⟩, (leave f.sessions f.index cl).2.1) from rfl)
    have i0 := HA.out.b.box.cell 0 _ rfl; have i3 := HA.out.b.box.cell 3 _ rfl; have k1 := HB.out.cell 1 _ rfl
    have HJ := Lib.hid (leave_calls f.sessions f.index cl _ _ w12 HA.out.st.sess HFOK.out.sess (by omega))
    have hll := (leave_step (c := cl) HFOK.out hi).1.sess.len
    go_wp2_with fail
    refine HJ.out.mono ?_
    rintro e w14 ⟨v14, rfl, hs14, hb14⟩
    clear i0 i3 k0 k1 HJ
    have hone14 := hs14.oneCell
    obtain ⟨a14, c14, rfl, -, -, -, -⟩ := id hs14
    have HW := Lib.hid ((HA.out.st.sess.below rSession_ok (by decide) hb14).move (w' := (((w14.setCell ⟨w.heap.size, 3, none⟩ (.slice a14 (leave f.sessions f.index cl).1.length c14)).setCell ⟨R, 0, none⟩ (.int .i64 (leave f.sessions f.index cl).2.1.code)).setCell ⟨R, 1, none⟩ (.int .i64 (leave f.sessions f.index cl).2.1.n)).setCell ⟨R, 2, none⟩ (.string ⟨(leave f.sessions f.index cl).2.1.text.toArray⟩)) (S' := fun b => m ≤ b ∧ b ≠ R) rSession_ok (by decide) fun b hb _ => ⟨(heap_far hb.2).trans ((heap_far hb.2).trans ((heap_far hb.2).trans (heap_far (by have := HA.out.far b hb; omega)))), hb⟩)
    have ha := HA.out.below hb14
    have hr := HR.out.below hb14
    have y3 := ha.b.box.cell 3 _ rfl; have t3 := ha.b.box.thaw 3
    have z0 := hr.cell 0 _ rfl; have z1 := hr.cell 1 _ rfl; have z2 := hr.cell 2 _ rfl
    have x0 := hr.thaw 0; have x1 := hr.thaw 1; have x2 := hr.thaw 2
    replace HA := Lib.hid ((((HA.out.sess hb14 hs14).out hRw hPR 0 (.int .i64 (leave f.sessions f.index cl).2.1.code)).out hRw hPR 1 (.int .i64 (leave f.sessions f.index cl).2.1.n)).out hRw hPR 2 (.string ⟨(leave f.sessions f.index cl).2.1.text.toArray⟩))
    replace HR := Lib.hid ((((hr.far (c := w.heap.size) (by omega) 3 (.slice a14 (leave f.sessions f.index cl).1.length c14)).set 0 (by simp) (.int .i64 (leave f.sessions f.index cl).2.1.code)).set 1 (by simp) (.int .i64 (leave f.sessions f.index cl).2.1.n)).set 2 (by simp) (.string ⟨(leave f.sessions f.index cl).2.1.text.toArray⟩))
    replace HB := Lib.hid (((((HB.out.below hb14).far hKw 3 (.slice a14 (leave f.sessions f.index cl).1.length c14)).far hKR 0 (.int .i64 (leave f.sessions f.index cl).2.1.code)).far hKR 1 (.int .i64 (leave f.sessions f.index cl).2.1.n)).far hKR 2 (.string ⟨(leave f.sessions f.index cl).2.1.text.toArray⟩))
    clear ha hr hb14 hs14
    go_upto_region 25 with (fail)
    clear y3 t3 z0 z1 z2 x0 x1 x2
    generalize (((w14.setCell ⟨w.heap.size, 3, none⟩ (.slice a14 (leave f.sessions f.index cl).1.length c14)).setCell ⟨R, 0, none⟩ (.int .i64 (leave f.sessions f.index cl).2.1.code)).setCell ⟨R, 1, none⟩ (.int .i64 (leave f.sessions f.index cl).2.1.n)).setCell ⟨R, 2, none⟩ (.string ⟨(leave f.sessions f.index cl).2.1.text.toArray⟩) = wz at *
    have HG := Lib.hid (maGone_calls ⟨f.index, f.locks, f.pairs, (leave f.sessions f.index cl).1⟩ w.heap.size _ _ _ _ f.sessions _ wz HA.out.b.box HA.out.st HW.out (fun b hb => by have := HA.out.far b hb; omega) HFOK.out.lock HFOK.out.sess.clients (Nat.le_trans hll (by omega)) (Nat.le_trans HFOK.out.sess.len (by omega)))
    go_wp2_with fail
    refine HG.out.mono ?_
    rintro e w16 ⟨rfl, vl16, hx16, hs16, hg16⟩
    obtain ⟨a16, c16, rfl, -, -, -, -⟩ := id hs16
    replace HA := Lib.hid (HA.out.gone hg16 hx16 hs16)
    replace HR := Lib.hid (HR.out.grown hg16 (fun e => by have := Option.some.inj e; omega))
    clear HG HW HB hx16 hs16 hg16
    have HB := 0
    have i0 := HA.out.b.box.cell 0 _ rfl; have i1 := HA.out.b.box.thaw 0
    go_upto_region 27 with (fail)
    have HN := Lib.hid (HA.out.next (f.index + 1))
    have HRN := Lib.hid (HR.out.far (c := w.heap.size) (by omega) 0 (.int .i64 (f.index + 1)))
    have hz1 := HN.out.st.lock.oneCell; have hz2 := HN.out.st.pair.oneCell; have hz3 := HN.out.st.sess.oneCell
    generalize w16.setCell ⟨w.heap.size, 0, none⟩ (.int .i64 (f.index + 1)) = wy at *
    clear i0 i1 HA HR HB
    have b0 := HN.out.b.box.cell 0 _ rfl; have b1 := HN.out.b.box.cell 1 _ rfl; have b2 := HN.out.b.box.cell 2 _ rfl; have b3 := HN.out.b.box.cell 3 _ rfl
    have r0 := HRN.out.cell 0 _ rfl; have r1 := HRN.out.cell 1 _ rfl; have r2 := HRN.out.cell 2 _ rfl
    have s0 := HN.out.b.res.cell 0 _ rfl; have s1 := HN.out.b.res.cell 1 _ rfl; have s2 := HN.out.b.res.cell 2 _ rfl; have s3 := HN.out.b.res.cell 3 _ rfl
    have t0 := HN.out.b.res.thaw 0; have t1 := HN.out.b.res.thaw 1; have t2 := HN.out.b.res.thaw 2; have t3 := HN.out.b.res.thaw 3
    have p0 := HN.out.b.rep.cell 0 _ rfl; have p1 := HN.out.b.rep.cell 1 _ rfl; have p2 := HN.out.b.rep.cell 2 _ rfl
    have q0 := HN.out.b.rep.thaw 0; have q1 := HN.out.b.rep.thaw 1; have q2 := HN.out.b.rep.thaw 2
    go_region
    obtain ⟨h1, h2, h3, h4⟩ := HN.out.fin (.int .i64 (leave f.sessions f.index cl).2.1.code) (.int .i64 (leave f.sessions f.index cl).2.1.n) (.string ⟨(leave f.sessions f.index cl).2.1.text.toArray⟩)
    clear b0 b1 b2 b3 r0 r1 r2 s0 s1 s2 s3 t0 t1 t2 t3 p0 p1 p2 q0 q1 q2 HN HRN
    generalize ((((((wy.setCell ⟨w.heap.size + 1, 0, none⟩ (.int .i64 (f.index + 1))).setCell ⟨w.heap.size + 1, 1, none⟩ (.slice a16 (maGone f.locks (leave f.sessions f.index cl).1 f.sessions).length c16)).setCell ⟨w.heap.size + 1, 2, none⟩ (.slice ap f.pairs.length cp)).setCell ⟨w.heap.size + 1, 3, none⟩ (.slice a14 (leave f.sessions f.index cl).1.length c14)).setCell ⟨w.heap.size + 1 + 1, 0, none⟩ (.int .i64 (leave f.sessions f.index cl).2.1.code)).setCell ⟨w.heap.size + 1 + 1, 1, none⟩ (.int .i64 (leave f.sessions f.index cl).2.1.n)).setCell ⟨w.heap.size + 1 + 1, 2, none⟩ (.string ⟨(leave f.sessions f.index cl).2.1.text.toArray⟩) = wf at *
    have hf1 := h1.drew; have hf2 := h2.drew
    have hf3 := h3.move (w' := wf.drew) (S' := fun b => w.heap.size ≤ b) fun b hb _ => ⟨rfl, hb⟩
    have hf4 : Below w.heap.size w wf.drew := Below.drew h4
    clear h1 h2 h3 h4
    generalize wf.drew = wg at *
    refine then_abs (fun wx => wx = wg) rfl ?_
    rintro _ rfl
    go_wp2
    have g0 := hf1.cell 0 _ rfl; have g1 := hf1.cell 1 _ rfl; have g2 := hf1.cell 2 _ rfl; have g3 := hf1.cell 3 _ rfl
    have g4 := hf2.cell 0 _ rfl; have g5 := hf2.cell 1 _ rfl; have g6 := hf2.cell 2 _ rfl
    rw [HF.out, maBump]
    refine bodyPost_ret (v := .tuple #[.agg #[.int .i64 (f.index + 1), .slice a16 (maGone f.locks (leave f.sessions f.index cl).1 f.sessions).length c16, .slice ap f.pairs.length cp, .slice a14 (leave f.sessions f.index cl).1.length c14], .agg #[.int .i64 (leave f.sessions f.index cl).2.1.code, .int .i64 (leave f.sessions f.index cl).2.1.n, .string ⟨(leave f.sessions f.index cl).2.1.text.toArray⟩], .int .i64 0]) (by simp [results, Tryz.results11, go_sem, g0, g1, g2, g3, g4, g5, g6]) rfl ⟨_, _, _, rfl, hf3, hf4⟩
  · obtain ⟨hsq, hak, hop⟩ : (1 ≤ sq ∧ sq ≤ 1048576) ∧ (0 ≤ ak ∧ ak < sq) ∧ OpOk op := by
      rcases HCE.out with ⟨hk', _⟩ | ⟨_, h1, h2, h3, h4, h5⟩
      · simp at hk'
      · exact ⟨h3, h4, h5⟩
    obtain ⟨hr1, -, -, -⟩ := ready_ok (c := cl) (ses := se) (seq := sq) (acked := ak) HFOK.out.sess hi (by omega)
    have HOP := Lib.hid hop
    clear hop
    have i0 := HA.out.b.box.cell 0 _ rfl; have i3 := HA.out.b.box.cell 3 _ rfl
    have k1 := HB.out.cell 1 _ rfl; have k2 := HB.out.cell 2 _ rfl; have k3 := HB.out.cell 3 _ rfl; have k4 := HB.out.cell 4 _ rfl; have k5 := HB.out.cell 5 _ rfl; have k6 := HB.out.cell 6 _ rfl; have k7 := HB.out.cell 7 _ rfl; have k8 := HB.out.cell 8 _ rfl
    have HJ := Lib.hid (ready_calls f.sessions f.index 2 cl se sq ak op _ _ w12 HA.out.st.sess (by omega))
    have HM := Lib.hid (show maCmd f ⟨2, cl, se, sq, ak, op⟩ = maCall f ⟨2, cl, se, sq, ak, op⟩ from rfl)
    rw [maCall] at HM
    simp only at HM
    go_wp2_with fail
    refine HJ.out.mono ?_
    clear HJ
    generalize ready f.sessions f.index cl se sq ak = rd at *
    rintro e w14 ⟨v14, rfl, hs14, hb14⟩
    clear i0 i3 k0 k1 k2 k3 k4 k5 k6 k7 k8
    have hone14 := hs14.oneCell
    obtain ⟨a14, c14, rfl, -, -, -, -⟩ := id hs14
    have ha := HA.out.below hb14
    have hr := HR.out.below hb14
    have y3 := ha.b.box.cell 3 _ rfl; have t3 := ha.b.box.thaw 3
    have z0 := hr.cell 0 _ rfl; have z1 := hr.cell 1 _ rfl; have z2 := hr.cell 2 _ rfl
    have x0 := hr.thaw 0; have x1 := hr.thaw 1; have x2 := hr.thaw 2
    replace HA := Lib.hid ((((HA.out.sess hb14 hs14).out hRw hPR 0 (.int .i64 rd.2.1.code)).out hRw hPR 1 (.int .i64 rd.2.1.n)).out hRw hPR 2 (.string ⟨rd.2.1.text.toArray⟩))
    replace HR := Lib.hid ((((hr.far (c := w.heap.size) (by omega) 3 (.slice a14 rd.1.length c14)).set 0 (by simp) (.int .i64 rd.2.1.code)).set 1 (by simp) (.int .i64 rd.2.1.n)).set 2 (by simp) (.string ⟨rd.2.1.text.toArray⟩))
    replace HB := Lib.hid (((((HB.out.below hb14).far hKw 3 (.slice a14 rd.1.length c14)).far hKR 0 (.int .i64 rd.2.1.code)).far hKR 1 (.int .i64 rd.2.1.n)).far hKR 2 (.string ⟨rd.2.1.text.toArray⟩))
    clear ha hr hb14 hs14
    go_upto_region 17 with (fail)
    clear y3 t3 z0 z1 z2 x0 x1 x2
    generalize (((w14.setCell ⟨w.heap.size, 3, none⟩ (.slice a14 rd.1.length c14)).setCell ⟨R, 0, none⟩ (.int .i64 rd.2.1.code)).setCell ⟨R, 1, none⟩ (.int .i64 rd.2.1.n)).setCell ⟨R, 2, none⟩ (.string ⟨rd.2.1.text.toArray⟩) = wz at *
    by_cases htd : rd.2.2.1 = true
    case neg =>
      have HF := Lib.hid (HM.out.trans (if_neg htd))
      have htd' : rd.2.2.1 = false := by simpa using htd
      rw [htd']
      clear htd htd' HM
      have i0 := HA.out.b.box.cell 0 _ rfl; have i1 := HA.out.b.box.thaw 0
      go_upto_region 27 with (fail)
      have HN := Lib.hid (HA.out.next (f.index + 1))
      have HRN := Lib.hid (HR.out.far (c := w.heap.size) (by omega) 0 (.int .i64 (f.index + 1)))
      have hz1 := HN.out.st.lock.oneCell; have hz2 := HN.out.st.pair.oneCell; have hz3 := HN.out.st.sess.oneCell
      generalize wz.setCell ⟨w.heap.size, 0, none⟩ (.int .i64 (f.index + 1)) = wy at *
      clear i0 i1 HA HR HB
      have b0 := HN.out.b.box.cell 0 _ rfl; have b1 := HN.out.b.box.cell 1 _ rfl; have b2 := HN.out.b.box.cell 2 _ rfl; have b3 := HN.out.b.box.cell 3 _ rfl
      have r0 := HRN.out.cell 0 _ rfl; have r1 := HRN.out.cell 1 _ rfl; have r2 := HRN.out.cell 2 _ rfl
      have s0 := HN.out.b.res.cell 0 _ rfl; have s1 := HN.out.b.res.cell 1 _ rfl; have s2 := HN.out.b.res.cell 2 _ rfl; have s3 := HN.out.b.res.cell 3 _ rfl
      have t0 := HN.out.b.res.thaw 0; have t1 := HN.out.b.res.thaw 1; have t2 := HN.out.b.res.thaw 2; have t3 := HN.out.b.res.thaw 3
      have p0 := HN.out.b.rep.cell 0 _ rfl; have p1 := HN.out.b.rep.cell 1 _ rfl; have p2 := HN.out.b.rep.cell 2 _ rfl
      have q0 := HN.out.b.rep.thaw 0; have q1 := HN.out.b.rep.thaw 1; have q2 := HN.out.b.rep.thaw 2
      go_region
      obtain ⟨h1, h2, h3, h4⟩ := HN.out.fin (.int .i64 rd.2.1.code) (.int .i64 rd.2.1.n) (.string ⟨rd.2.1.text.toArray⟩)
      clear b0 b1 b2 b3 r0 r1 r2 s0 s1 s2 s3 t0 t1 t2 t3 p0 p1 p2 q0 q1 q2 HN HRN
      generalize ((((((wy.setCell ⟨w.heap.size + 1, 0, none⟩ (.int .i64 (f.index + 1))).setCell ⟨w.heap.size + 1, 1, none⟩ (.slice a11 f.locks.length c11)).setCell ⟨w.heap.size + 1, 2, none⟩ (.slice ap f.pairs.length cp)).setCell ⟨w.heap.size + 1, 3, none⟩ (.slice a14 rd.1.length c14)).setCell ⟨w.heap.size + 1 + 1, 0, none⟩ (.int .i64 rd.2.1.code)).setCell ⟨w.heap.size + 1 + 1, 1, none⟩ (.int .i64 rd.2.1.n)).setCell ⟨w.heap.size + 1 + 1, 2, none⟩ (.string ⟨rd.2.1.text.toArray⟩) = wf at *
      have hf1 := h1.drew; have hf2 := h2.drew
      have hf3 := h3.move (w' := wf.drew) (S' := fun b => w.heap.size ≤ b) fun b hb _ => ⟨rfl, hb⟩
      have hf4 : Below w.heap.size w wf.drew := Below.drew h4
      clear h1 h2 h3 h4
      generalize wf.drew = wg at *
      refine then_abs (fun wx => wx = wg) rfl ?_
      rintro _ rfl
      go_wp2
      have g0 := hf1.cell 0 _ rfl; have g1 := hf1.cell 1 _ rfl; have g2 := hf1.cell 2 _ rfl; have g3 := hf1.cell 3 _ rfl
      have g4 := hf2.cell 0 _ rfl; have g5 := hf2.cell 1 _ rfl; have g6 := hf2.cell 2 _ rfl
      rw [HF.out, maBump]
      refine bodyPost_ret (v := .tuple #[.agg #[.int .i64 (f.index + 1), .slice a11 f.locks.length c11, .slice ap f.pairs.length cp, .slice a14 rd.1.length c14], .agg #[.int .i64 rd.2.1.code, .int .i64 rd.2.1.n, .string ⟨rd.2.1.text.toArray⟩], .int .i64 0]) (by simp [results, Tryz.results11, go_sem, g0, g1, g2, g3, g4, g5, g6]) rfl ⟨_, _, _, rfl, hf3, hf4⟩
    have HF0 := Lib.hid (HM.out.trans (if_pos htd))
    rw [htd]
    clear htd HM
    have k1 := HB.out.cell 1 _ rfl; have k5 := HB.out.cell 5 _ rfl; have k6 := HB.out.cell 6 _ rfl; have k7 := HB.out.cell 7 _ rfl; have k8 := HB.out.cell 8 _ rfl
    have HDO := Lib.hid (maDo_calls ⟨f.index, f.locks, f.pairs, rd.1⟩ w.heap.size _ _ (.slice a14 rd.1.length c14) rfl cl op (fun b => (m ≤ b ∧ b ≠ R) ∧ b < wz.heap.size) wz HA.out.b.box (HA.out.st.lock.sub rLock_ok (by decide) fun b hb hlt => ⟨hb, hlt⟩) (HA.out.st.pair.sub rPair_ok (by decide) fun b hb hlt => ⟨hb, hlt⟩) (fun b hb => ⟨by have := HA.out.far b hb.1; omega, hb.2⟩) HFOK.out.lock HFOK.out.pair HOP.out)
    obtain ⟨-, -, hti, hts, -, -, -, -⟩ := do_step (s := ⟨f.index, f.locks, f.pairs, rd.1⟩) (who := cl) HFOK.out.lock HFOK.out.pair HOP.out hbd.2
    go_wp2_with fail
    refine HDO.out.mono ?_
    clear HDO
    generalize maDo ⟨f.index, f.locks, f.pairs, rd.1⟩ cl op = t at *
    rintro e w17 ⟨vl17, vp17, rfl, hx17, hl17, hp17, hg17⟩
    clear k1 k5 k6 k7 k8
    obtain ⟨a17, c17, rfl, -, -, -, -⟩ := id hl17
    obtain ⟨a18, c18, rfl, -, -, -, -⟩ := id hp17
    have ha := HA.out.does (t := ⟨f.index, t.1.locks, t.1.pairs, rd.1⟩) rfl rfl hg17 hx17 hl17 hp17
    have hr := HR.out.grown hg17 (fun e => by have := Option.some.inj e; omega)
    have z0 := hr.cell 0 _ rfl; have z1 := hr.cell 1 _ rfl; have z2 := hr.cell 2 _ rfl
    have x0 := hr.thaw 0; have x1 := hr.thaw 1; have x2 := hr.thaw 2
    replace HA := Lib.hid (((ha.out hRw hPR 0 (.int .i64 t.2.code)).out hRw hPR 1 (.int .i64 t.2.n)).out hRw hPR 2 (.string ⟨t.2.text.toArray⟩))
    replace HR := Lib.hid (((hr.set 0 (by simp) (.int .i64 t.2.code)).set 1 (by simp) (.int .i64 t.2.n)).set 2 (by simp) (.string ⟨t.2.text.toArray⟩))
    replace HB := Lib.hid ((((HB.out.grown hg17 (fun e => by have := Option.some.inj e; omega)).far hKR 0 (.int .i64 t.2.code)).far hKR 1 (.int .i64 t.2.n)).far hKR 2 (.string ⟨t.2.text.toArray⟩))
    clear ha hr hx17 hl17 hp17 hg17
    go_upto_region 19 with (fail)
    clear z0 z1 z2 x0 x1 x2
    generalize ((w17.setCell ⟨R, 0, none⟩ (.int .i64 t.2.code)).setCell ⟨R, 1, none⟩ (.int .i64 t.2.n)).setCell ⟨R, 2, none⟩ (.string ⟨t.2.text.toArray⟩) = w18 at *
    have i0 := HA.out.b.box.cell 0 _ rfl; have i3 := HA.out.b.box.cell 3 _ rfl
    have k1 := HB.out.cell 1 _ rfl; have k3 := HB.out.cell 3 _ rfl
    have z0 := HR.out.cell 0 _ rfl; have z1 := HR.out.cell 1 _ rfl; have z2 := HR.out.cell 2 _ rfl
    have HK := Lib.hid (keep_calls rd.1 (f.index + 1) cl sq t.2 _ _ w18 HA.out.st.sess (by omega) (by omega))
    go_wp2_with fail
    refine HK.out.mono ?_
    rintro e w19 ⟨v19, rfl, hs19, hb19⟩
    clear i0 i3 k1 k3 z0 z1 z2 HK HB
    have hone19 := hs19.oneCell
    obtain ⟨a19, c19, rfl, -, -, -, -⟩ := id hs19
    have ha := HA.out.below hb19
    have y3 := ha.b.box.cell 3 _ rfl; have t3 := ha.b.box.thaw 3
    replace HA := Lib.hid (HA.out.sess hb19 hs19)
    replace HR := Lib.hid ((HR.out.below hb19).far (c := w.heap.size) (by omega) 3 (.slice a19 (keep rd.1 (f.index + 1) cl sq t.2).1.length c19))
    clear ha hb19 hs19
    go_upto_region 26 with (fail)
    clear y3 t3
    generalize w19.setCell ⟨w.heap.size, 3, none⟩ (.slice a19 (keep rd.1 (f.index + 1) cl sq t.2).1.length c19) = wz2 at *
    have HF := Lib.hid (show maCmd f ⟨2, cl, se, sq, ak, op⟩ = (⟨f.index, t.1.locks, t.1.pairs, (keep rd.1 (f.index + 1) cl sq t.2).1⟩, t.2) from HF0.out.trans (by rw [maKeep, hti, hts]))
    have HB := 0
    have i0 := HA.out.b.box.cell 0 _ rfl; have i1 := HA.out.b.box.thaw 0
    go_upto_region 27 with (fail)
    have HN := Lib.hid (HA.out.next (f.index + 1))
    have HRN := Lib.hid (HR.out.far (c := w.heap.size) (by omega) 0 (.int .i64 (f.index + 1)))
    have hz1 := HN.out.st.lock.oneCell; have hz2 := HN.out.st.pair.oneCell; have hz3 := HN.out.st.sess.oneCell
    generalize wz2.setCell ⟨w.heap.size, 0, none⟩ (.int .i64 (f.index + 1)) = wy at *
    clear i0 i1 HA HR HB
    have b0 := HN.out.b.box.cell 0 _ rfl; have b1 := HN.out.b.box.cell 1 _ rfl; have b2 := HN.out.b.box.cell 2 _ rfl; have b3 := HN.out.b.box.cell 3 _ rfl
    have r0 := HRN.out.cell 0 _ rfl; have r1 := HRN.out.cell 1 _ rfl; have r2 := HRN.out.cell 2 _ rfl
    have s0 := HN.out.b.res.cell 0 _ rfl; have s1 := HN.out.b.res.cell 1 _ rfl; have s2 := HN.out.b.res.cell 2 _ rfl; have s3 := HN.out.b.res.cell 3 _ rfl
    have t0 := HN.out.b.res.thaw 0; have t1 := HN.out.b.res.thaw 1; have t2 := HN.out.b.res.thaw 2; have t3 := HN.out.b.res.thaw 3
    have p0 := HN.out.b.rep.cell 0 _ rfl; have p1 := HN.out.b.rep.cell 1 _ rfl; have p2 := HN.out.b.rep.cell 2 _ rfl
    have q0 := HN.out.b.rep.thaw 0; have q1 := HN.out.b.rep.thaw 1; have q2 := HN.out.b.rep.thaw 2
    go_region
    obtain ⟨h1, h2, h3, h4⟩ := HN.out.fin (.int .i64 t.2.code) (.int .i64 t.2.n) (.string ⟨t.2.text.toArray⟩)
    clear b0 b1 b2 b3 r0 r1 r2 s0 s1 s2 s3 t0 t1 t2 t3 p0 p1 p2 q0 q1 q2 HN HRN
    generalize ((((((wy.setCell ⟨w.heap.size + 1, 0, none⟩ (.int .i64 (f.index + 1))).setCell ⟨w.heap.size + 1, 1, none⟩ (.slice a17 t.1.locks.length c17)).setCell ⟨w.heap.size + 1, 2, none⟩ (.slice a18 t.1.pairs.length c18)).setCell ⟨w.heap.size + 1, 3, none⟩ (.slice a19 (keep rd.1 (f.index + 1) cl sq t.2).1.length c19)).setCell ⟨w.heap.size + 1 + 1, 0, none⟩ (.int .i64 t.2.code)).setCell ⟨w.heap.size + 1 + 1, 1, none⟩ (.int .i64 t.2.n)).setCell ⟨w.heap.size + 1 + 1, 2, none⟩ (.string ⟨t.2.text.toArray⟩) = wf at *
    have hf1 := h1.drew; have hf2 := h2.drew
    have hf3 := h3.move (w' := wf.drew) (S' := fun b => w.heap.size ≤ b) fun b hb _ => ⟨rfl, hb⟩
    have hf4 : Below w.heap.size w wf.drew := Below.drew h4
    clear h1 h2 h3 h4
    generalize wf.drew = wg at *
    refine then_abs (fun wx => wx = wg) rfl ?_
    rintro _ rfl
    go_wp2
    have g0 := hf1.cell 0 _ rfl; have g1 := hf1.cell 1 _ rfl; have g2 := hf1.cell 2 _ rfl; have g3 := hf1.cell 3 _ rfl
    have g4 := hf2.cell 0 _ rfl; have g5 := hf2.cell 1 _ rfl; have g6 := hf2.cell 2 _ rfl
    rw [HF.out, maBump]
    refine bodyPost_ret (v := .tuple #[.agg #[.int .i64 (f.index + 1), .slice a17 t.1.locks.length c17, .slice a18 t.1.pairs.length c18, .slice a19 (keep rd.1 (f.index + 1) cl sq t.2).1.length c19], .agg #[.int .i64 t.2.code, .int .i64 t.2.n, .string ⟨t.2.text.toArray⟩], .int .i64 0]) (by simp [results, Tryz.results11, go_sem, g0, g1, g2, g3, g4, g5, g6]) rfl ⟨_, _, _, rfl, hf3, hf4⟩
end Go.Proofs.YtkefgapnghnjjaaGreatDoor
