/- A part of the proof, laid together from: CmdB, CmdD. -/
import Derived.Test.YtcmmenmjclgjmaaGreatDoorPa27
import Derived.BigRegion
set_option linter.unusedSimpArgs false
set_option linter.unusedVariables false
/- command.body. -/
namespace Go.Tk
open Go Go.RowKit
def cmdCells (c : CommandD) : List Value := [.int .i64 c.kind, .int .i64 c.client, .int .i64 c.session, .int .i64 c.seq, .int .i64 c.acked, .int .i64 c.op.kind, .string ⟨c.op.a.toArray⟩, .string ⟨c.op.b.toArray⟩, .int .i64 c.op.n]
/-- A command lies in a block. -/
def CmdAt (w : World) (b : Nat) (c : CommandD) : Prop := (∀ (j : Nat) (u : Value), (cmdCells c)[j]? = some u → w.cell? ⟨b, j, none⟩ = some u) ∧ ∀ j, w.frozen? ⟨b, j, none⟩ = false
theorem CmdAt.of {w : World} {b : Nat} {c : CommandD} {A : Array Value} (hA : A = (cmdCells c).toArray) (h1 : ∀ i, w.cell? ⟨b, i, none⟩ = A[i]?) (h2 : ∀ i, w.frozen? ⟨b, i, none⟩ = false) : CmdAt w b c :=
  ⟨fun j u hu => by rw [h1, hA]; simpa using hu, h2⟩
theorem CmdAt.keep {w w' : World} {b : Nat} {c : CommandD} (h : CmdAt w b c) (hb : w'.heap[b]? = w.heap[b]?) : CmdAt w' b c :=
  ⟨fun j u hu => cell_keep (h.1 j u hu) hb, fun j => (World.frozen?_of_block (a := ⟨b, j, none⟩) hb).trans (h.2 j)⟩
theorem CmdAt.lt {w : World} {b : Nat} {c : CommandD} (h : CmdAt w b c) : b < w.heap.size := World.block_lt_of_cell? w _ (h.1 0 _ rfl)
theorem CmdAt.set {w : World} {b : Nat} {c c' : CommandD} (h : CmdAt w b c) (i : Nat) (hi : i < 9) (u : Value) (hc : cmdCells c' = (cmdCells c).set i u) : CmdAt (w.setCell ⟨b, i, none⟩ u) b c' := by
  refine ⟨fun j v hv => ?_, fun j => (World.frozen?_setCell _ _ _ _).trans (h.2 j)⟩
  rw [hc] at hv
  by_cases hij : i = j
  · subst hij
    rw [List.getElem?_set_self (by exact hi)] at hv
    cases hv
    exact World.cell?_setCell_same w ⟨b, i, none⟩ u (h.1 i _ (List.getElem?_eq_getElem (by exact hi)))
  · rw [List.getElem?_set_ne hij] at hv
    exact (cell_near hij).trans (h.1 j v hv)
/-- What is left of bytes behind k numbers; the numbers; what goes wrong at them. -/
def bRest (s : List UInt8) : Nat → List UInt8
  | 0 => s
  | k + 1 => (readNumber (bRest s k)).2.1
def bNum (s : List UInt8) (k : Nat) : Int := (readNumber (bRest s k)).1
def bErr (s : List UInt8) (k : Nat) : Int := (readNumber (bRest s k)).2.2
def bCmd (c : CommandD) (s : List UInt8) : Nat → CommandD
  | 0 => c
  | 1 => ⟨c.kind, c.client, bNum s 0, c.seq, c.acked, c.op⟩
  | 2 => ⟨c.kind, c.client, bNum s 0, bNum s 1, c.acked, c.op⟩
  | 3 => ⟨c.kind, c.client, bNum s 0, bNum s 1, bNum s 2, c.op⟩
  | 4 => ⟨c.kind, c.client, bNum s 0, bNum s 1, bNum s 2, ⟨bNum s 3, c.op.a, c.op.b, c.op.n⟩⟩
  | _ => ⟨c.kind, c.client, bNum s 0, bNum s 1, bNum s 2, ⟨bNum s 3, c.op.a, c.op.b, bNum s 4⟩⟩
def offN : Nat → Nat
  | 0 => 2
  | 1 => 3
  | 2 => 4
  | 3 => 5
  | _ => 8
theorem bCmd_succ (c : CommandD) (s : List UInt8) (k : Nat) (h : k < 5) : cmdCells (bCmd c s (k + 1)) = (cmdCells (bCmd c s k)).set (offN k) (.int .i64 (bNum s k)) := by
  rcases (show k = 0 ∨ k = 1 ∨ k = 2 ∨ k = 3 ∨ k = 4 by omega) with rfl | rfl | rfl | rfl | rfl <;> rfl
theorem offN_lt (k : Nat) : offN k < 9 := by
  unfold offN; split <;> omega
/-- Behind the numbers, the words. -/
def tRest (s : List UInt8) : Nat → List UInt8
  | 0 => s
  | k + 1 => (readText (tRest s k)).2.1
def tWord (s : List UInt8) (k : Nat) : List UInt8 := (readText (tRest s k)).1
def tErr (s : List UInt8) (k : Nat) : Int := (readText (tRest s k)).2.2
def tCmd (c : CommandD) (s : List UInt8) : Nat → CommandD
  | 0 => c
  | 1 => ⟨c.kind, c.client, c.session, c.seq, c.acked, ⟨c.op.kind, tWord s 0, c.op.b, c.op.n⟩⟩
  | _ => ⟨c.kind, c.client, c.session, c.seq, c.acked, ⟨c.op.kind, tWord s 0, tWord s 1, c.op.n⟩⟩
theorem tCmd_succ (c : CommandD) (s : List UInt8) (k : Nat) (h : k < 2) : cmdCells (tCmd c s (k + 1)) = (cmdCells (tCmd c s k)).set (6 + k) (.string ⟨(tWord s k).toArray⟩) := by
  rcases (show k = 0 ∨ k = 1 by omega) with rfl | rfl <;> rfl
theorem thenNum_ok {α : Type} {s : List UInt8} {fail : Int → α} {k : Int → List UInt8 → α} (h : (readNumber s).2.2 = 0) : thenNum s fail k = k (readNumber s).1 (readNumber s).2.1 := by rw [thenNum, if_neg (by simp [h])]
theorem thenNum_bad {α : Type} {s : List UInt8} {fail : Int → α} {k : Int → List UInt8 → α} (h : (readNumber s).2.2 ≠ 0) : thenNum s fail k = fail (readNumber s).2.2 := by rw [thenNum, if_pos h]
theorem thenText_ok {α : Type} {s : List UInt8} {fail : Int → α} {k : List UInt8 → List UInt8 → α} (h : (readText s).2.2 = 0) : thenText s fail k = k (readText s).1 (readText s).2.1 := by rw [thenText, if_neg (by simp [h])]
theorem thenText_bad {α : Type} {s : List UInt8} {fail : Int → α} {k : List UInt8 → List UInt8 → α} (h : (readText s).2.2 ≠ 0) : thenText s fail k = fail (readText s).2.2 := by rw [thenText, if_pos h]
theorem body_num (c : CommandD) (s : List UInt8) (k : Nat) (hk : k < 5) (h0 : ∀ j, j < k → bErr s j = 0) (h : bErr s k ≠ 0) : cmdBody c s = (noCommand, [], bErr s k) := by
  unfold cmdBody
  rcases (show k = 0 ∨ k = 1 ∨ k = 2 ∨ k = 3 ∨ k = 4 by omega) with rfl | rfl | rfl | rfl | rfl
  · have e := h; simp only [bErr, bRest] at e
    rw [thenNum_bad e]; simp only [bErr, bRest]
  · have e0 := h0 0 (by omega); have e := h; simp only [bErr, bRest] at e0 e
    rw [thenNum_ok e0, thenNum_bad e]; simp only [bErr, bRest]
  · have e0 := h0 0 (by omega); have e1 := h0 1 (by omega); have e := h; simp only [bErr, bRest] at e0 e1 e
    rw [thenNum_ok e0, thenNum_ok e1, thenNum_bad e]; simp only [bErr, bRest]
  · have e0 := h0 0 (by omega); have e1 := h0 1 (by omega); have e2 := h0 2 (by omega); have e := h; simp only [bErr, bRest] at e0 e1 e2 e
    rw [thenNum_ok e0, thenNum_ok e1, thenNum_ok e2, thenNum_bad e]; simp only [bErr, bRest]
  · have e0 := h0 0 (by omega); have e1 := h0 1 (by omega); have e2 := h0 2 (by omega); have e3 := h0 3 (by omega); have e := h; simp only [bErr, bRest] at e0 e1 e2 e3 e
    rw [thenNum_ok e0, thenNum_ok e1, thenNum_ok e2, thenNum_ok e3, thenNum_bad e]; simp only [bErr, bRest]
def bodyT (c : CommandD) (s : List UInt8) : CommandD × List UInt8 × Int :=
  thenText s (fun e => (noCommand, [], e)) fun y1 s => thenText s (fun e => (noCommand, [], e)) fun y2 s => (⟨c.kind, c.client, c.session, c.seq, c.acked, ⟨c.op.kind, y1, y2, c.op.n⟩⟩, s, 0)
theorem body_nums (c : CommandD) (s : List UInt8) (h0 : ∀ j, j < 5 → bErr s j = 0) : cmdBody c s = bodyT (bCmd c s 5) (bRest s 5) := by
  unfold cmdBody bodyT
  have e0 := h0 0 (by omega); have e1 := h0 1 (by omega); have e2 := h0 2 (by omega); have e3 := h0 3 (by omega); have e4 := h0 4 (by omega)
  simp only [bErr, bRest] at e0 e1 e2 e3 e4
  rw [thenNum_ok e0, thenNum_ok e1, thenNum_ok e2, thenNum_ok e3, thenNum_ok e4]
  simp only [bCmd, bRest, bNum]
theorem bodyT_err (c : CommandD) (s : List UInt8) (k : Nat) (hk : k < 2) (h0 : ∀ j, j < k → tErr s j = 0) (h : tErr s k ≠ 0) : bodyT c s = (noCommand, [], tErr s k) := by
  unfold bodyT
  rcases (show k = 0 ∨ k = 1 by omega) with rfl | rfl
  · have e := h; simp only [tErr, tRest] at e
    rw [thenText_bad e]; simp only [tErr, tRest]
  · have e0 := h0 0 (by omega); have e := h; simp only [tErr, tRest] at e0 e
    rw [thenText_ok e0, thenText_bad e]; simp only [tErr, tRest]
theorem bodyT_ok (c : CommandD) (s : List UInt8) (h0 : ∀ j, j < 2 → tErr s j = 0) : bodyT c s = (tCmd c s 2, tRest s 2, 0) := by
  unfold bodyT
  have e0 := h0 0 (by omega); have e1 := h0 1 (by omega)
  simp only [tErr, tRest] at e0 e1
  rw [thenText_ok e0, thenText_ok e1]
  simp only [tCmd, tRest, tWord]
theorem rdGo_rest (s : List UInt8) : ∀ f k m, (rdGo s f k m).2.1.length ≤ s.length
  | 0, k, m => by simp [rdGo]
  | f + 1, k, m => by
    rw [rdGo]
    split
    · split
      · exact rdGo_rest s f _ _
      · split
        · simp
        · simp
    · simp
theorem readNumber_rest (s : List UInt8) : (readNumber s).2.1.length ≤ s.length := rdGo_rest s 6 0 0
theorem readText_rest (s : List UInt8) : (readText s).2.1.length ≤ s.length := by
  have := readNumber_rest s
  rw [readText]
  split
  · simp
  · split
    · simp
    · split
      · simp
      · simp; omega
theorem bRest_len (s : List UInt8) : ∀ k, (bRest s k).length ≤ s.length
  | 0 => Nat.le_refl _
  | k + 1 => Nat.le_trans (readNumber_rest _) (bRest_len s k)
theorem tRest_len (s : List UInt8) : ∀ k, (tRest s k).length ≤ s.length
  | 0 => Nat.le_refl _
  | k + 1 => Nat.le_trans (readText_rest _) (tRest_len s k)
/-- What command.body hands back: the bytes that are left, what went wrong; the command lies in its block. -/
def RetBody (w : World) (b : Nat) (res : CommandD × List UInt8 × Int) (e : Ending) (w' : World) : Prop :=
  e = .returned (.tuple #[.string ⟨res.2.1.toArray⟩, .int .i64 res.2.2]) ∧ w.grownBy w' (some b) ∧ ∃ c', CmdAt w' b c' ∧ (res.2.2 = 0 → c' = res.1)
/-- The pointers to the fields. -/
def PtrN (w : World) (p b : Nat) : Prop := ∀ j, j < 5 → w.cell? ⟨p, j, none⟩ = some (.pointer (some ⟨b, offN j, none⟩))
def PtrT (w : World) (p b : Nat) : Prop := ∀ j, j < 2 → w.cell? ⟨p, j, none⟩ = some (.pointer (some ⟨b, 6 + j, none⟩))
end Go.Tk
namespace Go.Proofs.YtcmmenmjclgjmaaGreatDoor
open Go.RowKit Go.Tk

set_option maxRecDepth 100000 in
set_option maxHeartbeats 1600000 in
theorem body_calls (c : CommandD) (s : List UInt8) (b : Nat) (w : World) (h : CmdAt w b c) (hs : s.length ≤ 1000000) :
    Calls Tryz.prog 76 #[.pointer (some ⟨b, 0, none⟩), .string ⟨s.toArray⟩] w (RetBody w b (cmdBody c s)) := by
  have hlt := h.lt
  have HC := Lib.hid h
  clear h
  go_enter Tryz.func76, Tryz.ntmps76
  go_wp2
  go_region
  go_wp2
  go_loopw [1, 7, 8, 31] (fun t _ _ i wr => ∃ k : Nat, k ≤ 5 ∧ i = .int .i64 k ∧ t = .string ⟨(bRest s k).toArray⟩ ∧ Hid (∀ j, j < k → bErr s j = 0) ∧ Hid (CmdAt wr b (bCmd c s k)) ∧ Hid (PtrN wr w.heap.size b) ∧ Hid (w.grownBy wr (some b)) ∧ w.heap.size < wr.heap.size)
    (fun _ _ _ i _ => 5 - (intOf i).toNat)
  case atStart =>
    refine ⟨0, by omega, rfl, rfl, fun j hj => by omega, HC.out.keep ((Go.Tk.heap_drew _ _).trans (Below.heap_alloc _ _ b hlt)), fun j hj => ?_, grownBy_drew (grownBy_alloc (grownBy_refl _ _) _), by simp⟩
    refine (World.cell?_alloc_at _ _ _ _ rfl).trans ?_
    rcases (show j = 0 ∨ j = 1 ∨ j = 2 ∨ j = 3 ∨ j = 4 by omega) with rfl | rfl | rfl | rfl | rfl <;> rfl
  case round =>
    obtain ⟨k, hk, rfl, rfl, HZ, hcm, hpt, hgr, hsz⟩ := hrel
    by_cases h5 : k < 5
    · have q0 := hpt.out k h5
      have HN := Lib.hid (body_num c s k h5 HZ.out)
      have HK := Lib.hid (bCmd_succ c s k h5)
      have hrl : (bRest s k).length ≤ 9223372036854775807 := by have := bRest_len s k; omega
      go_wp2_with fail
      refine (readNumber_calls (bRest s k) hrl _).mono ?_; rintro e w' ⟨rfl, q, rfl⟩
      have hbd : Below wr.heap.size wr (wr.drewN q) := below_drewN (Below.refl _ _) _
      generalize wr.drewN q = wd at hbd ⊢
      have hsd := hbd.size
      have hcd := Lib.hid (hcm.out.keep (hbd.block b hcm.out.lt))
      have hpd : Hid (PtrN wd w.heap.size b) := fun j hj => cell_keep (hpt.out j hj) (hbd.block _ hsz)
      have hgd := Lib.hid (grownBy_below hgr.out hbd)
      clear hcm hpt hgr hbd q0
      obtain ⟨old, c1⟩ : ∃ u, wd.cell? ⟨b, offN k, none⟩ = some u := ⟨_, hcd.out.1 (offN k) _ (List.getElem?_eq_getElem (show offN k < (cmdCells (bCmd c s k)).length from offN_lt k))⟩
      have c2 := hcd.out.2 (offN k)
      have HE := Lib.hid (show (readNumber (bRest s k)).2.2 = bErr s k from rfl)
      have hst : Hid (CmdAt (wd.setCell ⟨b, offN k, none⟩ (.int .i64 (readNumber (bRest s k)).1)) b (bCmd c s (k + 1))) := hcd.out.set (offN k) (offN_lt k) _ HK.out
      have hbl := hcd.out.lt
      by_cases he : (readNumber (bRest s k)).2.2 = 0
      · have heb : ((readNumber (bRest s k)).2.2 != 0) = false := by simpa using he
        have HZ2 : Hid (∀ j, j < k + 1 → bErr s j = 0) := fun j hj => by
          rcases Nat.lt_or_ge j k with h | h
          · exact HZ.out j h
          · obtain rfl : j = k := by omega
            exact he
        clear he
        go_wp2
        go_roundw
        case rel => exact ⟨k + 1, by omega, by go_num, rfl, HZ2.out, hst.out, fun j hj => (cell_far (by omega)).trans (hpd.out j hj), grownBy_set1 hgd.out _ _, by simp [World.setCell]; omega⟩
        case measure => simp [intOf]; omega
      · have heb : ((readNumber (bRest s k)).2.2 != 0) = true := by simpa using he
        have HF := Lib.hid (HN.out he)
        have HX := Lib.hid (show bErr s k ≠ 0 from he)
        clear he
        go_wp2
        go_ret2
        exact ⟨by rw [HF.out]; rfl, grownBy_set1 hgd.out _ _, _, hst.out, fun h => by rw [HF.out] at h; exact absurd h HX.out⟩
    · obtain rfl : k = 5 := by omega
      have HB := Lib.hid (body_nums c s HZ.out)
      have hrl := bRest_len s 5
      rename World => w1
      clear h5 hk HZ
      generalize bRest s 5 = s5 at *
      generalize bCmd c s 5 = c5 at *
      have hlt1 := hcm.out.lt
      clear hpt
      go_wp2
      go_region
      go_wp2
      go_loopw [1, 10, 11, 57] (fun t _ _ i wq => ∃ k : Nat, k ≤ 2 ∧ i = .int .i64 k ∧ t = .string ⟨(tRest s5 k).toArray⟩ ∧ Hid (∀ j, j < k → tErr s5 j = 0) ∧ Hid (CmdAt wq b (tCmd c5 s5 k)) ∧ Hid (PtrT wq w1.heap.size b) ∧ Hid (w.grownBy wq (some b)) ∧ w1.heap.size < wq.heap.size)
        (fun _ _ _ i _ => 2 - (intOf i).toNat)
      case atStart =>
        refine ⟨0, by omega, rfl, rfl, fun j hj => by omega, hcm.out.keep ((Go.Tk.heap_drew _ _).trans (Below.heap_alloc _ _ b hlt1)), fun j hj => ?_, grownBy_drew (grownBy_alloc hgr.out _), by simp⟩
        refine (World.cell?_alloc_at _ _ _ _ rfl).trans ?_
        rcases (show j = 0 ∨ j = 1 by omega) with rfl | rfl <;> rfl
      case round =>
        clear hcm hgr
        obtain ⟨k, hk, rfl, rfl, HZ, hcm, hpt, hgr, hsz2⟩ := hrel
        by_cases h5 : k < 2
        · have q0 := hpt.out k h5
          have HN := Lib.hid (bodyT_err c5 s5 k h5 HZ.out)
          have HK := Lib.hid (tCmd_succ c5 s5 k h5)
          have hrl2 : (tRest s5 k).length ≤ 9223372036854775807 := by have := tRest_len s5 k; omega
          go_wp2_with fail
          refine (readText_calls (tRest s5 k) hrl2 _).mono ?_; rintro e w' ⟨rfl, q, rfl⟩
          have hbd : Below wr.heap.size wr (wr.drewN q) := below_drewN (Below.refl _ _) _
          generalize wr.drewN q = wd at hbd ⊢
          have hsd := hbd.size
          have hcd := Lib.hid (hcm.out.keep (hbd.block b hcm.out.lt))
          have hpd : Hid (PtrT wd w1.heap.size b) := fun j hj => cell_keep (hpt.out j hj) (hbd.block _ hsz2)
          have hgd := Lib.hid (grownBy_below hgr.out hbd)
          clear hcm hpt hgr hbd q0
          obtain ⟨old, c1⟩ : ∃ u, wd.cell? ⟨b, 6 + k, none⟩ = some u := ⟨_, hcd.out.1 (6 + k) _ (List.getElem?_eq_getElem (show 6 + k < 9 by omega))⟩
          have c2 := hcd.out.2 (6 + k)
          have hst : Hid (CmdAt (wd.setCell ⟨b, 6 + k, none⟩ (.string ⟨(readText (tRest s5 k)).1.toArray⟩)) b (tCmd c5 s5 (k + 1))) := hcd.out.set (6 + k) (by omega) _ HK.out
          have hbl := hcd.out.lt
          by_cases he : (readText (tRest s5 k)).2.2 = 0
          · have heb : ((readText (tRest s5 k)).2.2 != 0) = false := by simpa using he
            have HZ2 : Hid (∀ j, j < k + 1 → tErr s5 j = 0) := fun j hj => by
              rcases Nat.lt_or_ge j k with h | h
              · exact HZ.out j h
              · obtain rfl : j = k := by omega
                exact he
            clear he
            go_wp2
            go_roundw
            case rel => (repeat apply Exists.intro); exact ⟨⟨k + 1, by omega, by go_num, rfl, HZ2.out, hst.out, fun j hj => (cell_far (by omega)).trans (hpd.out j hj), grownBy_set1 hgd.out _ _, by simp [World.setCell]; omega⟩, rfl⟩
            case measure => simp [intOf]; omega
          · have heb : ((readText (tRest s5 k)).2.2 != 0) = true := by simpa using he
            have HF := Lib.hid (HB.out.trans (HN.out he))
            have HX := Lib.hid (show tErr s5 k ≠ 0 from he)
            clear he
            go_wp2
            go_ret2
            exact ⟨by rw [HF.out]; rfl, grownBy_set1 hgd.out _ _, _, hst.out, fun h => by rw [HF.out] at h; exact absurd h HX.out⟩
        · obtain rfl : k = 2 := by omega
          have HF := Lib.hid (HB.out.trans (bodyT_ok c5 s5 HZ.out))
          clear h5 hk HZ HB
          go_wp2
          go_ret2
          exact ⟨by rw [HF.out]; rfl, hgr.out, _, hcm.out, fun _ => by rw [HF.out]⟩
end Go.Proofs.YtcmmenmjclgjmaaGreatDoor

/- command.Decode. -/
namespace Go.Proofs.YtcmmenmjclgjmaaGreatDoor
open Go.RowKit Go.Tk

set_option maxRecDepth 100000 in
set_option maxHeartbeats 1600000 in
theorem decode_calls (s : List UInt8) (w : World) (hs : s.length ≤ 1000000) :
    Calls Tryz.prog 49 #[.string ⟨s.toArray⟩] w fun e w' => e = .returned (.tuple #[valCommand (cmdDecode s).1, .int .i64 (cmdDecode s).2]) ∧ Below w.heap.size w w' := by
  by_cases h5 : 5000 < s.length
  · have HV := Lib.hid (show cmdDecode s = (noCommand, 1) by rw [cmdDecode, if_pos h5])
    go_enter Tryz.func49, Tryz.ntmps49
    go_wp2
    refine bodyPost_ret (v := .tuple #[valCommand noCommand, .int .i64 1]) (by simp [results, Tryz.results49, go_sem, valCommand, noCommand, noOp]) rfl ⟨by rw [HV.out], ?_⟩
    repeat (first | with_reducible exact below_alloc w _ | with_reducible refine below_set ?_ (Nat.le_refl _) _ _)
  match s, hs, h5 with
  | [], _, _ =>
    have HV := Lib.hid (show cmdDecode [] = (noCommand, 5) from rfl)
    go_enter Tryz.func49, Tryz.ntmps49
    go_wp2
    refine bodyPost_ret (v := .tuple #[valCommand noCommand, .int .i64 5]) (by simp [results, Tryz.results49, go_sem, valCommand, noCommand, noOp]) rfl ⟨by rw [HV.out], ?_⟩
    repeat (first | with_reducible exact below_alloc w _ | with_reducible refine below_set ?_ (Nat.le_refl _) _ _)
  | [a], _, _ =>
    have HV := Lib.hid (show cmdDecode [a] = (noCommand, 5) from rfl)
    go_enter Tryz.func49, Tryz.ntmps49
    go_wp2
    refine bodyPost_ret (v := .tuple #[valCommand noCommand, .int .i64 5]) (by simp [results, Tryz.results49, go_sem, valCommand, noCommand, noOp]) rfl ⟨by rw [HV.out], ?_⟩
    repeat (first | with_reducible exact below_alloc w _ | with_reducible refine below_set ?_ (Nat.le_refl _) _ _)
  | a :: b :: r, hs, h5 =>
    have hl : r.length + 2 ≤ 5000 := by simp at h5; omega
    have hx2 : (a = 2) ↔ (a.toNat : Int) = 2 := ⟨fun e => by rw [e]; rfl, fun e => UInt8.toNat_inj.1 (by have e2 : (2 : UInt8).toNat = 2 := rfl; omega)⟩
    have HV : Hid (cmdDecode (a :: b :: r) = if (a.toNat : Int) = 2 then (if (cmdBody ⟨(a.toNat : Int), (b.toNat : Int), 0, 0, 0, noOp⟩ r).2.2 ≠ 0 then (noCommand, (cmdBody ⟨(a.toNat : Int), (b.toNat : Int), 0, 0, 0, noOp⟩ r).2.2)
        else cmdLast (cmdBody ⟨(a.toNat : Int), (b.toNat : Int), 0, 0, 0, noOp⟩ r).1 (cmdBody ⟨(a.toNat : Int), (b.toNat : Int), 0, 0, 0, noOp⟩ r).2.1) else cmdLast ⟨(a.toNat : Int), (b.toNat : Int), 0, 0, 0, noOp⟩ r) := by
      show _ = _
      rw [cmdDecode, if_neg (by simp; omega), if_neg (by simp)]
      simp only [List.getD_cons_zero, List.getD_cons_succ, List.drop_succ_cons, List.drop_zero, hx2]
    clear h5 hs hx2
    have i0 : ∀ wx : World, (Instr.index 9 (.string ⟨(a :: b :: r).toArray⟩) (.int .i64 0)).run Tryz.prog wx = .ok (.int .u8 a.toNat) wx := fun wx => by
      rw [run_index_string wx _ _ _ _ Tryz.underlying9, dif_pos ⟨by decide, by simp [ByteArray.size]; omega⟩]; rfl
    have i1 : ∀ wx : World, (Instr.index 9 (.string ⟨(a :: b :: r).toArray⟩) (.int .i64 1)).run Tryz.prog wx = .ok (.int .u8 b.toNat) wx := fun wx => by
      rw [run_index_string wx _ _ _ _ Tryz.underlying9, dif_pos ⟨by decide, by simp [ByteArray.size]; omega⟩]; rfl
    have hdr : List.drop 2 (a :: b :: r) = r := rfl
    have hgt : ¬ 5000 < (a :: b :: r).length := by simp; omega
    have hge : ¬ (a :: b :: r).length < 2 := by simp
    have ha := a.toNat_lt
    have hb := b.toNat_lt
    obtain ⟨x, hx, hx0, hx1⟩ : ∃ x : Int, (a.toNat : Int) = x ∧ 0 ≤ x ∧ x ≤ 255 := ⟨_, rfl, by omega, by omega⟩
    obtain ⟨y, hy, hy0, hy1⟩ : ∃ x : Int, (b.toNat : Int) = x ∧ 0 ≤ x ∧ x ≤ 255 := ⟨_, rfl, by omega, by omega⟩
    rw [hx, hy] at HV
    rw [hx] at i0
    rw [hy] at i1
    clear hx hy ha hb
    generalize a :: b :: r = s at *
    go_enter Tryz.func49, Tryz.ntmps49
    go_wp2
    go_region
    refine then_abs (fun wx => CmdAt wx w.heap.size noCommand ∧ CmdAt wx (w.heap.size + 1) ⟨x, y, 0, 0, 0, noOp⟩ ∧ Below w.heap.size w wx ∧ w.heap.size + 1 < wx.heap.size) ?_ ?_
    · obtain ⟨g1, g2, g3, g4, g5⟩ := fresh2 (Below.drew (Below.refl (w.heap.size + 2) ((w.alloc (.cells (cmdCells noCommand).toArray 61)).alloc (.cells (cmdCells ⟨x, y, 0, 0, 0, noOp⟩).toArray 61))))
      exact ⟨CmdAt.of rfl g1 g2, CmdAt.of rfl g3 g4, Below.drew (below_alloc2 w _ _), g5⟩
    rintro wx ⟨hR, hC, hbw, hsz⟩
    clear i0 i1
    have hbs := hbw.size
    by_cases h2 : x = 2
    case' pos =>
      subst h2
      have HV2 := Lib.hid (HV.out.trans (if_pos rfl))
      have HR := Lib.hid hR
      have HB := Lib.hid hbw
      have HC := Lib.hid (body_calls ⟨2, y, 0, 0, 0, noOp⟩ r (w.heap.size + 1) wx hC (by omega))
      have k0 : wx.cell? ⟨w.heap.size + 1, 0, none⟩ = some (.int .i64 2) := hC.1 0 _ rfl
      clear HV hC hR hbw
      go_wp2_with fail
      refine HC.out.mono ?_; rintro e w2 ⟨rfl, hg, c1, hc', hce⟩
      have hR := HR.out.keep (hg.block _ (by omega) (by simp))
      have hbw := HB.out.grown hg (by omega) (fun k hk => by cases hk; omega)
      have hsz2 : w.heap.size + 1 < w2.heap.size := by have := hg.size; omega
      clear HC hg HR HB k0 hsz hbs
      generalize cmdBody ⟨2, y, 0, 0, 0, noOp⟩ r = res at hce HV2 ⊢
      obtain ⟨c2, t, e0⟩ := res
      simp only at hce HV2
      by_cases he : e0 = 0
      case neg =>
        have hF := Lib.hid (HV2.out.trans (if_pos he))
        have heb : (e0 != 0) = true := by simpa using he
        clear HV2 he hce hc'
        obtain ⟨hRc, hRf⟩ := hR
        have y0 : w2.cell? ⟨w.heap.size, 0, none⟩ = some (.int .i64 0) := hRc 0 _ rfl
        have y1 : w2.cell? ⟨w.heap.size, 1, none⟩ = some (.int .i64 0) := hRc 1 _ rfl
        have y2 : w2.cell? ⟨w.heap.size, 2, none⟩ = some (.int .i64 0) := hRc 2 _ rfl
        have y3 : w2.cell? ⟨w.heap.size, 3, none⟩ = some (.int .i64 0) := hRc 3 _ rfl
        have y4 : w2.cell? ⟨w.heap.size, 4, none⟩ = some (.int .i64 0) := hRc 4 _ rfl
        have y5 : w2.cell? ⟨w.heap.size, 5, none⟩ = some (.int .i64 0) := hRc 5 _ rfl
        have y6 : w2.cell? ⟨w.heap.size, 6, none⟩ = some (.string ⟨#[]⟩) := hRc 6 _ rfl
        have y7 : w2.cell? ⟨w.heap.size, 7, none⟩ = some (.string ⟨#[]⟩) := hRc 7 _ rfl
        have y8 : w2.cell? ⟨w.heap.size, 8, none⟩ = some (.int .i64 0) := hRc 8 _ rfl
        have f0 := hRf 0; have f1 := hRf 1; have f2 := hRf 2; have f3 := hRf 3; have f4 := hRf 4; have f5 := hRf 5; have f6 := hRf 6; have f7 := hRf 7; have f8 := hRf 8
        clear hRc hRf
        go_wp2
        refine bodyPost_ret (v := .tuple #[valCommand noCommand, .int .i64 e0]) (by simp [results, Tryz.results49, go_sem, valCommand, noCommand, noOp, y0, y1, y2, y3, y4, y5, y6, y7, y8]) rfl ⟨by rw [hF.out], ?_⟩
        repeat (first | with_reducible exact hbw | with_reducible refine below_set ?_ (Nat.le_refl _) _ _)
      subst he
      obtain rfl := hce rfl
      have HW := Lib.hid (HV2.out.trans (if_neg (by simp)))
      clear HV2 hce
      have hC := hc'
      clear hc'
      have hsz := hsz2
      clear hsz2
      clear hl hgt hge
      rename World => wx
    case' neg =>
      obtain ⟨c1, hc1⟩ : ∃ c1 : CommandD, c1 = ⟨x, y, 0, 0, 0, noOp⟩ := ⟨_, rfl⟩
      have h2b : (c1.kind == 2) = false := by rw [hc1]; simpa using h2
      have HW := Lib.hid (HV.out.trans (if_neg h2))
      rw [← hc1] at HW hC
      obtain ⟨t, ht⟩ : ∃ t, t = r := ⟨_, rfl⟩
      subst ht
      clear HV h2 hbs hl hgt hge hc1
    all_goals
      have hbs := hbw.size
      obtain ⟨hRc, hRf⟩ := hR
      obtain ⟨hCc, -⟩ := hC
      have y0 : wx.cell? ⟨w.heap.size, 0, none⟩ = some (.int .i64 0) := hRc 0 _ rfl
      have y1 : wx.cell? ⟨w.heap.size, 1, none⟩ = some (.int .i64 0) := hRc 1 _ rfl
      have y2 : wx.cell? ⟨w.heap.size, 2, none⟩ = some (.int .i64 0) := hRc 2 _ rfl
      have y3 : wx.cell? ⟨w.heap.size, 3, none⟩ = some (.int .i64 0) := hRc 3 _ rfl
      have y4 : wx.cell? ⟨w.heap.size, 4, none⟩ = some (.int .i64 0) := hRc 4 _ rfl
      have y5 : wx.cell? ⟨w.heap.size, 5, none⟩ = some (.int .i64 0) := hRc 5 _ rfl
      have y6 : wx.cell? ⟨w.heap.size, 6, none⟩ = some (.string ⟨#[]⟩) := hRc 6 _ rfl
      have y7 : wx.cell? ⟨w.heap.size, 7, none⟩ = some (.string ⟨#[]⟩) := hRc 7 _ rfl
      have y8 : wx.cell? ⟨w.heap.size, 8, none⟩ = some (.int .i64 0) := hRc 8 _ rfl
      have x0 : wx.cell? ⟨w.heap.size + 1, 0, none⟩ = some (.int .i64 c1.kind) := hCc 0 _ rfl
      have x1 : wx.cell? ⟨w.heap.size + 1, 1, none⟩ = some (.int .i64 c1.client) := hCc 1 _ rfl
      have x2 : wx.cell? ⟨w.heap.size + 1, 2, none⟩ = some (.int .i64 c1.session) := hCc 2 _ rfl
      have x3 : wx.cell? ⟨w.heap.size + 1, 3, none⟩ = some (.int .i64 c1.seq) := hCc 3 _ rfl
      have x4 : wx.cell? ⟨w.heap.size + 1, 4, none⟩ = some (.int .i64 c1.acked) := hCc 4 _ rfl
      have x5 : wx.cell? ⟨w.heap.size + 1, 5, none⟩ = some (.int .i64 c1.op.kind) := hCc 5 _ rfl
      have x6 : wx.cell? ⟨w.heap.size + 1, 6, none⟩ = some (.string ⟨c1.op.a.toArray⟩) := hCc 6 _ rfl
      have x7 : wx.cell? ⟨w.heap.size + 1, 7, none⟩ = some (.string ⟨c1.op.b.toArray⟩) := hCc 7 _ rfl
      have x8 : wx.cell? ⟨w.heap.size + 1, 8, none⟩ = some (.int .i64 c1.op.n) := hCc 8 _ rfl
      have f0 := hRf 0; have f1 := hRf 1; have f2 := hRf 2; have f3 := hRf 3; have f4 := hRf 4; have f5 := hRf 5; have f6 := hRf 6; have f7 := hRf 7; have f8 := hRf 8
      have HRC := Lib.hid hRc
      have HRF := Lib.hid hRf
      have HCC := Lib.hid hCc
      clear hRc hRf hCc
      cases t with
      | cons d q =>
        have HF := Lib.hid (HW.out.trans (show _ = (noCommand, (4 : Int)) from if_pos (by simp)))
        go_wp2
        refine bodyPost_ret (v := .tuple #[valCommand noCommand, .int .i64 4]) (by simp [results, Tryz.results49, go_sem, valCommand, noCommand, noOp, y0, y1, y2, y3, y4, y5, y6, y7, y8]) rfl ⟨by rw [HF.out], ?_⟩
        repeat (first | with_reducible exact hbw | with_reducible refine below_set ?_ (Nat.le_refl _) _ _)
      | nil =>
        have HW2 := Lib.hid (HW.out.trans (show _ = (if cmdCheck c1 ≠ 0 then (noCommand, cmdCheck c1) else (c1, (0 : Int))) from if_neg (by simp)))
        clear HW
        have HB := Lib.hid hbw
        clear hbw
        go_wp2_with fail
        refine (cmdCheck_calls c1 _).mono ?_; rintro e w3 ⟨rfl, hb3⟩
        have hb03 := below_step HB.out hb3
        have hCc : ∀ (j : Nat) (u : Value), (cmdCells c1)[j]? = some u → w3.cell? ⟨w.heap.size + 1, j, none⟩ = some u := fun j u hu => cell_keep (HCC.out j u hu) (hb3.block _ hsz)
        have hRc : ∀ (j : Nat) (u : Value), (cmdCells noCommand)[j]? = some u → w3.cell? ⟨w.heap.size, j, none⟩ = some u := fun j u hu => cell_keep (HRC.out j u hu) (hb3.block _ (by show w.heap.size < _; omega))
        have hRf : ∀ j, w3.frozen? ⟨w.heap.size, j, none⟩ = false := fun j => (World.frozen?_of_block (a := ⟨w.heap.size, j, none⟩) (hb3.block _ (by show w.heap.size < _; omega))).trans (HRF.out j)
        clear y0 y1 y2 y3 y4 y5 y6 y7 y8 x0 x1 x2 x3 x4 x5 x6 x7 x8 f0 f1 f2 f3 f4 f5 f6 f7 f8 hb3
        have y0 : w3.cell? ⟨w.heap.size, 0, none⟩ = some (.int .i64 0) := hRc 0 _ rfl
        have y1 : w3.cell? ⟨w.heap.size, 1, none⟩ = some (.int .i64 0) := hRc 1 _ rfl
        have y2 : w3.cell? ⟨w.heap.size, 2, none⟩ = some (.int .i64 0) := hRc 2 _ rfl
        have y3 : w3.cell? ⟨w.heap.size, 3, none⟩ = some (.int .i64 0) := hRc 3 _ rfl
        have y4 : w3.cell? ⟨w.heap.size, 4, none⟩ = some (.int .i64 0) := hRc 4 _ rfl
        have y5 : w3.cell? ⟨w.heap.size, 5, none⟩ = some (.int .i64 0) := hRc 5 _ rfl
        have y6 : w3.cell? ⟨w.heap.size, 6, none⟩ = some (.string ⟨#[]⟩) := hRc 6 _ rfl
        have y7 : w3.cell? ⟨w.heap.size, 7, none⟩ = some (.string ⟨#[]⟩) := hRc 7 _ rfl
        have y8 : w3.cell? ⟨w.heap.size, 8, none⟩ = some (.int .i64 0) := hRc 8 _ rfl
        have x0 : w3.cell? ⟨w.heap.size + 1, 0, none⟩ = some (.int .i64 c1.kind) := hCc 0 _ rfl
        have x1 : w3.cell? ⟨w.heap.size + 1, 1, none⟩ = some (.int .i64 c1.client) := hCc 1 _ rfl
        have x2 : w3.cell? ⟨w.heap.size + 1, 2, none⟩ = some (.int .i64 c1.session) := hCc 2 _ rfl
        have x3 : w3.cell? ⟨w.heap.size + 1, 3, none⟩ = some (.int .i64 c1.seq) := hCc 3 _ rfl
        have x4 : w3.cell? ⟨w.heap.size + 1, 4, none⟩ = some (.int .i64 c1.acked) := hCc 4 _ rfl
        have x5 : w3.cell? ⟨w.heap.size + 1, 5, none⟩ = some (.int .i64 c1.op.kind) := hCc 5 _ rfl
        have x6 : w3.cell? ⟨w.heap.size + 1, 6, none⟩ = some (.string ⟨c1.op.a.toArray⟩) := hCc 6 _ rfl
        have x7 : w3.cell? ⟨w.heap.size + 1, 7, none⟩ = some (.string ⟨c1.op.b.toArray⟩) := hCc 7 _ rfl
        have x8 : w3.cell? ⟨w.heap.size + 1, 8, none⟩ = some (.int .i64 c1.op.n) := hCc 8 _ rfl
        have f0 := hRf 0; have f1 := hRf 1; have f2 := hRf 2; have f3 := hRf 3; have f4 := hRf 4; have f5 := hRf 5; have f6 := hRf 6; have f7 := hRf 7; have f8 := hRf 8
        clear hRc hRf hCc
        by_cases he : cmdCheck c1 = 0
        · have heb : (cmdCheck c1 != 0) = false := by simpa using he
          have HF := Lib.hid (HW2.out.trans (if_neg (by simp [he])))
          clear HW2 he
          go_wp2
          refine bodyPost_ret (v := .tuple #[valCommand c1, .int .i64 0]) (by simp [results, Tryz.results49, go_sem, valCommand, y0, y1, y2, y3, y4, y5, y6, y7, y8]) rfl ⟨by rw [HF.out], ?_⟩
          repeat (first | with_reducible exact hb03 | with_reducible refine below_set ?_ (Nat.le_refl _) _ _)
        · have heb : (cmdCheck c1 != 0) = true := by simpa using he
          have HF := Lib.hid (HW2.out.trans (if_pos he))
          clear HW2 he
          go_wp2
          refine bodyPost_ret (v := .tuple #[valCommand noCommand, .int .i64 (cmdCheck c1)]) (by simp [results, Tryz.results49, go_sem, valCommand, noCommand, noOp, y0, y1, y2, y3, y4, y5, y6, y7, y8]) rfl ⟨by rw [HF.out], ?_⟩
          repeat (first | with_reducible exact hb03 | with_reducible refine below_set ?_ (Nat.le_refl _) _ _)
end Go.Proofs.YtcmmenmjclgjmaaGreatDoor
