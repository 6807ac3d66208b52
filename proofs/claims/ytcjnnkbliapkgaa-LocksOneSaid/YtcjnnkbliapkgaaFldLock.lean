/- Locks in memory of a call's own: one field of one of them is another one. No program in sight. -/
import Derived.Test.YtcjnnkbliapkgaaDeep
namespace Go.Tk
open Go Go.RowKit

def lockCells (x : LockD) : List Value := [.string ⟨x.name.toArray⟩, .int .i64 x.holder, .int .i64 x.fence]
theorem rLockO.mk {EK : Nat} {w : World} {x : LockD} {v : Value} {S : Nat → Prop} (h : OwR EK 1 rInt w v x.line (fun _ => False)) (hs : ∀ g, v.ownBlock = some g → S g) : rLockO EK w (lockCells x ++ [v]) x S := ⟨v, rfl, h, hs⟩
/-- The cells of one of them. -/
theorem OwD.cellsLock {E EK : Nat} {w : World} {g cap n : Nat} {l : List LockD} {S : Nat → Prop} (h : OwD E 4 (rLockO EK) w (.slice (some ⟨g, 0, none⟩) n cap) l S) (i : Nat) (hi : i < l.length) :
    ∃ v, (∀ (j : Nat) (u : Value), (lockCells l[i] ++ [v])[j]? = some u → w.cell? ⟨g, i * 4 + j, none⟩ = some u) ∧ OwR EK 1 rInt w v l[i].line (fun _ => False) ∧ ∀ b, v.ownBlock = some b → S b ∧ b ≠ g ∧ b < w.heap.size := by
  obtain ⟨row, G, ⟨v, rfl, hv, hg⟩, hG, hc, _⟩ := h.upd (rLockO_ok EK) i hi
  exact ⟨v, hc, hv, fun b hb => hG b (hg b hb)⟩
theorem OwD.setLock {E EK : Nat} {w : World} {g cap n : Nat} {l : List LockD} {S : Nat → Prop} (h : OwD E 4 (rLockO EK) w (.slice (some ⟨g, 0, none⟩) n cap) l S) {i : Nat} (hi : i < l.length) {j : Nat} (hj : j < 3) (u : Value) (x' : LockD)
    (hx : lockCells x' = (lockCells l[i]).set j u) (hr : x'.line = l[i].line) : OwD E 4 (rLockO EK) (w.setCell ⟨g, i * 4 + j, none⟩ u) (.slice (some ⟨g, 0, none⟩) n cap) (l.set i x') S := by
  obtain ⟨row, G, ⟨v, rfl, hv, hg⟩, hG, hc, hch⟩ := h.upd (rLockO_ok EK) i hi
  have hll : (lockCells l[i]).length = 3 := rfl
  have hc' : ∀ (q : Nat) (t : Value), (lockCells l[i] ++ [v])[q]? = some t → w.cell? ⟨g, i * 4 + q, none⟩ = some t := hc
  refine hch _ S G (lockCells x' ++ [v]) x' ((KeepsRow.refl g w).set _ _ _) (fun q hq => cell_near (by omega)) (fun q t ht => ?_) (fun b _ hb _ _ => heap_far hb) (fun _ hb => hb) (fun b hb => ⟨.inl hb, (hG b hb).1, (hG b hb).2.1, by simpa [World.setCell] using (hG b hb).2.2⟩) ?_
  · by_cases hq : q = j
    · subst hq
      rw [hx, List.getElem?_append_left (by rw [List.length_set, hll]; exact hj), List.getElem?_set_self (by rw [hll]; exact hj)] at ht
      cases ht
      obtain ⟨t0, ht0⟩ : ∃ t0, (lockCells l[i] ++ [v])[q]? = some t0 := ⟨(lockCells l[i] ++ [v])[q]'(by rw [List.length_append, hll]; show q < 3 + 1; omega), List.getElem?_eq_getElem _⟩
      exact World.cell?_setCell_same _ _ _ (hc' q t0 ht0)
    · refine (cell_near (by omega)).trans (hc' q t ?_)
      rcases Nat.lt_or_ge q 3 with h | h
      · rw [hx, List.getElem?_append_left (by rw [List.length_set, hll]; exact h), List.getElem?_set_ne (Ne.symm hq)] at ht
        rw [List.getElem?_append_left (by rw [hll]; exact h)]; exact ht
      · rw [List.getElem?_append_right (by rw [hx, List.length_set, hll]; exact h), hx, List.length_set] at ht
        rw [List.getElem?_append_right (by rw [hll]; exact h)]; exact ht
  · refine rLockO.mk ?_ hg
    rw [hr]
    exact hv.move rInt_ok (fun b hb => heap_far (hG b (hg b hb)).2.1) (fun b hb => hb.elim)
theorem OwD.inLock {E EK : Nat} {w w' : World} {g cap n : Nat} {l : List LockD} {S : Nat → Prop} (h : OwD E 4 (rLockO EK) w (.slice (some ⟨g, 0, none⟩) n cap) l S) {i : Nat} (hi : i < l.length) {v v' : Value} (hv : w.cell? ⟨g, i * 4 + 3, none⟩ = some v)
    {rs : List Int} (hg' : w.grownBy w' v.ownBlock) (ho : OwR EK 1 rInt w' v' rs (fun _ => False)) (hvv : v'.ownBlock = v.ownBlock ∨ v'.ownBlock = none ∨ ∃ b, v'.ownBlock = some b ∧ w.heap.size ≤ b ∧ S b) :
    OwD E 4 (rLockO EK) (w'.setCell ⟨g, i * 4 + 3, none⟩ v') (.slice (some ⟨g, 0, none⟩) n cap) (l.set i { l[i] with line := rs }) S := by
  obtain ⟨row, G, ⟨v0, rfl, hv0, hg⟩, hG, hc, hch⟩ := h.upd (rLockO_ok EK) i hi
  have hll : (lockCells l[i]).length = 3 := rfl
  have hc' : ∀ (q : Nat) (t : Value), (lockCells l[i] ++ [v0])[q]? = some t → w.cell? ⟨g, i * 4 + q, none⟩ = some t := hc
  obtain rfl : v0 = v := by
    have := hc' 3 v0 rfl
    rw [this] at hv; simpa using hv
  have hne : some g ≠ v0.ownBlock := fun e => (hG g (hg g e.symm)).2.1 rfl
  have hgl : g < w.heap.size := World.block_lt_of_cell? w _ (hc' 0 _ rfl)
  have hgg : w'.heap[g]? = w.heap[g]? := hg'.block g hgl hne
  have hsz := hg'.size
  have hv'l : ∀ b, v'.ownBlock = some b → (G b ∨ w.heap.size ≤ b) ∧ S b ∧ b ≠ g ∧ b < w'.heap.size := by
    intro b hb
    have hlt := ho.lt b hb
    rcases hvv with e | e | ⟨b', e, hb', hsb⟩
    · have hGb := hg b (e ▸ hb)
      exact ⟨.inl hGb, (hG b hGb).1, (hG b hGb).2.1, hlt⟩
    · rw [e] at hb; cases hb
    · rw [e] at hb; cases hb
      exact ⟨.inr hb', hsb, by omega, hlt⟩
  refine hch _ S (fun b => v'.ownBlock = some b) (lockCells { l[i] with line := rs } ++ [v']) _ ((KeepsRow.same hgg).set _ _ _) (fun q hq => (cell_near (by omega)).trans (World.cell?_of_block (a := ⟨g, q, none⟩) hgg)) (fun q t ht => ?_) (fun b hb hbg hbG hbl => (heap_far hbg).trans (hg'.block b hbl (fun e => hbG (hg b e.symm)))) (fun _ hb => hb) (fun b hb => ?_) ?_
  · by_cases hq : q = 3
    · subst hq
      cases ht
      exact World.cell?_setCell_same _ _ _ (cell_keep hv hgg)
    · have hql : q < 3 := by
        rcases Nat.lt_or_ge q 4 with h | h
        · omega
        · rw [List.getElem?_eq_none (by rw [List.length_append]; show 3 + 1 ≤ q; omega)] at ht; cases ht
      refine (cell_near (by omega)).trans (cell_keep (hc' q t ?_) hgg)
      rw [List.getElem?_append_left hql] at ht
      rw [List.getElem?_append_left (by rw [hll]; exact hql)]; exact ht
  · have := hv'l b hb
    exact ⟨this.1, this.2.1, this.2.2.1, by simpa [World.setCell] using this.2.2.2⟩
  · exact rLockO.mk (x := { l[i] with line := rs }) (ho.move rInt_ok (fun b hb => heap_far (hv'l b hb).2.2.1) (fun b hb => hb.elim)) (fun b hb => hb)
end Go.Tk
