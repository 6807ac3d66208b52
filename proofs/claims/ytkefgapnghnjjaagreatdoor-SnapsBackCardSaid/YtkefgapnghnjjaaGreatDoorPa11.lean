/- A part of the proof, laid together from: Chg, Deep, Box, SnapA. -/
import Derived.Test.YtkefgapnghnjjaaGreatDoorPa10
import Derived.Test.YtkefgapnghnjjaaGreatDoorPa02
import Derived.Laws.IdiomCopy
import Derived.Deep.Draws
import Derived.Test.YtkefgapnghnjjaaGreatDoorPa09
set_option linter.unusedSimpArgs false
set_option linter.unusedVariables false
/- A slice of a call's own, of which one element is another one, or the end is cut off. No program in sight. -/
namespace Go.Tk
open Go Go.RowKit

/-- A block has as many cells as it had. -/
def KeepsRow (g : Nat) (w w' : World) : Prop := ∀ cur E fz, w.heap[g]? = some (.cells cur E fz) → ∃ cur', w'.heap[g]? = some (.cells cur' E fz) ∧ cur'.size = cur.size
theorem KeepsRow.refl (g : Nat) (w : World) : KeepsRow g w w := fun cur _ _ h => ⟨cur, h, rfl⟩
theorem KeepsRow.trans {g : Nat} {a b c : World} (h : KeepsRow g a b) (k : KeepsRow g b c) : KeepsRow g a c := fun cur E fz hc => by
  obtain ⟨c1, h1, h2⟩ := h cur E fz hc
  obtain ⟨c2, h3, h4⟩ := k c1 E fz h1
  exact ⟨c2, h3, h4.trans h2⟩
theorem KeepsRow.same {g : Nat} {w w' : World} (h : w'.heap[g]? = w.heap[g]?) : KeepsRow g w w' := fun cur _ _ hc => ⟨cur, h.trans hc, rfl⟩
theorem KeepsRow.set {g : Nat} {a w : World} (h : KeepsRow g a w) (b o : Nat) (u : Value) : KeepsRow g a (w.setCell ⟨b, o, none⟩ u) := h.trans fun cur E fz hc => by
  by_cases hb : g = b
  · subst hb
    simp only [World.setCell, Array.getElem?_modify, ↓reduceIte, hc, Option.map_some]
    exact ⟨_, rfl, by simp⟩
  · exact ⟨cur, (heap_far hb).trans hc, rfl⟩
theorem KeepsRow.drew {g : Nat} {a w : World} (h : KeepsRow g a w) : KeepsRow g a w.drew := h
theorem KeepsRow.alloc {g : Nat} {a w : World} (h : KeepsRow g a w) (hg : g < w.heap.size) (o : Obj) : KeepsRow g a (w.alloc o) := h.trans (.same (Below.heap_alloc w o g hg))

theorem cells_take {w : World} {g : Nat} {cur : Array Value} {E : TypeId} {fz : Nat × Nat} (h : w.heap[g]? = some (.cells cur E fz)) (j : Nat) : w.cell? ⟨g, j, none⟩ = cur[j]? := by
  simp [World.cell?, h]

theorem OwR.set {α : Type} {E k : Nat} {R : Rel α} (hR : RelOk R k) {w w' : World} {g cap n : Nat} {l : List α} {S : Nat → Prop} (h : OwR E k R w (.slice (some ⟨g, 0, none⟩) n cap) l S) {i : Nat} (hi : i < l.length) {x : α} {cs : List Value}
    (hx : R w cs x (fun b => S b ∧ b ≠ g)) (hrow : KeepsRow g w w') (hout : ∀ j, j < i * k ∨ i * k + k ≤ j → w'.cell? ⟨g, j, none⟩ = w.cell? ⟨g, j, none⟩) (hin : ∀ (j : Nat) (u : Value), cs[j]? = some u → w'.cell? ⟨g, i * k + j, none⟩ = some u)
    (hblk : ∀ b, S b → b ≠ g → b < w.heap.size → w'.heap[b]? = w.heap[b]?) : OwR E k R w' (.slice (some ⟨g, 0, none⟩) n cap) (l.set i x) S := by
  obtain ⟨rows, h1, h2, h3⟩ := h
  have hcs := hR.len hx
  have hlen := OwR.rowsLen (E := E) (v := .slice (some ⟨g, 0, none⟩) n cap) hR h1 h3
  have hx' : R w' cs x (fun b => S b ∧ b ≠ g) := hR.move hx fun b hb hl => ⟨hblk b hb.1 hb.2 hl, hb⟩
  rcases h2.2 with ⟨h, _⟩ | ⟨g', cap', cur, hv, hb0, hg, hc, hm, hsz, htk⟩
  · simp at h
  simp only [Value.slice.injEq, Option.some.injEq, Addr.mk.injEq, and_true] at hv
  obtain ⟨rfl, rfl, rfl⟩ := hv
  obtain ⟨cur', hg', hs'⟩ := hrow cur E _ hg
  have hlen' : ∀ r ∈ rows.set i cs, r.length = k := by
    intro r hr
    rcases List.mem_or_eq_of_mem_set hr with h | h
    · exact hlen r h
    · rw [h]; exact hcs
  have hfl : (rows.set i cs).flatten.length = l.length * k := by
    have : ∀ (rs : List (List Value)), (∀ r ∈ rs, r.length = k) → rs.flatten.length = rs.length * k := by
      intro rs; induction rs with
      | nil => intro _; simp
      | cons r rs ih => intro hh; simp only [List.flatten_cons, List.length_append, List.length_cons]; rw [ih fun r hr => hh r (by simp [hr]), hh r (by simp), Nat.add_mul]; omega
    rw [this _ hlen', List.length_set, h1]
  refine ⟨rows.set i cs, by simp [h1], ⟨by rw [hfl, List.length_set], .inr ⟨g, cap, cur', ?_, hb0, hg', ?_, hm, by rw [hs']; exact hsz, ?_⟩⟩, fun q r y hr hy => ?_⟩
  · rw [List.length_set]
  · rw [List.length_set]; exact hc
  · rw [List.length_set]
    refine List.ext_getElem? fun j => ?_
    rcases Nat.lt_or_ge j (l.length * k) with hj | hj
    · rw [List.getElem?_take_of_lt hj]
      have hkp : 0 < k := by rcases Nat.eq_zero_or_pos k with h | h; (subst h; omega); exact h
      obtain ⟨u, hu⟩ : ∃ u, (rows.set i cs).flatten[j]? = some u := ⟨_, List.getElem?_eq_getElem (by rw [hfl]; exact hj)⟩
      rw [hu]
      obtain ⟨r, hr, hru⟩ := flatten_at hkp _ hlen' j u hu
      have hjj : j / k * k + j % k = j := by rw [Nat.mul_comm]; exact Nat.div_add_mod j k
      have hmod := Nat.mod_lt j hkp
      rw [Array.getElem?_toList, ← cells_take hg' j]
      by_cases hq : j / k = i
      · rw [hq, List.getElem?_set_self (by omega)] at hr
        cases hr
        have := hin (j % k) u hru
        rw [hq] at hjj
        rwa [hjj] at this
      · rw [List.getElem?_set_ne (Ne.symm hq)] at hr
        rw [hout j ?_, cells_take hg j, ← Array.getElem?_toList]
        · have := flatten_getElem? rows hlen (j / k) (j % k) r u hr hru
          rw [hjj, ← htk, List.getElem?_take_of_lt hj] at this
          exact this
        · rcases Nat.lt_or_ge (j / k) i with h | h
          · left
            have := Nat.mul_le_mul_right k (show j / k + 1 ≤ i by omega)
            rw [Nat.add_mul] at this; omega
          · right
            have := Nat.mul_le_mul_right k (show i + 1 ≤ j / k by omega)
            rw [Nat.add_mul] at this; omega
    · rw [List.getElem?_eq_none (by rw [List.length_take]; omega), List.getElem?_eq_none (by rw [hfl]; exact hj)]
  · have hS : ∀ b, S b ∧ some b ≠ (Value.slice (some ⟨g, 0, none⟩) l.length cap).ownBlock → b < w.heap.size → w'.heap[b]? = w.heap[b]? ∧ S b ∧ some b ≠ (Value.slice (some ⟨g, 0, none⟩) l.length cap).ownBlock := fun b hb hl =>
      ⟨hblk b hb.1 (fun e => hb.2 (by rw [e]; rfl)) hl, hb⟩
    by_cases hq : q = i
    · subst hq
      rw [List.getElem?_set_self (by omega)] at hr
      rw [List.getElem?_set_self hi] at hy
      cases hr; cases hy
      exact hR.sub hx' fun b hb _ => ⟨hb.1, fun e => hb.2 (by simpa [Value.ownBlock] using e)⟩
    · rw [List.getElem?_set_ne (Ne.symm hq)] at hr hy
      exact hR.move (h3 q r y hr hy) hS
/-- The cells of one element of a slice of one's own. -/
theorem OwR.at {α : Type} {E k : Nat} {R : Rel α} (hR : RelOk R k) {w : World} {g cap n : Nat} {l : List α} {S : Nat → Prop} (h : OwR E k R w (.slice (some ⟨g, 0, none⟩) n cap) l S) {i : Nat} (hi : i < l.length) :
    ∃ row, R w row l[i] (fun b => S b ∧ b ≠ g) ∧ ∀ (j : Nat) (u : Value), row[j]? = some u → w.cell? ⟨g, i * k + j, none⟩ = some u := by
  obtain ⟨rows, h1, h2, h3⟩ := h
  have hlen := OwR.rowsLen (E := E) (v := .slice (some ⟨g, 0, none⟩) n cap) hR h1 h3
  have hr : rows[i]? = some (rows[i]'(by omega)) := List.getElem?_eq_getElem (by omega)
  refine ⟨_, hR.sub (h3 i _ _ hr (List.getElem?_eq_getElem hi)) fun b hb _ => ⟨hb.1, fun e => hb.2 (by rw [e]; rfl)⟩, fun j u hu => ?_⟩
  have := h2.cells (g := g) rfl (i * k + j) u (flatten_getElem? rows hlen i j _ u hr hu)
  rwa [Addr.add_lit, Nat.zero_add] at this
/-- The end of it cut off, whatever stands behind. -/
theorem OwR.cut {α : Type} {E k : Nat} {R : Rel α} (hR : RelOk R k) {w w' : World} {g cap n : Nat} {l : List α} {S : Nat → Prop} (h : OwR E k R w (.slice (some ⟨g, 0, none⟩) n cap) l S) {i : Nat} (hi : i ≤ l.length) (hrow : KeepsRow g w w')
    (hout : ∀ j, j < i * k → w'.cell? ⟨g, j, none⟩ = w.cell? ⟨g, j, none⟩) (hblk : ∀ b, S b → b ≠ g → b < w.heap.size → w'.heap[b]? = w.heap[b]?) : OwR E k R w' (.slice (some ⟨g, 0, none⟩) i cap) (l.take i) S := by
  obtain ⟨rows, h1, h2, h3⟩ := h
  have hlen := OwR.rowsLen (E := E) (v := .slice (some ⟨g, 0, none⟩) n cap) hR h1 h3
  rcases h2.2 with ⟨h, _⟩ | ⟨g', cap', cur, hv, hb0, hg, hc, hm, hsz, htk⟩
  · simp at h
  simp only [Value.slice.injEq, Option.some.injEq, Addr.mk.injEq, and_true] at hv
  obtain ⟨rfl, rfl, rfl⟩ := hv
  obtain ⟨cur', hg', hs'⟩ := hrow cur E _ hg
  have hil : (l.take i).length = i := by rw [List.length_take]; omega
  have hik := Nat.mul_le_mul_right k hi
  have hck := Nat.mul_le_mul_right k hc
  have hcl : cur.toList.length = cap * k := by simpa using hsz
  have hfl : rows.flatten.length = l.length * k := h2.1
  refine ⟨rows.take i, by simp [h1], ⟨by rw [flatten_take rows hlen, hil, List.length_take, hfl]; omega, .inr ⟨g, cap, cur', by rw [hil], hb0, hg', by rw [hil]; omega, hm, by rw [hs']; exact hsz, ?_⟩⟩, fun q r y hr hy => ?_⟩
  · rw [hil, flatten_take rows hlen, ← htk, List.take_take, Nat.min_eq_left hik]
    refine List.ext_getElem? fun j => ?_
    rcases Nat.lt_or_ge j (i * k) with hj | hj
    · rw [List.getElem?_take_of_lt hj, List.getElem?_take_of_lt hj, Array.getElem?_toList, Array.getElem?_toList, ← cells_take hg' j, ← cells_take hg j]
      exact hout j hj
    · rw [List.getElem?_eq_none (by rw [List.length_take]; omega), List.getElem?_eq_none (by rw [List.length_take]; omega)]
  · have hqi : q < i := by
      rcases Nat.lt_or_ge q i with h | h
      · exact h
      · rw [List.getElem?_eq_none (by rw [hil]; exact h)] at hy; cases hy
    rw [List.getElem?_take_of_lt hqi] at hr hy
    exact hR.move (h3 q r y hr hy) fun b hb hl => ⟨hblk b hb.1 (fun e => hb.2 (by rw [e]; rfl)) hl, hb.1, fun e => hb.2 e⟩
theorem grownBy_set {a w : World} {r : Option Nat} (h : a.grownBy w r) {b : Nat} (hb : r = some b ∨ a.heap.size ≤ b) (o : Nat) (u : Value) : a.grownBy (w.setCell ⟨b, o, none⟩ u) r :=
  ⟨h.os, h.tape, h.output, by simpa [World.setCell] using h.size, fun k hk hr => (heap_far (by rcases hb with e | e; (intro e'; exact hr (by rw [e, e'])); omega)).trans (h.block k hk hr)⟩
theorem grownBy_set1 {a w : World} {g : Nat} (h : a.grownBy w (some g)) (o : Nat) (u : Value) : a.grownBy (w.setCell ⟨g, o, none⟩ u) (some g) := grownBy_set h (.inl rfl) o u
theorem grownBy_alloc {a w : World} {r : Option Nat} (h : a.grownBy w r) (o : Obj) : a.grownBy (w.alloc o) r :=
  ⟨h.os, h.tape, h.output, by have := h.size; simp; omega, fun k hk hr => (Below.heap_alloc w o k (Nat.lt_of_lt_of_le hk h.size)).trans (h.block k hk hr)⟩
theorem grownBy_below {a w w' : World} {r : Option Nat} (h : a.grownBy w r) (hb : Below w.heap.size w w') : a.grownBy w' r :=
  ⟨hb.os.trans h.os, hb.tape.trans h.tape, hb.output.trans h.output, Nat.le_trans h.size hb.size, fun k hk hr => (hb.block k (Nat.lt_of_lt_of_le hk h.size)).trans (h.block k hk hr)⟩
theorem grownBy_any {a w : World} (h : Below a.heap.size a w) (r : Option Nat) : a.grownBy w r := grownBy_below (grownBy_refl a r) h
/-- The list steps of slices.DeleteFunc. -/
theorem keep_first {α : Type} {p : α → Bool} {l : List α} {n : Nat} (hn : n < l.length) (h : p l[n] = true) (hb : ∀ (j : Nat) (hj : j < l.length), j < n → p l[j] = false) : l.take n = (l.take (n + 1)).filter (fun x => !p x) := by
  rw [List.take_succ_eq_append_getElem hn, List.filter_append]
  have h1 : (l.take n).filter (fun x => !p x) = l.take n := List.filter_eq_self.2 fun x hx => by
    obtain ⟨j, hj, rfl⟩ := List.getElem_of_mem hx
    rw [List.length_take] at hj
    rw [List.getElem_take, hb j (by omega) (by omega)]; rfl
  rw [h1]; simp [h]
theorem keep_skip {α : Type} {p : α → Bool} {l m : List α} {a b : Nat} (hb : b < l.length) (h : p l[b] = true) (hm : m.take a = (l.take b).filter (fun x => !p x)) : m.take a = (l.take (b + 1)).filter (fun x => !p x) := by
  rw [List.take_succ_eq_append_getElem hb, List.filter_append, ← hm]; simp [h]
theorem keep_take {α : Type} {p : α → Bool} {l m : List α} {a b : Nat} (hb : b < l.length) (ha : a < m.length) (h : p l[b] = false) (hm : m.take a = (l.take b).filter (fun x => !p x)) : (m.set a l[b]).take (a + 1) = (l.take (b + 1)).filter (fun x => !p x) := by
  rw [List.take_succ_eq_append_getElem hb, List.filter_append, ← hm, List.take_succ_eq_append_getElem (by simpa using ha), List.take_set_of_le (Nat.le_refl _)]; simp [h]
theorem keep_drop {α : Type} {l m : List α} {a b : Nat} (hab : a < b) (x : α) (hm : m.drop b = l.drop b) : (m.set a x).drop (b + 1) = l.drop (b + 1) := by
  rw [List.drop_set_of_lt (by omega), ← List.drop_drop, hm, List.drop_drop]
theorem drop_at {α : Type} {l m : List α} {b : Nat} (hb : b < l.length) (hl : m.length = l.length) (hm : m.drop b = l.drop b) : m[b]'(by omega) = l[b] := by
  have h1 : (m.drop b)[0]'(by simp; omega) = (l.drop b)[0]'(by simp; omega) := by simp only [hm]
  simpa using h1
theorem drop_more {α : Type} {l m : List α} {b : Nat} (hm : m.drop b = l.drop b) : m.drop (b + 1) = l.drop (b + 1) := by
  rw [← List.drop_drop, hm, List.drop_drop]
theorem KeepsRow.sets {g b : Nat} : ∀ (vs : List Value) (o : Nat) {a w : World}, KeepsRow g a w → KeepsRow g a (w.setCells b o vs)
  | [], _, _, _, h => h
  | v :: r, o, _, _, h => KeepsRow.sets r (o + 1) (h.set b o v)
theorem heap_sets {b k : Nat} (h : k ≠ b) : ∀ (vs : List Value) (o : Nat) (w : World), (w.setCells b o vs).heap[k]? = w.heap[k]?
  | [], _, _ => rfl
  | v :: r, o, w => (heap_sets h r (o + 1) _).trans (heap_far h)
theorem grownBy_sets {a : World} {r : Option Nat} {b : Nat} (hb : r = some b ∨ a.heap.size ≤ b) : ∀ (vs : List Value) (o : Nat) (w : World), a.grownBy w r → a.grownBy (w.setCells b o vs) r
  | [], _, _, h => h
  | v :: vs, o, w, h => grownBy_sets hb vs (o + 1) _ (grownBy_set h hb o v)
theorem below_sets {B b : Nat} {a : World} (hb : B ≤ b) : ∀ (vs : List Value) (o : Nat) (w : World), Below B a w → Below B a (w.setCells b o vs)
  | [], _, _, h => h
  | v :: vs, o, w, h => below_sets hb vs (o + 1) _ (below_set h hb o v)
/-- One element overwritten, as a store does it. -/
theorem OwR.setRow {α : Type} {E k : Nat} {R : Rel α} (hR : RelOk R k) {w : World} {g cap n : Nat} {l : List α} {S : Nat → Prop} (h : OwR E k R w (.slice (some ⟨g, 0, none⟩) n cap) l S) {i : Nat} (hi : i < l.length) {x : α} {cs : List Value}
    (hx : R w cs x (fun b => S b ∧ b ≠ g)) : OwR E k R (w.setCells g (i * k) cs) (.slice (some ⟨g, 0, none⟩) n cap) (l.set i x) S := by
  have hlen := hR.len hx
  refine h.set hR hi hx (KeepsRow.sets _ _ (KeepsRow.refl _ _)) (fun j hj => ?_) (fun j u hu => ?_) (fun b _ hb _ => heap_sets hb _ _ _)
  · refine World.cell?_setCells_out _ _ _ _ _ fun _ _ => ?_
    show j < _ ∨ _ ≤ j; omega
  · obtain ⟨row, hrow, hc⟩ := h.at hR hi
    have hrl := hR.len hrow
    have hj : j < cs.length := by
      rcases Nat.lt_or_ge j cs.length with h | h
      · exact h
      · rw [List.getElem?_eq_none h] at hu; cases hu
    rw [World.cell?_setCells_in g cs (i * k) w (fun q hq => ?_) j hj]
    · rw [List.getElem?_eq_getElem hj] at hu; exact hu
    · have := hc q _ (List.getElem?_eq_getElem (by omega))
      rw [this]; rfl
end Go.Tk

/- One element of a slice of a call's own, with the memory that it leads to, is another one. No program in sight. -/
namespace Go.Tk
open Go Go.RowKit

theorem OwR.put {α : Type} {E k : Nat} {R : Rel α} (hR : RelOk R k) {w w' : World} {g cap n : Nat} {l : List α} {S S' : Nat → Prop} (h : OwR E k R w (.slice (some ⟨g, 0, none⟩) n cap) l S) {i : Nat} (hi : i < l.length) {x : α} {cs : List Value}
    (hx' : R w' cs x (fun b => S' b ∧ b ≠ g)) (hrow : KeepsRow g w w') (hout : ∀ j, j < i * k ∨ i * k + k ≤ j → w'.cell? ⟨g, j, none⟩ = w.cell? ⟨g, j, none⟩) (hin : ∀ (j : Nat) (u : Value), cs[j]? = some u → w'.cell? ⟨g, i * k + j, none⟩ = some u)
    (hoth : ∀ (q : Nat) (r : List Value) (y : α), q ≠ i → l[q]? = some y → R w r y (fun b => S b ∧ b ≠ g) → R w' r y (fun b => S' b ∧ b ≠ g)) : OwR E k R w' (.slice (some ⟨g, 0, none⟩) n cap) (l.set i x) S' := by
  obtain ⟨rows, h1, h2, h3⟩ := h
  have hcs := hR.len hx'
  have hlen := OwR.rowsLen (E := E) (v := .slice (some ⟨g, 0, none⟩) n cap) hR h1 h3
  rcases h2.2 with ⟨h, _⟩ | ⟨g', cap', cur, hv, hb0, hg, hc, hm, hsz, htk⟩
  · simp at h
  simp only [Value.slice.injEq, Option.some.injEq, Addr.mk.injEq, and_true] at hv
  obtain ⟨rfl, rfl, rfl⟩ := hv
  obtain ⟨cur', hg', hs'⟩ := hrow cur E _ hg
  have hlen' : ∀ r ∈ rows.set i cs, r.length = k := by
    intro r hr
    rcases List.mem_or_eq_of_mem_set hr with h | h
    · exact hlen r h
    · rw [h]; exact hcs
  have hfl : (rows.set i cs).flatten.length = l.length * k := by
    have : ∀ (rs : List (List Value)), (∀ r ∈ rs, r.length = k) → rs.flatten.length = rs.length * k := by
      intro rs; induction rs with
      | nil => intro _; simp
      | cons r rs ih => intro hh; simp only [List.flatten_cons, List.length_append, List.length_cons]; rw [ih fun r hr => hh r (by simp [hr]), hh r (by simp), Nat.add_mul]; omega
    rw [this _ hlen', List.length_set, h1]
  refine ⟨rows.set i cs, by simp [h1], ⟨by rw [hfl, List.length_set], .inr ⟨g, cap, cur', ?_, hb0, hg', ?_, hm, by rw [hs']; exact hsz, ?_⟩⟩, fun q r y hr hy => ?_⟩
  · rw [List.length_set]
  · rw [List.length_set]; exact hc
  · rw [List.length_set]
    refine List.ext_getElem? fun j => ?_
    rcases Nat.lt_or_ge j (l.length * k) with hj | hj
    · rw [List.getElem?_take_of_lt hj]
      have hkp : 0 < k := by rcases Nat.eq_zero_or_pos k with h | h; (subst h; omega); exact h
      obtain ⟨u, hu⟩ : ∃ u, (rows.set i cs).flatten[j]? = some u := ⟨_, List.getElem?_eq_getElem (by rw [hfl]; exact hj)⟩
      rw [hu]
      obtain ⟨r, hr, hru⟩ := flatten_at hkp _ hlen' j u hu
      have hjj : j / k * k + j % k = j := by rw [Nat.mul_comm]; exact Nat.div_add_mod j k
      have hmod := Nat.mod_lt j hkp
      rw [Array.getElem?_toList, ← cells_take hg' j]
      by_cases hq : j / k = i
      · rw [hq, List.getElem?_set_self (by omega)] at hr
        cases hr
        have := hin (j % k) u hru
        rw [hq] at hjj
        rwa [hjj] at this
      · rw [List.getElem?_set_ne (Ne.symm hq)] at hr
        rw [hout j ?_, cells_take hg j, ← Array.getElem?_toList]
        · have := flatten_getElem? rows hlen (j / k) (j % k) r u hr hru
          rw [hjj, ← htk, List.getElem?_take_of_lt hj] at this
          exact this
        · rcases Nat.lt_or_ge (j / k) i with h | h
          · left
            have := Nat.mul_le_mul_right k (show j / k + 1 ≤ i by omega)
            rw [Nat.add_mul] at this; omega
          · right
            have := Nat.mul_le_mul_right k (show i + 1 ≤ j / k by omega)
            rw [Nat.add_mul] at this; omega
    · rw [List.getElem?_eq_none (by rw [List.length_take]; omega), List.getElem?_eq_none (by rw [hfl]; exact hj)]
  · have hS : ∀ b, S b ∧ some b ≠ (Value.slice (some ⟨g, 0, none⟩) l.length cap).ownBlock → b < w.heap.size → S b ∧ b ≠ g := fun b hb _ => ⟨hb.1, fun e => hb.2 (by rw [e]; rfl)⟩
    have hS' : ∀ b, S' b ∧ b ≠ g → b < w'.heap.size → S' b ∧ some b ≠ (Value.slice (some ⟨g, 0, none⟩) (l.set i x).length cap).ownBlock := fun b hb _ => ⟨hb.1, fun e => hb.2 (by simpa [Value.ownBlock] using e)⟩
    by_cases hq : q = i
    · subst hq
      rw [List.getElem?_set_self (by omega)] at hr
      rw [List.getElem?_set_self hi] at hy
      cases hr; cases hy
      exact hR.sub hx' fun b hb _ => ⟨hb.1, fun e => hb.2 (by simpa [Value.ownBlock] using e)⟩
    · rw [List.getElem?_set_ne (Ne.symm hq)] at hr hy
      exact hR.sub (hoth q r y hq hy (hR.sub (h3 q r y hr hy) hS)) fun b hb _ => ⟨hb.1, fun e => hb.2 (by simpa [Value.ownBlock] using e)⟩

theorem lt_of_heap_eq {w w' : World} {b : Nat} (h : w'.heap[b]? = w.heap[b]?) (hb : b < w.heap.size) : b < w'.heap.size := by
  have h3 : w.heap[b]? = some (w.heap[b]'hb) := Array.getElem?_eq_getElem _
  rw [h3] at h
  exact (Array.getElem?_eq_some_iff.1 h).1

/-- One element with the blocks that it leads to: what it is, and how it may be changed. -/
theorem OwD.upd {α : Type} {E k : Nat} {R : Rel α} (hR : RelOk R k) {w : World} {g cap n : Nat} {l : List α} {S : Nat → Prop} (h : OwD E k R w (.slice (some ⟨g, 0, none⟩) n cap) l S) (i : Nat) (hi : i < l.length) :
    ∃ row G, R w row l[i] G ∧ (∀ b, G b → S b ∧ b ≠ g ∧ b < w.heap.size) ∧ (∀ (j : Nat) (u : Value), row[j]? = some u → w.cell? ⟨g, i * k + j, none⟩ = some u) ∧
      ∀ (w' : World) (S' G' : Nat → Prop) (row' : List Value) (x' : α), KeepsRow g w w' →
        (∀ j, j < i * k ∨ i * k + k ≤ j → w'.cell? ⟨g, j, none⟩ = w.cell? ⟨g, j, none⟩) → (∀ (j : Nat) (u : Value), row'[j]? = some u → w'.cell? ⟨g, i * k + j, none⟩ = some u) →
        (∀ b, S b → b ≠ g → ¬ G b → b < w.heap.size → w'.heap[b]? = w.heap[b]?) → (∀ b, S b → S' b) → (∀ b, G' b → (G b ∨ w.heap.size ≤ b) ∧ S' b ∧ b ≠ g ∧ b < w'.heap.size) → R w' row' x' G' →
        OwD E k R w' (.slice (some ⟨g, 0, none⟩) n cap) (l.set i x') S' := by
  obtain ⟨l2, hm, hap, ho⟩ := h
  have hl2 : l2.length = l.length := by rw [← hm, List.length_map]
  have hx2 : l2[i]? = some (l2[i]'(by omega)) := List.getElem?_eq_getElem (by omega)
  obtain ⟨row, hrow, hcells⟩ := ho.at (rG_ok hR) (show i < l2.length by omega)
  have hli : (l2[i]'(by omega)).1 = l[i] := by
    have : (l2.map (·.1))[i]? = l[i]? := by rw [hm]
    rw [List.getElem?_map, hx2, List.getElem?_eq_getElem hi] at this
    simpa using this
  refine ⟨row, (l2[i]'(by omega)).2, hli ▸ hrow.1, fun b hb => ⟨(hrow.2 b hb).1.1, (hrow.2 b hb).1.2, (hrow.2 b hb).2⟩, hcells, ?_⟩
  intro w' S' G' row' x' hkr hout hin hblk hSS hG' hx'
  have hgl : ∀ (q : Nat) (y : α × (Nat → Prop)), l2[q]? = some y → ∀ b, y.2 b → b < w.heap.size := fun q y hy b hb => ho.gLt y (List.mem_of_getElem? hy) b hb
  refine ⟨l2.set i (x', G'), ?_, ?_, ?_⟩
  · rw [List.map_set, hm]
  · have key : ∀ (q : Nat) (y : α × (Nat → Prop)), (l2.set i (x', G'))[q]? = some y → (q = i ∧ y = (x', G')) ∨ (q ≠ i ∧ l2[q]? = some y) := by
      intro q y hy
      by_cases hq : q = i
      · subst hq
        rw [List.getElem?_set_self (by omega)] at hy
        exact .inl ⟨rfl, by simpa using hy.symm⟩
      · rw [List.getElem?_set_ne (Ne.symm hq)] at hy
        exact .inr ⟨hq, hy⟩
    intro p q x y b hp hq hxb hyb
    rcases key p x hp with ⟨h1, rfl⟩ | ⟨h1, h1'⟩ <;> rcases key q y hq with ⟨h2, rfl⟩ | ⟨h2, h2'⟩
    · omega
    · rcases (hG' b hxb).1 with h | h
      · exact absurd (hap q i y _ b h2' hx2 hyb h) h2
      · have := hgl q y h2' b hyb; omega
    · rcases (hG' b hyb).1 with h | h
      · exact absurd (hap p i x _ b h1' hx2 hxb h) h1
      · have := hgl p x h1' b hxb; omega
    · exact hap p q x y b h1' h2' hxb hyb
  · refine ho.put (rG_ok hR) (by omega) (cs := row') ⟨hx', fun b hb => ⟨⟨(hG' b hb).2.1, (hG' b hb).2.2.1⟩, (hG' b hb).2.2.2⟩⟩ hkr hout hin ?_
    intro q r y hq hy hr
    have hne : ∀ b, y.2 b → ¬ (l2[i]'(by omega)).2 b := fun b hb hG => hq (hap q i y _ b hy hx2 hb hG)
    refine ⟨hR.move hr.1 fun b hb hl => ⟨hblk b (hr.2 b hb).1.1 (hr.2 b hb).1.2 (hne b hb) hl, hb⟩, fun b hb => ?_⟩
    have h4 := hr.2 b hb
    exact ⟨⟨hSS b h4.1.1, h4.1.2⟩, lt_of_heap_eq (hblk b h4.1.1 h4.1.2 (hne b hb) h4.2) h4.2⟩
theorem OwR.sub {α : Type} {E k : Nat} {R : Rel α} (h : RelOk R k) {w : World} {v : Value} {l : List α} {S S' : Nat → Prop} (ho : OwR E k R w v l S) (hs : ∀ b, S b → b < w.heap.size → S' b) : OwR E k R w v l S' :=
  ho.move h (fun _ _ => rfl) fun b hb _ hl => ⟨rfl, hs b hb hl⟩
theorem OwD.sub {α : Type} {E k : Nat} {R : Rel α} (hR : RelOk R k) {w : World} {v : Value} {l : List α} {S S' : Nat → Prop} (h : OwD E k R w v l S) (hs : ∀ b, S b → b < w.heap.size → S' b) : OwD E k R w v l S' := by
  obtain ⟨l2, hm, ha, ho⟩ := h
  exact ⟨l2, hm, ha, ho.sub (rG_ok hR) hs⟩
theorem OwD.thaw {α : Type} {E k : Nat} {R : Rel α} {w : World} {g n cap : Nat} {l : List α} {S : Nat → Prop} (h : OwD E k R w (.slice (some ⟨g, 0, none⟩) n cap) l S) (hl : 0 < l.length) (j : Nat) : w.frozen? ⟨g, j, none⟩ = false := by
  obtain ⟨g', cap', e, _, _, _, hf⟩ := h.shapePos hl
  simp only [Value.slice.injEq, Option.some.injEq, Addr.mk.injEq, and_true] at e
  rw [e.1]; exact hf j
/-- What is known of the world here, and no more. -/
theorem wp_abs {P : Program} {c : Code} {K : Exit → Act → World → Prop} {a : Act} {w : World} (F : World → Prop) (h : F w) (k : ∀ w', F w' → Code.wp P c K a w') : Code.wp P c K a w := k w h
theorem then_abs {K : Act → World → Prop} {Q : Exit → Act → World → Prop} {a : Act} {w : World} (F : World → Prop) (h : F w) (k : ∀ w', F w' → Exit.then K Q Exit.normal a w') : Exit.then K Q Exit.normal a w := k w h
theorem heap_drewN (w : World) (q b : Nat) : (w.drewN q).heap[b]? = w.heap[b]? := rfl
theorem below_alloc2 (w : World) (o o' : Obj) : Below w.heap.size w ((w.alloc o).alloc o') := (below_alloc w o).alloc (by rw [World.size_alloc]; omega) o'
theorem size_alloc2 (w : World) (o o' : Obj) : ((w.alloc o).alloc o').heap.size = w.heap.size + 2 := by rw [World.size_alloc, World.size_alloc]
/-- Two boxes that the call laid first, later on. -/
theorem fresh2 {w w' : World} {c d : Array Value} {t t' : TypeId} (h : Below (w.heap.size + 2) ((w.alloc (.cells c t)).alloc (.cells d t')) w') :
    (∀ i, w'.cell? ⟨w.heap.size, i, none⟩ = c[i]?) ∧ (∀ i, w'.frozen? ⟨w.heap.size, i, none⟩ = false) ∧ (∀ i, w'.cell? ⟨w.heap.size + 1, i, none⟩ = d[i]?) ∧ (∀ i, w'.frozen? ⟨w.heap.size + 1, i, none⟩ = false) ∧ w.heap.size + 1 < w'.heap.size := by
  have h1 : (w.alloc (.cells c t)).heap.size = w.heap.size + 1 := World.size_alloc _ _
  have hb : Below (w.heap.size + 1) (w.alloc (.cells c t)) w' := ((h1 ▸ below_alloc (w.alloc (.cells c t)) (.cells d t')) : Below (w.heap.size + 1) _ _).trans (h.mono (by omega))
  obtain ⟨a1, a2, a3⟩ := fresh hb
  have hb2 : Below ((w.alloc (.cells c t)).heap.size + 1) ((w.alloc (.cells c t)).alloc (.cells d t')) w' := by rw [h1]; exact h
  obtain ⟨b1, b2, b3⟩ := fresh hb2
  rw [h1] at b1 b2 b3
  exact ⟨a1, a2, b1, b2, b3⟩
end Go.Tk

/- A box: cells of a block that may be written. No program in sight. -/
namespace Go.Tk
open Go Go.RowKit
/-- These cells lie in a block, and may be written. -/
structure BoxAt (w : World) (b : Nat) (cs : List Value) : Prop where
  cell : ∀ (j : Nat) (u : Value), cs[j]? = some u → w.cell? ⟨b, j, none⟩ = some u
  thaw : ∀ j, w.frozen? ⟨b, j, none⟩ = false
  lt : b < w.heap.size
theorem BoxAt.keep {w w' : World} {b : Nat} {cs : List Value} (h : BoxAt w b cs) (hb : w'.heap[b]? = w.heap[b]?) : BoxAt w' b cs :=
  ⟨fun j u hu => cell_keep (h.cell j u hu) hb, fun j => (World.frozen?_of_block (a := ⟨b, j, none⟩) hb).trans (h.thaw j), by
    have hs : w.heap[b]? = some (w.heap[b]'h.lt) := Array.getElem?_eq_getElem h.lt
    rw [← hb] at hs
    exact (Array.getElem?_eq_some_iff.1 hs).1⟩
theorem BoxAt.below {w w' : World} {b : Nat} {cs : List Value} (h : BoxAt w b cs) (hb : Below w.heap.size w w') : BoxAt w' b cs := h.keep (hb.block b h.lt)
theorem BoxAt.set {w : World} {b : Nat} {cs : List Value} (h : BoxAt w b cs) (i : Nat) (hi : i < cs.length) (u : Value) : BoxAt (w.setCell ⟨b, i, none⟩ u) b (cs.set i u) := by
  refine ⟨fun j v hv => ?_, fun j => (World.frozen?_setCell _ _ _ _).trans (h.thaw j), by rw [World.size_setCell]; exact h.lt⟩
  by_cases hij : i = j
  · subst hij
    rw [List.getElem?_set_self hi] at hv
    cases hv
    exact World.cell?_setCell_same w ⟨b, i, none⟩ u (h.cell i _ (List.getElem?_eq_getElem hi))
  · rw [List.getElem?_set_ne hij] at hv
    exact (cell_near hij).trans (h.cell j v hv)
theorem BoxAt.new {w : World} {cs : List Value} {E : Nat} : BoxAt (w.alloc (.cells cs.toArray E)) w.heap.size cs :=
  ⟨fun j u hu => (World.cell?_alloc_at _ _ _ _ rfl).trans (by simpa using hu), fun j => World.frozen?_alloc_at _ _ _ _ rfl, by rw [World.size_alloc]; omega⟩
theorem BoxAt.grown {w w' : World} {b : Nat} {cs : List Value} {r : Option Nat} (h : BoxAt w b cs) (hg : w.grownBy w' r) (hne : some b ≠ r) : BoxAt w' b cs := h.keep (hg.block b h.lt hne)
theorem BoxAt.far {w : World} {b c : Nat} {cs : List Value} (h : BoxAt w b cs) (hne : b ≠ c) (o : Nat) (u : Value) : BoxAt (w.setCell ⟨c, o, none⟩ u) b cs := h.keep (heap_far hne)
theorem BoxAt.drew {w : World} {b : Nat} {cs : List Value} (h : BoxAt w b cs) : BoxAt w.drew b cs := h.keep rfl
/-- A slice of the call's own that has elements lies in a block. -/
theorem OwR.inBlock {α : Type} {E k : Nat} {R : Rel α} {w : World} {a : Option Addr} {n cap : Nat} {l : List α} {S : Nat → Prop} (h : OwR E k R w (.slice a n cap) l S) (hl : 0 < l.length) : ∃ g, a = some ⟨g, 0, none⟩ := by
  obtain ⟨rows, h1, h2, h3⟩ := h
  rcases h2.2 with ⟨hv, h0⟩ | ⟨g, cap', cur, hv, _⟩
  · simp only [Value.slice.injEq] at hv; omega
  · simp only [Value.slice.injEq] at hv
    exact ⟨g, hv.1⟩
theorem OwR.nones {α : Type} {E k : Nat} {R : Rel α} {w : World} {n cap : Nat} {l : List α} {S : Nat → Prop} (h : OwR E k R w (.slice none n cap) l S) : l = [] ∧ n = 0 ∧ cap = 0 := by
  obtain ⟨rows, h1, h2, h3⟩ := h
  rcases h2.2 with ⟨hv, h0⟩ | ⟨g, cap', cur, hv, _⟩
  · simp only [Value.slice.injEq, true_and] at hv
    exact ⟨List.eq_nil_of_length_eq_zero (by omega), hv.1, hv.2⟩
  · simp at hv
theorem OwR.shape2 {α : Type} {E k : Nat} {R : Rel α} {w : World} {v : Value} {l : List α} {S : Nat → Prop} (h : OwR E k R w v l S) : (v = .slice none 0 0 ∧ l = []) ∨ ∃ g cap, v = .slice (some ⟨g, 0, none⟩) l.length cap := by
  obtain ⟨rows, h1, h2, h3⟩ := h
  rcases h2.2 with ⟨hv, h0⟩ | ⟨g, cap', cur, hv, _⟩
  · exact .inl ⟨hv, List.eq_nil_of_length_eq_zero (by omega)⟩
  · exact .inr ⟨g, cap', hv⟩
theorem own_next {v v' : Value} {B : Nat} {w : World} (h : ∀ g, v.ownBlock = some g → B < g) (hB : B < w.heap.size) (hv : v'.ownBlock = v.ownBlock ∨ ∃ x, v'.ownBlock = some x ∧ w.heap.size ≤ x) : ∀ g, v'.ownBlock = some g → B < g := fun g hg => by
  rcases hv with e | ⟨y, e, hy⟩
  · exact h g (by rw [← e]; exact hg)
  · rw [e] at hg; cases hg; omega
theorem OwR.room {α : Type} {E k : Nat} {R : Rel α} {w : World} {a : Option Addr} {n cap : Nat} {l : List α} {S : Nat → Prop} (h : OwR E k R w (.slice a n cap) l S) : l.length ≤ cap ∧ cap ≤ maxLen := by
  obtain ⟨rows, h1, h2, h3⟩ := h
  rcases h2.2 with ⟨hv, h0⟩ | ⟨g, cap', cur, hv, -, -, h4, h5, -⟩
  · simp only [Value.slice.injEq] at hv
    exact ⟨by omega, by unfold maxLen; omega⟩
  · simp only [Value.slice.injEq] at hv
    obtain ⟨-, -, rfl⟩ := hv
    exact ⟨h4, h5⟩
end Go.Tk

/- codec.Seal. -/
namespace Go.Tk
open Go Go.RowKit
theorem sealGo_next (s : List UInt8) (k : Nat) (hk : k < s.length) {x y : Nat} (h : sealGo (s.take k) 1 0 = (x, y)) :
    sealGo (s.take (k + 1)) 1 0 = ((x + s[k].toNat) % 65521, (y + (x + s[k].toNat) % 65521) % 65521) := by
  rw [List.take_succ_eq_append_getElem hk, sealGo_append, h]; rfl
theorem slr_bytes {w : World} {b : Nat} {l : List UInt8} (h : BoxAt w b (l.map fun (x : UInt8) => .int .u8 x.toNat)) (hl : l.length ≤ maxLen) : SlR 1 rByte w (.slice (some ⟨b, 0, none⟩) l.length l.length) l (fun _ => True) :=
  ⟨_, _, rfl, Nat.le_refl _, hl, (fun h => by cases h), fun i x hx => ⟨b, 0, [.int .u8 x.toNat], rfl, trivial, rfl, fun q u hu => by
    match q, hu with
    | 0, hu =>
      cases hu
      have := h.cell i (.int .u8 x.toNat) (by rw [List.getElem?_map, hx]; rfl)
      simpa using this⟩⟩
end Go.Tk
namespace Go.Proofs.YtkefgapnghnjjaaGreatDoor
open Go.RowKit Go.Tk
set_option linter.unusedSimpArgs false in
set_option maxRecDepth 100000 in
set_option maxHeartbeats 1600000 in
theorem seal_calls (s : List UInt8) (hs : s.length ≤ 1000000) (w : World) :
    Calls Tryz.prog 65 #[.string ⟨s.toArray⟩] w fun e w' => e = .returned (.string ⟨(sealB s).toArray⟩) ∧ Below w.heap.size w w' := by
  go_enter Tryz.func65, Tryz.ntmps65
  go_wp2
  go_loopw [3, 4, 8] (fun vx vy i wr => ∃ k x y : Nat, k ≤ s.length ∧ i = .int .i64 k ∧ vx = .int .i64 x ∧ vy = .int .i64 y ∧ x < 65521 ∧ y < 65521 ∧ Hid (sealGo (s.take k) 1 0 = (x, y)) ∧ wr = w)
    (fun _ _ i _ => s.length - (intOf i).toNat)
  case atStart => exact ⟨0, 1, 0, by omega, rfl, rfl, rfl, by omega, by omega, Lib.hid rfl, rfl⟩
  case round =>
    obtain ⟨k, x, y, hk, rfl, rfl, rfl, hx, hy, HG, rfl⟩ := hrel
    by_cases hlt : k < s.length
    case neg =>
      have HF := Lib.hid (show sealB s = sealOf (x, y) by rw [sealB, ← HG.out, List.take_of_length_le (by omega)])
      clear HG
      have hbx := BoxAt.new (w := wr) (cs := [.int .u8 ((y : Int) / 256), .int .u8 ((y : Int) % 256), .int .u8 ((x : Int) / 256), .int .u8 ((x : Int) % 256)]) (E := 5)
      have he : [Value.int .u8 ((y : Int) / 256), .int .u8 ((y : Int) % 256), .int .u8 ((x : Int) / 256), .int .u8 ((x : Int) % 256)] = [(y / 256).toUInt8, y.toUInt8, (x / 256).toUInt8, x.toUInt8].map fun (x : UInt8) => Value.int .u8 x.toNat := by
        simp only [List.map_cons, List.map_nil, Nat.toUInt8_eq, UInt8.toNat_ofNat', Nat.reducePow, List.cons.injEq, Value.int.injEq, true_and, and_true]
        refine ⟨?_, ?_, ?_, ?_⟩ <;> omega
      have hbx2 : BoxAt (wr.alloc (.cells #[.int .u8 ((y : Int) / 256), .int .u8 ((y : Int) % 256), .int .u8 ((x : Int) / 256), .int .u8 ((x : Int) % 256)] 5)) wr.heap.size ([(y / 256).toUInt8, y.toUInt8, (x / 256).toUInt8, x.toUInt8].map fun (x : UInt8) => Value.int .u8 x.toNat) := by rw [← he]; exact hbx
      have hcv := run_string_of_bytes (P := Tryz.prog) Tryz.underlying85 Tryz.underlying5 Tryz.underlying9 (slr_bytes (l := [(y / 256).toUInt8, y.toUInt8, (x / 256).toUInt8, x.toUInt8]) hbx2 (by simp [maxLen]))
      simp only [List.length_cons, List.length_nil, Nat.reduceAdd, Nat.zero_add] at hcv
      clear he hbx hbx2
      go_wp2
      go_ret
      exact ⟨by rw [HF.out]; rfl, below_alloc wr _⟩
    have hc1 : ({ data := s.toArray } : ByteArray)[k]'hlt = s[k]'hlt := rfl
    have HN := Lib.hid (sealGo_next s k hlt HG.out)
    have hcl := UInt8.toNat_lt (s[k]'hlt)
    generalize (s[k]'hlt) = ch at *
    obtain ⟨c, hc⟩ : ∃ c, ch.toNat = c := ⟨_, rfl⟩
    rw [hc] at hcl HN
    go_wp2
    exact ⟨⟨k + 1, (x + c) % 65521, (y + (x + c) % 65521) % 65521, by omega, by go_num, by simp, by simp, by omega, by omega, HN, trivial⟩, by simp [intOf]; omega⟩
end Go.Proofs.YtkefgapnghnjjaaGreatDoor
