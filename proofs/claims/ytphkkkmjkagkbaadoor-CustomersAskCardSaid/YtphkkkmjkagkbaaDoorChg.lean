/- A slice of a call's own, of which one element is another one, or the end is cut off. No program in sight. -/
import Derived.Test.YtphkkkmjkagkbaaDoorSlice
import Derived.Test.YtphkkkmjkagkbaaDoorData
import Derived.Laws.IdiomCopy
namespace Go.Tk
open Go Go.RowKit

/-- A block has as many cells as it had. -/
def KeepsRow (g : Nat) (w w' : World) : Prop := ∀ cur E fz, w.heap[g]? = some (.cells cur E fz) → ∃ cur', w'.heap[g]? = some (.cells cur' E fz) ∧ cur'.size = cur.size
theorem KeepsRow.refl (g : Nat) (w : World) : KeepsRow g w w := fun cur _ _ h => ⟨cur, h, rfl⟩
theorem KeepsRow.trans {g : Nat} {a b c : World} (h : KeepsRow g a b) (k : KeepsRow g b c) : KeepsRow g a c := fun cur E fz hc => by
  obtain ⟨c1, h1, h2⟩ := h cur E fz hc
  obtain ⟨c2, h3, h4⟩ := k c1 E fz h1
  exact ⟨c2, h3, h4.trans h2⟩
theorem KeepsRow.same {g : Nat} {w w' : World} (h : w'.heap[g]? = w.heap[g]?) : KeepsRow g w w' := fun cur _ _ hc => ⟨cur, h.trans hc, rfl⟩
theorem KeepsRow.set {g : Nat} {a w : World} (h : KeepsRow g a w) (b o : Nat) (u : Value) : KeepsRow g a (w.setCell ⟨b, o, none⟩ u) := h.trans fun cur E fz hc => by
  by_cases hb : g = b
  · subst hb
    simp only [World.setCell, Array.getElem?_modify, ↓reduceIte, hc, Option.map_some]
    exact ⟨_, rfl, by simp⟩
  · exact ⟨cur, (heap_far hb).trans hc, rfl⟩
theorem KeepsRow.drew {g : Nat} {a w : World} (h : KeepsRow g a w) : KeepsRow g a w.drew := h
theorem KeepsRow.alloc {g : Nat} {a w : World} (h : KeepsRow g a w) (hg : g < w.heap.size) (o : Obj) : KeepsRow g a (w.alloc o) := h.trans (.same (Below.heap_alloc w o g hg))

theorem cells_take {w : World} {g : Nat} {cur : Array Value} {E : TypeId} {fz : Nat × Nat} (h : w.heap[g]? = some (.cells cur E fz)) (j : Nat) : w.cell? ⟨g, j, none⟩ = cur[j]? := by
  simp [World.cell?, h]

theorem OwR.set {α : Type} {E k : Nat} {R : Rel α} (hR : RelOk R k) {w w' : World} {g cap n : Nat} {l : List α} {S : Nat → Prop} (h : OwR E k R w (.slice (some ⟨g, 0, none⟩) n cap) l S) {i : Nat} (hi : i < l.length) {x : α} {cs : List Value}
    (hx : R w cs x (fun b => S b ∧ b ≠ g)) (hrow : KeepsRow g w w') (hout : ∀ j, j < i * k ∨ i * k + k ≤ j → w'.cell? ⟨g, j, none⟩ = w.cell? ⟨g, j, none⟩) (hin : ∀ (j : Nat) (u : Value), cs[j]? = some u → w'.cell? ⟨g, i * k + j, none⟩ = some u)
    (hblk : ∀ b, S b → b ≠ g → b < w.heap.size → w'.heap[b]? = w.heap[b]?) : OwR E k R w' (.slice (some ⟨g, 0, none⟩) n cap) (l.set i x) S := by
  obtain ⟨rows, h1, h2, h3⟩ := h
  have hcs := hR.len hx
  have hlen := OwR.rowsLen (E := E) (v := .slice (some ⟨g, 0, none⟩) n cap) hR h1 h3
  have hx' : R w' cs x (fun b => S b ∧ b ≠ g) := hR.move hx fun b hb hl => ⟨hblk b hb.1 hb.2 hl, hb⟩
  rcases h2.2 with ⟨h, _⟩ | ⟨g', cap', cur, hv, hb0, hg, hc, hm, hsz, htk⟩
  · simp at h
  simp only [Value.slice.injEq, Option.some.injEq, Addr.mk.injEq, and_true] at hv
  obtain ⟨rfl, rfl, rfl⟩ := hv
  obtain ⟨cur', hg', hs'⟩ := hrow cur E _ hg
  have hlen' : ∀ r ∈ rows.set i cs, r.length = k := by
    intro r hr
    rcases List.mem_or_eq_of_mem_set hr with h | h
    · exact hlen r h
    · rw [h]; exact hcs
  have hfl : (rows.set i cs).flatten.length = l.length * k := by
    have : ∀ (rs : List (List Value)), (∀ r ∈ rs, r.length = k) → rs.flatten.length = rs.length * k := by
      intro rs; induction rs with
      | nil => intro _; simp
      | cons r rs ih => intro hh; simp only [List.flatten_cons, List.length_append, List.length_cons]; rw [ih fun r hr => hh r (by simp [hr]), hh r (by simp), Nat.add_mul]; omega
    rw [this _ hlen', List.length_set, h1]
  refine ⟨rows.set i cs, by simp [h1], ⟨by rw [hfl, List.length_set], .inr ⟨g, cap, cur', ?_, hb0, hg', ?_, hm, by rw [hs']; exact hsz, ?_⟩⟩, fun q r y hr hy => ?_⟩
  · rw [List.length_set]
  · rw [List.length_set]; exact hc
  · rw [List.length_set]
    refine List.ext_getElem? fun j => ?_
    rcases Nat.lt_or_ge j (l.length * k) with hj | hj
    · rw [List.getElem?_take_of_lt hj]
      have hkp : 0 < k := by rcases Nat.eq_zero_or_pos k with h | h; (subst h; omega); exact h
      obtain ⟨u, hu⟩ : ∃ u, (rows.set i cs).flatten[j]? = some u := ⟨_, List.getElem?_eq_getElem (by rw [hfl]; exact hj)⟩
      rw [hu]
      obtain ⟨r, hr, hru⟩ := flatten_at hkp _ hlen' j u hu
      have hjj : j / k * k + j % k = j := by rw [Nat.mul_comm]; exact Nat.div_add_mod j k
      have hmod := Nat.mod_lt j hkp
      rw [Array.getElem?_toList, ← cells_take hg' j]
      by_cases hq : j / k = i
      · rw [hq, List.getElem?_set_self (by omega)] at hr
        cases hr
        have := hin (j % k) u hru
        rw [hq] at hjj
        rwa [hjj] at this
      · rw [List.getElem?_set_ne (Ne.symm hq)] at hr
        rw [hout j ?_, cells_take hg j, ← Array.getElem?_toList]
        · have := flatten_getElem? rows hlen (j / k) (j % k) r u hr hru
          rw [hjj, ← htk, List.getElem?_take_of_lt hj] at this
          exact this
        · rcases Nat.lt_or_ge (j / k) i with h | h
          · left
            have := Nat.mul_le_mul_right k (show j / k + 1 ≤ i by omega)
            rw [Nat.add_mul] at this; omega
          · right
            have := Nat.mul_le_mul_right k (show i + 1 ≤ j / k by omega)
            rw [Nat.add_mul] at this; omega
    · rw [List.getElem?_eq_none (by rw [List.length_take]; omega), List.getElem?_eq_none (by rw [hfl]; exact hj)]
  · have hS : ∀ b, S b ∧ some b ≠ (Value.slice (some ⟨g, 0, none⟩) l.length cap).ownBlock → b < w.heap.size → w'.heap[b]? = w.heap[b]? ∧ S b ∧ some b ≠ (Value.slice (some ⟨g, 0, none⟩) l.length cap).ownBlock := fun b hb hl =>
      ⟨hblk b hb.1 (fun e => hb.2 (by rw [e]; rfl)) hl, hb⟩
    by_cases hq : q = i
    · subst hq
      rw [List.getElem?_set_self (by omega)] at hr
      rw [List.getElem?_set_self hi] at hy
      cases hr; cases hy
      exact hR.sub hx' fun b hb _ => ⟨hb.1, fun e => hb.2 (by simpa [Value.ownBlock] using e)⟩
    · rw [List.getElem?_set_ne (Ne.symm hq)] at hr hy
      exact hR.move (h3 q r y hr hy) hS
/-- The cells of one element of a slice of one's own. -/
theorem OwR.at {α : Type} {E k : Nat} {R : Rel α} (hR : RelOk R k) {w : World} {g cap n : Nat} {l : List α} {S : Nat → Prop} (h : OwR E k R w (.slice (some ⟨g, 0, none⟩) n cap) l S) {i : Nat} (hi : i < l.length) :
    ∃ row, R w row l[i] (fun b => S b ∧ b ≠ g) ∧ ∀ (j : Nat) (u : Value), row[j]? = some u → w.cell? ⟨g, i * k + j, none⟩ = some u := by
  obtain ⟨rows, h1, h2, h3⟩ := h
  have hlen := OwR.rowsLen (E := E) (v := .slice (some ⟨g, 0, none⟩) n cap) hR h1 h3
  have hr : rows[i]? = some (rows[i]'(by omega)) := List.getElem?_eq_getElem (by omega)
  refine ⟨_, hR.sub (h3 i _ _ hr (List.getElem?_eq_getElem hi)) fun b hb _ => ⟨hb.1, fun e => hb.2 (by rw [e]; rfl)⟩, fun j u hu => ?_⟩
  have := h2.cells (g := g) rfl (i * k + j) u (flatten_getElem? rows hlen i j _ u hr hu)
  rwa [Addr.add_lit, Nat.zero_add] at this
/-- The end of it cut off, whatever stands behind. -/
theorem OwR.cut {α : Type} {E k : Nat} {R : Rel α} (hR : RelOk R k) {w w' : World} {g cap n : Nat} {l : List α} {S : Nat → Prop} (h : OwR E k R w (.slice (some ⟨g, 0, none⟩) n cap) l S) {i : Nat} (hi : i ≤ l.length) (hrow : KeepsRow g w w')
    (hout : ∀ j, j < i * k → w'.cell? ⟨g, j, none⟩ = w.cell? ⟨g, j, none⟩) (hblk : ∀ b, S b → b ≠ g → b < w.heap.size → w'.heap[b]? = w.heap[b]?) : OwR E k R w' (.slice (some ⟨g, 0, none⟩) i cap) (l.take i) S := by
  obtain ⟨rows, h1, h2, h3⟩ := h
  have hlen := OwR.rowsLen (E := E) (v := .slice (some ⟨g, 0, none⟩) n cap) hR h1 h3
  rcases h2.2 with ⟨h, _⟩ | ⟨g', cap', cur, hv, hb0, hg, hc, hm, hsz, htk⟩
  · simp at h
  simp only [Value.slice.injEq, Option.some.injEq, Addr.mk.injEq, and_true] at hv
  obtain ⟨rfl, rfl, rfl⟩ := hv
  obtain ⟨cur', hg', hs'⟩ := hrow cur E _ hg
  have hil : (l.take i).length = i := by rw [List.length_take]; omega
  have hik := Nat.mul_le_mul_right k hi
  have hck := Nat.mul_le_mul_right k hc
  have hcl : cur.toList.length = cap * k := by simpa using hsz
  have hfl : rows.flatten.length = l.length * k := h2.1
  refine ⟨rows.take i, by simp [h1], ⟨by rw [flatten_take rows hlen, hil, List.length_take, hfl]; omega, .inr ⟨g, cap, cur', by rw [hil], hb0, hg', by rw [hil]; omega, hm, by rw [hs']; exact hsz, ?_⟩⟩, fun q r y hr hy => ?_⟩
  · rw [hil, flatten_take rows hlen, ← htk, List.take_take, Nat.min_eq_left hik]
    refine List.ext_getElem? fun j => ?_
    rcases Nat.lt_or_ge j (i * k) with hj | hj
    · rw [List.getElem?_take_of_lt hj, List.getElem?_take_of_lt hj, Array.getElem?_toList, Array.getElem?_toList, ← cells_take hg' j, ← cells_take hg j]
      exact hout j hj
    · rw [List.getElem?_eq_none (by rw [List.length_take]; omega), List.getElem?_eq_none (by rw [List.length_take]; omega)]
  · have hqi : q < i := by
      rcases Nat.lt_or_ge q i with h | h
      · exact h
      · rw [List.getElem?_eq_none (by rw [hil]; exact h)] at hy; cases hy
    rw [List.getElem?_take_of_lt hqi] at hr hy
    exact hR.move (h3 q r y hr hy) fun b hb hl => ⟨hblk b hb.1 (fun e => hb.2 (by rw [e]; rfl)) hl, hb.1, fun e => hb.2 e⟩
theorem grownBy_set {a w : World} {r : Option Nat} (h : a.grownBy w r) {b : Nat} (hb : r = some b ∨ a.heap.size ≤ b) (o : Nat) (u : Value) : a.grownBy (w.setCell ⟨b, o, none⟩ u) r :=
  ⟨h.os, h.tape, h.output, by simpa [World.setCell] using h.size, fun k hk hr => (heap_far (by rcases hb with e | e; (intro e'; exact hr (by rw [e, e'])); omega)).trans (h.block k hk hr)⟩
theorem grownBy_set1 {a w : World} {g : Nat} (h : a.grownBy w (some g)) (o : Nat) (u : Value) : a.grownBy (w.setCell ⟨g, o, none⟩ u) (some g) := grownBy_set h (.inl rfl) o u
theorem grownBy_alloc {a w : World} {r : Option Nat} (h : a.grownBy w r) (o : Obj) : a.grownBy (w.alloc o) r :=
  ⟨h.os, h.tape, h.output, by have := h.size; simp; omega, fun k hk hr => (Below.heap_alloc w o k (Nat.lt_of_lt_of_le hk h.size)).trans (h.block k hk hr)⟩
theorem grownBy_below {a w w' : World} {r : Option Nat} (h : a.grownBy w r) (hb : Below w.heap.size w w') : a.grownBy w' r :=
  ⟨hb.os.trans h.os, hb.tape.trans h.tape, hb.output.trans h.output, Nat.le_trans h.size hb.size, fun k hk hr => (hb.block k (Nat.lt_of_lt_of_le hk h.size)).trans (h.block k hk hr)⟩
theorem grownBy_any {a w : World} (h : Below a.heap.size a w) (r : Option Nat) : a.grownBy w r := grownBy_below (grownBy_refl a r) h
/-- The list steps of slices.DeleteFunc. -/
theorem keep_first {α : Type} {p : α → Bool} {l : List α} {n : Nat} (hn : n < l.length) (h : p l[n] = true) (hb : ∀ (j : Nat) (hj : j < l.length), j < n → p l[j] = false) : l.take n = (l.take (n + 1)).filter (fun x => !p x) := by
  rw [List.take_succ_eq_append_getElem hn, List.filter_append]
  have h1 : (l.take n).filter (fun x => !p x) = l.take n := List.filter_eq_self.2 fun x hx => by
    obtain ⟨j, hj, rfl⟩ := List.getElem_of_mem hx
    rw [List.length_take] at hj
    rw [List.getElem_take, hb j (by omega) (by omega)]; rfl
  rw [h1]; simp [h]
theorem keep_skip {α : Type} {p : α → Bool} {l m : List α} {a b : Nat} (hb : b < l.length) (h : p l[b] = true) (hm : m.take a = (l.take b).filter (fun x => !p x)) : m.take a = (l.take (b + 1)).filter (fun x => !p x) := by
  rw [List.take_succ_eq_append_getElem hb, List.filter_append, ← hm]; simp [h]
theorem keep_take {α : Type} {p : α → Bool} {l m : List α} {a b : Nat} (hb : b < l.length) (ha : a < m.length) (h : p l[b] = false) (hm : m.take a = (l.take b).filter (fun x => !p x)) : (m.set a l[b]).take (a + 1) = (l.take (b + 1)).filter (fun x => !p x) := by
  rw [List.take_succ_eq_append_getElem hb, List.filter_append, ← hm, List.take_succ_eq_append_getElem (by simpa using ha), List.take_set_of_le (Nat.le_refl _)]; simp [h]
theorem keep_drop {α : Type} {l m : List α} {a b : Nat} (hab : a < b) (x : α) (hm : m.drop b = l.drop b) : (m.set a x).drop (b + 1) = l.drop (b + 1) := by
  rw [List.drop_set_of_lt (by omega), ← List.drop_drop, hm, List.drop_drop]
theorem drop_at {α : Type} {l m : List α} {b : Nat} (hb : b < l.length) (hl : m.length = l.length) (hm : m.drop b = l.drop b) : m[b]'(by omega) = l[b] := by
  have h1 : (m.drop b)[0]'(by simp; omega) = (l.drop b)[0]'(by simp; omega) := by simp only [hm]
  simpa using h1
theorem drop_more {α : Type} {l m : List α} {b : Nat} (hm : m.drop b = l.drop b) : m.drop (b + 1) = l.drop (b + 1) := by
  rw [← List.drop_drop, hm, List.drop_drop]
theorem KeepsRow.sets {g b : Nat} : ∀ (vs : List Value) (o : Nat) {a w : World}, KeepsRow g a w → KeepsRow g a (w.setCells b o vs)
  | [], _, _, _, h => h
  | v :: r, o, _, _, h => KeepsRow.sets r (o + 1) (h.set b o v)
theorem heap_sets {b k : Nat} (h : k ≠ b) : ∀ (vs : List Value) (o : Nat) (w : World), (w.setCells b o vs).heap[k]? = w.heap[k]?
  | [], _, _ => rfl
  | v :: r, o, w => (heap_sets h r (o + 1) _).trans (heap_far h)
theorem grownBy_sets {a : World} {r : Option Nat} {b : Nat} (hb : r = some b ∨ a.heap.size ≤ b) : ∀ (vs : List Value) (o : Nat) (w : World), a.grownBy w r → a.grownBy (w.setCells b o vs) r
  | [], _, _, h => h
  | v :: vs, o, w, h => grownBy_sets hb vs (o + 1) _ (grownBy_set h hb o v)
theorem below_sets {B b : Nat} {a : World} (hb : B ≤ b) : ∀ (vs : List Value) (o : Nat) (w : World), Below B a w → Below B a (w.setCells b o vs)
  | [], _, _, h => h
  | v :: vs, o, w, h => below_sets hb vs (o + 1) _ (below_set h hb o v)
/-- One element overwritten, as a store does it. -/
theorem OwR.setRow {α : Type} {E k : Nat} {R : Rel α} (hR : RelOk R k) {w : World} {g cap n : Nat} {l : List α} {S : Nat → Prop} (h : OwR E k R w (.slice (some ⟨g, 0, none⟩) n cap) l S) {i : Nat} (hi : i < l.length) {x : α} {cs : List Value}
    (hx : R w cs x (fun b => S b ∧ b ≠ g)) : OwR E k R (w.setCells g (i * k) cs) (.slice (some ⟨g, 0, none⟩) n cap) (l.set i x) S := by
  have hlen := hR.len hx
  refine h.set hR hi hx (KeepsRow.sets _ _ (KeepsRow.refl _ _)) (fun j hj => ?_) (fun j u hu => ?_) (fun b _ hb _ => heap_sets hb _ _ _)
  · refine World.cell?_setCells_out _ _ _ _ _ fun _ _ => ?_
    show j < _ ∨ _ ≤ j; omega
  · obtain ⟨row, hrow, hc⟩ := h.at hR hi
    have hrl := hR.len hrow
    have hj : j < cs.length := by
      rcases Nat.lt_or_ge j cs.length with h | h
      · exact h
      · rw [List.getElem?_eq_none h] at hu; cases hu
    rw [World.cell?_setCells_in g cs (i * k) w (fun q hq => ?_) j hj]
    · rw [List.getElem?_eq_getElem hj] at hu; exact hu
    · have := hc q _ (List.getElem?_eq_getElem (by omega))
      rw [this]; rfl
end Go.Tk
