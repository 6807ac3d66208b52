/- A box: cells of a block that may be written. No program in sight. -/
import Derived.Test.YtphkkkmjkagkbaaDoorDeep
namespace Go.Tk
open Go Go.RowKit
/-- These cells lie in a block, and may be written. -/
structure BoxAt (w : World) (b : Nat) (cs : List Value) : Prop where
  cell : ∀ (j : Nat) (u : Value), cs[j]? = some u → w.cell? ⟨b, j, none⟩ = some u
  thaw : ∀ j, w.frozen? ⟨b, j, none⟩ = false
  lt : b < w.heap.size
theorem BoxAt.keep {w w' : World} {b : Nat} {cs : List Value} (h : BoxAt w b cs) (hb : w'.heap[b]? = w.heap[b]?) : BoxAt w' b cs :=
  ⟨fun j u hu => cell_keep (h.cell j u hu) hb, fun j => (World.frozen?_of_block (a := ⟨b, j, none⟩) hb).trans (h.thaw j), by
    have hs : w.heap[b]? = some (w.heap[b]'h.lt) := Array.getElem?_eq_getElem h.lt
    rw [← hb] at hs
    exact (Array.getElem?_eq_some_iff.1 hs).1⟩
theorem BoxAt.below {w w' : World} {b : Nat} {cs : List Value} (h : BoxAt w b cs) (hb : Below w.heap.size w w') : BoxAt w' b cs := h.keep (hb.block b h.lt)
theorem BoxAt.set {w : World} {b : Nat} {cs : List Value} (h : BoxAt w b cs) (i : Nat) (hi : i < cs.length) (u : Value) : BoxAt (w.setCell ⟨b, i, none⟩ u) b (cs.set i u) := by
  refine ⟨fun j v hv => ?_, fun j => (World.frozen?_setCell _ _ _ _).trans (h.thaw j), by rw [World.size_setCell]; exact h.lt⟩
  by_cases hij : i = j
  · subst hij
    rw [List.getElem?_set_self hi] at hv
    cases hv
    exact World.cell?_setCell_same w ⟨b, i, none⟩ u (h.cell i _ (List.getElem?_eq_getElem hi))
  · rw [List.getElem?_set_ne hij] at hv
    exact (cell_near hij).trans (h.cell j v hv)
theorem BoxAt.new {w : World} {cs : List Value} {E : Nat} : BoxAt (w.alloc (.cells cs.toArray E)) w.heap.size cs :=
  ⟨fun j u hu => (World.cell?_alloc_at _ _ _ _ rfl).trans (by simpa using hu), fun j => World.frozen?_alloc_at _ _ _ _ rfl, by rw [World.size_alloc]; omega⟩
theorem BoxAt.grown {w w' : World} {b : Nat} {cs : List Value} {r : Option Nat} (h : BoxAt w b cs) (hg : w.grownBy w' r) (hne : some b ≠ r) : BoxAt w' b cs := h.keep (hg.block b h.lt hne)
theorem BoxAt.far {w : World} {b c : Nat} {cs : List Value} (h : BoxAt w b cs) (hne : b ≠ c) (o : Nat) (u : Value) : BoxAt (w.setCell ⟨c, o, none⟩ u) b cs := h.keep (heap_far hne)
theorem BoxAt.drew {w : World} {b : Nat} {cs : List Value} (h : BoxAt w b cs) : BoxAt w.drew b cs := h.keep rfl
/-- A slice of the call's own that has elements lies in a block. -/
theorem OwR.inBlock {α : Type} {E k : Nat} {R : Rel α} {w : World} {a : Option Addr} {n cap : Nat} {l : List α} {S : Nat → Prop} (h : OwR E k R w (.slice a n cap) l S) (hl : 0 < l.length) : ∃ g, a = some ⟨g, 0, none⟩ := by
  obtain ⟨rows, h1, h2, h3⟩ := h
  rcases h2.2 with ⟨hv, h0⟩ | ⟨g, cap', cur, hv, _⟩
  · simp only [Value.slice.injEq] at hv; omega
  · simp only [Value.slice.injEq] at hv
    exact ⟨g, hv.1⟩
theorem OwR.nones {α : Type} {E k : Nat} {R : Rel α} {w : World} {n cap : Nat} {l : List α} {S : Nat → Prop} (h : OwR E k R w (.slice none n cap) l S) : l = [] ∧ n = 0 ∧ cap = 0 := by
  obtain ⟨rows, h1, h2, h3⟩ := h
  rcases h2.2 with ⟨hv, h0⟩ | ⟨g, cap', cur, hv, _⟩
  · simp only [Value.slice.injEq, true_and] at hv
    exact ⟨List.eq_nil_of_length_eq_zero (by omega), hv.1, hv.2⟩
  · simp at hv
theorem OwR.shape2 {α : Type} {E k : Nat} {R : Rel α} {w : World} {v : Value} {l : List α} {S : Nat → Prop} (h : OwR E k R w v l S) : (v = .slice none 0 0 ∧ l = []) ∨ ∃ g cap, v = .slice (some ⟨g, 0, none⟩) l.length cap := by
  obtain ⟨rows, h1, h2, h3⟩ := h
  rcases h2.2 with ⟨hv, h0⟩ | ⟨g, cap', cur, hv, _⟩
  · exact .inl ⟨hv, List.eq_nil_of_length_eq_zero (by omega)⟩
  · exact .inr ⟨g, cap', hv⟩
theorem own_next {v v' : Value} {B : Nat} {w : World} (h : ∀ g, v.ownBlock = some g → B < g) (hB : B < w.heap.size) (hv : v'.ownBlock = v.ownBlock ∨ ∃ x, v'.ownBlock = some x ∧ w.heap.size ≤ x) : ∀ g, v'.ownBlock = some g → B < g := fun g hg => by
  rcases hv with e | ⟨y, e, hy⟩
  · exact h g (by rw [← e]; exact hg)
  · rw [e] at hg; cases hg; omega
theorem OwR.room {α : Type} {E k : Nat} {R : Rel α} {w : World} {a : Option Addr} {n cap : Nat} {l : List α} {S : Nat → Prop} (h : OwR E k R w (.slice a n cap) l S) : l.length ≤ cap ∧ cap ≤ maxLen := by
  obtain ⟨rows, h1, h2, h3⟩ := h
  rcases h2.2 with ⟨hv, h0⟩ | ⟨g, cap', cur, hv, -, -, h4, h5, -⟩
  · simp only [Value.slice.injEq] at hv
    exact ⟨by omega, by unfold maxLen; omega⟩
  · simp only [Value.slice.injEq] at hv
    obtain ⟨-, -, rfl⟩ := hv
    exact ⟨h4, h5⟩
end Go.Tk
