/- A part of the proof, laid together from: App, StepApp. -/
import Derived.Test.YtkefgapnghnjjaaGreatDoorPa08
import Derived.Deep.RegionLaw
set_option linter.unusedSimpArgs false
set_option linter.unusedVariables false
namespace Go.Tk
open Go Go.RowKit
theorem wpList_app1 {P : Program} {ops : Array Oper} {rest : List Oper} {o : Oper} {a : Act} {Q : Exit → Act → World → Prop} {wr : World} {cs : Array Value} {E : Nat} {T k bytes : Nat} (hT : SliceTy P T E k bytes)
    (s x : Operand) (hgd : o.guard = none) (ho : o.op = .call { callee := .builtin .append, args := #[s, x], argTypes := #[T, T] })
    {α : Type} {R : Rel α} (hR : RelOk R k) {v : Value} {l : List α} {S : Nat → Prop} (y : α)
    (hv : a.eval s = v) {n0 : Nat} (hx : a.eval x = .slice (some ⟨n0, 0, none⟩) 1 1) (hn0 : n0 = wr.heap.size)
    (hown : OwR E k R wr v l S) (hy : R wr cs.toList y (fun b => S b ∧ some b ≠ v.ownBlock)) (hlen : (l.length + 1) * (bytes + 1) ≤ 140737488355328)
    (h : ∀ v' w', OwR E k R w' v' (l ++ [y]) S → wr.grownBy w' v.ownBlock → (v'.ownBlock = v.ownBlock ∨ ∃ g, v'.ownBlock = some g ∧ wr.heap.size ≤ g) → wpList P ops Q rest (a.put o.dst v') w') :
    wpList P ops Q (o :: rest) a (wr.alloc (.cells cs E)) := by
  subst hn0
  obtain ⟨rows, h1, h2, h3⟩ := hown
  have hcs : cs.toList.length = 1 * k := by rw [hR.len hy]; omega
  obtain ⟨v', w', hr, g1, g2, g3⟩ := run_append_tk (P := P) (ty := o.type) (wr.alloc (.cells cs E)) hT v l.length rows.flatten (h2.alloc _) ⟨wr.heap.size, 0, none⟩ 1 1 cs.toList hcs
    (fun j u hu => by rw [Addr.add_lit]; simp only [Nat.zero_add]; rw [World.cell?_alloc_new]; simpa using hu) (hR.one hy) hlen
  have hkeep : ∀ b, b < wr.heap.size → some b ≠ v.ownBlock → w'.heap[b]? = wr.heap[b]? := fun b hl hne => by
    exact (g2.block b (by simp; omega) hne).trans (heap_alloc_old wr _ hl)
  have hS : ∀ b, S b ∧ some b ≠ v.ownBlock → b < wr.heap.size → w'.heap[b]? = wr.heap[b]? ∧ S b ∧ some b ≠ v'.ownBlock := by
    rintro b ⟨hs, hne⟩ hl
    refine ⟨hkeep b hl hne, hs, ?_⟩
    rcases g3 with e | ⟨g, e, hge⟩
    · rw [e]; exact hne
    · rw [e]; intro hbg; cases hbg; simp at hge; omega
  refine wpList_plain hgd fun K hK => ?_
  unfold Oper.wp execOp
  simp only [ho, resolve, invoke, builtin, Sem.run_bind, Sem.run_pure, Result.andThen_ok, List.map_toArray, List.map_cons, List.map_nil, hv, hx, hr]
  refine hK _ _ (h v' w' ⟨rows ++ [cs.toList], by simp [h1], ?_, ?_⟩ ⟨g2.os, g2.tape, g2.output, by have := g2.size; simp at this; omega, hkeep⟩ ?_)
  · simpa using g1
  · intro i r y' hr' hy'
    rcases Nat.lt_or_ge i l.length with hi | hi
    · rw [List.getElem?_append_left (by omega)] at hr'
      rw [List.getElem?_append_left hi] at hy'
      exact hR.move (h3 i r y' hr' hy') hS
    · rw [List.getElem?_append_right (by omega)] at hr'
      rw [List.getElem?_append_right hi] at hy'
      rcases Nat.eq_zero_or_pos (i - l.length) with h0 | h0
      · rw [h0] at hy'; rw [h1, h0] at hr'
        simp at hr' hy'; subst hr' hy'
        exact hR.move hy hS
      · rw [List.getElem?_eq_none (by simp; omega)] at hy'; cases hy'
  · rcases g3 with e | ⟨g', e, hge⟩
    · exact .inl e
    · exact .inr ⟨g', e, by simp at hge; omega⟩
theorem wpList_appX {P : Program} {ops : Array Oper} {rest : List Oper} {o : Oper} {a : Act} {Q : Exit → Act → World → Prop} {w : World} {cs : List Value} {E : Nat} {T k bytes : Nat} (hT : SliceTy P T E k bytes)
    (s x : Operand) (hgd : o.guard = none) (ho : o.op = .call { callee := .builtin .append, args := #[s, x], argTypes := #[T, T] })
    {α : Type} {R : Rel α} (hR : RelOk R k) {v : Value} {l : List α} {S : Nat → Prop} (y : α)
    (hv : a.eval s = v) {n0 : Nat} (hx : a.eval x = .slice (some ⟨n0, 0, none⟩) 1 1) (hcs : ∀ (j : Nat) (u : Value), cs[j]? = some u → w.cell? ⟨n0, j, none⟩ = some u)
    (hown : OwR E k R w v l S) (hy : R w cs y (fun b => S b ∧ some b ≠ v.ownBlock)) (hlen : (l.length + 1) * (bytes + 1) ≤ 140737488355328)
    (h : ∀ v' w', OwR E k R w' v' (l ++ [y]) S → w.grownBy w' v.ownBlock → (v'.ownBlock = v.ownBlock ∨ ∃ g, v'.ownBlock = some g ∧ w.heap.size ≤ g) → wpList P ops Q rest (a.put o.dst v') w') :
    wpList P ops Q (o :: rest) a w := by
  obtain ⟨rows, h1, h2, h3⟩ := hown
  have hcl : cs.length = 1 * k := by rw [hR.len hy]; omega
  obtain ⟨v', w', hr, g1, g2, g3⟩ := run_append_tk (P := P) (ty := o.type) w hT v l.length rows.flatten h2 ⟨n0, 0, none⟩ 1 1 cs hcl
    (fun j u hu => by rw [Addr.add_lit]; simp only [Nat.zero_add]; exact hcs j u hu) (hR.one hy) hlen
  have hS : ∀ b, S b ∧ some b ≠ v.ownBlock → b < w.heap.size → w'.heap[b]? = w.heap[b]? ∧ S b ∧ some b ≠ v'.ownBlock := by
    rintro b ⟨hs, hne⟩ hl
    refine ⟨g2.block b hl hne, hs, ?_⟩
    rcases g3 with e | ⟨g, e, hge⟩
    · rw [e]; exact hne
    · rw [e]; intro hbg; cases hbg; omega
  refine wpList_plain hgd fun K hK => ?_
  unfold Oper.wp execOp
  simp only [ho, resolve, invoke, builtin, Sem.run_bind, Sem.run_pure, Result.andThen_ok, List.map_toArray, List.map_cons, List.map_nil, hv, hx, hr]
  refine hK _ _ (h v' w' ⟨rows ++ [cs], by simp [h1], ?_, ?_⟩ g2 g3)
  · simpa using g1
  · intro i r y' hr' hy'
    rcases Nat.lt_or_ge i l.length with hi | hi
    · rw [List.getElem?_append_left (by omega)] at hr'
      rw [List.getElem?_append_left hi] at hy'
      exact hR.move (h3 i r y' hr' hy') hS
    · rw [List.getElem?_append_right (by omega)] at hr'
      rw [List.getElem?_append_right hi] at hy'
      rcases Nat.eq_zero_or_pos (i - l.length) with h0 | h0
      · rw [h0] at hy'; rw [h1, h0] at hr'
        simp at hr' hy'; subst hr' hy'
        exact hR.move hy hS
      · rw [List.getElem?_eq_none (by simp; omega)] at hy'; cases hy'
end Go.Tk

namespace Go.Tk
open Go Go.RowKit
theorem step_app {P : Program} {ops : Array Oper} {o : Oper} {a : Act} {w : World} {K : Act → World → Prop} {Q : Exit → Act → World → Prop} {G : Prop}
    (hg : o.guard = none) (s x : Operand) {T E k bytes : Nat} (hop : o.op = Op.call { callee := Callee.builtin Builtin.append, args := #[s, x], argTypes := #[T, T] }) (hT : SliceTy P T E k bytes)
    {α : Type} {R : Rel α} (hR : RelOk R k) {v : Value} {l : List α} {S : Nat → Prop} (y : α) {n0 c : Nat} {cs : List Value} (hs : a.eval s = v) (hx : a.eval x = .slice (some ⟨n0, 0, none⟩) 1 c)
    (hn : ∀ (j : Nat) (u : Value), cs[j]? = some u → w.cell? ⟨n0, j, none⟩ = some u) (hown : OwR E k R w v l S) (hy : R w cs y (fun b => S b ∧ some b ≠ v.ownBlock)) (hlen : (l.length + 1) * (bytes + 1) ≤ 140737488355328)
    (hK : ∀ v' w', OwR E k R w' v' (l ++ [y]) S → w.grownBy w' v.ownBlock → (v'.ownBlock = v.ownBlock ∨ ∃ g, v'.ownBlock = some g ∧ w.heap.size ≤ g) → K (a.put o.dst v') w') :
    if Region.wanted o (yielded ops a.tmps) = true then Oper.wp P o a w K Q else G := by
  have hw : Region.wanted o (yielded ops a.tmps) = true := by simp [Region.wanted, hg]
  rw [if_pos hw]
  obtain ⟨rows, h1, h2, h3⟩ := hown
  have hcs : cs.length = 1 * k := by rw [hR.len hy]; omega
  obtain ⟨v', w', hr, g1, g2, g3⟩ := run_append_tk (P := P) (ty := o.type) w hT v l.length rows.flatten h2 ⟨n0, 0, none⟩ 1 c cs hcs
    (fun j u hu => by rw [Addr.add_lit]; simp only [Nat.zero_add]; exact hn j u hu) (hR.one hy) hlen
  have hS : ∀ b, S b ∧ some b ≠ v.ownBlock → b < w.heap.size → w'.heap[b]? = w.heap[b]? ∧ S b ∧ some b ≠ v'.ownBlock := by
    rintro b ⟨hs, hne⟩ hl
    refine ⟨g2.block b hl hne, hs, ?_⟩
    rcases g3 with e | ⟨g, e, hge⟩
    · rw [e]; exact hne
    · rw [e]; intro hbg; cases hbg; omega
  unfold Oper.wp execOp
  simp only [hop, resolve, invoke, builtin, Sem.run_bind, Sem.run_pure, Result.andThen_ok, List.map_toArray, List.map_cons, List.map_nil, hs, hx, hr]
  refine hK _ _ ⟨rows ++ [cs], by simp [h1], by simpa using g1, ?_⟩ g2 g3
  intro i r y' hr' hy'
  rcases Nat.lt_or_ge i l.length with hi | hi
  · rw [List.getElem?_append_left (by omega)] at hr'
    rw [List.getElem?_append_left hi] at hy'
    exact hR.move (h3 i r y' hr' hy') hS
  · rw [List.getElem?_append_right (by omega)] at hr'
    rw [List.getElem?_append_right hi] at hy'
    rcases Nat.eq_zero_or_pos (i - l.length) with h0 | h0
    · rw [show i - rows.length = 0 by omega] at hr'
      rw [h0] at hy'
      cases hr'; cases hy'
      exact hR.move hy hS
    · simp [List.getElem?_cons, show i - l.length ≠ 0 by omega] at hy'
end Go.Tk
