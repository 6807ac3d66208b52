/- A slice of a call's own that may begin anywhere in its block. No program in sight. -/
import Derived.Test.YtphkkkmjkagkbaaDoorDeep
import Derived.Laws.Rows
import Derived.ArgAppend
namespace Go.Tk
open Go Go.RowKit

def OwF {α : Type} (E k : Nat) (R : Rel α) (w : World) (v : Value) (l : List α) (S : Nat → Prop) : Prop :=
  (v = .slice none 0 0 ∧ l = []) ∨ ∃ (g off cap : Nat) (cur : Array Value) (rows : List (List Value)), v = .slice (some ⟨g, off, none⟩) l.length cap ∧ w.heap[g]? = some (.cells cur E (0, 0)) ∧ l.length ≤ cap ∧ cap ≤ maxLen ∧ off + cap * k ≤ cur.size ∧
    rows.length = l.length ∧ (∀ (i : Nat) (r : List Value), rows[i]? = some r → ∀ (j : Nat) (u : Value), r[j]? = some u → cur[off + i * k + j]? = some u) ∧ ∀ (i : Nat) (r : List Value) (x : α), rows[i]? = some r → l[i]? = some x → R w r x (fun b => S b ∧ b ≠ g)
theorem OwF.nil {α : Type} {E k : Nat} {R : Rel α} (w : World) (S : Nat → Prop) : OwF E k R w (.slice none 0 0) [] S := .inl ⟨rfl, rfl⟩
theorem OwF.move {α : Type} {E k : Nat} {R : Rel α} (h : RelOk R k) {w w' : World} {v : Value} {l : List α} {S S' : Nat → Prop} (ho : OwF E k R w v l S)
    (hv : ∀ g, v.ownBlock = some g → w'.heap[g]? = w.heap[g]?) (hm : ∀ b, S b → some b ≠ v.ownBlock → b < w.heap.size → w'.heap[b]? = w.heap[b]? ∧ S' b) : OwF E k R w' v l S' := by
  rcases ho with h0 | ⟨g, off, cap, cur, rows, rfl, hg, h1, h2, h3, h4, h5, h6⟩
  · exact .inl h0
  · refine .inr ⟨g, off, cap, cur, rows, rfl, (hv g rfl).trans hg, h1, h2, h3, h4, h5, fun i r x hr hx => h.move (h6 i r x hr hx) fun b hb hl => ?_⟩
    have := hm b hb.1 (fun e => hb.2 (by simpa [Value.ownBlock] using e)) hl
    exact ⟨this.1, this.2, hb.2⟩
theorem OwF.below {α : Type} {E k : Nat} {R : Rel α} (h : RelOk R k) {w w' : World} {v : Value} {l : List α} {S : Nat → Prop} (ho : OwF E k R w v l S) (hb : Below w.heap.size w w') : OwF E k R w' v l S := by
  refine ho.move h (fun g hg => ?_) (fun b hs _ hl => ⟨hb.block b hl, hs⟩)
  rcases ho with ⟨rfl, _⟩ | ⟨g', off, cap, cur, rows, rfl, hg', _⟩
  · cases hg
  · cases hg; exact hb.block _ (Array.getElem?_eq_some_iff.1 hg').1
theorem OwF.lt {α : Type} {E k : Nat} {R : Rel α} {w : World} {v : Value} {l : List α} {S : Nat → Prop} (ho : OwF E k R w v l S) : ∀ g, v.ownBlock = some g → g < w.heap.size := by
  intro g hg
  rcases ho with ⟨rfl, _⟩ | ⟨g', off, cap, cur, rows, rfl, hg', _⟩
  · cases hg
  · cases hg; exact (Array.getElem?_eq_some_iff.1 hg').1
theorem OwF.shape {α : Type} {E k : Nat} {R : Rel α} {w : World} {v : Value} {l : List α} {S : Nat → Prop} (h : OwF E k R w v l S) : ∃ a cap, v = .slice a l.length cap := by
  rcases h with ⟨rfl, rfl⟩ | ⟨g', off, cap, cur, rows, rfl, _⟩
  · exact ⟨none, 0, rfl⟩
  · exact ⟨_, _, rfl⟩
theorem OwF.oneCell {α : Type} {E k : Nat} {R : Rel α} {w : World} {v : Value} {l : List α} {S : Nat → Prop} (h : OwF E k R w v l S) : v.oneCell' = true := by
  obtain ⟨a, cap, rfl⟩ := h.shape; rfl
theorem OwF.forget {α : Type} {E k : Nat} {R : Rel α} (hR : ∀ (w : World) (cs : List Value) (x : α) (S S' : Nat → Prop), R w cs x S → R w cs x S') {w : World} {v : Value} {l : List α} {S S' : Nat → Prop} (h : OwF E k R w v l S) : OwF E k R w v l S' := by
  rcases h with h0 | ⟨g, off, cap, cur, rows, rfl, hg, h1, h2, h3, h4, h5, h6⟩
  · exact .inl h0
  · exact .inr ⟨g, off, cap, cur, rows, rfl, hg, h1, h2, h3, h4, h5, fun i r x hr hx => hR _ _ _ _ _ (h6 i r x hr hx)⟩
theorem OwF.read {α : Type} {E k : Nat} {R : Rel α} (h : RelOk R k) {w : World} {v : Value} {l : List α} {S : Nat → Prop} (ho : OwF E k R w v l S) (hS : ∀ g, v.ownBlock = some g → S g) : SlR k R w v l S := by
  rcases ho with ⟨rfl, rfl⟩ | ⟨g, off, cap, cur, rows, rfl, hg, h1, h2, h3, h4, h5, h6⟩
  · exact SlR.nil w S
  · refine ⟨_, cap, rfl, h1, h2, (fun h => by cases h), fun i x hx => ?_⟩
    have hi : i < l.length := by
      rcases Nat.lt_or_ge i l.length with h | h
      · exact h
      · rw [List.getElem?_eq_none h] at hx; cases hx
    have hr : rows[i]? = some (rows[i]'(by omega)) := List.getElem?_eq_getElem (by omega)
    exact ⟨g, off, rows[i]'(by omega), rfl, hS g rfl, h.sub (h6 i _ x hr hx) fun b hb _ => hb.1, fun j u hu => by rw [cells_take hg]; exact h5 i _ hr j u hu⟩
theorem OwR.toF {α : Type} {E k : Nat} {R : Rel α} (h : RelOk R k) {w : World} {v : Value} {l : List α} {S : Nat → Prop} (ho : OwR E k R w v l S) : OwF E k R w v l S := by
  obtain ⟨rows, h1, h2, h3⟩ := ho
  have hlen := OwR.rowsLen (E := E) (v := v) h h1 h3
  rcases h2.2 with ⟨rfl, hn⟩ | ⟨g, cap, cur, rfl, hb, hgg, hc1, hc2, hc3, hc4⟩
  · exact .inl ⟨rfl, List.eq_nil_of_length_eq_zero hn⟩
  · refine .inr ⟨g, 0, cap, cur, rows, rfl, hgg, hc1, hc2, by omega, h1, fun i r hr j u hu => ?_, fun i r x hr hx => h.sub (h3 i r x hr hx) fun b hb _ => ⟨hb.1, fun e => hb.2 (by rw [e]; rfl)⟩⟩
    have := h2.cells (g := g) rfl (i * k + j) u (flatten_getElem? rows hlen i j r u hr hu)
    rw [Addr.add_lit, cells_take hgg] at this
    rw [Nat.add_assoc]; exact this
/-- The first elements cut off. -/
theorem OwF.drop {α : Type} {E k : Nat} {R : Rel α} {w : World} {g off n cap : Nat} {l : List α} {S : Nat → Prop} (h : OwF E k R w (.slice (some ⟨g, off, none⟩) n cap) l S) (i : Nat) (hi : i ≤ l.length) :
    OwF E k R w (.slice (some ⟨g, off + i * k, none⟩) (n - i) (cap - i)) (l.drop i) S := by
  rcases h with ⟨h, _⟩ | ⟨g', off', cap', cur, rows, hv, hg, h1, h2, h3, h4, h5, h6⟩
  · cases h
  · simp only [Value.slice.injEq, Option.some.injEq, Addr.mk.injEq, and_true] at hv
    obtain ⟨⟨rfl, rfl⟩, rfl, rfl⟩ := hv
    have hk := Nat.mul_le_mul_right k (show i ≤ cap by omega)
    refine .inr ⟨g, off + i * k, cap - i, cur, rows.drop i, by rw [List.length_drop], hg, by rw [List.length_drop]; omega, by omega, ?_, by rw [List.length_drop, List.length_drop]; omega, fun q r hr j u hu => ?_, fun q r x hr hx => ?_⟩
    · rw [Nat.sub_mul]; omega
    · rw [List.getElem?_drop] at hr
      have := h5 _ r hr j u hu
      rw [Nat.add_mul] at this
      rw [show off + i * k + q * k + j = off + (i * k + q * k) + j by omega]; exact this
    · rw [List.getElem?_drop] at hr hx
      exact h6 _ r x hr hx
theorem cells_setCells {w : World} {g : Nat} {cur : Array Value} {E : TypeId} (hg : w.heap[g]? = some (.cells cur E (0, 0))) (o : Nat) (vs : List Value) (hfit : o + vs.length ≤ cur.size) :
    ∃ cur', (w.setCells g o vs).heap[g]? = some (.cells cur' E (0, 0)) ∧ cur'.size = cur.size ∧ (∀ j, j < o ∨ o + vs.length ≤ j → cur'[j]? = cur[j]?) ∧ ∀ j (hj : j < vs.length), cur'[o + j]? = some vs[j] := by
  obtain ⟨cur', h1, h2⟩ := (KeepsRow.sets vs o (KeepsRow.refl g w)) cur E _ hg
  refine ⟨cur', h1, h2, fun j hj => ?_, fun j hj => ?_⟩
  · rw [← cells_take h1 j, ← cells_take hg j]
    exact World.cell?_setCells_out _ _ _ _ _ fun _ _ => hj
  · rw [← cells_take h1 (o + j)]
    refine World.cell?_setCells_in g vs o w (fun q hq => ?_) j hj
    rw [cells_take hg, Array.getElem?_eq_getElem (by omega)]; rfl
theorem splice_out {β : Type} (L : List β) (o : Nat) (cs : List β) (j : Nat) (hj : j < o) (ho : o ≤ L.length) : (splice L o cs)[j]? = L[j]? := by
  unfold splice
  rw [List.getElem?_append_left (by rw [List.length_take]; omega), List.getElem?_take_of_lt hj]
/-- One element struck out, as slices.Delete does it: what stands behind is moved, and the last place is cleared. -/
theorem OwF.erase {α : Type} {E k : Nat} {R : Rel α} (hR : RelOk R k) {w : World} {g off n cap : Nat} {l : List α} {S : Nat → Prop} (h : OwF E k R w (.slice (some ⟨g, off, none⟩) n cap) l S) {i : Nat} (hi : i < l.length) :
    ∃ (cur : Array Value) (news : List Value), w.heap[g]? = some (.cells cur E (0, 0)) ∧ n = l.length ∧ n ≤ cap ∧ cap ≤ maxLen ∧ off + cap * k ≤ cur.size ∧ news.length = (n - (i + 1)) * k ∧ (∀ u ∈ news, u.oneCell' = true) ∧
      (∀ (j : Nat) (u : Value), news[j]? = some u → w.cell? ⟨g, off + (i + 1) * k + j, none⟩ = some u) ∧
      ∃ cur', (w.setCells g (off + i * k) news).heap[g]? = some (.cells cur' E (0, 0)) ∧ cur'.size = cur.size ∧
        ∀ zs : List Value, zs.length = k → OwF E k R ((w.setCells g (off + i * k) news).setRow g (splice cur'.toList (off + (n - 1) * k) zs).toArray) (.slice (some ⟨g, off, none⟩) (n - 1) cap) (l.eraseIdx i) S := by
  rcases h with ⟨h, _⟩ | ⟨g', off', cap', cur, rows, hv, hg, h1, h2, h3, h4, h5, h6⟩
  · cases h
  simp only [Value.slice.injEq, Option.some.injEq, Addr.mk.injEq, and_true] at hv
  obtain ⟨⟨rfl, rfl⟩, rfl, rfl⟩ := hv
  have hlen := OwR.rowsLen (E := E) (v := .slice (some ⟨g, 0, none⟩) 0 0) hR h4 h6
  have hrk : ∀ r ∈ rows.drop (i + 1), r.length = k := fun r hr => hlen r (List.mem_of_mem_drop hr)
  have hnl : (rows.drop (i + 1)).flatten.length = (l.length - (i + 1)) * k := by
    have : ∀ (rs : List (List Value)), (∀ r ∈ rs, r.length = k) → rs.flatten.length = rs.length * k := by
      intro rs; induction rs with
      | nil => intro _; simp
      | cons r rs ih => intro hh; simp only [List.flatten_cons, List.length_append, List.length_cons]; rw [ih fun r hr => hh r (by simp [hr]), hh r (by simp), Nat.add_mul]; omega
    rw [this _ hrk, List.length_drop, h4]
  have e1 : (l.length - (i + 1)) * k + i * k = (l.length - 1) * k := by rw [← Nat.add_mul]; congr 1; omega
  have e2 : (l.length - 1) * k + k = l.length * k := by rw [← Nat.succ_mul]; congr 1; omega
  have e3 := Nat.mul_le_mul_right k h1
  obtain ⟨cur', c1, c2, c3, c4⟩ := cells_setCells hg (off + i * k) (rows.drop (i + 1)).flatten (by rw [hnl]; omega)
  refine ⟨cur, (rows.drop (i + 1)).flatten, hg, rfl, h1, h2, h3, hnl, ?_, ?_, cur', c1, c2, fun zs hzs => ?_⟩
  · intro u hu
    obtain ⟨r, hr, hur⟩ := List.mem_flatten.1 hu
    obtain ⟨q, hq, rfl⟩ := List.getElem_of_mem (List.mem_of_mem_drop hr)
    exact hR.one (h6 q rows[q] (l[q]'(by omega)) (List.getElem?_eq_getElem hq) (List.getElem?_eq_getElem (by omega))) u hur
  · intro j u hu
    have hkp : 0 < k := by
      rcases Nat.eq_zero_or_pos k with h | h
      · subst h
        rw [List.getElem?_eq_none (by rw [hnl]; omega)] at hu; cases hu
      · exact h
    obtain ⟨r, hr, hru⟩ := flatten_at hkp _ hrk j u hu
    rw [List.getElem?_drop] at hr
    have := h5 _ r hr _ u hru
    rw [cells_take hg]
    have e := Nat.div_add_mod j k
    rw [Nat.add_mul, Nat.mul_comm (j / k) k] at this
    rw [show off + (i + 1) * k + j = off + ((i + 1) * k + k * (j / k)) + j % k by omega]; exact this
  · have hcl : cur'.toList.length = cur'.size := Array.length_toList
    have hsz : (splice cur'.toList (off + (l.length - 1) * k) zs).length = cur'.size := by
      rw [length_splice _ _ _ (by omega), hcl]
    have hrow : ((w.setCells g (off + i * k) (rows.drop (i + 1)).flatten).setRow g (splice cur'.toList (off + (l.length - 1) * k) zs).toArray).heap[g]? = some (.cells (splice cur'.toList (off + (l.length - 1) * k) zs).toArray E (0, 0)) := setRow_heap _ g _ _ E _ c1
    have hel : (l.eraseIdx i).length = l.length - 1 := List.length_eraseIdx_of_lt hi
    refine .inr ⟨g, off, cap, _, rows.eraseIdx i, by rw [hel], hrow, by rw [hel]; omega, h2, by rw [List.size_toArray, hsz]; omega, by rw [List.length_eraseIdx_of_lt (by omega), hel, h4], fun q r hr j u hu => ?_, fun q r x hr hx => ?_⟩
    · have hq : q < l.length - 1 := by
        rcases Nat.lt_or_ge q (rows.eraseIdx i).length with h | h
        · rw [List.length_eraseIdx_of_lt (by omega)] at h; omega
        · rw [List.getElem?_eq_none h] at hr; cases hr
      have hjk : j < k := by
        have : r.length = k := by
          rw [List.getElem?_eraseIdx] at hr
          split at hr <;> exact hlen r (List.mem_of_getElem? hr)
        rcases Nat.lt_or_ge j r.length with h | h
        · omega
        · rw [List.getElem?_eq_none h] at hu; cases hu
      have e4 := Nat.mul_le_mul_right k (show q + 1 ≤ l.length - 1 by omega)
      rw [Nat.add_mul] at e4
      rw [List.getElem?_toArray, splice_out _ _ _ _ (by omega) (by omega), Array.getElem?_toList]
      rw [List.getElem?_eraseIdx] at hr
      split at hr
      · rename_i hqi
        have e5 := Nat.mul_le_mul_right k (show q + 1 ≤ i by omega)
        rw [Nat.add_mul] at e5
        rw [c3 _ (.inl (by omega))]
        exact h5 q r hr j u hu
      · rename_i hqi
        have e6 : q * k = i * k + (q - i) * k := by rw [← Nat.add_mul]; congr 1; omega
        have hf : (rows.drop (i + 1)).flatten[(q - i) * k + j]? = some u := flatten_getElem? _ hrk (q - i) j r u (by rw [List.getElem?_drop, show i + 1 + (q - i) = q + 1 by omega]; exact hr) hu
        have hlt : (q - i) * k + j < (rows.drop (i + 1)).flatten.length := by
          rcases Nat.lt_or_ge ((q - i) * k + j) (rows.drop (i + 1)).flatten.length with h | h
          · exact h
          · rw [List.getElem?_eq_none h] at hf; cases hf
        rw [show off + q * k + j = off + i * k + ((q - i) * k + j) by omega, c4 _ hlt]
        rw [List.getElem?_eq_getElem hlt] at hf; exact hf
    · have hS : ∀ b, S b ∧ b ≠ g → b < w.heap.size → ((w.setCells g (off + i * k) (rows.drop (i + 1)).flatten).setRow g (splice cur'.toList (off + (l.length - 1) * k) zs).toArray).heap[b]? = w.heap[b]? ∧ S b ∧ b ≠ g := fun b hb _ =>
        ⟨(setRow_other _ g b _ hb.2).trans (heap_sets hb.2 _ _ _), hb⟩
      rw [List.getElem?_eraseIdx] at hr hx
      split at hr
      · rename_i hqi; rw [if_pos hqi] at hx; exact hR.move (h6 q r x hr hx) hS
      · rename_i hqi; rw [if_neg hqi] at hx; exact hR.move (h6 _ r x hr hx) hS
end Go.Tk
