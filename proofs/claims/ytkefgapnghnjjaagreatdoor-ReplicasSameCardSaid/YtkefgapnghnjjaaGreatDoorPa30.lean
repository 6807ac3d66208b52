/- A part of the proof, laid together from: OwF, FldLockF, Pass. -/
import Derived.Test.YtkefgapnghnjjaaGreatDoorPa08
import Derived.Laws.Rows
import Derived.ArgAppend
import Derived.Test.YtkefgapnghnjjaaGreatDoorPa28
import Derived.Test.YtkefgapnghnjjaaGreatDoorRows
import Derived.Test.YtkefgapnghnjjaaGreatDoorPa02
import Derived.WalkLawsBesides
import Derived.BigRegion
import Derived.BigQuiet
import Derived.Deep.QuietTactic
import Derived.KernelRfl
set_option linter.unusedSimpArgs false
set_option linter.unusedVariables false
namespace Go.Tk
open Go Go.RowKit
def OwF {α : Type} (E k : Nat) (R : Rel α) (w : World) (v : Value) (l : List α) (S : Nat → Prop) : Prop :=
  (v = .slice none 0 0 ∧ l = []) ∨ ∃ (g off cap : Nat) (cur : Array Value) (rows : List (List Value)), v = .slice (some ⟨g, off, none⟩) l.length cap ∧ w.heap[g]? = some (.cells cur E (0, 0)) ∧ l.length ≤ cap ∧ cap ≤ maxLen ∧ off + cap * k ≤ cur.size ∧
    rows.length = l.length ∧ (∀ (i : Nat) (r : List Value), rows[i]? = some r → ∀ (j : Nat) (u : Value), r[j]? = some u → cur[off + i * k + j]? = some u) ∧ ∀ (i : Nat) (r : List Value) (x : α), rows[i]? = some r → l[i]? = some x → R w r x (fun b => S b ∧ b ≠ g)
theorem OwF.nil {α : Type} {E k : Nat} {R : Rel α} (w : World) (S : Nat → Prop) : OwF E k R w (.slice none 0 0) [] S := .inl ⟨rfl, rfl⟩
theorem OwF.move {α : Type} {E k : Nat} {R : Rel α} (h : RelOk R k) {w w' : World} {v : Value} {l : List α} {S S' : Nat → Prop} (ho : OwF E k R w v l S)
    (hv : ∀ g, v.ownBlock = some g → w'.heap[g]? = w.heap[g]?) (hm : ∀ b, S b → some b ≠ v.ownBlock → b < w.heap.size → w'.heap[b]? = w.heap[b]? ∧ S' b) : OwF E k R w' v l S' := by
  rcases ho with h0 | ⟨g, off, cap, cur, rows, rfl, hg, h1, h2, h3, h4, h5, h6⟩
  · exact .inl h0
  · refine .inr ⟨g, off, cap, cur, rows, rfl, (hv g rfl).trans hg, h1, h2, h3, h4, h5, fun i r x hr hx => h.move (h6 i r x hr hx) fun b hb hl => ?_⟩
    have := hm b hb.1 (fun e => hb.2 (by simpa [Value.ownBlock] using e)) hl
    exact ⟨this.1, this.2, hb.2⟩
theorem OwF.below {α : Type} {E k : Nat} {R : Rel α} (h : RelOk R k) {w w' : World} {v : Value} {l : List α} {S : Nat → Prop} (ho : OwF E k R w v l S) (hb : Below w.heap.size w w') : OwF E k R w' v l S := by
  refine ho.move h (fun g hg => ?_) (fun b hs _ hl => ⟨hb.block b hl, hs⟩)
  rcases ho with ⟨rfl, _⟩ | ⟨g', off, cap, cur, rows, rfl, hg', _⟩
  · cases hg
  · cases hg; exact hb.block _ (Array.getElem?_eq_some_iff.1 hg').1
theorem OwF.lt {α : Type} {E k : Nat} {R : Rel α} {w : World} {v : Value} {l : List α} {S : Nat → Prop} (ho : OwF E k R w v l S) : ∀ g, v.ownBlock = some g → g < w.heap.size := by
  intro g hg
  rcases ho with ⟨rfl, _⟩ | ⟨g', off, cap, cur, rows, rfl, hg', _⟩
  · cases hg
  · cases hg; exact (Array.getElem?_eq_some_iff.1 hg').1
theorem OwF.shape {α : Type} {E k : Nat} {R : Rel α} {w : World} {v : Value} {l : List α} {S : Nat → Prop} (h : OwF E k R w v l S) : ∃ a cap, v = .slice a l.length cap := by
  rcases h with ⟨rfl, rfl⟩ | ⟨g', off, cap, cur, rows, rfl, _⟩
  · exact ⟨none, 0, rfl⟩
  · exact ⟨_, _, rfl⟩
theorem OwF.oneCell {α : Type} {E k : Nat} {R : Rel α} {w : World} {v : Value} {l : List α} {S : Nat → Prop} (h : OwF E k R w v l S) : v.oneCell' = true := by
  obtain ⟨a, cap, rfl⟩ := h.shape; rfl
theorem OwF.forget {α : Type} {E k : Nat} {R : Rel α} (hR : ∀ (w : World) (cs : List Value) (x : α) (S S' : Nat → Prop), R w cs x S → R w cs x S') {w : World} {v : Value} {l : List α} {S S' : Nat → Prop} (h : OwF E k R w v l S) : OwF E k R w v l S' := by
  rcases h with h0 | ⟨g, off, cap, cur, rows, rfl, hg, h1, h2, h3, h4, h5, h6⟩
  · exact .inl h0
  · exact .inr ⟨g, off, cap, cur, rows, rfl, hg, h1, h2, h3, h4, h5, fun i r x hr hx => hR _ _ _ _ _ (h6 i r x hr hx)⟩
theorem OwF.read {α : Type} {E k : Nat} {R : Rel α} (h : RelOk R k) {w : World} {v : Value} {l : List α} {S : Nat → Prop} (ho : OwF E k R w v l S) (hS : ∀ g, v.ownBlock = some g → S g) : SlR k R w v l S := by
  rcases ho with ⟨rfl, rfl⟩ | ⟨g, off, cap, cur, rows, rfl, hg, h1, h2, h3, h4, h5, h6⟩
  · exact SlR.nil w S
  · refine ⟨_, cap, rfl, h1, h2, (fun h => by cases h), fun i x hx => ?_⟩
    have hi : i < l.length := by
      rcases Nat.lt_or_ge i l.length with h | h
      · exact h
      · rw [List.getElem?_eq_none h] at hx; cases hx
    have hr : rows[i]? = some (rows[i]'(by omega)) := List.getElem?_eq_getElem (by omega)
    exact ⟨g, off, rows[i]'(by omega), rfl, hS g rfl, h.sub (h6 i _ x hr hx) fun b hb _ => hb.1, fun j u hu => by rw [cells_take hg]; exact h5 i _ hr j u hu⟩
theorem OwR.toF {α : Type} {E k : Nat} {R : Rel α} (h : RelOk R k) {w : World} {v : Value} {l : List α} {S : Nat → Prop} (ho : OwR E k R w v l S) : OwF E k R w v l S := by
  obtain ⟨rows, h1, h2, h3⟩ := ho
  have hlen := OwR.rowsLen (E := E) (v := v) h h1 h3
  rcases h2.2 with ⟨rfl, hn⟩ | ⟨g, cap, cur, rfl, hb, hgg, hc1, hc2, hc3, hc4⟩
  · exact .inl ⟨rfl, List.eq_nil_of_length_eq_zero hn⟩
  · refine .inr ⟨g, 0, cap, cur, rows, rfl, hgg, hc1, hc2, by omega, h1, fun i r hr j u hu => ?_, fun i r x hr hx => h.sub (h3 i r x hr hx) fun b hb _ => ⟨hb.1, fun e => hb.2 (by rw [e]; rfl)⟩⟩
    have := h2.cells (g := g) rfl (i * k + j) u (flatten_getElem? rows hlen i j r u hr hu)
    rw [Addr.add_lit, cells_take hgg] at this
    rw [Nat.add_assoc]; exact this
theorem OwF.drop {α : Type} {E k : Nat} {R : Rel α} {w : World} {g off n cap : Nat} {l : List α} {S : Nat → Prop} (h : OwF E k R w (.slice (some ⟨g, off, none⟩) n cap) l S) (i : Nat) (hi : i ≤ l.length) :
    OwF E k R w (.slice (some ⟨g, off + i * k, none⟩) (n - i) (cap - i)) (l.drop i) S := by
  rcases h with ⟨h, _⟩ | ⟨g', off', cap', cur, rows, hv, hg, h1, h2, h3, h4, h5, h6⟩
  · cases h
  · simp only [Value.slice.injEq, Option.some.injEq, Addr.mk.injEq, and_true] at hv
    obtain ⟨⟨rfl, rfl⟩, rfl, rfl⟩ := hv
    have hk := Nat.mul_le_mul_right k (show i ≤ cap by omega)
    refine .inr ⟨g, off + i * k, cap - i, cur, rows.drop i, by rw [List.length_drop], hg, by rw [List.length_drop]; omega, by omega, ?_, by rw [List.length_drop, List.length_drop]; omega, fun q r hr j u hu => ?_, fun q r x hr hx => ?_⟩
    · rw [Nat.sub_mul]; omega
    · rw [List.getElem?_drop] at hr
      have := h5 _ r hr j u hu
      rw [Nat.add_mul] at this
      rw [show off + i * k + q * k + j = off + (i * k + q * k) + j by omega]; exact this
    · rw [List.getElem?_drop] at hr hx
      exact h6 _ r x hr hx
theorem cells_setCells {w : World} {g : Nat} {cur : Array Value} {E : TypeId} (hg : w.heap[g]? = some (.cells cur E (0, 0))) (o : Nat) (vs : List Value) (hfit : o + vs.length ≤ cur.size) :
    ∃ cur', (w.setCells g o vs).heap[g]? = some (.cells cur' E (0, 0)) ∧ cur'.size = cur.size ∧ (∀ j, j < o ∨ o + vs.length ≤ j → cur'[j]? = cur[j]?) ∧ ∀ j (hj : j < vs.length), cur'[o + j]? = some vs[j] := by
  obtain ⟨cur', h1, h2⟩ := (KeepsRow.sets vs o (KeepsRow.refl g w)) cur E _ hg
  refine ⟨cur', h1, h2, fun j hj => ?_, fun j hj => ?_⟩
  · rw [← cells_take h1 j, ← cells_take hg j]
    exact World.cell?_setCells_out _ _ _ _ _ fun _ _ => hj
  · rw [← cells_take h1 (o + j)]
    refine World.cell?_setCells_in g vs o w (fun q hq => ?_) j hj
    rw [cells_take hg, Array.getElem?_eq_getElem (by omega)]; rfl
theorem splice_out {β : Type} (L : List β) (o : Nat) (cs : List β) (j : Nat) (hj : j < o) (ho : o ≤ L.length) : (splice L o cs)[j]? = L[j]? := by
  unfold splice
  rw [List.getElem?_append_left (by rw [List.length_take]; omega), List.getElem?_take_of_lt hj]
theorem OwF.erase {α : Type} {E k : Nat} {R : Rel α} (hR : RelOk R k) {w : World} {g off n cap : Nat} {l : List α} {S : Nat → Prop} (h : OwF E k R w (.slice (some ⟨g, off, none⟩) n cap) l S) {i : Nat} (hi : i < l.length) :
    ∃ (cur : Array Value) (news : List Value), w.heap[g]? = some (.cells cur E (0, 0)) ∧ n = l.length ∧ n ≤ cap ∧ cap ≤ maxLen ∧ off + cap * k ≤ cur.size ∧ news.length = (n - (i + 1)) * k ∧ (∀ u ∈ news, u.oneCell' = true) ∧
      (∀ (j : Nat) (u : Value), news[j]? = some u → w.cell? ⟨g, off + (i + 1) * k + j, none⟩ = some u) ∧
      ∃ cur', (w.setCells g (off + i * k) news).heap[g]? = some (.cells cur' E (0, 0)) ∧ cur'.size = cur.size ∧
        ∀ zs : List Value, zs.length = k → OwF E k R ((w.setCells g (off + i * k) news).setRow g (splice cur'.toList (off + (n - 1) * k) zs).toArray) (.slice (some ⟨g, off, none⟩) (n - 1) cap) (l.eraseIdx i) S := by
  rcases h with ⟨h, _⟩ | ⟨g', off', cap', cur, rows, hv, hg, h1, h2, h3, h4, h5, h6⟩
  · cases h
  simp only [Value.slice.injEq, Option.some.injEq, Addr.mk.injEq, and_true] at hv
  obtain ⟨⟨rfl, rfl⟩, rfl, rfl⟩ := hv
  have hlen := OwR.rowsLen (E := E) (v := .slice (some ⟨g, 0, none⟩) 0 0) hR h4 h6
  have hrk : ∀ r ∈ rows.drop (i + 1), r.length = k := fun r hr => hlen r (List.mem_of_mem_drop hr)
  have hnl : (rows.drop (i + 1)).flatten.length = (l.length - (i + 1)) * k := by
    have : ∀ (rs : List (List Value)), (∀ r ∈ rs, r.length = k) → rs.flatten.length = rs.length * k := by
      intro rs; induction rs with
      | nil => intro _; simp
      | cons r rs ih => intro hh; simp only [List.flatten_cons, List.length_append, List.length_cons]; rw [ih fun r hr => hh r (by simp [hr]), hh r (by simp), Nat.add_mul]; omega
    rw [this _ hrk, List.length_drop, h4]
  have e1 : (l.length - (i + 1)) * k + i * k = (l.length - 1) * k := by rw [← Nat.add_mul]; congr 1; omega
  have e2 : (l.length - 1) * k + k = l.length * k := by rw [← Nat.succ_mul]; congr 1; omega
  have e3 := Nat.mul_le_mul_right k h1
  obtain ⟨cur', c1, c2, c3, c4⟩ := cells_setCells hg (off + i * k) (rows.drop (i + 1)).flatten (by rw [hnl]; omega)
  refine ⟨cur, (rows.drop (i + 1)).flatten, hg, rfl, h1, h2, h3, hnl, ?_, ?_, cur', c1, c2, fun zs hzs => ?_⟩
  · intro u hu
    obtain ⟨r, hr, hur⟩ := List.mem_flatten.1 hu
    obtain ⟨q, hq, rfl⟩ := List.getElem_of_mem (List.mem_of_mem_drop hr)
    exact hR.one (h6 q rows[q] (l[q]'(by omega)) (List.getElem?_eq_getElem hq) (List.getElem?_eq_getElem (by omega))) u hur
  · intro j u hu
    have hkp : 0 < k := by
      rcases Nat.eq_zero_or_pos k with h | h
      · subst h
        rw [List.getElem?_eq_none (by rw [hnl]; omega)] at hu; cases hu
      · exact h
    obtain ⟨r, hr, hru⟩ := flatten_at hkp _ hrk j u hu
    rw [List.getElem?_drop] at hr
    have := h5 _ r hr _ u hru
    rw [cells_take hg]
    have e := Nat.div_add_mod j k
    rw [Nat.add_mul, Nat.mul_comm (j / k) k] at this
    rw [show off + (i + 1) * k + j = off + ((i + 1) * k + k * (j / k)) + j % k by omega]; exact this
  · have hcl : cur'.toList.length = cur'.size := Array.length_toList
    have hsz : (splice cur'.toList (off + (l.length - 1) * k) zs).length = cur'.size := by
      rw [length_splice _ _ _ (by omega), hcl]
    have hrow : ((w.setCells g (off + i * k) (rows.drop (i + 1)).flatten).setRow g (splice cur'.toList (off + (l.length - 1) * k) zs).toArray).heap[g]? = some (.cells (splice cur'.toList (off + (l.length - 1) * k) zs).toArray E (0, 0)) := setRow_heap _ g _ _ E _ c1
    have hel : (l.eraseIdx i).length = l.length - 1 := List.length_eraseIdx_of_lt hi
    refine .inr ⟨g, off, cap, _, rows.eraseIdx i, by rw [hel], hrow, by rw [hel]; omega, h2, by rw [List.size_toArray, hsz]; omega, by rw [List.length_eraseIdx_of_lt (by omega), hel, h4], fun q r hr j u hu => ?_, fun q r x hr hx => ?_⟩
    · have hq : q < l.length - 1 := by
        rcases Nat.lt_or_ge q (rows.eraseIdx i).length with h | h
        · rw [List.length_eraseIdx_of_lt (by omega)] at h; omega
        · rw [List.getElem?_eq_none h] at hr; cases hr
      have hjk : j < k := by
        have : r.length = k := by
          rw [List.getElem?_eraseIdx] at hr
          split at hr <;> exact hlen r (List.mem_of_getElem? hr)
        rcases Nat.lt_or_ge j r.length with h | h
        · omega
        · rw [List.getElem?_eq_none h] at hu; cases hu
      have e4 := Nat.mul_le_mul_right k (show q + 1 ≤ l.length - 1 by omega)
      rw [Nat.add_mul] at e4
      rw [List.getElem?_toArray, splice_out _ _ _ _ (by omega) (by omega), Array.getElem?_toList]
      rw [List.getElem?_eraseIdx] at hr
      split at hr
      · rename_i hqi
        have e5 := Nat.mul_le_mul_right k (show q + 1 ≤ i by omega)
        rw [Nat.add_mul] at e5
        rw [c3 _ (.inl (by omega))]
        exact h5 q r hr j u hu
      · rename_i hqi
        have e6 : q * k = i * k + (q - i) * k := by rw [← Nat.add_mul]; congr 1; omega
        have hf : (rows.drop (i + 1)).flatten[(q - i) * k + j]? = some u := flatten_getElem? _ hrk (q - i) j r u (by rw [List.getElem?_drop, show i + 1 + (q - i) = q + 1 by omega]; exact hr) hu
        have hlt : (q - i) * k + j < (rows.drop (i + 1)).flatten.length := by
          rcases Nat.lt_or_ge ((q - i) * k + j) (rows.drop (i + 1)).flatten.length with h | h
          · exact h
          · rw [List.getElem?_eq_none h] at hf; cases hf
        rw [show off + q * k + j = off + i * k + ((q - i) * k + j) by omega, c4 _ hlt]
        rw [List.getElem?_eq_getElem hlt] at hf; exact hf
    · have hS : ∀ b, S b ∧ b ≠ g → b < w.heap.size → ((w.setCells g (off + i * k) (rows.drop (i + 1)).flatten).setRow g (splice cur'.toList (off + (l.length - 1) * k) zs).toArray).heap[b]? = w.heap[b]? ∧ S b ∧ b ≠ g := fun b hb _ =>
        ⟨(setRow_other _ g b _ hb.2).trans (heap_sets hb.2 _ _ _), hb⟩
      rw [List.getElem?_eraseIdx] at hr hx
      split at hr
      · rename_i hqi; rw [if_pos hqi] at hx; exact hR.move (h6 q r x hr hx) hS
      · rename_i hqi; rw [if_neg hqi] at hx; exact hR.move (h6 _ r x hr hx) hS
end Go.Tk

namespace Go.Tk
open Go Go.RowKit
def rLockF (EI : Nat) : Rel LockD := fun w cs x S => ∃ v, cs = [.string ⟨x.name.toArray⟩, .int .i64 x.holder, .int .i64 x.fence, v] ∧ OwF EI 1 rInt w v x.line (fun _ => False) ∧ ∀ g, v.ownBlock = some g → S g
theorem rLockF_ok (EI : Nat) : RelOk (rLockF EI) 4 where
  len := by rintro w cs x S ⟨v, rfl, _⟩; rfl
  one := by
    rintro w cs x S ⟨v, rfl, h, _⟩ u hu
    simp at hu
    rcases hu with rfl | rfl | rfl | rfl
    · rfl
    · rfl
    · rfl
    · exact h.oneCell
  move := by
    rintro w w' cs x S S' ⟨v, rfl, h, hs⟩ hm
    exact ⟨v, rfl, h.move rInt_ok (fun g hg => (hm g (hs g hg) (h.lt g hg)).1) (fun b hb => hb.elim), fun g hg => (hm g (hs g hg) (h.lt g hg)).2⟩
theorem rLockF.read {EI : Nat} {w : World} {cs : List Value} {x : LockD} {S : Nat → Prop} (h : rLockF EI w cs x S) : rLock w cs x S := by
  obtain ⟨v, rfl, h, hs⟩ := h
  exact ⟨v, rfl, (h.move rInt_ok (fun _ _ => rfl) (fun b hb => hb.elim)).read rInt_ok hs⟩
theorem rLockO.toF {EI : Nat} {w : World} {cs : List Value} {x : LockD} {S : Nat → Prop} (h : rLockO EI w cs x S) : rLockF EI w cs x S := by
  obtain ⟨v, rfl, h, hs⟩ := h
  exact ⟨v, rfl, h.toF rInt_ok, hs⟩
theorem OwD.map {α : Type} {E k : Nat} {R R' : Rel α} (hr : ∀ (w : World) (cs : List Value) (x : α) (S : Nat → Prop), R w cs x S → R' w cs x S) {w : World} {v : Value} {l : List α} {S : Nat → Prop} (h : OwD E k R w v l S) : OwD E k R' w v l S := by
  obtain ⟨l2, hm, ha, ho⟩ := h
  exact ⟨l2, hm, ha, ho.map fun _ _ _ _ h => ⟨hr _ _ _ _ h.1, h.2⟩⟩
theorem OwD.readLockF {E EI : Nat} {w : World} {v : Value} {l : List LockD} {S : Nat → Prop} (h : OwD E 4 (rLockF EI) w v l S) (hS : ∀ g, v.ownBlock = some g → S g) : SlR 4 rLock w v l S :=
  ((h.own (rLockF_ok EI)).read (rLockF_ok EI) (by decide) hS).map fun _ _ _ _ hr => hr.read
theorem rLockF.mk {EK : Nat} {w : World} {x : LockD} {v : Value} {S : Nat → Prop} (h : OwF EK 1 rInt w v x.line (fun _ => False)) (hs : ∀ g, v.ownBlock = some g → S g) : rLockF EK w (lockCells x ++ [v]) x S := ⟨v, rfl, h, hs⟩
theorem OwD.cellsLockF {E EK : Nat} {w : World} {g cap n : Nat} {l : List LockD} {S : Nat → Prop} (h : OwD E 4 (rLockF EK) w (.slice (some ⟨g, 0, none⟩) n cap) l S) (i : Nat) (hi : i < l.length) :
    ∃ v, (∀ (j : Nat) (u : Value), (lockCells l[i] ++ [v])[j]? = some u → w.cell? ⟨g, i * 4 + j, none⟩ = some u) ∧ OwF EK 1 rInt w v l[i].line (fun _ => False) ∧ ∀ b, v.ownBlock = some b → S b ∧ b ≠ g ∧ b < w.heap.size := by
  obtain ⟨row, G, ⟨v, rfl, hv, hg⟩, hG, hc, _⟩ := h.upd (rLockF_ok EK) i hi
  exact ⟨v, hc, hv, fun b hb => hG b (hg b hb)⟩
theorem OwD.setLockF {E EK : Nat} {w : World} {g cap n : Nat} {l : List LockD} {S : Nat → Prop} (h : OwD E 4 (rLockF EK) w (.slice (some ⟨g, 0, none⟩) n cap) l S) {i : Nat} (hi : i < l.length) {j : Nat} (hj : j < 3) (u : Value) (x' : LockD)
    (hx : lockCells x' = (lockCells l[i]).set j u) (hr : x'.line = l[i].line) : OwD E 4 (rLockF EK) (w.setCell ⟨g, i * 4 + j, none⟩ u) (.slice (some ⟨g, 0, none⟩) n cap) (l.set i x') S := by
  obtain ⟨row, G, ⟨v, rfl, hv, hg⟩, hG, hc, hch⟩ := h.upd (rLockF_ok EK) i hi
  have hll : (lockCells l[i]).length = 3 := rfl
  have hc' : ∀ (q : Nat) (t : Value), (lockCells l[i] ++ [v])[q]? = some t → w.cell? ⟨g, i * 4 + q, none⟩ = some t := hc
  refine hch _ S G (lockCells x' ++ [v]) x' ((KeepsRow.refl g w).set _ _ _) (fun q hq => cell_near (by omega)) (fun q t ht => ?_) (fun b _ hb _ _ => heap_far hb) (fun _ hb => hb) (fun b hb => ⟨.inl hb, (hG b hb).1, (hG b hb).2.1, by simpa [World.setCell] using (hG b hb).2.2⟩) ?_
  · by_cases hq : q = j
    · subst hq
      rw [hx, List.getElem?_append_left (by rw [List.length_set, hll]; exact hj), List.getElem?_set_self (by rw [hll]; exact hj)] at ht
      cases ht
      obtain ⟨t0, ht0⟩ : ∃ t0, (lockCells l[i] ++ [v])[q]? = some t0 := ⟨(lockCells l[i] ++ [v])[q]'(by rw [List.length_append, hll]; show q < 3 + 1; omega), List.getElem?_eq_getElem _⟩
      exact World.cell?_setCell_same _ _ _ (hc' q t0 ht0)
    · refine (cell_near (by omega)).trans (hc' q t ?_)
      rcases Nat.lt_or_ge q 3 with h | h
      · rw [hx, List.getElem?_append_left (by rw [List.length_set, hll]; exact h), List.getElem?_set_ne (Ne.symm hq)] at ht
        rw [List.getElem?_append_left (by rw [hll]; exact h)]; exact ht
      · rw [List.getElem?_append_right (by rw [hx, List.length_set, hll]; exact h), hx, List.length_set] at ht
        rw [List.getElem?_append_right (by rw [hll]; exact h)]; exact ht
  · refine rLockF.mk ?_ hg
    rw [hr]
    exact hv.move rInt_ok (fun b hb => heap_far (hG b (hg b hb)).2.1) (fun b hb => hb.elim)
theorem OwD.inLockF {E EK : Nat} {w w' : World} {g cap n : Nat} {l : List LockD} {S : Nat → Prop} (h : OwD E 4 (rLockF EK) w (.slice (some ⟨g, 0, none⟩) n cap) l S) {i : Nat} (hi : i < l.length) {v v' : Value} (hv : w.cell? ⟨g, i * 4 + 3, none⟩ = some v)
    {rs : List Int} (hg' : w.grownBy w' v.ownBlock) (ho : OwF EK 1 rInt w' v' rs (fun _ => False)) (hvv : v'.ownBlock = v.ownBlock ∨ v'.ownBlock = none ∨ ∃ b, v'.ownBlock = some b ∧ w.heap.size ≤ b ∧ S b) :
    OwD E 4 (rLockF EK) (w'.setCell ⟨g, i * 4 + 3, none⟩ v') (.slice (some ⟨g, 0, none⟩) n cap) (l.set i { l[i] with line := rs }) S := by
  obtain ⟨row, G, ⟨v0, rfl, hv0, hg⟩, hG, hc, hch⟩ := h.upd (rLockF_ok EK) i hi
  have hll : (lockCells l[i]).length = 3 := rfl
  have hc' : ∀ (q : Nat) (t : Value), (lockCells l[i] ++ [v0])[q]? = some t → w.cell? ⟨g, i * 4 + q, none⟩ = some t := hc
  obtain rfl : v0 = v := by
    have := hc' 3 v0 rfl
    rw [this] at hv; simpa using hv
  have hne : some g ≠ v0.ownBlock := fun e => (hG g (hg g e.symm)).2.1 rfl
  have hgl : g < w.heap.size := World.block_lt_of_cell? w _ (hc' 0 _ rfl)
  have hgg : w'.heap[g]? = w.heap[g]? := hg'.block g hgl hne
  have hsz := hg'.size
  have hv'l : ∀ b, v'.ownBlock = some b → (G b ∨ w.heap.size ≤ b) ∧ S b ∧ b ≠ g ∧ b < w'.heap.size := by
    intro b hb
    have hlt := ho.lt b hb
    rcases hvv with e | e | ⟨b', e, hb', hsb⟩
    · have hGb := hg b (e ▸ hb)
      exact ⟨.inl hGb, (hG b hGb).1, (hG b hGb).2.1, hlt⟩
    · rw [e] at hb; cases hb
    · rw [e] at hb; cases hb
      exact ⟨.inr hb', hsb, by omega, hlt⟩
  refine hch _ S (fun b => v'.ownBlock = some b) (lockCells { l[i] with line := rs } ++ [v']) _ ((KeepsRow.same hgg).set _ _ _) (fun q hq => (cell_near (by omega)).trans (World.cell?_of_block (a := ⟨g, q, none⟩) hgg)) (fun q t ht => ?_) (fun b hb hbg hbG hbl => (heap_far hbg).trans (hg'.block b hbl (fun e => hbG (hg b e.symm)))) (fun _ hb => hb) (fun b hb => ?_) ?_
  · by_cases hq : q = 3
    · subst hq
      cases ht
      exact World.cell?_setCell_same _ _ _ (cell_keep hv hgg)
    · have hql : q < 3 := by
        rcases Nat.lt_or_ge q 4 with h | h
        · omega
        · rw [List.getElem?_eq_none (by rw [List.length_append]; show 3 + 1 ≤ q; omega)] at ht; cases ht
      refine (cell_near (by omega)).trans (cell_keep (hc' q t ?_) hgg)
      rw [List.getElem?_append_left hql] at ht
      rw [List.getElem?_append_left (by rw [hll]; exact hql)]; exact ht
  · have := hv'l b hb
    exact ⟨this.1, this.2.1, this.2.2.1, by simpa [World.setCell] using this.2.2.2⟩
  · exact rLockF.mk (x := { l[i] with line := rs }) (ho.move rInt_ok (fun b hb => heap_far (hv'l b hb).2.2.1) (fun b hb => hb.elim)) (fun b hb => hb)
end Go.Tk

namespace Go.Tk
open Go Go.RowKit
theorem OwF.empty {α : Type} {E k : Nat} {R : Rel α} {w : World} {g off n cap : Nat} {l : List α} {S : Nat → Prop} (h : OwF E k R w (.slice (some ⟨g, off, none⟩) n cap) l S) : OwF E k R w (.slice (some ⟨g, off, none⟩) 0 0) ([] : List α) S := by
  rcases h with ⟨h, _⟩ | ⟨g', off', cap', cur, rows, hv, hg, h1, h2, h3, h4, h5, h6⟩
  · cases h
  · simp only [Value.slice.injEq, Option.some.injEq, Addr.mk.injEq, and_true] at hv
    obtain ⟨⟨rfl, rfl⟩, rfl, rfl⟩ := hv
    exact .inr ⟨g, off, 0, cur, [], rfl, hg, Nat.le_refl _, by decide, by omega, rfl, fun i r hr => by simp at hr, fun i r x hr => by simp at hr⟩
end Go.Tk
namespace Go.Proofs.YtkefgapnghnjjaaGreatDoor
open Go.RowKit Go.Tk
set_option maxRecDepth 100000 in
set_option maxHeartbeats 1600000 in
theorem pass_calls (w : World) (g n cap : Nat) (l : List LockD) (S : Nat → Prop) (h : OwD 50 4 (rLockF 3) w (.slice (some ⟨g, 0, none⟩) n cap) l S) (fi : Nat) (hi : fi < l.length) (hf : 0 ≤ l[fi].fence ∧ l[fi].fence ≤ 1073741824) (hn : l[fi].line.length ≤ 1000000) :
    Calls Tryz.prog 124 #[.pointer (some ⟨g, fi * 4, none⟩)] w fun e w' => e = .returned (.tuple #[]) ∧ OwD 50 4 (rLockF 3) w' (.slice (some ⟨g, 0, none⟩) n cap) (l.set fi (passP l[fi])) S ∧ w.grownBy w' (some g) := by
  obtain ⟨v, hcells, hv, hvg⟩ := h.cellsLockF fi hi
  have hth := h.thaw (by omega)
  have z1 := hth (fi * 4 + 1)
  have z2 := hth (fi * 4 + 2)
  have z3 := hth (fi * 4 + 3)
  have HP := Lib.hid (show passP l[fi] = if 0 < l[fi].line.length ∧ l[fi].fence < 1073741824 then ⟨l[fi].name, l[fi].line.getD 0 0, l[fi].fence + 1, l[fi].line.drop 1⟩ else ⟨l[fi].name, 0, l[fi].fence, []⟩ from rfl)
  have HO := Lib.hid h
  clear hth h
  generalize passP l[fi] = px at HP ⊢
  generalize hxx : l[fi] = x at *
  have HX := Lib.hid hxx
  clear hxx
  have c1 := hcells 1 _ rfl
  have c2 := hcells 2 _ rfl
  have c3 := hcells 3 _ rfl
  have HC := Lib.hid hcells
  have HV := Lib.hid hv
  have HG := Lib.hid hvg
  have hs0 : Hid (OwD 50 4 (rLockF 3) (w.setCell ⟨g, fi * 4 + 1, none⟩ (.int .i64 0)) (.slice (some ⟨g, 0, none⟩) n cap) (l.set fi ⟨x.name, 0, x.fence, x.line⟩) S) :=
    HO.out.setLockF hi (j := 1) (by decide) (.int .i64 0) ⟨x.name, 0, x.fence, x.line⟩ (by rw [HX.out]; rfl) (by rw [HX.out])
  by_cases hc : 0 < x.line.length ∧ x.fence < 1073741824
  case neg =>
    have HJ := Lib.hid (HP.out.trans (if_neg hc))
    have hcases : (x.line.length = 0) ∨ (0 < x.line.length ∧ ¬ x.fence < 1073741824) := by omega
    obtain ⟨ra, rc, rfl⟩ := hv.shape
    clear hcells hv hvg hc HP
    have hfin : Hid (OwD 50 4 (rLockF 3) ((w.setCell ⟨g, fi * 4 + 1, none⟩ (.int .i64 0)).setCell ⟨g, fi * 4 + 3, none⟩ (.slice none 0 0)) (.slice (some ⟨g, 0, none⟩) n cap) (l.set fi px) S) := by
      have := hs0.out.inLockF (i := fi) (by rw [List.length_set]; exact hi) ((cell_near (by omega)).trans c3) (grownBy_refl _ _) (OwF.nil _ _) (.inr (.inl rfl))
      rw [List.set_set, List.getElem_set_self] at this
      rw [HJ.out]; exact this
    rcases hcases with h0 | ⟨h0, h1⟩
    · have h0' : decide (0 < x.line.length) = false := by simp [h0]
      go_enter Tryz.func124, Tryz.ntmps124
      go_wp2
      refine bodyPost_end (v := .tuple #[]) (by simp [results, Tryz.results124, go_sem]) rfl ⟨rfl, hfin.out, ?_⟩
      exact grownBy_set1 (grownBy_set1 (grownBy_refl _ _) _ _) _ _
    · go_enter Tryz.func124, Tryz.ntmps124
      go_wp2
      refine bodyPost_end (v := .tuple #[]) (by simp [results, Tryz.results124, go_sem]) rfl ⟨rfl, hfin.out, ?_⟩
      exact grownBy_set1 (grownBy_set1 (grownBy_refl _ _) _ _) _ _
  case pos =>
    have HJ := Lib.hid (HP.out.trans (if_pos hc))
    obtain ⟨hl0, hf1⟩ := hc
    clear HP
    obtain ⟨b, off, vc, row, rfl, -, hrow, hr0⟩ := (hv.read (S := fun b => w.heap.size = w.heap.size) rInt_ok (fun _ _ => rfl)).row 0 hl0
    obtain rfl := hrow
    have q0 := hr0 0 _ rfl
    simp only [Nat.zero_mul, Nat.add_zero] at q0
    have HL0 := Lib.hid (show x.line.getD 0 0 = x.line[0] by simp [List.getD, hl0])
    generalize x.line[0] = y at *
    have hbg := (hvg b rfl).2.1
    have HDR : Hid (OwF 3 1 rInt w (.slice (some ⟨b, off + 1, none⟩) (x.line.length - 1) (vc - 1)) (x.line.drop 1) (fun _ => False)) := by
      have := HV.out.drop 1 hl0; rw [Nat.mul_one] at this; exact this
    have HEM : Hid (OwF 3 1 rInt w (.slice (some ⟨b, off, none⟩) 0 0) ([] : List Int) (fun _ => False)) := HV.out.empty
    have hlc : x.line.length ≤ vc := by
      rcases HV.out with ⟨h, _⟩ | ⟨g', off', cap', cur, rows, hv, hg, h1, _⟩
      · cases h
      · cases hv; exact h1
    clear hcells hv hvg hr0
    have hg0 : g < w.heap.size := World.block_lt_of_cell? w _ c1
    have hb0 : b < w.heap.size := World.block_lt_of_cell? w _ q0
    go_enter Tryz.func124, Tryz.ntmps124
    go_wp2
    have d1 := World.cell?_setCell_same w ⟨g, fi * 4 + 1, none⟩ (.int .i64 0) c1
    have d2 := (cell_near (w := w) (b := g) (o := fi * 4 + 1) (u := .int .i64 0) (o' := fi * 4 + 2) (by omega)).trans c2
    have d3 := (cell_near (w := w) (b := g) (o := fi * 4 + 1) (u := .int .i64 0) (o' := fi * 4 + 3) (by omega)).trans c3
    have e0 := (cell_far (w := w) (b := g) (o := fi * 4 + 1) (u := .int .i64 0) (c := b) (o' := off) (Ne.symm hbg)).trans q0
    have y1 : (w.setCell ⟨g, fi * 4 + 1, none⟩ (.int .i64 0)).frozen? ⟨g, fi * 4 + 1, none⟩ = false := by simp [go_sem, z1]
    have y2 : (w.setCell ⟨g, fi * 4 + 1, none⟩ (.int .i64 0)).frozen? ⟨g, fi * 4 + 2, none⟩ = false := by simp [go_sem, z2]
    have y3 : (w.setCell ⟨g, fi * 4 + 1, none⟩ (.int .i64 0)).frozen? ⟨g, fi * 4 + 3, none⟩ = false := by simp [go_sem, z3]
    have HG1 := Lib.hid (grownBy_set1 (grownBy_refl w (some g)) (fi * 4 + 1) (.int .i64 0))
    have HD2 : Hid (OwF 3 1 rInt (w.setCell ⟨g, fi * 4 + 1, none⟩ (.int .i64 0)) (.slice (some ⟨b, off + 1, none⟩) (x.line.length - 1) (vc - 1)) (x.line.drop 1) (fun _ => False)) := HDR.out.move rInt_ok (fun b' hb' => by cases hb'; exact heap_far hbg) (fun _ h _ _ => h.elim)
    have HE2 : Hid (OwF 3 1 rInt (w.setCell ⟨g, fi * 4 + 1, none⟩ (.int .i64 0)) (.slice (some ⟨b, off, none⟩) 0 0) ([] : List Int) (fun _ => False)) := HEM.out.move rInt_ok (fun b' hb' => by cases hb'; exact heap_far hbg) (fun _ h _ _ => h.elim)
    clear HDR HEM HV HC z1 z2 z3 c1 c2 c3 q0
    generalize w.setCell ⟨g, fi * 4 + 1, none⟩ (.int .i64 0) = w1 at *
    have w0 : IntKind.i64.wrap (x.fence + 1) = x.fence + 1 := IntWalk.i64_in _ (by omega)
    have hl1 : (1 : Int) ≤ (x.line.length : Int) := by omega
    by_cases hvc : vc = 1
    · subst hvc
      have hln : x.line.length = 1 := by omega
      have HD : Hid (x.line.drop 1 = []) := by show _ = _; exact List.eq_nil_of_length_eq_zero (by rw [List.length_drop]; omega)
      simp only [hln] at d3
      have HLN := Lib.hid hln
      clear hln hlc hl1 hl0 hn
      go_region
      go_wp2
      refine bodyPost_ret (v := .tuple #[]) (by simp [results, Tryz.results124, go_sem]) rfl ⟨rfl, ?_, ?_⟩
      · have k3 := (hs0.out.below (rLockF_ok _) (Below.drew (Below.refl _ _))).setLockF (i := fi) (by rw [List.length_set]; exact hi) (j := 1) (by decide) (.int .i64 y) ⟨x.name, y, x.fence, x.line⟩ (by rw [List.getElem_set_self]; rfl) (by rw [List.getElem_set_self])
        rw [List.set_set] at k3
        have k4 := k3.setLockF (i := fi) (by rw [List.length_set]; exact hi) (j := 2) (by decide) (.int .i64 (x.fence + 1)) ⟨x.name, y, x.fence + 1, x.line⟩ (by rw [List.getElem_set_self]; rfl) (by rw [List.getElem_set_self])
        rw [List.set_set] at k4
        have k5 := k4.inLockF (i := fi) (v := .slice (some ⟨b, off, none⟩) 1 1) (v' := .slice (some ⟨b, off, none⟩) 0 0) (by rw [List.length_set]; exact hi) ((cell_near (by omega)).trans ((cell_near (by omega)).trans d3)) (grownBy_refl _ _)
          (HE2.out.move rInt_ok (fun b' hb' => by cases hb'; exact (heap_far hbg).trans (heap_far hbg)) (fun _ h _ _ => h.elim)) (.inl rfl)
        rw [List.set_set, List.getElem_set_self] at k5
        rw [HJ.out, HL0.out]
        rw [HD.out]
        exact k5
      · exact grownBy_set1 (grownBy_set1 (grownBy_set1 (grownBy_drew HG1.out) _ _) _ _) _ _
    · go_region
      go_wp2
      refine bodyPost_ret (v := .tuple #[]) (by simp [results, Tryz.results124, go_sem]) rfl ⟨rfl, ?_, ?_⟩
      · have k3 := (hs0.out.below (rLockF_ok _) (Below.drew (Below.refl _ _))).setLockF (i := fi) (by rw [List.length_set]; exact hi) (j := 1) (by decide) (.int .i64 y) ⟨x.name, y, x.fence, x.line⟩ (by rw [List.getElem_set_self]; rfl) (by rw [List.getElem_set_self])
        rw [List.set_set] at k3
        have k4 := k3.setLockF (i := fi) (by rw [List.length_set]; exact hi) (j := 2) (by decide) (.int .i64 (x.fence + 1)) ⟨x.name, y, x.fence + 1, x.line⟩ (by rw [List.getElem_set_self]; rfl) (by rw [List.getElem_set_self])
        rw [List.set_set] at k4
        have k5 := k4.inLockF (i := fi) (v := .slice (some ⟨b, off, none⟩) x.line.length vc) (v' := .slice (some ⟨b, off + 1, none⟩) (x.line.length - 1) (vc - 1)) (by rw [List.length_set]; exact hi) ((cell_near (by omega)).trans ((cell_near (by omega)).trans d3)) (grownBy_refl _ _)
          (HD2.out.move rInt_ok (fun b' hb' => by cases hb'; exact (heap_far hbg).trans (heap_far hbg)) (fun _ h _ _ => h.elim)) (.inl rfl)
        rw [List.set_set, List.getElem_set_self] at k5
        rw [HJ.out, HL0.out]
        exact k5
      · exact grownBy_set1 (grownBy_set1 (grownBy_set1 (grownBy_drew HG1.out) _ _) _ _) _ _
end Go.Proofs.YtkefgapnghnjjaaGreatDoor
