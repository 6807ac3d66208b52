/- One element of a slice of a call's own, with the memory that it leads to, is another one. No program in sight. -/
import Derived.Test.YtphkkkmjkagkbaaDoorChg
import Derived.Deep.Draws
namespace Go.Tk
open Go Go.RowKit

theorem OwR.put {α : Type} {E k : Nat} {R : Rel α} (hR : RelOk R k) {w w' : World} {g cap n : Nat} {l : List α} {S S' : Nat → Prop} (h : OwR E k R w (.slice (some ⟨g, 0, none⟩) n cap) l S) {i : Nat} (hi : i < l.length) {x : α} {cs : List Value}
    (hx' : R w' cs x (fun b => S' b ∧ b ≠ g)) (hrow : KeepsRow g w w') (hout : ∀ j, j < i * k ∨ i * k + k ≤ j → w'.cell? ⟨g, j, none⟩ = w.cell? ⟨g, j, none⟩) (hin : ∀ (j : Nat) (u : Value), cs[j]? = some u → w'.cell? ⟨g, i * k + j, none⟩ = some u)
    (hoth : ∀ (q : Nat) (r : List Value) (y : α), q ≠ i → l[q]? = some y → R w r y (fun b => S b ∧ b ≠ g) → R w' r y (fun b => S' b ∧ b ≠ g)) : OwR E k R w' (.slice (some ⟨g, 0, none⟩) n cap) (l.set i x) S' := by
  obtain ⟨rows, h1, h2, h3⟩ := h
  have hcs := hR.len hx'
  have hlen := OwR.rowsLen (E := E) (v := .slice (some ⟨g, 0, none⟩) n cap) hR h1 h3
  rcases h2.2 with ⟨h, _⟩ | ⟨g', cap', cur, hv, hb0, hg, hc, hm, hsz, htk⟩
  · simp at h
  simp only [Value.slice.injEq, Option.some.injEq, Addr.mk.injEq, and_true] at hv
  obtain ⟨rfl, rfl, rfl⟩ := hv
  obtain ⟨cur', hg', hs'⟩ := hrow cur E _ hg
  have hlen' : ∀ r ∈ rows.set i cs, r.length = k := by
    intro r hr
    rcases List.mem_or_eq_of_mem_set hr with h | h
    · exact hlen r h
    · rw [h]; exact hcs
  have hfl : (rows.set i cs).flatten.length = l.length * k := by
    have : ∀ (rs : List (List Value)), (∀ r ∈ rs, r.length = k) → rs.flatten.length = rs.length * k := by
      intro rs; induction rs with
      | nil => intro _; simp
      | cons r rs ih => intro hh; simp only [List.flatten_cons, List.length_append, List.length_cons]; rw [ih fun r hr => hh r (by simp [hr]), hh r (by simp), Nat.add_mul]; omega
    rw [this _ hlen', List.length_set, h1]
  refine ⟨rows.set i cs, by simp [h1], ⟨by rw [hfl, List.length_set], .inr ⟨g, cap, cur', ?_, hb0, hg', ?_, hm, by rw [hs']; exact hsz, ?_⟩⟩, fun q r y hr hy => ?_⟩
  · rw [List.length_set]
  · rw [List.length_set]; exact hc
  · rw [List.length_set]
    refine List.ext_getElem? fun j => ?_
    rcases Nat.lt_or_ge j (l.length * k) with hj | hj
    · rw [List.getElem?_take_of_lt hj]
      have hkp : 0 < k := by rcases Nat.eq_zero_or_pos k with h | h; (subst h; omega); exact h
      obtain ⟨u, hu⟩ : ∃ u, (rows.set i cs).flatten[j]? = some u := ⟨_, List.getElem?_eq_getElem (by rw [hfl]; exact hj)⟩
      rw [hu]
      obtain ⟨r, hr, hru⟩ := flatten_at hkp _ hlen' j u hu
      have hjj : j / k * k + j % k = j := by rw [Nat.mul_comm]; exact Nat.div_add_mod j k
      have hmod := Nat.mod_lt j hkp
      rw [Array.getElem?_toList, ← cells_take hg' j]
      by_cases hq : j / k = i
      · rw [hq, List.getElem?_set_self (by omega)] at hr
        cases hr
        have := hin (j % k) u hru
        rw [hq] at hjj
        rwa [hjj] at this
      · rw [List.getElem?_set_ne (Ne.symm hq)] at hr
        rw [hout j ?_, cells_take hg j, ← Array.getElem?_toList]
        · have := flatten_getElem? rows hlen (j / k) (j % k) r u hr hru
          rw [hjj, ← htk, List.getElem?_take_of_lt hj] at this
          exact this
        · rcases Nat.lt_or_ge (j / k) i with h | h
          · left
            have := Nat.mul_le_mul_right k (show j / k + 1 ≤ i by omega)
            rw [Nat.add_mul] at this; omega
          · right
            have := Nat.mul_le_mul_right k (show i + 1 ≤ j / k by omega)
            rw [Nat.add_mul] at this; omega
    · rw [List.getElem?_eq_none (by rw [List.length_take]; omega), List.getElem?_eq_none (by rw [hfl]; exact hj)]
  · have hS : ∀ b, S b ∧ some b ≠ (Value.slice (some ⟨g, 0, none⟩) l.length cap).ownBlock → b < w.heap.size → S b ∧ b ≠ g := fun b hb _ => ⟨hb.1, fun e => hb.2 (by rw [e]; rfl)⟩
    have hS' : ∀ b, S' b ∧ b ≠ g → b < w'.heap.size → S' b ∧ some b ≠ (Value.slice (some ⟨g, 0, none⟩) (l.set i x).length cap).ownBlock := fun b hb _ => ⟨hb.1, fun e => hb.2 (by simpa [Value.ownBlock] using e)⟩
    by_cases hq : q = i
    · subst hq
      rw [List.getElem?_set_self (by omega)] at hr
      rw [List.getElem?_set_self hi] at hy
      cases hr; cases hy
      exact hR.sub hx' fun b hb _ => ⟨hb.1, fun e => hb.2 (by simpa [Value.ownBlock] using e)⟩
    · rw [List.getElem?_set_ne (Ne.symm hq)] at hr hy
      exact hR.sub (hoth q r y hq hy (hR.sub (h3 q r y hr hy) hS)) fun b hb _ => ⟨hb.1, fun e => hb.2 (by simpa [Value.ownBlock] using e)⟩

theorem lt_of_heap_eq {w w' : World} {b : Nat} (h : w'.heap[b]? = w.heap[b]?) (hb : b < w.heap.size) : b < w'.heap.size := by
  have h3 : w.heap[b]? = some (w.heap[b]'hb) := Array.getElem?_eq_getElem _
  rw [h3] at h
  exact (Array.getElem?_eq_some_iff.1 h).1

/-- One element with the blocks that it leads to: what it is, and how it may be changed. -/
theorem OwD.upd {α : Type} {E k : Nat} {R : Rel α} (hR : RelOk R k) {w : World} {g cap n : Nat} {l : List α} {S : Nat → Prop} (h : OwD E k R w (.slice (some ⟨g, 0, none⟩) n cap) l S) (i : Nat) (hi : i < l.length) :
    ∃ row G, R w row l[i] G ∧ (∀ b, G b → S b ∧ b ≠ g ∧ b < w.heap.size) ∧ (∀ (j : Nat) (u : Value), row[j]? = some u → w.cell? ⟨g, i * k + j, none⟩ = some u) ∧
      ∀ (w' : World) (S' G' : Nat → Prop) (row' : List Value) (x' : α), KeepsRow g w w' →
        (∀ j, j < i * k ∨ i * k + k ≤ j → w'.cell? ⟨g, j, none⟩ = w.cell? ⟨g, j, none⟩) → (∀ (j : Nat) (u : Value), row'[j]? = some u → w'.cell? ⟨g, i * k + j, none⟩ = some u) →
        (∀ b, S b → b ≠ g → ¬ G b → b < w.heap.size → w'.heap[b]? = w.heap[b]?) → (∀ b, S b → S' b) → (∀ b, G' b → (G b ∨ w.heap.size ≤ b) ∧ S' b ∧ b ≠ g ∧ b < w'.heap.size) → R w' row' x' G' →
        OwD E k R w' (.slice (some ⟨g, 0, none⟩) n cap) (l.set i x') S' := by
  obtain ⟨l2, hm, hap, ho⟩ := h
  have hl2 : l2.length = l.length := by rw [← hm, List.length_map]
  have hx2 : l2[i]? = some (l2[i]'(by omega)) := List.getElem?_eq_getElem (by omega)
  obtain ⟨row, hrow, hcells⟩ := ho.at (rG_ok hR) (show i < l2.length by omega)
  have hli : (l2[i]'(by omega)).1 = l[i] := by
    have : (l2.map (·.1))[i]? = l[i]? := by rw [hm]
    rw [List.getElem?_map, hx2, List.getElem?_eq_getElem hi] at this
    simpa using this
  refine ⟨row, (l2[i]'(by omega)).2, hli ▸ hrow.1, fun b hb => ⟨(hrow.2 b hb).1.1, (hrow.2 b hb).1.2, (hrow.2 b hb).2⟩, hcells, ?_⟩
  intro w' S' G' row' x' hkr hout hin hblk hSS hG' hx'
  have hgl : ∀ (q : Nat) (y : α × (Nat → Prop)), l2[q]? = some y → ∀ b, y.2 b → b < w.heap.size := fun q y hy b hb => ho.gLt y (List.mem_of_getElem? hy) b hb
  refine ⟨l2.set i (x', G'), ?_, ?_, ?_⟩
  · rw [List.map_set, hm]
  · have key : ∀ (q : Nat) (y : α × (Nat → Prop)), (l2.set i (x', G'))[q]? = some y → (q = i ∧ y = (x', G')) ∨ (q ≠ i ∧ l2[q]? = some y) := by
      intro q y hy
      by_cases hq : q = i
      · subst hq
        rw [List.getElem?_set_self (by omega)] at hy
        exact .inl ⟨rfl, by simpa using hy.symm⟩
      · rw [List.getElem?_set_ne (Ne.symm hq)] at hy
        exact .inr ⟨hq, hy⟩
    intro p q x y b hp hq hxb hyb
    rcases key p x hp with ⟨h1, rfl⟩ | ⟨h1, h1'⟩ <;> rcases key q y hq with ⟨h2, rfl⟩ | ⟨h2, h2'⟩
    · omega
    · rcases (hG' b hxb).1 with h | h
      · exact absurd (hap q i y _ b h2' hx2 hyb h) h2
      · have := hgl q y h2' b hyb; omega
    · rcases (hG' b hyb).1 with h | h
      · exact absurd (hap p i x _ b h1' hx2 hxb h) h1
      · have := hgl p x h1' b hxb; omega
    · exact hap p q x y b h1' h2' hxb hyb
  · refine ho.put (rG_ok hR) (by omega) (cs := row') ⟨hx', fun b hb => ⟨⟨(hG' b hb).2.1, (hG' b hb).2.2.1⟩, (hG' b hb).2.2.2⟩⟩ hkr hout hin ?_
    intro q r y hq hy hr
    have hne : ∀ b, y.2 b → ¬ (l2[i]'(by omega)).2 b := fun b hb hG => hq (hap q i y _ b hy hx2 hb hG)
    refine ⟨hR.move hr.1 fun b hb hl => ⟨hblk b (hr.2 b hb).1.1 (hr.2 b hb).1.2 (hne b hb) hl, hb⟩, fun b hb => ?_⟩
    have h4 := hr.2 b hb
    exact ⟨⟨hSS b h4.1.1, h4.1.2⟩, lt_of_heap_eq (hblk b h4.1.1 h4.1.2 (hne b hb) h4.2) h4.2⟩
theorem OwR.sub {α : Type} {E k : Nat} {R : Rel α} (h : RelOk R k) {w : World} {v : Value} {l : List α} {S S' : Nat → Prop} (ho : OwR E k R w v l S) (hs : ∀ b, S b → b < w.heap.size → S' b) : OwR E k R w v l S' :=
  ho.move h (fun _ _ => rfl) fun b hb _ hl => ⟨rfl, hs b hb hl⟩
theorem OwD.sub {α : Type} {E k : Nat} {R : Rel α} (hR : RelOk R k) {w : World} {v : Value} {l : List α} {S S' : Nat → Prop} (h : OwD E k R w v l S) (hs : ∀ b, S b → b < w.heap.size → S' b) : OwD E k R w v l S' := by
  obtain ⟨l2, hm, ha, ho⟩ := h
  exact ⟨l2, hm, ha, ho.sub (rG_ok hR) hs⟩
theorem OwD.thaw {α : Type} {E k : Nat} {R : Rel α} {w : World} {g n cap : Nat} {l : List α} {S : Nat → Prop} (h : OwD E k R w (.slice (some ⟨g, 0, none⟩) n cap) l S) (hl : 0 < l.length) (j : Nat) : w.frozen? ⟨g, j, none⟩ = false := by
  obtain ⟨g', cap', e, _, _, _, hf⟩ := h.shapePos hl
  simp only [Value.slice.injEq, Option.some.injEq, Addr.mk.injEq, and_true] at e
  rw [e.1]; exact hf j
/-- What is known of the world here, and no more. -/
theorem wp_abs {P : Program} {c : Code} {K : Exit → Act → World → Prop} {a : Act} {w : World} (F : World → Prop) (h : F w) (k : ∀ w', F w' → Code.wp P c K a w') : Code.wp P c K a w := k w h
theorem then_abs {K : Act → World → Prop} {Q : Exit → Act → World → Prop} {a : Act} {w : World} (F : World → Prop) (h : F w) (k : ∀ w', F w' → Exit.then K Q Exit.normal a w') : Exit.then K Q Exit.normal a w := k w h
theorem heap_drewN (w : World) (q b : Nat) : (w.drewN q).heap[b]? = w.heap[b]? := rfl
theorem below_alloc2 (w : World) (o o' : Obj) : Below w.heap.size w ((w.alloc o).alloc o') := (below_alloc w o).alloc (by rw [World.size_alloc]; omega) o'
theorem size_alloc2 (w : World) (o o' : Obj) : ((w.alloc o).alloc o').heap.size = w.heap.size + 2 := by rw [World.size_alloc, World.size_alloc]
/-- Two boxes that the call laid first, later on. -/
theorem fresh2 {w w' : World} {c d : Array Value} {t t' : TypeId} (h : Below (w.heap.size + 2) ((w.alloc (.cells c t)).alloc (.cells d t')) w') :
    (∀ i, w'.cell? ⟨w.heap.size, i, none⟩ = c[i]?) ∧ (∀ i, w'.frozen? ⟨w.heap.size, i, none⟩ = false) ∧ (∀ i, w'.cell? ⟨w.heap.size + 1, i, none⟩ = d[i]?) ∧ (∀ i, w'.frozen? ⟨w.heap.size + 1, i, none⟩ = false) ∧ w.heap.size + 1 < w'.heap.size := by
  have h1 : (w.alloc (.cells c t)).heap.size = w.heap.size + 1 := World.size_alloc _ _
  have hb : Below (w.heap.size + 1) (w.alloc (.cells c t)) w' := ((h1 ▸ below_alloc (w.alloc (.cells c t)) (.cells d t')) : Below (w.heap.size + 1) _ _).trans (h.mono (by omega))
  obtain ⟨a1, a2, a3⟩ := fresh hb
  have hb2 : Below ((w.alloc (.cells c t)).heap.size + 1) ((w.alloc (.cells c t)).alloc (.cells d t')) w' := by rw [h1]; exact h
  obtain ⟨b1, b2, b3⟩ := fresh hb2
  rw [h1] at b1 b2 b3
  exact ⟨a1, a2, b1, b2, b3⟩
end Go.Tk
