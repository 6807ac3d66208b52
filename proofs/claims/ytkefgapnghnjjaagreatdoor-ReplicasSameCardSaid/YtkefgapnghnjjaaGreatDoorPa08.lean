/- A part of the proof, laid together from: Deep, Box, SnapA, SnapB. -/
import Derived.Test.YtkefgapnghnjjaaGreatDoorPa07
import Derived.Deep.Draws
import Derived.Test.YtkefgapnghnjjaaGreatDoorPa06
import Derived.Test.YtkefgapnghnjjaaGreatDoorPa01
import Derived.Deep.RegionLaw
import Derived.BigQuiet
import Derived.Deep.DeepCutAuto
import Derived.Deep.QuietTactic
set_option linter.unusedSimpArgs false
set_option linter.unusedVariables false
namespace Go.Tk
open Go Go.RowKit
theorem OwR.put {α : Type} {E k : Nat} {R : Rel α} (hR : RelOk R k) {w w' : World} {g cap n : Nat} {l : List α} {S S' : Nat → Prop} (h : OwR E k R w (.slice (some ⟨g, 0, none⟩) n cap) l S) {i : Nat} (hi : i < l.length) {x : α} {cs : List Value}
    (hx' : R w' cs x (fun b => S' b ∧ b ≠ g)) (hrow : KeepsRow g w w') (hout : ∀ j, j < i * k ∨ i * k + k ≤ j → w'.cell? ⟨g, j, none⟩ = w.cell? ⟨g, j, none⟩) (hin : ∀ (j : Nat) (u : Value), cs[j]? = some u → w'.cell? ⟨g, i * k + j, none⟩ = some u)
    (hoth : ∀ (q : Nat) (r : List Value) (y : α), q ≠ i → l[q]? = some y → R w r y (fun b => S b ∧ b ≠ g) → R w' r y (fun b => S' b ∧ b ≠ g)) : OwR E k R w' (.slice (some ⟨g, 0, none⟩) n cap) (l.set i x) S' := by
  obtain ⟨rows, h1, h2, h3⟩ := h
  have hcs := hR.len hx'
  have hlen := OwR.rowsLen (E := E) (v := .slice (some ⟨g, 0, none⟩) n cap) hR h1 h3
  rcases h2.2 with ⟨h, _⟩ | ⟨g', cap', cur, hv, hb0, hg, hc, hm, hsz, htk⟩
  · simp at h
  simp only [Value.slice.injEq, Option.some.injEq, Addr.mk.injEq, and_true] at hv
  obtain ⟨rfl, rfl, rfl⟩ := hv
  obtain ⟨cur', hg', hs'⟩ := hrow cur E _ hg
  have hlen' : ∀ r ∈ rows.set i cs, r.length = k := by
    intro r hr
    rcases List.mem_or_eq_of_mem_set hr with h | h
    · exact hlen r h
    · rw [h]; exact hcs
  have hfl : (rows.set i cs).flatten.length = l.length * k := by
    have : ∀ (rs : List (List Value)), (∀ r ∈ rs, r.length = k) → rs.flatten.length = rs.length * k := by
      intro rs; induction rs with
      | nil => intro _; simp
      | cons r rs ih => intro hh; simp only [List.flatten_cons, List.length_append, List.length_cons]; rw [ih fun r hr => hh r (by simp [hr]), hh r (by simp), Nat.add_mul]; omega
    rw [this _ hlen', List.length_set, h1]
  refine ⟨rows.set i cs, by simp [h1], ⟨by rw [hfl, List.length_set], .inr ⟨g, cap, cur', ?_, hb0, hg', ?_, hm, by rw [hs']; exact hsz, ?_⟩⟩, fun q r y hr hy => ?_⟩
  · rw [List.length_set]
  · rw [List.length_set]; exact hc
  · rw [List.length_set]
    refine List.ext_getElem? fun j => ?_
    rcases Nat.lt_or_ge j (l.length * k) with hj | hj
    · rw [List.getElem?_take_of_lt hj]
      have hkp : 0 < k := by rcases Nat.eq_zero_or_pos k with h | h; (subst h; omega); exact h
      obtain ⟨u, hu⟩ : ∃ u, (rows.set i cs).flatten[j]? = some u := ⟨_, List.getElem?_eq_getElem (by rw [hfl]; exact hj)⟩
      rw [hu]
      obtain ⟨r, hr, hru⟩ := flatten_at hkp _ hlen' j u hu
      have hjj : j / k * k + j % k = j := by rw [Nat.mul_comm]; exact Nat.div_add_mod j k
      have hmod := Nat.mod_lt j hkp
      rw [Array.getElem?_toList, ← cells_take hg' j]
      by_cases hq : j / k = i
      · rw [hq, List.getElem?_set_self (by omega)] at hr
        cases hr
        have := hin (j % k) u hru
        rw [hq] at hjj
        rwa [hjj] at this
      · rw [List.getElem?_set_ne (Ne.symm hq)] at hr
        rw [hout j ?_, cells_take hg j, ← Array.getElem?_toList]
        · have := flatten_getElem? rows hlen (j / k) (j % k) r u hr hru
          rw [hjj, ← htk, List.getElem?_take_of_lt hj] at this
          exact this
        · rcases Nat.lt_or_ge (j / k) i with h | h
          · left
            have := Nat.mul_le_mul_right k (show j / k + 1 ≤ i by omega)
            rw [Nat.add_mul] at this; omega
          · right
            have := Nat.mul_le_mul_right k (show i + 1 ≤ j / k by omega)
            rw [Nat.add_mul] at this; omega
    · rw [List.getElem?_eq_none (by rw [List.length_take]; omega), List.getElem?_eq_none (by rw [hfl]; exact hj)]
  · have hS : ∀ b, S b ∧ some b ≠ (Value.slice (some ⟨g, 0, none⟩) l.length cap).ownBlock → b < w.heap.size → S b ∧ b ≠ g := fun b hb _ => ⟨hb.1, fun e => hb.2 (by rw [e]; rfl)⟩
    have hS' : ∀ b, S' b ∧ b ≠ g → b < w'.heap.size → S' b ∧ some b ≠ (Value.slice (some ⟨g, 0, none⟩) (l.set i x).length cap).ownBlock := fun b hb _ => ⟨hb.1, fun e => hb.2 (by simpa [Value.ownBlock] using e)⟩
    by_cases hq : q = i
    · subst hq
      rw [List.getElem?_set_self (by omega)] at hr
      rw [List.getElem?_set_self hi] at hy
      cases hr; cases hy
      exact hR.sub hx' fun b hb _ => ⟨hb.1, fun e => hb.2 (by simpa [Value.ownBlock] using e)⟩
    · rw [List.getElem?_set_ne (Ne.symm hq)] at hr hy
      exact hR.sub (hoth q r y hq hy (hR.sub (h3 q r y hr hy) hS)) fun b hb _ => ⟨hb.1, fun e => hb.2 (by simpa [Value.ownBlock] using e)⟩
theorem lt_of_heap_eq {w w' : World} {b : Nat} (h : w'.heap[b]? = w.heap[b]?) (hb : b < w.heap.size) : b < w'.heap.size := by
  have h3 : w.heap[b]? = some (w.heap[b]'hb) := Array.getElem?_eq_getElem _
  rw [h3] at h
  exact (Array.getElem?_eq_some_iff.1 h).1
theorem OwD.upd {α : Type} {E k : Nat} {R : Rel α} (hR : RelOk R k) {w : World} {g cap n : Nat} {l : List α} {S : Nat → Prop} (h : OwD E k R w (.slice (some ⟨g, 0, none⟩) n cap) l S) (i : Nat) (hi : i < l.length) :
    ∃ row G, R w row l[i] G ∧ (∀ b, G b → S b ∧ b ≠ g ∧ b < w.heap.size) ∧ (∀ (j : Nat) (u : Value), row[j]? = some u → w.cell? ⟨g, i * k + j, none⟩ = some u) ∧
      ∀ (w' : World) (S' G' : Nat → Prop) (row' : List Value) (x' : α), KeepsRow g w w' →
        (∀ j, j < i * k ∨ i * k + k ≤ j → w'.cell? ⟨g, j, none⟩ = w.cell? ⟨g, j, none⟩) → (∀ (j : Nat) (u : Value), row'[j]? = some u → w'.cell? ⟨g, i * k + j, none⟩ = some u) →
        (∀ b, S b → b ≠ g → ¬ G b → b < w.heap.size → w'.heap[b]? = w.heap[b]?) → (∀ b, S b → S' b) → (∀ b, G' b → (G b ∨ w.heap.size ≤ b) ∧ S' b ∧ b ≠ g ∧ b < w'.heap.size) → R w' row' x' G' →
        OwD E k R w' (.slice (some ⟨g, 0, none⟩) n cap) (l.set i x') S' := by
  obtain ⟨l2, hm, hap, ho⟩ := h
  have hl2 : l2.length = l.length := by rw [← hm, List.length_map]
  have hx2 : l2[i]? = some (l2[i]'(by omega)) := List.getElem?_eq_getElem (by omega)
  obtain ⟨row, hrow, hcells⟩ := ho.at (rG_ok hR) (show i < l2.length by omega)
  have hli : (l2[i]'(by omega)).1 = l[i] := by
    have : (l2.map (·.1))[i]? = l[i]? := by rw [hm]
    rw [List.getElem?_map, hx2, List.getElem?_eq_getElem hi] at this
    simpa using this
  refine ⟨row, (l2[i]'(by omega)).2, hli ▸ hrow.1, fun b hb => ⟨(hrow.2 b hb).1.1, (hrow.2 b hb).1.2, (hrow.2 b hb).2⟩, hcells, ?_⟩
  intro w' S' G' row' x' hkr hout hin hblk hSS hG' hx'
  have hgl : ∀ (q : Nat) (y : α × (Nat → Prop)), l2[q]? = some y → ∀ b, y.2 b → b < w.heap.size := fun q y hy b hb => ho.gLt y (List.mem_of_getElem? hy) b hb
  refine ⟨l2.set i (x', G'), ?_, ?_, ?_⟩
  · rw [List.map_set, hm]
  · have key : ∀ (q : Nat) (y : α × (Nat → Prop)), (l2.set i (x', G'))[q]? = some y → (q = i ∧ y = (x', G')) ∨ (q ≠ i ∧ l2[q]? = some y) := by
      intro q y hy
      by_cases hq : q = i
      · subst hq
        rw [List.getElem?_set_self (by omega)] at hy
        exact .inl ⟨rfl, by simpa using hy.symm⟩
      · rw [List.getElem?_set_ne (Ne.symm hq)] at hy
        exact .inr ⟨hq, hy⟩
    intro p q x y b hp hq hxb hyb
    rcases key p x hp with ⟨h1, rfl⟩ | ⟨h1, h1'⟩ <;> rcases key q y hq with ⟨h2, rfl⟩ | ⟨h2, h2'⟩
    · omega
    · rcases (hG' b hxb).1 with h | h
      · exact absurd (hap q i y _ b h2' hx2 hyb h) h2
      · have := hgl q y h2' b hyb; omega
    · rcases (hG' b hyb).1 with h | h
      · exact absurd (hap p i x _ b h1' hx2 hxb h) h1
      · have := hgl p x h1' b hxb; omega
    · exact hap p q x y b h1' h2' hxb hyb
  · refine ho.put (rG_ok hR) (by omega) (cs := row') ⟨hx', fun b hb => ⟨⟨(hG' b hb).2.1, (hG' b hb).2.2.1⟩, (hG' b hb).2.2.2⟩⟩ hkr hout hin ?_
    intro q r y hq hy hr
    have hne : ∀ b, y.2 b → ¬ (l2[i]'(by omega)).2 b := fun b hb hG => hq (hap q i y _ b hy hx2 hb hG)
    refine ⟨hR.move hr.1 fun b hb hl => ⟨hblk b (hr.2 b hb).1.1 (hr.2 b hb).1.2 (hne b hb) hl, hb⟩, fun b hb => ?_⟩
    have h4 := hr.2 b hb
    exact ⟨⟨hSS b h4.1.1, h4.1.2⟩, lt_of_heap_eq (hblk b h4.1.1 h4.1.2 (hne b hb) h4.2) h4.2⟩
theorem OwR.sub {α : Type} {E k : Nat} {R : Rel α} (h : RelOk R k) {w : World} {v : Value} {l : List α} {S S' : Nat → Prop} (ho : OwR E k R w v l S) (hs : ∀ b, S b → b < w.heap.size → S' b) : OwR E k R w v l S' :=
  ho.move h (fun _ _ => rfl) fun b hb _ hl => ⟨rfl, hs b hb hl⟩
theorem OwD.sub {α : Type} {E k : Nat} {R : Rel α} (hR : RelOk R k) {w : World} {v : Value} {l : List α} {S S' : Nat → Prop} (h : OwD E k R w v l S) (hs : ∀ b, S b → b < w.heap.size → S' b) : OwD E k R w v l S' := by
  obtain ⟨l2, hm, ha, ho⟩ := h
  exact ⟨l2, hm, ha, ho.sub (rG_ok hR) hs⟩
theorem OwD.thaw {α : Type} {E k : Nat} {R : Rel α} {w : World} {g n cap : Nat} {l : List α} {S : Nat → Prop} (h : OwD E k R w (.slice (some ⟨g, 0, none⟩) n cap) l S) (hl : 0 < l.length) (j : Nat) : w.frozen? ⟨g, j, none⟩ = false := by
  obtain ⟨g', cap', e, _, _, _, hf⟩ := h.shapePos hl
  simp only [Value.slice.injEq, Option.some.injEq, Addr.mk.injEq, and_true] at e
  rw [e.1]; exact hf j
theorem wp_abs {P : Program} {c : Code} {K : Exit → Act → World → Prop} {a : Act} {w : World} (F : World → Prop) (h : F w) (k : ∀ w', F w' → Code.wp P c K a w') : Code.wp P c K a w := k w h
theorem then_abs {K : Act → World → Prop} {Q : Exit → Act → World → Prop} {a : Act} {w : World} (F : World → Prop) (h : F w) (k : ∀ w', F w' → Exit.then K Q Exit.normal a w') : Exit.then K Q Exit.normal a w := k w h
theorem heap_drewN (w : World) (q b : Nat) : (w.drewN q).heap[b]? = w.heap[b]? := rfl
theorem below_alloc2 (w : World) (o o' : Obj) : Below w.heap.size w ((w.alloc o).alloc o') := (below_alloc w o).alloc (by rw [World.size_alloc]; omega) o'
theorem size_alloc2 (w : World) (o o' : Obj) : ((w.alloc o).alloc o').heap.size = w.heap.size + 2 := by rw [World.size_alloc, World.size_alloc]
theorem fresh2 {w w' : World} {c d : Array Value} {t t' : TypeId} (h : Below (w.heap.size + 2) ((w.alloc (.cells c t)).alloc (.cells d t')) w') :
    (∀ i, w'.cell? ⟨w.heap.size, i, none⟩ = c[i]?) ∧ (∀ i, w'.frozen? ⟨w.heap.size, i, none⟩ = false) ∧ (∀ i, w'.cell? ⟨w.heap.size + 1, i, none⟩ = d[i]?) ∧ (∀ i, w'.frozen? ⟨w.heap.size + 1, i, none⟩ = false) ∧ w.heap.size + 1 < w'.heap.size := by
  have h1 : (w.alloc (.cells c t)).heap.size = w.heap.size + 1 := World.size_alloc _ _
  have hb : Below (w.heap.size + 1) (w.alloc (.cells c t)) w' := ((h1 ▸ below_alloc (w.alloc (.cells c t)) (.cells d t')) : Below (w.heap.size + 1) _ _).trans (h.mono (by omega))
  obtain ⟨a1, a2, a3⟩ := fresh hb
  have hb2 : Below ((w.alloc (.cells c t)).heap.size + 1) ((w.alloc (.cells c t)).alloc (.cells d t')) w' := by rw [h1]; exact h
  obtain ⟨b1, b2, b3⟩ := fresh hb2
  rw [h1] at b1 b2 b3
  exact ⟨a1, a2, b1, b2, b3⟩
end Go.Tk

namespace Go.Tk
open Go Go.RowKit
structure BoxAt (w : World) (b : Nat) (cs : List Value) : Prop where
  cell : ∀ (j : Nat) (u : Value), cs[j]? = some u → w.cell? ⟨b, j, none⟩ = some u
  thaw : ∀ j, w.frozen? ⟨b, j, none⟩ = false
  lt : b < w.heap.size
theorem BoxAt.keep {w w' : World} {b : Nat} {cs : List Value} (h : BoxAt w b cs) (hb : w'.heap[b]? = w.heap[b]?) : BoxAt w' b cs :=
  ⟨fun j u hu => cell_keep (h.cell j u hu) hb, fun j => (World.frozen?_of_block (a := ⟨b, j, none⟩) hb).trans (h.thaw j), by
    have hs : w.heap[b]? = some (w.heap[b]'h.lt) := Array.getElem?_eq_getElem h.lt
    rw [← hb] at hs
    exact (Array.getElem?_eq_some_iff.1 hs).1⟩
theorem BoxAt.below {w w' : World} {b : Nat} {cs : List Value} (h : BoxAt w b cs) (hb : Below w.heap.size w w') : BoxAt w' b cs := h.keep (hb.block b h.lt)
theorem BoxAt.set {w : World} {b : Nat} {cs : List Value} (h : BoxAt w b cs) (i : Nat) (hi : i < cs.length) (u : Value) : BoxAt (w.setCell ⟨b, i, none⟩ u) b (cs.set i u) := by
  refine ⟨fun j v hv => ?_, fun j => (World.frozen?_setCell _ _ _ _).trans (h.thaw j), by rw [World.size_setCell]; exact h.lt⟩
  by_cases hij : i = j
  · subst hij
    rw [List.getElem?_set_self hi] at hv
    cases hv
    exact World.cell?_setCell_same w ⟨b, i, none⟩ u (h.cell i _ (List.getElem?_eq_getElem hi))
  · rw [List.getElem?_set_ne hij] at hv
    exact (cell_near hij).trans (h.cell j v hv)
theorem BoxAt.new {w : World} {cs : List Value} {E : Nat} : BoxAt (w.alloc (.cells cs.toArray E)) w.heap.size cs :=
  ⟨fun j u hu => (World.cell?_alloc_at _ _ _ _ rfl).trans (by simpa using hu), fun j => World.frozen?_alloc_at _ _ _ _ rfl, by rw [World.size_alloc]; omega⟩
theorem BoxAt.grown {w w' : World} {b : Nat} {cs : List Value} {r : Option Nat} (h : BoxAt w b cs) (hg : w.grownBy w' r) (hne : some b ≠ r) : BoxAt w' b cs := h.keep (hg.block b h.lt hne)
theorem BoxAt.far {w : World} {b c : Nat} {cs : List Value} (h : BoxAt w b cs) (hne : b ≠ c) (o : Nat) (u : Value) : BoxAt (w.setCell ⟨c, o, none⟩ u) b cs := h.keep (heap_far hne)
theorem BoxAt.drew {w : World} {b : Nat} {cs : List Value} (h : BoxAt w b cs) : BoxAt w.drew b cs := h.keep rfl
theorem OwR.inBlock {α : Type} {E k : Nat} {R : Rel α} {w : World} {a : Option Addr} {n cap : Nat} {l : List α} {S : Nat → Prop} (h : OwR E k R w (.slice a n cap) l S) (hl : 0 < l.length) : ∃ g, a = some ⟨g, 0, none⟩ := by
  obtain ⟨rows, h1, h2, h3⟩ := h
  rcases h2.2 with ⟨hv, h0⟩ | ⟨g, cap', cur, hv, _⟩
  · simp only [Value.slice.injEq] at hv; omega
  · simp only [Value.slice.injEq] at hv
    exact ⟨g, hv.1⟩
theorem OwR.room {α : Type} {E k : Nat} {R : Rel α} {w : World} {a : Option Addr} {n cap : Nat} {l : List α} {S : Nat → Prop} (h : OwR E k R w (.slice a n cap) l S) : l.length ≤ cap ∧ cap ≤ maxLen := by
  obtain ⟨rows, h1, h2, h3⟩ := h
  rcases h2.2 with ⟨hv, h0⟩ | ⟨g, cap', cur, hv, -, -, h4, h5, -⟩
  · simp only [Value.slice.injEq] at hv
    exact ⟨by omega, by unfold maxLen; omega⟩
  · simp only [Value.slice.injEq] at hv
    obtain ⟨-, -, rfl⟩ := hv
    exact ⟨h4, h5⟩
end Go.Tk

namespace Go.Tk
open Go Go.RowKit
theorem sealGo_next (s : List UInt8) (k : Nat) (hk : k < s.length) {x y : Nat} (h : sealGo (s.take k) 1 0 = (x, y)) :
    sealGo (s.take (k + 1)) 1 0 = ((x + s[k].toNat) % 65521, (y + (x + s[k].toNat) % 65521) % 65521) := by
  rw [List.take_succ_eq_append_getElem hk, sealGo_append, h]; rfl
theorem slr_bytes {w : World} {b : Nat} {l : List UInt8} (h : BoxAt w b (l.map fun (x : UInt8) => .int .u8 x.toNat)) (hl : l.length ≤ maxLen) : SlR 1 rByte w (.slice (some ⟨b, 0, none⟩) l.length l.length) l (fun _ => True) :=
  ⟨_, _, rfl, Nat.le_refl _, hl, (fun h => by cases h), fun i x hx => ⟨b, 0, [.int .u8 x.toNat], rfl, trivial, rfl, fun q u hu => by
    match q, hu with
    | 0, hu =>
      cases hu
      have := h.cell i (.int .u8 x.toNat) (by rw [List.getElem?_map, hx]; rfl)
      simpa using this⟩⟩
end Go.Tk
namespace Go.Proofs.YtkefgapnghnjjaaGreatDoor
open Go.RowKit Go.Tk
set_option linter.unusedSimpArgs false in
set_option maxRecDepth 100000 in
set_option maxHeartbeats 1600000 in
theorem seal_calls (s : List UInt8) (hs : s.length ≤ 1000000) (w : World) :
    Calls Tryz.prog 65 #[.string ⟨s.toArray⟩] w fun e w' => e = .returned (.string ⟨(sealB s).toArray⟩) ∧ Below w.heap.size w w' := by
  go_enter Tryz.func65, Tryz.ntmps65
  go_wp2
  go_loopw [3, 4, 8] (fun vx vy i wr => ∃ k x y : Nat, k ≤ s.length ∧ i = .int .i64 k ∧ vx = .int .i64 x ∧ vy = .int .i64 y ∧ x < 65521 ∧ y < 65521 ∧ Hid (sealGo (s.take k) 1 0 = (x, y)) ∧ wr = w)
    (fun _ _ i _ => s.length - (intOf i).toNat)
  case atStart => exact ⟨0, 1, 0, by omega, rfl, rfl, rfl, by omega, by omega, Lib.hid rfl, rfl⟩
  case round =>
    obtain ⟨k, x, y, hk, rfl, rfl, rfl, hx, hy, HG, rfl⟩ := hrel
    by_cases hlt : k < s.length
    case neg =>
      have HF := Lib.hid (show sealB s = sealOf (x, y) by rw [sealB, ← HG.out, List.take_of_length_le (by omega)])
      clear HG
      have hbx := BoxAt.new (w := wr) (cs := [.int .u8 ((y : Int) / 256), .int .u8 ((y : Int) % 256), .int .u8 ((x : Int) / 256), .int .u8 ((x : Int) % 256)]) (E := 5)
      have he : [Value.int .u8 ((y : Int) / 256), .int .u8 ((y : Int) % 256), .int .u8 ((x : Int) / 256), .int .u8 ((x : Int) % 256)] = [(y / 256).toUInt8, y.toUInt8, (x / 256).toUInt8, x.toUInt8].map fun (x : UInt8) => Value.int .u8 x.toNat := by
        simp only [List.map_cons, List.map_nil, Nat.toUInt8_eq, UInt8.toNat_ofNat', Nat.reducePow, List.cons.injEq, Value.int.injEq, true_and, and_true]
        refine ⟨?_, ?_, ?_, ?_⟩ <;> omega
      have hbx2 : BoxAt (wr.alloc (.cells #[.int .u8 ((y : Int) / 256), .int .u8 ((y : Int) % 256), .int .u8 ((x : Int) / 256), .int .u8 ((x : Int) % 256)] 5)) wr.heap.size ([(y / 256).toUInt8, y.toUInt8, (x / 256).toUInt8, x.toUInt8].map fun (x : UInt8) => Value.int .u8 x.toNat) := by rw [← he]; exact hbx
      have hcv := run_string_of_bytes (P := Tryz.prog) Tryz.underlying85 Tryz.underlying5 Tryz.underlying9 (slr_bytes (l := [(y / 256).toUInt8, y.toUInt8, (x / 256).toUInt8, x.toUInt8]) hbx2 (by simp [maxLen]))
      simp only [List.length_cons, List.length_nil, Nat.reduceAdd, Nat.zero_add] at hcv
      clear he hbx hbx2
      go_wp2
      go_ret
      exact ⟨by rw [HF.out]; rfl, below_alloc wr _⟩
    have hc1 : ({ data := s.toArray } : ByteArray)[k]'hlt = s[k]'hlt := rfl
    have HN := Lib.hid (sealGo_next s k hlt HG.out)
    have hcl := UInt8.toNat_lt (s[k]'hlt)
    generalize (s[k]'hlt) = ch at *
    obtain ⟨c, hc⟩ : ∃ c, ch.toNat = c := ⟨_, rfl⟩
    rw [hc] at hcl HN
    go_wp2
    exact ⟨⟨k + 1, (x + c) % 65521, (y + (x + c) % 65521) % 65521, by omega, by go_num, by simp, by simp, by omega, by omega, HN, trivial⟩, by simp [intOf]; omega⟩
end Go.Proofs.YtkefgapnghnjjaaGreatDoor

namespace Go.Tk
open Go Go.RowKit
theorem encLine_next (l : List Int) (k : Nat) (hk : k < l.length) : encLine (l.take (k + 1)) = encLine (l.take k) ++ numB l[k] := by
  rw [List.take_succ_eq_append_getElem hk, encLine, List.flatMap_append]; simp [encLine]
theorem encLine_len (l : List Int) : (encLine l).length ≤ l.length * 7 := flatMap_len l fun x _ => numB_len x
theorem slr_ints {w : World} {b : Nat} {l : List Int} (h : BoxAt w b (l.map fun x => .int .i64 x)) (hl : l.length ≤ maxLen) : SlR 1 rInt w (.slice (some ⟨b, 0, none⟩) l.length l.length) l (fun c => c = b) :=
  ⟨_, _, rfl, Nat.le_refl _, hl, (fun h => by cases h), fun i x hx => ⟨b, 0, [.int .i64 x], rfl, rfl, rfl, fun q u hu => by
    match q, hu with
    | 0, hu =>
      cases hu
      have := h.cell i (.int .i64 x) (by rw [List.getElem?_map, hx]; rfl)
      simpa using this⟩⟩
theorem SlR.grownB {α : Type} {k : Nat} {R : Rel α} (hR : RelOk R k) (hk : 0 < k) {w w' : World} {v : Value} {l : List α} {S : Nat → Prop} {B : Nat} (h : SlR k R w v l S) (hg : w.grownBy w' (some B)) (hS : ∀ b, S b → b ≠ B) : SlR k R w' v l S :=
  h.move hR hk fun b hb hlt => ⟨hg.block b hlt (fun e => hS b hb (by cases e; rfl)), hb⟩
end Go.Tk
namespace Go.Proofs.YtkefgapnghnjjaaGreatDoor
open Go.RowKit Go.Tk
set_option linter.unusedSimpArgs false in
set_option maxRecDepth 100000 in
set_option maxHeartbeats 1600000 in
theorem numbers_calls (s : List UInt8) (ns : List Int) (B : Nat) (v : Value) (S : Nat → Prop) (w : World) (hx : BoxAt w B [.string ⟨s.toArray⟩]) (hs : SlR 1 rInt w v ns S) (hS : ∀ b, S b → b ≠ B) (hl : s.length + 7 * ns.length ≤ 1000000) :
    Calls Tryz.prog 63 #[.pointer (some ⟨B, 0, none⟩), v] w fun e w' => e = .returned (.tuple #[]) ∧ BoxAt w' B [.string ⟨(s ++ encLine ns).toArray⟩] ∧ w.grownBy w' (some B) := by
  obtain ⟨a, cap, hv, -, hm, -, -⟩ := id hs
  subst hv
  unfold maxLen at hm
  have HX := Lib.hid hx
  have HS := Lib.hid hs
  have HB := Lib.hid hS
  clear hx hs hS
  go_enter Tryz.func63, Tryz.ntmps63
  go_wp2
  go_loopw [5, 6, 7, 10] (fun _ _ _ i wr => ∃ n : Nat, n ≤ ns.length ∧ i = .int .i64 n ∧ Hid (BoxAt wr B [.string ⟨(s ++ encLine (ns.take n)).toArray⟩]) ∧ Hid (w.grownBy wr (some B)))
    (fun _ _ _ i _ => ns.length - (intOf i).toNat)
  case atStart => exact ⟨0, by omega, rfl, Lib.hid (by simpa [encLine] using HX.out), Lib.hid (grownBy_refl _ _)⟩
  case round =>
    obtain ⟨n, hn, rfl, hbx, hbg⟩ := hrel
    by_cases hlt : n < ns.length
    case neg =>
      have HF := Lib.hid (show ns.take n = ns from List.take_of_length_le (by omega))
      go_wp2
      refine bodyPost_end (v := .tuple #[]) (by simp [results, Tryz.results63, go_sem]) rfl ⟨rfl, ?_, hbg.out⟩
      have := hbx.out
      rw [HF.out] at this
      exact this
    obtain ⟨b, off, cap', row, hv, -, hrow, hcells⟩ := (HS.out.grownB rInt_ok (by decide) hbg.out HB.out).row n hlt
    simp only [Value.slice.injEq] at hv
    obtain ⟨rfl, -, rfl⟩ := hv
    have HT := Lib.hid (encLine_next ns n hlt)
    have hal : (s ++ encLine (ns.take n)).length ≤ 1000000 := by
      have := encLine_len (ns.take n)
      rw [List.length_take] at this
      rw [List.length_append]; omega
    have HAC := Lib.hid (List.append_assoc s (encLine (ns.take n)) (numB ns[n]))
    have hnl := numB_len ns[n]
    generalize ns[n] = x at *
    generalize s ++ encLine (ns.take n) = acc at *
    obtain rfl := hrow
    have q0 := hcells 0 _ rfl
    simp only [Nat.mul_one, Nat.add_zero] at q0
    clear hcells
    have HC := Lib.hid (number_calls x wr)
    go_wp2_with fail
    refine HC.out.mono ?_
    rw [show (number x).1 = numB x from rfl]
    rintro e w2 ⟨rfl, hb2⟩
    generalize numB x = nb at *
    have hbx2 := hbx.out.below hb2
    have c0 := hbx2.cell 0 _ rfl; have t0 := hbx2.thaw 0
    clear HC q0
    go_wp2
    exact ⟨⟨n + 1, by omega, by go_num, Lib.hid (by rw [HT.out, ← HAC.out]; exact hbx2.set 0 (by simp) _), Lib.hid (grownBy_set1 (grownBy_trans hbg.out (grownBy_any hb2 _)) _ _)⟩, by simp [intOf]; omega⟩
set_option linter.unusedSimpArgs false in
set_option maxRecDepth 100000 in
set_option maxHeartbeats 1600000 in
theorem wtext_calls (s t : List UInt8) (B : Nat) (w : World) (hx : BoxAt w B [.string ⟨s.toArray⟩]) (hl : s.length ≤ 1000000) (ht : t.length ≤ 5000) :
    Calls Tryz.prog 64 #[.pointer (some ⟨B, 0, none⟩), .string ⟨t.toArray⟩] w fun e w' => e = .returned (.tuple #[]) ∧ BoxAt w' B [.string ⟨(s ++ textB t).toArray⟩] ∧ w.grownBy w' (some B) := by
  have HX := Lib.hid hx
  have HC := Lib.hid (text_calls t (by omega) w)
  have htl := textB_len ht
  clear hx
  go_enter Tryz.func64, Tryz.ntmps64
  go_wp2_with fail
  refine HC.out.mono ?_
  rw [show (text t).1 = textB t from rfl]
  rintro e w2 ⟨rfl, hb2⟩
  obtain ⟨nb, hnb⟩ : ∃ nb, textB t = nb := ⟨_, rfl⟩
  have HNB := Lib.hid hnb
  rw [hnb] at htl ⊢
  clear hnb
  have hbx2 := HX.out.below hb2
  have c0 := hbx2.cell 0 _ rfl; have t0 := hbx2.thaw 0
  clear HC
  go_wp2
  refine bodyPost_end (v := .tuple #[]) (by simp [results, Tryz.results64, go_sem]) rfl ⟨rfl, by rw [HNB.out]; exact hbx2.set 0 (by simp) _, grownBy_set1 (grownBy_any hb2 _) _ _⟩
end Go.Proofs.YtkefgapnghnjjaaGreatDoor
