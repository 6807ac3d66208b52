/- A part of the proof, laid together from: Data, SearchP, SessP, BsP. -/
import Derived.Test.YtkefgapnghnjjaaGreatDoorPa01
set_option linter.unusedSimpArgs false
set_option linter.unusedVariables false
/- The program's data as plain Lean data, and how they lie in cells. No program in sight. -/
namespace Go.Tk
open Go Go.RowKit

structure ReplyD where
  code : Int
  n : Int
  text : List UInt8
structure KeptD where
  seq : Int
  reply : ReplyD
structure SessionD where
  client : Int
  id : Int
  acked : Int
  last : Int
  replies : List KeptD
structure LockD where
  name : List UInt8
  holder : Int
  fence : Int
  line : List Int
structure PairD where
  name : List UInt8
  value : List UInt8
  version : Int

def noReply : ReplyD := ⟨0, 0, []⟩
def noKept : KeptD := ⟨0, noReply⟩
def noSession : SessionD := ⟨0, 0, 0, 0, []⟩
def noLock : LockD := ⟨[], 0, 0, []⟩
def noPair : PairD := ⟨[], [], 0⟩

def rInt : Rel Int := fun _ cs x _ => cs = [.int .i64 x]
def rStr : Rel (List UInt8) := fun _ cs x _ => cs = [.string ⟨x.toArray⟩]
def rKept : Rel KeptD := fun _ cs x _ => cs = [.int .i64 x.seq, .int .i64 x.reply.code, .int .i64 x.reply.n, .string ⟨x.reply.text.toArray⟩]
def rSession : Rel SessionD := fun w cs x S => ∃ v, cs = [.int .i64 x.client, .int .i64 x.id, .int .i64 x.acked, .int .i64 x.last, v] ∧ SlR 4 rKept w v x.replies S
def rLock : Rel LockD := fun w cs x S => ∃ v, cs = [.string ⟨x.name.toArray⟩, .int .i64 x.holder, .int .i64 x.fence, v] ∧ SlR 1 rInt w v x.line S
def rPair : Rel PairD := fun _ cs x _ => cs = [.string ⟨x.name.toArray⟩, .string ⟨x.value.toArray⟩, .int .i64 x.version]

theorem rInt_ok : RelOk rInt 1 := ⟨by rintro w cs x S rfl; rfl, by rintro w cs x S rfl u hu; simp at hu; subst hu; rfl, fun h _ => h⟩
theorem rStr_ok : RelOk rStr 1 := ⟨by rintro w cs x S rfl; rfl, by rintro w cs x S rfl u hu; simp at hu; subst hu; rfl, fun h _ => h⟩
theorem rKept_ok : RelOk rKept 4 := ⟨by rintro w cs x S rfl; rfl, by rintro w cs x S rfl u hu; simp at hu; rcases hu with rfl | rfl | rfl | rfl <;> rfl, fun h _ => h⟩
theorem rPair_ok : RelOk rPair 3 := ⟨by rintro w cs x S rfl; rfl, by rintro w cs x S rfl u hu; simp at hu; rcases hu with rfl | rfl | rfl <;> rfl, fun h _ => h⟩
theorem SlR.oneCell {α : Type} {k : Nat} {R : Rel α} {w : World} {v : Value} {l : List α} {S : Nat → Prop} (h : SlR k R w v l S) : v.oneCell' = true := by
  obtain ⟨a, cap, rfl, _⟩ := h; rfl
theorem rSession_ok : RelOk rSession 5 where
  len := by rintro w cs x S ⟨v, rfl, _⟩; rfl
  one := by
    rintro w cs x S ⟨v, rfl, h⟩ u hu
    simp at hu
    rcases hu with rfl | rfl | rfl | rfl | rfl
    · rfl
    · rfl
    · rfl
    · rfl
    · exact h.oneCell
  move := by rintro w w' cs x S S' ⟨v, rfl, h⟩ hm; exact ⟨v, rfl, h.move rKept_ok (by decide) hm⟩
theorem rLock_ok : RelOk rLock 4 where
  len := by rintro w cs x S ⟨v, rfl, _⟩; rfl
  one := by
    rintro w cs x S ⟨v, rfl, h⟩ u hu
    simp at hu
    rcases hu with rfl | rfl | rfl | rfl
    · rfl
    · rfl
    · rfl
    · exact h.oneCell
  move := by rintro w w' cs x S S' ⟨v, rfl, h⟩ hm; exact ⟨v, rfl, h.move rInt_ok (by decide) hm⟩

/-- Sessions and locks whose inner slice is the call's own. -/
def rSessO (EK : Nat) : Rel SessionD := fun w cs x S => ∃ v, cs = [.int .i64 x.client, .int .i64 x.id, .int .i64 x.acked, .int .i64 x.last, v] ∧ OwR EK 4 rKept w v x.replies (fun _ => False) ∧ ∀ g, v.ownBlock = some g → S g
def rLockO (EI : Nat) : Rel LockD := fun w cs x S => ∃ v, cs = [.string ⟨x.name.toArray⟩, .int .i64 x.holder, .int .i64 x.fence, v] ∧ OwR EI 1 rInt w v x.line (fun _ => False) ∧ ∀ g, v.ownBlock = some g → S g
theorem OwR.oneCell {α : Type} {E k : Nat} {R : Rel α} {w : World} {v : Value} {l : List α} {S : Nat → Prop} (h : OwR E k R w v l S) : v.oneCell' = true := by
  obtain ⟨rows, _, h2, _⟩ := h
  rcases h2.2 with ⟨rfl, _⟩ | ⟨g, cap, cur, rfl, _⟩ <;> rfl
theorem rSessO_ok (EK : Nat) : RelOk (rSessO EK) 5 where
  len := by rintro w cs x S ⟨v, rfl, _⟩; rfl
  one := by
    rintro w cs x S ⟨v, rfl, h, _⟩ u hu
    simp at hu
    rcases hu with rfl | rfl | rfl | rfl | rfl
    · rfl
    · rfl
    · rfl
    · rfl
    · exact h.oneCell
  move := by
    rintro w w' cs x S S' ⟨v, rfl, h, hs⟩ hm
    exact ⟨v, rfl, h.move rKept_ok (fun g hg => (hm g (hs g hg) (h.lt g hg)).1) (fun b hb => hb.elim), fun g hg => (hm g (hs g hg) (h.lt g hg)).2⟩
theorem rLockO_ok (EI : Nat) : RelOk (rLockO EI) 4 where
  len := by rintro w cs x S ⟨v, rfl, _⟩; rfl
  one := by
    rintro w cs x S ⟨v, rfl, h, _⟩ u hu
    simp at hu
    rcases hu with rfl | rfl | rfl | rfl
    · rfl
    · rfl
    · rfl
    · exact h.oneCell
  move := by
    rintro w w' cs x S S' ⟨v, rfl, h, hs⟩ hm
    exact ⟨v, rfl, h.move rInt_ok (fun g hg => (hm g (hs g hg) (h.lt g hg)).1) (fun b hb => hb.elim), fun g hg => (hm g (hs g hg) (h.lt g hg)).2⟩
theorem rSessO.read {EK : Nat} {w : World} {cs : List Value} {x : SessionD} {S : Nat → Prop} (h : rSessO EK w cs x S) : rSession w cs x S := by
  obtain ⟨v, rfl, h, hs⟩ := h
  exact ⟨v, rfl, (h.move rKept_ok (fun _ _ => rfl) (fun b hb => hb.elim)).read rKept_ok (by decide) hs⟩
theorem rLockO.read {EI : Nat} {w : World} {cs : List Value} {x : LockD} {S : Nat → Prop} (h : rLockO EI w cs x S) : rLock w cs x S := by
  obtain ⟨v, rfl, h, hs⟩ := h
  exact ⟨v, rfl, (h.move rInt_ok (fun _ _ => rfl) (fun b hb => hb.elim)).read rInt_ok (by decide) hs⟩

/-- An element and the blocks that it leads to. -/
def rG {α : Type} (R : Rel α) : Rel (α × (Nat → Prop)) := fun w cs x S => R w cs x.1 x.2 ∧ ∀ b, x.2 b → S b ∧ b < w.heap.size
theorem rG_ok {α : Type} {R : Rel α} {k : Nat} (h : RelOk R k) : RelOk (rG R) k where
  len := fun hr => h.len hr.1
  one := fun hr => h.one hr.1
  move := by
    rintro w w' cs ⟨x, G⟩ S S' ⟨hr, hg⟩ hm
    refine ⟨h.move hr fun b hb hl => ⟨(hm b (hg b hb).1 hl).1, hb⟩, fun b hb => ?_⟩
    obtain ⟨h1, h2⟩ := hm b (hg b hb).1 (hg b hb).2
    refine ⟨h2, ?_⟩
    have h3 : w.heap[b]? = some (w.heap[b]'(hg b hb).2) := Array.getElem?_eq_getElem _
    rw [h3] at h1
    exact (Array.getElem?_eq_some_iff.1 h1).1
/-- The blocks of any two elements are apart. -/
def Apart {α : Type} (l : List (α × (Nat → Prop))) : Prop := ∀ (i j : Nat) (x y : α × (Nat → Prop)) (b : Nat), l[i]? = some x → l[j]? = some y → x.2 b → y.2 b → i = j
theorem Apart.nil {α : Type} : Apart ([] : List (α × (Nat → Prop))) := fun i j x y b h => by simp at h
theorem Apart.snoc {α : Type} {l : List (α × (Nat → Prop))} (h : Apart l) (y : α × (Nat → Prop)) (hy : ∀ x ∈ l, ∀ b, x.2 b → ¬ y.2 b) : Apart (l ++ [y]) := by
  have key : ∀ (i : Nat) (x : α × (Nat → Prop)), (l ++ [y])[i]? = some x → (l[i]? = some x ∧ i < l.length) ∨ (i = l.length ∧ x = y) := by
    intro i x hx
    rcases Nat.lt_or_ge i l.length with hi | hi
    · rw [List.getElem?_append_left hi] at hx; exact .inl ⟨hx, hi⟩
    · rw [List.getElem?_append_right hi] at hx
      rcases Nat.eq_zero_or_pos (i - l.length) with h0 | h0
      · rw [h0] at hx; simp at hx; exact .inr ⟨by omega, hx.symm⟩
      · rw [List.getElem?_eq_none (by simp; omega)] at hx; cases hx
  intro i j x z b hx hz hxb hzb
  rcases key i x hx with ⟨h1, h1'⟩ | ⟨h1, rfl⟩ <;> rcases key j z hz with ⟨h2, h2'⟩ | ⟨h2, rfl⟩
  · exact h i j x z b h1 h2 hxb hzb
  · exact absurd hzb (hy x (List.mem_of_getElem? h1) b hxb)
  · exact absurd hxb (hy z (List.mem_of_getElem? h2) b hzb)
  · omega
theorem OwR.gLt {α : Type} {E k : Nat} {R : Rel α} {w : World} {v : Value} {l : List (α × (Nat → Prop))} {S : Nat → Prop} (h : OwR E k (rG R) w v l S) : ∀ x ∈ l, ∀ b, x.2 b → b < w.heap.size := by
  obtain ⟨rows, h1, _, h3⟩ := h
  intro x hx b hb
  obtain ⟨i, hi, rfl⟩ := List.getElem_of_mem hx
  exact ((h3 i (rows[i]'(by omega)) l[i] (List.getElem?_eq_getElem (by omega)) (List.getElem?_eq_getElem hi)).2 b hb).2
/-- A slice of the call's own, its elements' blocks apart. -/
def OwD {α : Type} (E k : Nat) (R : Rel α) (w : World) (v : Value) (l : List α) (S : Nat → Prop) : Prop :=
  ∃ l2 : List (α × (Nat → Prop)), l2.map (·.1) = l ∧ Apart l2 ∧ OwR E k (rG R) w v l2 S
theorem OwD.own {α : Type} {E k : Nat} {R : Rel α} (hR : RelOk R k) {w : World} {v : Value} {l : List α} {S : Nat → Prop} (h : OwD E k R w v l S) : OwR E k R w v l S := by
  obtain ⟨l2, hm, _, rows, h1, h2, h3⟩ := h
  have hl : l2.length = l.length := by rw [← hm, List.length_map]
  refine ⟨rows, by omega, by rw [← hl]; exact h2, fun i r x hr hx => ?_⟩
  rw [← hm, List.getElem?_map] at hx
  obtain ⟨y, hy, rfl⟩ := Option.map_eq_some_iff.1 hx
  have h4 := h3 i r y hr hy
  exact hR.move h4.1 fun b hb _ => ⟨rfl, (h4.2 b hb).1⟩
theorem OwD.below {α : Type} {E k : Nat} {R : Rel α} (hR : RelOk R k) {w w' : World} {v : Value} {l : List α} {S : Nat → Prop} (h : OwD E k R w v l S) (hb : Below w.heap.size w w') : OwD E k R w' v l S := by
  obtain ⟨l2, hm, ha, ho⟩ := h
  exact ⟨l2, hm, ha, ho.below (rG_ok hR) hb⟩
theorem OwR.map {α : Type} {E k : Nat} {R R' : Rel α} (hr : ∀ (w : World) (cs : List Value) (x : α) (S : Nat → Prop), R w cs x S → R' w cs x S) {w : World} {v : Value} {l : List α} {S : Nat → Prop} (h : OwR E k R w v l S) : OwR E k R' w v l S := by
  obtain ⟨rows, h1, h2, h3⟩ := h
  exact ⟨rows, h1, h2, fun i r x hr' hx => hr _ _ _ _ (h3 i r x hr' hx)⟩
theorem SlR.map {α : Type} {k : Nat} {R R' : Rel α} (hr : ∀ (w : World) (cs : List Value) (x : α) (S : Nat → Prop), R w cs x S → R' w cs x S) {w : World} {v : Value} {l : List α} {S : Nat → Prop} (h : SlR k R w v l S) : SlR k R' w v l S := by
  obtain ⟨a, cap, hv, h1, h2, h3, h4⟩ := h
  refine ⟨a, cap, hv, h1, h2, h3, fun i x hx => ?_⟩
  obtain ⟨b, off, row, ha, hs, hrow, hc⟩ := h4 i x hx
  exact ⟨b, off, row, ha, hs, hr _ _ _ _ hrow, hc⟩
theorem OwD.readSess {E EK : Nat} {w : World} {v : Value} {l : List SessionD} {S : Nat → Prop} (h : OwD E 5 (rSessO EK) w v l S) (hS : ∀ g, v.ownBlock = some g → S g) : SlR 5 rSession w v l S :=
  ((h.own (rSessO_ok EK)).read (rSessO_ok EK) (by decide) hS).map fun _ _ _ _ hr => hr.read
theorem OwD.readLock {E EI : Nat} {w : World} {v : Value} {l : List LockD} {S : Nat → Prop} (h : OwD E 4 (rLockO EI) w v l S) (hS : ∀ g, v.ownBlock = some g → S g) : SlR 4 rLock w v l S :=
  ((h.own (rLockO_ok EI)).read (rLockO_ok EI) (by decide) hS).map fun _ _ _ _ hr => hr.read
theorem OwD.shapePos {α : Type} {E k : Nat} {R : Rel α} {w : World} {v : Value} {l : List α} {S : Nat → Prop} (h : OwD E k R w v l S) (hl : 0 < l.length) :
    ∃ g cap, v = .slice (some ⟨g, 0, none⟩) l.length cap ∧ l.length ≤ cap ∧ cap ≤ maxLen ∧ g < w.heap.size ∧ ∀ j, w.frozen? ⟨g, j, none⟩ = false := by
  obtain ⟨l2, hm, _, rows, h1, h2, h3⟩ := h
  have hl2 : l2.length = l.length := by rw [← hm, List.length_map]
  rcases h2.2 with ⟨rfl, hn⟩ | ⟨g, cap, cur, rfl, _, hg, hc, hm', _⟩
  · omega
  · rw [hl2] at *
    exact ⟨g, cap, rfl, hc, hm', (Array.getElem?_eq_some_iff.1 hg).1, fun j => frozen_of_row w g j cur E hg⟩
/-- One element is another one; its cells, and blocks that are its own, may have changed. -/
theorem OwD.change {α : Type} {E k : Nat} {R : Rel α} (hR : RelOk R k) (hk : 0 < k) {w : World} {g cap n : Nat} {l : List α} {S : Nat → Prop} (h : OwD E k R w (.slice (some ⟨g, 0, none⟩) n cap) l S) (i : Nat) (hi : i < l.length) :
    ∃ row G, R w row l[i] G ∧ (∀ b, G b → S b ∧ b ≠ g ∧ b < w.heap.size) ∧ (∀ (j : Nat) (u : Value), row[j]? = some u → w.cell? ⟨g, i * k + j, none⟩ = some u) ∧
      ∀ (R' : Rel α) (w' : World) (S' : Nat → Prop) (row' : List Value) (x' : α), row'.length = k → (∀ (w : World) (cs : List Value) (x : α) (S : Nat → Prop), R w cs x S → R' w cs x S) →
        (∀ j, j < i * k ∨ i * k + k ≤ j → w'.cell? ⟨g, j, none⟩ = w.cell? ⟨g, j, none⟩) → (∀ (j : Nat) (u : Value), row'[j]? = some u → w'.cell? ⟨g, i * k + j, none⟩ = some u) →
        (∀ b, S b → b ≠ g → ¬ G b → b < w.heap.size → w'.heap[b]? = w.heap[b]?) → (∀ b, S b → S' b) → S' g → R' w' row' x' S' → SlR k R' w' (.slice (some ⟨g, 0, none⟩) n cap) (l.set i x') S' := by
  obtain ⟨l2, hm, hap, rows, h1, h2, h3⟩ := h
  have hl2 : l2.length = l.length := by rw [← hm, List.length_map]
  have hlen := OwR.rowsLen (E := E) (v := .slice (some ⟨g, 0, none⟩) n cap) (rG_ok hR) h1 h3
  have hx2 : l2[i]? = some (l2[i]'(by omega)) := List.getElem?_eq_getElem (by omega)
  have hr2 : rows[i]? = some (rows[i]'(by omega)) := List.getElem?_eq_getElem (by omega)
  have h4 := h3 i _ _ hr2 hx2
  have hli : (l2[i]'(by omega)).1 = l[i] := by
    have : (l2.map (·.1))[i]? = l[i]? := by rw [hm]
    rw [List.getElem?_map, hx2, List.getElem?_eq_getElem hi] at this
    simpa using this
  have hcell : ∀ (q : Nat) (r : List Value), rows[q]? = some r → ∀ (j : Nat) (u : Value), r[j]? = some u → w.cell? ⟨g, q * k + j, none⟩ = some u := by
    intro q r hr j u hu
    have hf := flatten_getElem? rows hlen q j r u hr hu
    have := h2.cells (g := g) rfl (q * k + j) u hf
    rwa [Addr.add_lit, Nat.zero_add] at this
  obtain ⟨hnc, hcm, hn⟩ : n ≤ cap ∧ cap ≤ maxLen ∧ n = l2.length := by
    rcases h2.2 with ⟨h, _⟩ | ⟨g', cap', cur, h, _, _, hc, hm', _⟩
    · simp at h
    · simp only [Value.slice.injEq, Option.some.injEq, Addr.mk.injEq, and_true] at h
      obtain ⟨_, h5, rfl⟩ := h
      exact ⟨by omega, hm', h5⟩
  refine ⟨rows[i]'(by omega), (l2[i]'(by omega)).2, hli ▸ h4.1, fun b hb => ⟨(h4.2 b hb).1.1, fun e => (h4.2 b hb).1.2 (by rw [e]; rfl), (h4.2 b hb).2⟩, hcell i _ hr2, ?_⟩
  intro R' w' S' row' x' hrl hRR hout hin hblk hSS hSg hx'
  have hsl : (l.set i x').length = n := by rw [List.length_set]; omega
  refine ⟨_, cap, by rw [hsl], by rw [hsl]; exact hnc, hcm, (fun h => by cases h), fun q y hy => ?_⟩
  have hq : q < l.length := by
    rcases Nat.lt_or_ge q (l.set i x').length with h | h
    · simpa using h
    · rw [List.getElem?_eq_none h] at hy; cases hy
  by_cases hqi : q = i
  · subst hqi
    rw [List.getElem?_set_self hi] at hy
    simp only [Option.some.injEq] at hy
    subst hy
    exact ⟨g, 0, row', rfl, hSg, hx', fun j u hu => by rw [Nat.zero_add]; exact hin j u hu⟩
  · rw [List.getElem?_set_ne (Ne.symm hqi)] at hy
    have hr5 : rows[q]? = some (rows[q]'(by omega)) := List.getElem?_eq_getElem (by omega)
    have hx5 : l2[q]? = some (l2[q]'(by omega)) := List.getElem?_eq_getElem (by omega)
    have h5 := h3 q _ _ hr5 hx5
    have hly : (l2[q]'(by omega)).1 = y := by
      have : (l2.map (·.1))[q]? = l[q]? := by rw [hm]
      rw [List.getElem?_map, hx5, hy] at this
      simpa using this
    refine ⟨g, 0, rows[q]'(by omega), rfl, hSg, ?_, fun j u hu => ?_⟩
    · have h6 : R w (rows[q]'(by omega)) y (l2[q]'(by omega)).2 := hly ▸ h5.1
      refine hRR _ _ _ _ (hR.move h6 fun b hb hbl => ⟨hblk b (h5.2 b hb).1.1 (fun e => (h5.2 b hb).1.2 (by rw [e]; rfl)) (fun hG => hqi (hap q i _ _ b hx5 hx2 hb hG)) hbl, hSS b (h5.2 b hb).1.1⟩)
    · have hjk : j < k := by
        have hl5 : (rows[q]'(by omega)).length = k := hlen _ (List.getElem_mem _)
        rcases Nat.lt_or_ge j (rows[q]'(by omega)).length with h | h
        · omega
        · rw [List.getElem?_eq_none h] at hu; cases hu
      have hc := hcell q _ hr5 j u hu
      rw [Nat.zero_add, hout (q * k + j) ?_]
      · exact hc
      · rcases Nat.lt_or_ge q i with hlt | hge
        · left
          have := Nat.mul_le_mul_right k (show q + 1 ≤ i by omega)
          rw [Nat.add_mul] at this; omega
        · right
          have := Nat.mul_le_mul_right k (show i + 1 ≤ q by omega)
          rw [Nat.add_mul] at this; omega
/-- The first of f 0, f 1, .. that is not 0. -/
def firstErr (f : Nat → Int) : Nat → Int
  | 0 => 0
  | n + 1 => if firstErr f n ≠ 0 then firstErr f n else f n
theorem firstErr_eq {f : Nat → Int} {i : Nat} (h0 : firstErr f i = 0) (hi : f i ≠ 0) : ∀ n, i < n → firstErr f n = f i
  | 0, h => by omega
  | n + 1, h => by
    rw [firstErr]
    rcases Nat.lt_or_ge i n with hl | hl
    · rw [firstErr_eq h0 hi n hl, if_pos hi]
    · obtain rfl : i = n := by omega
      rw [if_neg (by simpa using h0)]
theorem firstErr_succ {f : Nat → Int} {i : Nat} (h0 : firstErr f i = 0) (hi : f i = 0) : firstErr f (i + 1) = 0 := by
  rw [firstErr, if_neg (by simpa using h0), hi]
theorem firstErr_zero {f : Nat → Int} {n : Nat} : firstErr f n = 0 ↔ ∀ i, i < n → f i = 0 := by
  induction n with
  | zero => simp [firstErr]
  | succ n ih =>
    rw [firstErr]
    by_cases h : firstErr f n = 0
    · rw [if_neg (by simpa using h)]
      constructor
      · intro hn i hi
        rcases Nat.lt_or_ge i n with hl | hl
        · exact ih.1 h i hl
        · obtain rfl : i = n := by omega
          exact hn
      · intro hf; exact hf n (by omega)
    · rw [if_pos h]
      constructor
      · intro hn; exact absurd hn h
      · intro hf; exact ih.2 fun i hi => hf i (by omega)
end Go.Tk

/- Binary search, plainly. -/
namespace Go.Tk

/-- The loop: what it comes to from p to q. -/
def bsGo (f : Nat → Int) : Nat → Nat → Nat → Nat
  | 0, p, _ => p
  | n + 1, p, q => if p < q then (if f ((p + q) / 2) < 0 then bsGo f n ((p + q) / 2 + 1) q else bsGo f n p ((p + q) / 2)) else p
def bs (f : Nat → Int) (n : Nat) : Nat := bsGo f n 0 n
def bsFound (f : Nat → Int) (n : Nat) : Bool := decide (bs f n < n) && (f (bs f n) == 0)
theorem bsGo_fuel (f : Nat → Int) : ∀ (n m p q : Nat), q - p ≤ n → q - p ≤ m → bsGo f n p q = bsGo f m p q
  | 0, 0, p, q, _, _ => rfl
  | 0, m + 1, p, q, h, _ => by rw [bsGo, bsGo, if_neg (by omega)]
  | n + 1, 0, p, q, _, h => by rw [bsGo, bsGo, if_neg (by omega)]
  | n + 1, m + 1, p, q, h1, h2 => by
    rw [bsGo, bsGo]
    by_cases h : p < q
    · rw [if_pos h, if_pos h]
      rw [bsGo_fuel f n m ((p + q) / 2 + 1) q (by omega) (by omega), bsGo_fuel f n m p ((p + q) / 2) (by omega) (by omega)]
    · rw [if_neg h, if_neg h]
theorem bsGo_le (f : Nat → Int) : ∀ (n p q : Nat), p ≤ q → p ≤ bsGo f n p q ∧ bsGo f n p q ≤ q
  | 0, p, q, h => ⟨Nat.le_refl _, h⟩
  | n + 1, p, q, h => by
    rw [bsGo]
    by_cases hlt : p < q
    · rw [if_pos hlt]
      split
      · have := bsGo_le f n ((p + q) / 2 + 1) q (by omega); omega
      · have := bsGo_le f n p ((p + q) / 2) (by omega); omega
    · rw [if_neg hlt]; omega
theorem bs_le (f : Nat → Int) (n : Nat) : bs f n ≤ n := (bsGo_le f n 0 n (Nat.zero_le _)).2
theorem bsGo_less (f : Nat → Int) {p q : Nat} (h : p < q) (hf : f ((p + q) / 2) < 0) : bsGo f (q - p) p q = bsGo f (q - ((p + q) / 2 + 1)) ((p + q) / 2 + 1) q := by
  rw [show q - p = (q - p - 1) + 1 by omega, bsGo, if_pos h, if_pos hf]
  exact bsGo_fuel f _ _ _ _ (by omega) (by omega)
theorem bsGo_more (f : Nat → Int) {p q : Nat} (h : p < q) (hf : ¬ f ((p + q) / 2) < 0) : bsGo f (q - p) p q = bsGo f ((p + q) / 2 - p) p ((p + q) / 2) := by
  rw [show q - p = (q - p - 1) + 1 by omega, bsGo, if_pos h, if_neg hf]
  exact bsGo_fuel f _ _ _ _ (by omega) (by omega)
def sessCmp (x : SessionD) (t : Int) : Int := x.client - t
def keptCmp (x : KeptD) (t : Int) : Int := x.seq - t
/-- The place of the first element that is such; -1: none is. -/
def fIdx {α : Type} (p : α → Bool) (l : List α) : Int := if l.findIdx p < l.length then (l.findIdx p : Nat) else -1
theorem fIdx_at {α : Type} {p : α → Bool} {l : List α} {n : Nat} (hn : n < l.length) (h : p l[n] = true) (hb : ∀ (j : Nat) (hj : j < l.length), j < n → p l[j] = false) : fIdx p l = n := by
  have h1 : l.findIdx p = n := (List.findIdx_eq hn).2 ⟨h, fun j hj => hb j (by omega) hj⟩
  rw [fIdx, h1, if_pos hn]
theorem fIdx_none {α : Type} {p : α → Bool} {l : List α} (hb : ∀ (j : Nat) (hj : j < l.length), p l[j] = false) : fIdx p l = -1 := by
  have h1 : l.findIdx p = l.length := List.findIdx_eq_length.2 fun x hx => by
    obtain ⟨j, hj, rfl⟩ := List.getElem_of_mem hx
    exact hb j hj
  rw [fIdx, h1, if_neg (by omega)]
theorem fIdx_cases {α : Type} (p : α → Bool) (l : List α) : (fIdx p l = -1 ∧ ∀ x ∈ l, p x = false) ∨ ∃ (n : Nat) (hn : n < l.length), fIdx p l = n ∧ p l[n] = true ∧ ∀ (j : Nat) (hj : j < l.length), j < n → p l[j] = false := by
  rcases Nat.lt_or_ge (l.findIdx p) l.length with h | h
  · refine .inr ⟨l.findIdx p, h, by rw [fIdx, if_pos h], List.findIdx_getElem (w := h), fun j hj hjn => ?_⟩
    have := List.not_of_lt_findIdx hjn
    simpa using this
  · have h1 : l.findIdx p = l.length := Nat.le_antisymm List.findIdx_le_length h
    exact .inl ⟨by rw [fIdx, if_neg (by omega)], fun x hx => List.findIdx_eq_length.1 h1 x hx⟩
end Go.Tk

/- The plain functions of package session. -/
namespace Go.Tk
open Go

def keptBad (s : SessionD) (i : Nat) : Prop :=
  (s.replies.getD i noKept).seq ≤ s.acked ∨ s.acked + 4 < (s.replies.getD i noKept).seq ∨ (0 < i ∧ (s.replies.getD i noKept).seq ≤ (s.replies.getD (i - 1) noKept).seq) ∨
  (s.replies.getD i noKept).reply.code < 0 ∨ 15 < (s.replies.getD i noKept).reply.code ∨ (s.replies.getD i noKept).reply.n < 0 ∨ 1073741824 < (s.replies.getD i noKept).reply.n ∨ 12 < (s.replies.getD i noKept).reply.text.length
instance (s : SessionD) (i : Nat) : Decidable (keptBad s i) := by unfold keptBad; infer_instance
def repliesErr (s : SessionD) : Int := firstErr (fun i => if keptBad s i then 1 else 0) s.replies.length
def replies (s : SessionD) : Bool := repliesErr s == 0
theorem replies_false {s : SessionD} {k : Nat} (hk : k < s.replies.length) (h0 : firstErr (fun i => if keptBad s i then 1 else 0) k = 0) (hb : keptBad s k) : replies s = false := by
  have h1 : (fun i => if keptBad s i then (1 : Int) else 0) k = 1 := if_pos hb
  have h2 : firstErr (fun i => if keptBad s i then (1 : Int) else 0) s.replies.length = (fun i => if keptBad s i then (1 : Int) else 0) k := firstErr_eq h0 (fun h => by have := h1.symm.trans h; cases this) _ hk
  rw [replies, repliesErr, h2.trans h1]; rfl
def sessBad (index : Int) (s : SessionD) : Prop :=
  s.client < 1 ∨ 9 < s.client ∨ s.acked < 0 ∨ 1048576 < s.acked ∨ s.id < 1 ∨ s.last < s.id ∨ index < s.last
instance (index : Int) (s : SessionD) : Decidable (sessBad index s) := by unfold sessBad; infer_instance
def sessErr (l : List SessionD) (index : Int) (i : Nat) : Int :=
  if sessBad index (l.getD i noSession) then 2
  else if replies (l.getD i noSession) = false then 4
  else if 0 < i ∧ (l.getD i noSession).client ≤ (l.getD (i - 1) noSession).client then 14
  else 0
def sessCheck (l : List SessionD) (index : Int) : Int :=
  if index < 0 ∨ 1073741824 < index then 2 else if 4 < l.length then 1 else firstErr (sessErr l index) l.length

theorem replies_ok {s : SessionD} (h : replies s = true) : ∀ i, i < s.replies.length → ¬ keptBad s i := by
  have h0 : repliesErr s = 0 := by simpa [replies] using h
  intro i hi hb
  have := firstErr_zero.1 h0 i hi
  rw [if_pos hb] at this; cases this
theorem replies_rise {s : SessionD} (h : replies s = true) : ∀ i, i < s.replies.length → s.acked + 1 + i ≤ (s.replies.getD i noKept).seq
  | 0, hi => by have := replies_ok h 0 hi; unfold keptBad at this; omega
  | i + 1, hi => by
    have h1 := replies_ok h (i + 1) hi
    have h2 := replies_rise h i (by omega)
    unfold keptBad at h1
    rw [Nat.add_sub_cancel] at h1
    omega
theorem replies_len {s : SessionD} (h : replies s = true) : s.replies.length ≤ 4 := by
  rcases Nat.lt_or_ge s.replies.length 5 with h5 | h5
  · omega
  · have h1 := replies_rise h 4 (by omega)
    have h2 := replies_ok h 4 (by omega)
    unfold keptBad at h2
    omega
/-- Sessions that may be. -/
structure SessOk (l : List SessionD) (index : Int) : Prop where
  idx : 0 ≤ index ∧ index ≤ 1073741824
  len : l.length ≤ 4
  bad : ∀ x ∈ l, ¬ sessBad index x
  rep : ∀ x ∈ l, replies x = true
  ord : ∀ i, 0 < i → i < l.length → (l.getD (i - 1) noSession).client < (l.getD i noSession).client
theorem getD_mem {α : Type} (l : List α) (i : Nat) (d : α) (h : i < l.length) : l.getD i d ∈ l := by
  rw [show l.getD i d = l[i] by simp [List.getD, h]]; exact List.getElem_mem h
theorem mem_getD {α : Type} (l : List α) (x : α) (d : α) (h : x ∈ l) : ∃ i, i < l.length ∧ l.getD i d = x := by
  obtain ⟨i, hi, rfl⟩ := List.getElem_of_mem h
  exact ⟨i, hi, by simp [List.getD, hi]⟩
theorem sessCheck_ok {l : List SessionD} {index : Int} : sessCheck l index = 0 ↔ SessOk l index := by
  rw [sessCheck]
  constructor
  · intro h
    split at h
    · cases h
    · split at h
      · cases h
      · have hz := firstErr_zero.1 h
        refine ⟨by omega, by omega, fun x hx => ?_, fun x hx => ?_, fun i h0 hi => ?_⟩
        · obtain ⟨i, hi, rfl⟩ := mem_getD l x noSession hx
          intro hb
          have := hz i hi
          rw [sessErr, if_pos hb] at this; cases this
        · obtain ⟨i, hi, rfl⟩ := mem_getD l x noSession hx
          have := hz i hi
          rw [sessErr] at this
          split at this
          · cases this
          · split at this
            · cases this
            · rename_i h; simpa using h
        · have := hz i hi
          rw [sessErr] at this
          split at this
          · cases this
          · split at this
            · cases this
            · split at this
              · cases this
              · rename_i h; omega
  · intro h
    rw [if_neg (by have := h.idx; omega), if_neg (by have := h.len; omega)]
    refine firstErr_zero.2 fun i hi => ?_
    rw [sessErr, if_neg (h.bad _ (getD_mem l i _ hi)), if_neg (by rw [h.rep _ (getD_mem l i _ hi)]; decide), if_neg (fun hc => by have := h.ord i hc.1 hi; omega)]
def sFind (l : List SessionD) (c : Int) : Nat := bs (fun i => sessCmp (l.getD i noSession) c) l.length
def sThere (l : List SessionD) (c : Int) : Bool := bsFound (fun i => sessCmp (l.getD i noSession) c) l.length
theorem sThere_lt {l : List SessionD} {c : Int} (h : sThere l c = true) : sFind l c < l.length := by
  simp only [sThere, bsFound, Bool.and_eq_true, decide_eq_true_eq] at h; exact h.1
theorem sThere_eq {l : List SessionD} {c : Int} (h : sThere l c = true) : (l.getD (sFind l c) noSession).client = c := by
  simp only [sThere, bsFound, Bool.and_eq_true, beq_iff_eq] at h
  have := h.2
  simp only [sessCmp] at this
  show (l.getD (bs _ _) noSession).client = c
  simp only [sessCmp]
  omega
def join (l : List SessionD) (index client : Int) : List SessionD × ReplyD × Int :=
  if sessCheck l index ≠ 0 then ([], noReply, sessCheck l index)
  else if client < 1 ∨ 9 < client ∨ index = 1073741824 then ([], noReply, 2)
  else if sThere l client = true then (l.set (sFind l client) { l.getD (sFind l client) noSession with last := index + 1 }, ⟨7, (l.getD (sFind l client) noSession).id, []⟩, 0)
  else if l.length = 4 then (l, ⟨8, 0, []⟩, 0)
  else (l.take (sFind l client) ++ ⟨client, index + 1, 0, index + 1, []⟩ :: l.drop (sFind l client), ⟨0, index + 1, []⟩, 0)
def freshP (index : Int) (x : SessionD) : Bool := decide (40 < RowKit.wrap64 (index + 1 - x.last))
def freshL (l : List SessionD) (index : Int) : List SessionD × Int := if sessCheck l index ≠ 0 then ([], sessCheck l index) else (l.filter (fun x => !freshP index x), 0)
end Go.Tk

/- Binary search over what is in order: what it finds. -/
namespace Go.Tk

theorem bsGo_spec (f : Nat → Int) (N : Nat) (mono : ∀ i j, i < j → j < N → f j < 0 → f i < 0) : ∀ (n p q : Nat), q - p ≤ n → p ≤ q → q ≤ N → (∀ i, i < p → f i < 0) → (∀ i, q ≤ i → i < N → ¬ f i < 0) →
    (∀ i, i < bsGo f n p q → f i < 0) ∧ (∀ i, bsGo f n p q ≤ i → i < N → ¬ f i < 0)
  | 0, p, q, hn, hpq, hq, h1, h2 => by
    obtain rfl : p = q := by omega
    exact ⟨h1, h2⟩
  | n + 1, p, q, hn, hpq, hq, h1, h2 => by
    rw [bsGo]
    by_cases hlt : p < q
    · rw [if_pos hlt]
      by_cases hf : f ((p + q) / 2) < 0
      · rw [if_pos hf]
        refine bsGo_spec f N mono n _ _ (by omega) (by omega) hq (fun i hi => ?_) h2
        rcases Nat.lt_or_ge i ((p + q) / 2) with h | h
        · exact mono i _ h (by omega) hf
        · rw [show i = (p + q) / 2 by omega]; exact hf
      · rw [if_neg hf]
        refine bsGo_spec f N mono n _ _ (by omega) (by omega) (by omega) h1 (fun i hi hN hfi => ?_)
        rcases Nat.lt_or_ge ((p + q) / 2) i with h | h
        · exact hf (mono _ i h hN hfi)
        · rw [show i = (p + q) / 2 by omega] at hfi; exact hf hfi
    · rw [if_neg hlt]
      obtain rfl : p = q := by omega
      exact ⟨h1, h2⟩
theorem bs_spec {f : Nat → Int} {N : Nat} (mono : ∀ i j, i < j → j < N → f j < 0 → f i < 0) : (∀ i, i < bs f N → f i < 0) ∧ (∀ i, bs f N ≤ i → i < N → ¬ f i < 0) :=
  bsGo_spec f N mono N 0 N (by omega) (by omega) (by omega) (by omega) (by omega)
theorem bs_eq {f : Nat → Int} {N i : Nat} (mono : ∀ i j, i < j → j < N → f j < 0 → f i < 0) (h1 : ∀ j, j < i → f j < 0) (h2 : i < N → ¬ f i < 0) (hi : i ≤ N) : bs f N = i := by
  obtain ⟨h3, h4⟩ := bs_spec mono
  rcases Nat.lt_trichotomy (bs f N) i with h | h | h
  · exact absurd (h1 _ h) (h4 _ (Nat.le_refl _) (by omega))
  · exact h
  · have := bs_le f N
    exact absurd (h3 i h) (h2 (by omega))
end Go.Tk
