/- The program's data as plain Lean data, and how they lie in cells. No program in sight. -/
import Derived.Test.YtphkkkmjkagkbaaDoorKit
namespace Go.Tk
open Go Go.RowKit

structure ReplyD where
  code : Int
  n : Int
  text : List UInt8
structure KeptD where
  seq : Int
  reply : ReplyD
structure SessionD where
  client : Int
  id : Int
  acked : Int
  last : Int
  replies : List KeptD
structure LockD where
  name : List UInt8
  holder : Int
  fence : Int
  line : List Int
structure PairD where
  name : List UInt8
  value : List UInt8
  version : Int

def noReply : ReplyD := ⟨0, 0, []⟩
def noKept : KeptD := ⟨0, noReply⟩
def noSession : SessionD := ⟨0, 0, 0, 0, []⟩
def noLock : LockD := ⟨[], 0, 0, []⟩
def noPair : PairD := ⟨[], [], 0⟩

def rInt : Rel Int := fun _ cs x _ => cs = [.int .i64 x]
def rStr : Rel (List UInt8) := fun _ cs x _ => cs = [.string ⟨x.toArray⟩]
def rKept : Rel KeptD := fun _ cs x _ => cs = [.int .i64 x.seq, .int .i64 x.reply.code, .int .i64 x.reply.n, .string ⟨x.reply.text.toArray⟩]
def rSession : Rel SessionD := fun w cs x S => ∃ v, cs = [.int .i64 x.client, .int .i64 x.id, .int .i64 x.acked, .int .i64 x.last, v] ∧ SlR 4 rKept w v x.replies S
def rLock : Rel LockD := fun w cs x S => ∃ v, cs = [.string ⟨x.name.toArray⟩, .int .i64 x.holder, .int .i64 x.fence, v] ∧ SlR 1 rInt w v x.line S
def rPair : Rel PairD := fun _ cs x _ => cs = [.string ⟨x.name.toArray⟩, .string ⟨x.value.toArray⟩, .int .i64 x.version]

theorem rInt_ok : RelOk rInt 1 := ⟨by rintro w cs x S rfl; rfl, by rintro w cs x S rfl u hu; simp at hu; subst hu; rfl, fun h _ => h⟩
theorem rStr_ok : RelOk rStr 1 := ⟨by rintro w cs x S rfl; rfl, by rintro w cs x S rfl u hu; simp at hu; subst hu; rfl, fun h _ => h⟩
theorem rKept_ok : RelOk rKept 4 := ⟨by rintro w cs x S rfl; rfl, by rintro w cs x S rfl u hu; simp at hu; rcases hu with rfl | rfl | rfl | rfl <;> rfl, fun h _ => h⟩
theorem rPair_ok : RelOk rPair 3 := ⟨by rintro w cs x S rfl; rfl, by rintro w cs x S rfl u hu; simp at hu; rcases hu with rfl | rfl | rfl <;> rfl, fun h _ => h⟩
theorem SlR.oneCell {α : Type} {k : Nat} {R : Rel α} {w : World} {v : Value} {l : List α} {S : Nat → Prop} (h : SlR k R w v l S) : v.oneCell' = true := by
  obtain ⟨a, cap, rfl, _⟩ := h; rfl
theorem rSession_ok : RelOk rSession 5 where
  len := by rintro w cs x S ⟨v, rfl, _⟩; rfl
  one := by
    rintro w cs x S ⟨v, rfl, h⟩ u hu
    simp at hu
    rcases hu with rfl | rfl | rfl | rfl | rfl
    · rfl
    · rfl
    · rfl
    · rfl
    · exact h.oneCell
  move := by rintro w w' cs x S S' ⟨v, rfl, h⟩ hm; exact ⟨v, rfl, h.move rKept_ok (by decide) hm⟩
theorem rLock_ok : RelOk rLock 4 where
  len := by rintro w cs x S ⟨v, rfl, _⟩; rfl
  one := by
    rintro w cs x S ⟨v, rfl, h⟩ u hu
    simp at hu
    rcases hu with rfl | rfl | rfl | rfl
    · rfl
    · rfl
    · rfl
    · exact h.oneCell
  move := by rintro w w' cs x S S' ⟨v, rfl, h⟩ hm; exact ⟨v, rfl, h.move rInt_ok (by decide) hm⟩

/-- Sessions and locks whose inner slice is the call's own. -/
def rSessO (EK : Nat) : Rel SessionD := fun w cs x S => ∃ v, cs = [.int .i64 x.client, .int .i64 x.id, .int .i64 x.acked, .int .i64 x.last, v] ∧ OwR EK 4 rKept w v x.replies (fun _ => False) ∧ ∀ g, v.ownBlock = some g → S g
def rLockO (EI : Nat) : Rel LockD := fun w cs x S => ∃ v, cs = [.string ⟨x.name.toArray⟩, .int .i64 x.holder, .int .i64 x.fence, v] ∧ OwR EI 1 rInt w v x.line (fun _ => False) ∧ ∀ g, v.ownBlock = some g → S g
theorem OwR.oneCell {α : Type} {E k : Nat} {R : Rel α} {w : World} {v : Value} {l : List α} {S : Nat → Prop} (h : OwR E k R w v l S) : v.oneCell' = true := by
  obtain ⟨rows, _, h2, _⟩ := h
  rcases h2.2 with ⟨rfl, _⟩ | ⟨g, cap, cur, rfl, _⟩ <;> rfl
theorem rSessO_ok (EK : Nat) : RelOk (rSessO EK) 5 where
  len := by rintro w cs x S ⟨v, rfl, _⟩; rfl
  one := by
    rintro w cs x S ⟨v, rfl, h, _⟩ u hu
    simp at hu
    rcases hu with rfl | rfl | rfl | rfl | rfl
    · rfl
    · rfl
    · rfl
    · rfl
    · exact h.oneCell
  move := by
    rintro w w' cs x S S' ⟨v, rfl, h, hs⟩ hm
    exact ⟨v, rfl, h.move rKept_ok (fun g hg => (hm g (hs g hg) (h.lt g hg)).1) (fun b hb => hb.elim), fun g hg => (hm g (hs g hg) (h.lt g hg)).2⟩
theorem rLockO_ok (EI : Nat) : RelOk (rLockO EI) 4 where
  len := by rintro w cs x S ⟨v, rfl, _⟩; rfl
  one := by
    rintro w cs x S ⟨v, rfl, h, _⟩ u hu
    simp at hu
    rcases hu with rfl | rfl | rfl | rfl
    · rfl
    · rfl
    · rfl
    · exact h.oneCell
  move := by
    rintro w w' cs x S S' ⟨v, rfl, h, hs⟩ hm
    exact ⟨v, rfl, h.move rInt_ok (fun g hg => (hm g (hs g hg) (h.lt g hg)).1) (fun b hb => hb.elim), fun g hg => (hm g (hs g hg) (h.lt g hg)).2⟩
theorem rSessO.read {EK : Nat} {w : World} {cs : List Value} {x : SessionD} {S : Nat → Prop} (h : rSessO EK w cs x S) : rSession w cs x S := by
  obtain ⟨v, rfl, h, hs⟩ := h
  exact ⟨v, rfl, (h.move rKept_ok (fun _ _ => rfl) (fun b hb => hb.elim)).read rKept_ok (by decide) hs⟩
theorem rLockO.read {EI : Nat} {w : World} {cs : List Value} {x : LockD} {S : Nat → Prop} (h : rLockO EI w cs x S) : rLock w cs x S := by
  obtain ⟨v, rfl, h, hs⟩ := h
  exact ⟨v, rfl, (h.move rInt_ok (fun _ _ => rfl) (fun b hb => hb.elim)).read rInt_ok (by decide) hs⟩

/-- An element and the blocks that it leads to. -/
def rG {α : Type} (R : Rel α) : Rel (α × (Nat → Prop)) := fun w cs x S => R w cs x.1 x.2 ∧ ∀ b, x.2 b → S b ∧ b < w.heap.size
theorem rG_ok {α : Type} {R : Rel α} {k : Nat} (h : RelOk R k) : RelOk (rG R) k where
  len := fun hr => h.len hr.1
  one := fun hr => h.one hr.1
  move := by
    rintro w w' cs ⟨x, G⟩ S S' ⟨hr, hg⟩ hm
    refine ⟨h.move hr fun b hb hl => ⟨(hm b (hg b hb).1 hl).1, hb⟩, fun b hb => ?_⟩
    obtain ⟨h1, h2⟩ := hm b (hg b hb).1 (hg b hb).2
    refine ⟨h2, ?_⟩
    have h3 : w.heap[b]? = some (w.heap[b]'(hg b hb).2) := Array.getElem?_eq_getElem _
    rw [h3] at h1
    exact (Array.getElem?_eq_some_iff.1 h1).1
/-- The blocks of any two elements are apart. -/
def Apart {α : Type} (l : List (α × (Nat → Prop))) : Prop := ∀ (i j : Nat) (x y : α × (Nat → Prop)) (b : Nat), l[i]? = some x → l[j]? = some y → x.2 b → y.2 b → i = j
theorem Apart.nil {α : Type} : Apart ([] : List (α × (Nat → Prop))) := fun i j x y b h => by simp at h
theorem Apart.snoc {α : Type} {l : List (α × (Nat → Prop))} (h : Apart l) (y : α × (Nat → Prop)) (hy : ∀ x ∈ l, ∀ b, x.2 b → ¬ y.2 b) : Apart (l ++ [y]) := by
  have key : ∀ (i : Nat) (x : α × (Nat → Prop)), (l ++ [y])[i]? = some x → (l[i]? = some x ∧ i < l.length) ∨ (i = l.length ∧ x = y) := by
    intro i x hx
    rcases Nat.lt_or_ge i l.length with hi | hi
    · rw [List.getElem?_append_left hi] at hx; exact .inl ⟨hx, hi⟩
    · rw [List.getElem?_append_right hi] at hx
      rcases Nat.eq_zero_or_pos (i - l.length) with h0 | h0
      · rw [h0] at hx; simp at hx; exact .inr ⟨by omega, hx.symm⟩
      · rw [List.getElem?_eq_none (by simp; omega)] at hx; cases hx
  intro i j x z b hx hz hxb hzb
  rcases key i x hx with ⟨h1, h1'⟩ | ⟨h1, rfl⟩ <;> rcases key j z hz with ⟨h2, h2'⟩ | ⟨h2, rfl⟩
  · exact h i j x z b h1 h2 hxb hzb
  · exact absurd hzb (hy x (List.mem_of_getElem? h1) b hxb)
  · exact absurd hxb (hy z (List.mem_of_getElem? h2) b hzb)
  · omega
theorem OwR.gLt {α : Type} {E k : Nat} {R : Rel α} {w : World} {v : Value} {l : List (α × (Nat → Prop))} {S : Nat → Prop} (h : OwR E k (rG R) w v l S) : ∀ x ∈ l, ∀ b, x.2 b → b < w.heap.size := by
  obtain ⟨rows, h1, _, h3⟩ := h
  intro x hx b hb
  obtain ⟨i, hi, rfl⟩ := List.getElem_of_mem hx
  exact ((h3 i (rows[i]'(by omega)) l[i] (List.getElem?_eq_getElem (by omega)) (List.getElem?_eq_getElem hi)).2 b hb).2
/-- A slice of the call's own, its elements' blocks apart. -/
def OwD {α : Type} (E k : Nat) (R : Rel α) (w : World) (v : Value) (l : List α) (S : Nat → Prop) : Prop :=
  ∃ l2 : List (α × (Nat → Prop)), l2.map (·.1) = l ∧ Apart l2 ∧ OwR E k (rG R) w v l2 S
theorem OwD.own {α : Type} {E k : Nat} {R : Rel α} (hR : RelOk R k) {w : World} {v : Value} {l : List α} {S : Nat → Prop} (h : OwD E k R w v l S) : OwR E k R w v l S := by
  obtain ⟨l2, hm, _, rows, h1, h2, h3⟩ := h
  have hl : l2.length = l.length := by rw [← hm, List.length_map]
  refine ⟨rows, by omega, by rw [← hl]; exact h2, fun i r x hr hx => ?_⟩
  rw [← hm, List.getElem?_map] at hx
  obtain ⟨y, hy, rfl⟩ := Option.map_eq_some_iff.1 hx
  have h4 := h3 i r y hr hy
  exact hR.move h4.1 fun b hb _ => ⟨rfl, (h4.2 b hb).1⟩
theorem OwD.below {α : Type} {E k : Nat} {R : Rel α} (hR : RelOk R k) {w w' : World} {v : Value} {l : List α} {S : Nat → Prop} (h : OwD E k R w v l S) (hb : Below w.heap.size w w') : OwD E k R w' v l S := by
  obtain ⟨l2, hm, ha, ho⟩ := h
  exact ⟨l2, hm, ha, ho.below (rG_ok hR) hb⟩
theorem OwR.map {α : Type} {E k : Nat} {R R' : Rel α} (hr : ∀ (w : World) (cs : List Value) (x : α) (S : Nat → Prop), R w cs x S → R' w cs x S) {w : World} {v : Value} {l : List α} {S : Nat → Prop} (h : OwR E k R w v l S) : OwR E k R' w v l S := by
  obtain ⟨rows, h1, h2, h3⟩ := h
  exact ⟨rows, h1, h2, fun i r x hr' hx => hr _ _ _ _ (h3 i r x hr' hx)⟩
theorem SlR.map {α : Type} {k : Nat} {R R' : Rel α} (hr : ∀ (w : World) (cs : List Value) (x : α) (S : Nat → Prop), R w cs x S → R' w cs x S) {w : World} {v : Value} {l : List α} {S : Nat → Prop} (h : SlR k R w v l S) : SlR k R' w v l S := by
  obtain ⟨a, cap, hv, h1, h2, h3, h4⟩ := h
  refine ⟨a, cap, hv, h1, h2, h3, fun i x hx => ?_⟩
  obtain ⟨b, off, row, ha, hs, hrow, hc⟩ := h4 i x hx
  exact ⟨b, off, row, ha, hs, hr _ _ _ _ hrow, hc⟩
theorem OwD.readSess {E EK : Nat} {w : World} {v : Value} {l : List SessionD} {S : Nat → Prop} (h : OwD E 5 (rSessO EK) w v l S) (hS : ∀ g, v.ownBlock = some g → S g) : SlR 5 rSession w v l S :=
  ((h.own (rSessO_ok EK)).read (rSessO_ok EK) (by decide) hS).map fun _ _ _ _ hr => hr.read
theorem OwD.readLock {E EI : Nat} {w : World} {v : Value} {l : List LockD} {S : Nat → Prop} (h : OwD E 4 (rLockO EI) w v l S) (hS : ∀ g, v.ownBlock = some g → S g) : SlR 4 rLock w v l S :=
  ((h.own (rLockO_ok EI)).read (rLockO_ok EI) (by decide) hS).map fun _ _ _ _ hr => hr.read
theorem OwD.shapePos {α : Type} {E k : Nat} {R : Rel α} {w : World} {v : Value} {l : List α} {S : Nat → Prop} (h : OwD E k R w v l S) (hl : 0 < l.length) :
    ∃ g cap, v = .slice (some ⟨g, 0, none⟩) l.length cap ∧ l.length ≤ cap ∧ cap ≤ maxLen ∧ g < w.heap.size ∧ ∀ j, w.frozen? ⟨g, j, none⟩ = false := by
  obtain ⟨l2, hm, _, rows, h1, h2, h3⟩ := h
  have hl2 : l2.length = l.length := by rw [← hm, List.length_map]
  rcases h2.2 with ⟨rfl, hn⟩ | ⟨g, cap, cur, rfl, _, hg, hc, hm', _⟩
  · omega
  · rw [hl2] at *
    exact ⟨g, cap, rfl, hc, hm', (Array.getElem?_eq_some_iff.1 hg).1, fun j => frozen_of_row w g j cur E hg⟩
/-- One element is another one; its cells, and blocks that are its own, may have changed. -/
theorem OwD.change {α : Type} {E k : Nat} {R : Rel α} (hR : RelOk R k) (hk : 0 < k) {w : World} {g cap n : Nat} {l : List α} {S : Nat → Prop} (h : OwD E k R w (.slice (some ⟨g, 0, none⟩) n cap) l S) (i : Nat) (hi : i < l.length) :
    ∃ row G, R w row l[i] G ∧ (∀ b, G b → S b ∧ b ≠ g ∧ b < w.heap.size) ∧ (∀ (j : Nat) (u : Value), row[j]? = some u → w.cell? ⟨g, i * k + j, none⟩ = some u) ∧
      ∀ (R' : Rel α) (w' : World) (S' : Nat → Prop) (row' : List Value) (x' : α), row'.length = k → (∀ (w : World) (cs : List Value) (x : α) (S : Nat → Prop), R w cs x S → R' w cs x S) →
        (∀ j, j < i * k ∨ i * k + k ≤ j → w'.cell? ⟨g, j, none⟩ = w.cell? ⟨g, j, none⟩) → (∀ (j : Nat) (u : Value), row'[j]? = some u → w'.cell? ⟨g, i * k + j, none⟩ = some u) →
        (∀ b, S b → b ≠ g → ¬ G b → b < w.heap.size → w'.heap[b]? = w.heap[b]?) → (∀ b, S b → S' b) → S' g → R' w' row' x' S' → SlR k R' w' (.slice (some ⟨g, 0, none⟩) n cap) (l.set i x') S' := by
  obtain ⟨l2, hm, hap, rows, h1, h2, h3⟩ := h
  have hl2 : l2.length = l.length := by rw [← hm, List.length_map]
  have hlen := OwR.rowsLen (E := E) (v := .slice (some ⟨g, 0, none⟩) n cap) (rG_ok hR) h1 h3
  have hx2 : l2[i]? = some (l2[i]'(by omega)) := List.getElem?_eq_getElem (by omega)
  have hr2 : rows[i]? = some (rows[i]'(by omega)) := List.getElem?_eq_getElem (by omega)
  have h4 := h3 i _ _ hr2 hx2
  have hli : (l2[i]'(by omega)).1 = l[i] := by
    have : (l2.map (·.1))[i]? = l[i]? := by rw [hm]
    rw [List.getElem?_map, hx2, List.getElem?_eq_getElem hi] at this
    simpa using this
  have hcell : ∀ (q : Nat) (r : List Value), rows[q]? = some r → ∀ (j : Nat) (u : Value), r[j]? = some u → w.cell? ⟨g, q * k + j, none⟩ = some u := by
    intro q r hr j u hu
    have hf := flatten_getElem? rows hlen q j r u hr hu
    have := h2.cells (g := g) rfl (q * k + j) u hf
    rwa [Addr.add_lit, Nat.zero_add] at this
  obtain ⟨hnc, hcm, hn⟩ : n ≤ cap ∧ cap ≤ maxLen ∧ n = l2.length := by
    rcases h2.2 with ⟨h, _⟩ | ⟨g', cap', cur, h, _, _, hc, hm', _⟩
    · simp at h
    · simp only [Value.slice.injEq, Option.some.injEq, Addr.mk.injEq, and_true] at h
      obtain ⟨_, h5, rfl⟩ := h
      exact ⟨by omega, hm', h5⟩
  refine ⟨rows[i]'(by omega), (l2[i]'(by omega)).2, hli ▸ h4.1, fun b hb => ⟨(h4.2 b hb).1.1, fun e => (h4.2 b hb).1.2 (by rw [e]; rfl), (h4.2 b hb).2⟩, hcell i _ hr2, ?_⟩
  intro R' w' S' row' x' hrl hRR hout hin hblk hSS hSg hx'
  have hsl : (l.set i x').length = n := by rw [List.length_set]; omega
  refine ⟨_, cap, by rw [hsl], by rw [hsl]; exact hnc, hcm, (fun h => by cases h), fun q y hy => ?_⟩
  have hq : q < l.length := by
    rcases Nat.lt_or_ge q (l.set i x').length with h | h
    · simpa using h
    · rw [List.getElem?_eq_none h] at hy; cases hy
  by_cases hqi : q = i
  · subst hqi
    rw [List.getElem?_set_self hi] at hy
    simp only [Option.some.injEq] at hy
    subst hy
    exact ⟨g, 0, row', rfl, hSg, hx', fun j u hu => by rw [Nat.zero_add]; exact hin j u hu⟩
  · rw [List.getElem?_set_ne (Ne.symm hqi)] at hy
    have hr5 : rows[q]? = some (rows[q]'(by omega)) := List.getElem?_eq_getElem (by omega)
    have hx5 : l2[q]? = some (l2[q]'(by omega)) := List.getElem?_eq_getElem (by omega)
    have h5 := h3 q _ _ hr5 hx5
    have hly : (l2[q]'(by omega)).1 = y := by
      have : (l2.map (·.1))[q]? = l[q]? := by rw [hm]
      rw [List.getElem?_map, hx5, hy] at this
      simpa using this
    refine ⟨g, 0, rows[q]'(by omega), rfl, hSg, ?_, fun j u hu => ?_⟩
    · have h6 : R w (rows[q]'(by omega)) y (l2[q]'(by omega)).2 := hly ▸ h5.1
      refine hRR _ _ _ _ (hR.move h6 fun b hb hbl => ⟨hblk b (h5.2 b hb).1.1 (fun e => (h5.2 b hb).1.2 (by rw [e]; rfl)) (fun hG => hqi (hap q i _ _ b hx5 hx2 hb hG)) hbl, hSS b (h5.2 b hb).1.1⟩)
    · have hjk : j < k := by
        have hl5 : (rows[q]'(by omega)).length = k := hlen _ (List.getElem_mem _)
        rcases Nat.lt_or_ge j (rows[q]'(by omega)).length with h | h
        · omega
        · rw [List.getElem?_eq_none h] at hu; cases hu
      have hc := hcell q _ hr5 j u hu
      rw [Nat.zero_add, hout (q * k + j) ?_]
      · exact hc
      · rcases Nat.lt_or_ge q i with hlt | hge
        · left
          have := Nat.mul_le_mul_right k (show q + 1 ≤ i by omega)
          rw [Nat.add_mul] at this; omega
        · right
          have := Nat.mul_le_mul_right k (show i + 1 ≤ q by omega)
          rw [Nat.add_mul] at this; omega
/-- The first of f 0, f 1, .. that is not 0. -/
def firstErr (f : Nat → Int) : Nat → Int
  | 0 => 0
  | n + 1 => if firstErr f n ≠ 0 then firstErr f n else f n
theorem firstErr_eq {f : Nat → Int} {i : Nat} (h0 : firstErr f i = 0) (hi : f i ≠ 0) : ∀ n, i < n → firstErr f n = f i
  | 0, h => by omega
  | n + 1, h => by
    rw [firstErr]
    rcases Nat.lt_or_ge i n with hl | hl
    · rw [firstErr_eq h0 hi n hl, if_pos hi]
    · obtain rfl : i = n := by omega
      rw [if_neg (by simpa using h0)]
theorem firstErr_succ {f : Nat → Int} {i : Nat} (h0 : firstErr f i = 0) (hi : f i = 0) : firstErr f (i + 1) = 0 := by
  rw [firstErr, if_neg (by simpa using h0), hi]
theorem firstErr_zero {f : Nat → Int} {n : Nat} : firstErr f n = 0 ↔ ∀ i, i < n → f i = 0 := by
  induction n with
  | zero => simp [firstErr]
  | succ n ih =>
    rw [firstErr]
    by_cases h : firstErr f n = 0
    · rw [if_neg (by simpa using h)]
      constructor
      · intro hn i hi
        rcases Nat.lt_or_ge i n with hl | hl
        · exact ih.1 h i hl
        · obtain rfl : i = n := by omega
          exact hn
      · intro hf; exact hf n (by omega)
    · rw [if_pos h]
      constructor
      · intro hn; exact absurd hn h
      · intro hf; exact ih.2 fun i hi => hf i (by omega)
end Go.Tk
