/- What was set is got; all others are as they were. No program in sight. -/
import Derived.Test.YtphkkkmjkagkbaaDoorPairP
import Derived.Test.YtphkkkmjkagkbaaDoorKset
namespace Go.Tk
open Go Go.RowKit

theorem PrOk.uniq {l : List PairD} (h : PrOk l) {x y : PairD} (hx : x ∈ l) (hy : y ∈ l) (hn : x.name = y.name) : x = y := by
  obtain ⟨i, hi, rfl⟩ := List.getElem_of_mem hx
  obtain ⟨j, hj, rfl⟩ := List.getElem_of_mem hy
  have hp := List.pairwise_iff_getElem.1 h.names
  rcases Nat.lt_trichotomy i j with h1 | h1 | h1
  · have := hp i j (by rw [List.length_map]; omega) (by rw [List.length_map]; omega) h1
    simp only [List.getElem_map, hn] at this
    rw [less_irrefl] at this; cases this
  · subst h1; rfl
  · have := hp j i (by rw [List.length_map]; omega) (by rw [List.length_map]; omega) h1
    simp only [List.getElem_map, hn] at this
    rw [less_irrefl] at this; cases this
theorem pThere_mem {l : List PairD} (h : PrOk l) {x : PairD} (hx : x ∈ l) : pThere l x.name = true ∧ l.getD (pFind l x.name) noPair = x := by
  have ht : pThere l x.name = true := by
    cases hc : pThere l x.name
    · exact absurd rfl (pThere_no h hc x hx)
    · rfl
  refine ⟨ht, ?_⟩
  rw [getD_at (pThere_lt ht)]
  exact h.uniq (List.getElem_mem _) hx (pThere_name ht)
theorem pThere_iff {l : List PairD} (h : PrOk l) {t : List UInt8} : pThere l t = true ↔ ∃ x ∈ l, x.name = t := by
  constructor
  · intro ht; exact ⟨_, List.getElem_mem (pThere_lt ht), pThere_name ht⟩
  · rintro ⟨x, hx, rfl⟩; exact (pThere_mem h hx).1
/-- Pairs that came of at most n values set, at three names. -/
structure PrFew (n : Int) (l : List PairD) : Prop where
  ok : PrOk l
  name : ∀ x ∈ l, x.name ∈ kset
  vers : ∀ x ∈ l, x.version ≤ n
theorem kset_len {l : List PairD} (h : PrOk l) (hn : ∀ x ∈ l, x.name ∈ kset) : l.length ≤ 3 := by
  have hnd : (l.map (·.name)).Nodup := h.names.imp fun {a b} hab he => by subst he; rw [less_irrefl] at hab; cases hab
  have hs : (l.map (·.name)) ⊆ kset := fun a ha => by
    obtain ⟨x, hx, rfl⟩ := List.mem_map.1 ha
    exact hn x hx
  have := nodup_len _ _ hnd hs
  rw [List.length_map] at this
  exact this
theorem set_eq {l : List PairD} {name value : List UInt8} (h : PrOk l) (hn : lkName name = true) (hv : value.length ≤ 12) : prSet l name value =
    if pThere l name = false then
      (if l.length = 5 then (l, ⟨8, 0, []⟩, 0) else (l.take (pFind l name) ++ ⟨name, value, 1⟩ :: l.drop (pFind l name), ⟨0, 1, []⟩, 0))
    else if (l.getD (pFind l name) noPair).version = 1073741824 then (l, ⟨8, 0, []⟩, 0)
    else (l.set (pFind l name) ⟨(l.getD (pFind l name) noPair).name, value, (l.getD (pFind l name) noPair).version + 1⟩, ⟨0, (l.getD (pFind l name) noPair).version + 1, []⟩, 0) := by
  have hc := prCheck_ok.2 h
  rw [prSet, if_neg (by simp [hc]), if_neg (by simp [hn]), if_neg (by omega)]
theorem get_eq {l : List PairD} {name : List UInt8} (h : PrOk l) : prGet l name =
    if pThere l name = false then (⟨6, 0, []⟩, 0) else (⟨0, (l.getD (pFind l name) noPair).version, (l.getD (pFind l name) noPair).value⟩, 0) := by
  have hc := prCheck_ok.2 h
  rw [prGet, if_neg (by simp [hc])]
theorem set_few {n : Int} {l : List PairD} {k v : List UInt8} (h : PrFew n l) (hn0 : 0 ≤ n) (hn : n < 1073741824) (hk : k ∈ kset) (hv : v.length ≤ 12) :
    ∃ x r, prSet l k v = (x, r, 0) ∧ r.code = 0 ∧ r.n = (prGet l k).1.n + 1 ∧ (prGet l k).2 = 0 ∧ PrFew (n + 1) x ∧ (∃ m, (⟨k, v, m⟩ : PairD) ∈ x) ∧ (∀ y, y.name ≠ k → (y ∈ x ↔ y ∈ l)) ∧ x.length = l.length + (if pThere l k = true then 0 else 1) := by
  have hkn := kset_ok k hk
  have hlen := kset_len h.ok h.name
  rw [set_eq h.ok hkn hv, get_eq h.ok]
  by_cases ht : pThere l k = false
  · rw [if_pos ht, if_pos ht, if_neg (by omega)]
    have hins := h.ok.insert (x := ⟨k, v, 1⟩) ⟨hkn, hv, by simp⟩ (by omega) ht
    have hmem : ∀ y, y ∈ l.take (pFind l k) ++ (⟨k, v, 1⟩ : PairD) :: l.drop (pFind l k) ↔ y = ⟨k, v, 1⟩ ∨ y ∈ l := fun y => by
      rw [List.mem_append, List.mem_cons]
      conv => rhs; rw [← List.take_append_drop (pFind l k) l, List.mem_append]
      constructor
      · rintro (h | h | h)
        · exact .inr (.inl h)
        · exact .inl h
        · exact .inr (.inr h)
      · rintro (h | h | h)
        · exact .inr (.inl h)
        · exact .inl h
        · exact .inr (.inr h)
    have hfl : pFind l k ≤ l.length := bs_le _ _
    refine ⟨_, _, rfl, rfl, rfl, rfl, ⟨hins, fun y hy => ?_, fun y hy => ?_⟩, ⟨1, (hmem _).2 (.inl rfl)⟩, fun y hy => ?_, ?_⟩
    · rcases (hmem y).1 hy with rfl | hy
      · exact hk
      · exact h.name y hy
    · rcases (hmem y).1 hy with rfl | hy
      · show (1 : Int) ≤ n + 1; omega
      · have := h.vers y hy; omega
    · rw [hmem]
      constructor
      · rintro (rfl | hy')
        · exact absurd rfl hy
        · exact hy'
      · exact .inr
    · rw [if_neg (by rw [ht]; decide)]; simp; omega
  · have ht' : pThere l k = true := by simpa using ht
    have hlt := pThere_lt ht'
    have hnm := pThere_name ht'
    have hm := List.getElem_mem hlt
    have hve := h.vers _ hm
    have hone := h.ok.one _ hm
    rw [if_neg ht, if_neg ht, getD_at hlt, if_neg (by omega)]
    have hset := h.ok.set hlt (x := ⟨l[pFind l k].name, v, l[pFind l k].version + 1⟩) ⟨hone.name, hv, by have := hone.vers; simp only; omega⟩ rfl
    have hmem : ∀ y, y ∈ l.set (pFind l k) ⟨l[pFind l k].name, v, l[pFind l k].version + 1⟩ → y = ⟨l[pFind l k].name, v, l[pFind l k].version + 1⟩ ∨ y ∈ l := fun y hy => by
      rcases List.mem_or_eq_of_mem_set hy with h1 | h1
      · exact .inr h1
      · exact .inl h1
    refine ⟨_, _, rfl, rfl, rfl, rfl, ⟨hset, fun y hy => ?_, fun y hy => ?_⟩, ⟨l[pFind l k].version + 1, ?_⟩, fun y hy => ⟨fun hy' => ?_, fun hy' => ?_⟩, ?_⟩
    · rcases hmem y hy with rfl | hy
      · show l[pFind l k].name ∈ kset; rw [hnm]; exact hk
      · exact h.name y hy
    · rcases hmem y hy with rfl | hy
      · show l[pFind l k].version + 1 ≤ n + 1; omega
      · have := h.vers y hy; omega
    · rw [hnm]; exact List.mem_set hlt _
    · rcases hmem y hy' with rfl | hy'
      · exact absurd hnm hy
      · exact hy'
    · obtain ⟨j, hj, rfl⟩ := List.getElem_of_mem hy'
      have hne : pFind l k ≠ j := fun e => by subst e; exact hy hnm
      have : (l.set (pFind l k) ⟨l[pFind l k].name, v, l[pFind l k].version + 1⟩)[j]'(by rw [List.length_set]; exact hj) = l[j] := List.getElem_set_ne hne _
      rw [← this]; exact List.getElem_mem _
    · rw [if_pos ht', List.length_set]; rfl
theorem get_mem {l : List PairD} (h : PrOk l) {x : PairD} (hx : x ∈ l) : prGet l x.name = (⟨0, x.version, x.value⟩, 0) := by
  obtain ⟨h1, h2⟩ := pThere_mem h hx
  rw [get_eq h, if_neg (by rw [h1]; decide), h2]
theorem get_none {l : List PairD} (h : PrOk l) {t : List UInt8} (ht : ∀ x ∈ l, x.name ≠ t) : prGet l t = (⟨6, 0, []⟩, 0) := by
  rw [get_eq h, if_pos]
  cases hc : pThere l t
  · rfl
  · obtain ⟨x, hx, hxt⟩ := (pThere_iff h).1 hc
    exact absurd hxt (ht x hx)
end Go.Tk
