/- LocksOne, plainly. -/
import Derived.Test.YtcjnnkbliapkgaaGoneAll
namespace Go.Tk
open Go
def kset : List (List UInt8) := [[97], [98], [107, 101, 121]]
theorem kname_mem (n : Int) : kname n ∈ kset := by
  unfold kname kset
  split
  · simp
  · split <;> simp
/-- Few locks, few times given, to the first five clients. -/
structure Small (n : Nat) (l : List LockD) : Prop where
  name : ∀ x ∈ l, x.name ∈ kset
  fence : ∀ x ∈ l, x.fence ≤ n + 1
  hold : ∀ x ∈ l, x.holder ≤ 5
  line : ∀ x ∈ l, ∀ y ∈ x.line, y ≤ 5
theorem Small.nil (n : Nat) : Small n [] := ⟨by simp, by simp, by simp, by simp⟩
theorem Small.more {n m : Nat} {l : List LockD} (h : Small n l) (hm : n ≤ m) : Small m l := ⟨h.name, fun x hx => by have := h.fence x hx; omega, h.hold, h.line⟩
theorem Small.set {n : Nat} {l : List LockD} (h : Small n l) {i : Nat} {x : LockD} (h1 : x.name ∈ kset) (h2 : x.fence ≤ n + 1) (h3 : x.holder ≤ 5) (h4 : ∀ y ∈ x.line, y ≤ 5) : Small n (l.set i x) := by
  refine ⟨fun y hy => ?_, fun y hy => ?_, fun y hy => ?_, fun y hy => ?_⟩ <;> rcases List.mem_or_eq_of_mem_set hy with h5 | h5
  · exact h.name y h5
  · rw [h5]; exact h1
  · exact h.fence y h5
  · rw [h5]; exact h2
  · exact h.hold y h5
  · rw [h5]; exact h3
  · exact h.line y h5
  · rw [h5]; exact h4
theorem passP_small {x : LockD} {n : Nat} (h2 : x.fence ≤ n + 1) (h4 : ∀ y ∈ x.line, y ≤ 5) : (passP x).fence ≤ (n + 1 : Nat) + 1 ∧ (passP x).holder ≤ 5 ∧ ∀ y ∈ (passP x).line, y ≤ 5 := by
  unfold passP
  split
  · rename_i hc
    refine ⟨by show x.fence + 1 ≤ _; omega, ?_, fun y hy => h4 y (List.mem_of_mem_drop hy)⟩
    show x.line.getD 0 0 ≤ 5
    rw [show x.line.getD 0 0 = x.line[0] by simp [List.getD, hc.1]]
    exact h4 _ (List.getElem_mem _)
  · exact ⟨by show x.fence ≤ _; omega, (show (0 : Int) ≤ 5 by decide), by simp⟩
theorem unline_small {x : LockD} {a : Int} (h4 : ∀ y ∈ x.line, y ≤ 5) : ∀ y ∈ (unline x a).line, y ≤ 5 := by
  unfold unline
  split
  · exact fun y hy => h4 y ((List.eraseIdx_sublist _ _).subset hy)
  · exact h4
theorem unline_same (x : LockD) (a : Int) : (unline x a).holder = x.holder ∧ (unline x a).fence = x.fence := by unfold unline; split <;> exact ⟨rfl, rfl⟩
theorem goneK_small {x : LockD} {a : Int} {n : Nat} (h2 : x.fence ≤ n + 1) (h3 : x.holder ≤ 5) (h4 : ∀ y ∈ x.line, y ≤ 5) : (goneK x a).fence ≤ (n + 1 : Nat) + 1 ∧ (goneK x a).holder ≤ 5 ∧ ∀ y ∈ (goneK x a).line, y ≤ 5 := by
  obtain ⟨e1, e2⟩ := unline_same x a
  unfold goneK
  split
  · exact passP_small (by rw [e2]; exact h2) (unline_small h4)
  · exact ⟨by rw [e2]; omega, by rw [e1]; exact h3, unline_small h4⟩
theorem take_small {l : List LockD} {name : List UInt8} {who : Int} {wt : Bool} {n : Nat} (h : LkOk l) (hs : Small n l) (hn : name ∈ kset) (hnm : lkName name = true) (hw : 1 ≤ who ∧ who ≤ 5) : Small (n + 1) (lkTake l name who wt).1 := by
  have hm := hs.more (Nat.le_succ n)
  rw [lkTake, if_neg (by rw [lk_begin h hnm (by omega)]; simp)]
  by_cases ht : lThere l name = false
  · rw [if_pos ht]
    split
    · exact hm
    · have key : ∀ y ∈ l.take (lFind l name) ++ ⟨name, who, 1, []⟩ :: l.drop (lFind l name), y = ⟨name, who, 1, []⟩ ∨ y ∈ l := fun y hy => by
        rcases List.mem_append.1 hy with hy | hy
        · exact .inr (List.mem_of_mem_take hy)
        · rcases List.mem_cons.1 hy with rfl | hy
          · exact .inl rfl
          · exact .inr (List.mem_of_mem_drop hy)
      refine ⟨fun y hy => ?_, fun y hy => ?_, fun y hy => ?_, fun y hy => ?_⟩ <;> rcases key y hy with h5 | h5
      · rw [h5]; exact hn
      · exact hm.name y h5
      · rw [h5]; show (1 : Int) ≤ _; omega
      · exact hm.fence y h5
      · rw [h5]; exact hw.2
      · exact hm.hold y h5
      · rw [h5]; simp
      · exact hm.line y h5
  · rw [if_neg ht]
    have ht' : lThere l name = true := by simpa using ht
    have hlt := lThere_lt ht'
    have hg : l.getD (lFind l name) noLock = l[lFind l name] := by simp [List.getD, hlt]
    rw [hg]
    have hx := List.getElem_mem hlt
    split
    · exact hm
    · split
      · split
        · exact hm
        · exact hm.set (hm.name l[lFind l name] hx) (by have := hs.fence l[lFind l name] hx; show l[lFind l name].fence + 1 ≤ _; omega) hw.2 (hm.line l[lFind l name] hx)
      · split
        · exact hm
        · split
          · exact hm
          · refine hm.set (hm.name l[lFind l name] hx) (hm.fence l[lFind l name] hx) (hm.hold l[lFind l name] hx) (fun y hy => ?_)
            rcases List.mem_append.1 hy with hy | hy
            · exact hm.line l[lFind l name] hx y hy
            · simp at hy; subst hy; exact hw.2
theorem free_small {l : List LockD} {name : List UInt8} {who : Int} {n : Nat} (h : LkOk l) (hs : Small n l) (hnm : lkName name = true) (hw : 1 ≤ who ∧ who ≤ 5) : Small (n + 1) (lkFree l name who).1 := by
  have hm := hs.more (Nat.le_succ n)
  rw [lkFree, if_neg (by rw [lk_begin h hnm (by omega)]; simp)]
  by_cases ht : lThere l name = false
  · rw [if_pos ht]; exact hm
  · rw [if_neg ht]
    have ht' : lThere l name = true := by simpa using ht
    have hlt := lThere_lt ht'
    have hg : l.getD (lFind l name) noLock = l[lFind l name] := by simp [List.getD, hlt]
    rw [hg]
    have hx := List.getElem_mem hlt
    split
    · obtain ⟨p1, p2, p3⟩ := passP_small (hs.fence _ hx) (hs.line _ hx)
      exact hm.set (by rw [passP_name]; exact hm.name _ hx) p1 p2 p3
    · split
      · obtain ⟨e1, e2⟩ := unline_same l[lFind l name] who
        exact hm.set (by rw [unline_name]; exact hm.name _ hx) (by rw [e2]; exact hm.fence _ hx) (by rw [e1]; exact hm.hold _ hx) (unline_small (hm.line _ hx))
      · exact hm
theorem gone_small {l : List LockD} {who : Int} {n : Nat} (hs : Small n l) : Small (n + 1) (l.map fun k => goneK k who) := by
  refine ⟨fun y hy => ?_, fun y hy => ?_, fun y hy => ?_, fun y hy => ?_⟩ <;> obtain ⟨x, hx, rfl⟩ := List.mem_map.1 hy
  · rw [goneK_name]; exact hs.name x hx
  · exact (goneK_small (hs.fence x hx) (hs.hold x hx) (hs.line x hx)).1
  · exact (goneK_small (hs.fence x hx) (hs.hold x hx) (hs.line x hx)).2.1
  · exact (goneK_small (hs.fence x hx) (hs.hold x hx) (hs.line x hx)).2.2
theorem lStep_small {l : List LockD} {n : Nat} (h : LkOk l) (hs : Small n l) (r : RawD) : Small (n + 1) (lStep l r) := by
  have hp := picked_range r.c 5 (by decide)
  have hw : 1 ≤ 1 + picked r.c 5 ∧ 1 + picked r.c 5 ≤ 5 := by omega
  unfold lStep
  split
  · exact take_small h hs (kname_mem _) (kname_ok _) hw
  · split
    · exact free_small h hs (kname_ok _) hw
    · rw [(gone_ok h (by omega)).2]; exact gone_small hs
theorem foldl_small (r : List RawD) : ∀ {l : List LockD} {n : Nat}, LkOk l → Small n l → Small (n + r.length) (r.foldl lStep l) := by
  induction r with
  | nil => exact fun _ h => h
  | cons x r ih =>
    intro l n h hs
    have := ih (lStep_ok h x) (lStep_small h hs x)
    rw [List.length_cons, show n + (r.length + 1) = n + 1 + r.length by omega]
    exact this
theorem locksP_small (r : List RawD) : Small 30 (locksP r) := by
  have := foldl_small (r.take 30) lk_nil (Small.nil 0)
  exact this.more (by rw [List.length_take]; omega)
theorem nodup_len {α : Type} [BEq α] [LawfulBEq α] : ∀ (l m : List α), l.Nodup → (∀ x ∈ l, x ∈ m) → l.length ≤ m.length
  | [], m, _, _ => Nat.zero_le _
  | a :: r, m, hn, hs => by
    obtain ⟨h1, h2⟩ := List.nodup_cons.1 hn
    have ham := hs a (by simp)
    have := nodup_len r (m.erase a) h2 fun x hx => (List.mem_erase_of_ne (by rintro rfl; exact h1 hx)).2 (hs x (by simp [hx]))
    rw [List.length_erase_of_mem ham] at this
    have hpos := List.length_pos_of_mem ham
    simp only [List.length_cons]; omega
/-- There are no more locks than names. -/
theorem small_len {l : List LockD} (h : LkOk l) (hs : Small 30 l) : l.length ≤ 3 := by
  have hn : (l.map (·.name)).Nodup := h.names.imp fun {a b} hab he => by rw [he, less_irrefl] at hab; cases hab
  have : (l.map (·.name)).length ≤ kset.length := nodup_len _ _ hn fun y hy => by
    obtain ⟨x, hx, rfl⟩ := List.mem_map.1 hy
    exact hs.name x hx
  rw [List.length_map] at this
  exact this
end Go.Tk
