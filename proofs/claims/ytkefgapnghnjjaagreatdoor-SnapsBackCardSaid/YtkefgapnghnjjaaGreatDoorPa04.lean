/- A part of the proof, laid together from: LocksP, RawD, LocksQ, Kset, OneP, OneQ. -/
import Derived.Test.YtkefgapnghnjjaaGreatDoorPa03
import Derived.Test.YtkefgapnghnjjaaGreatDoorPa02
set_option linter.unusedSimpArgs false
set_option linter.unusedVariables false
/- What the functions of package lock keep. -/
namespace Go.Tk
open Go

theorem less_nil (a : List UInt8) : Op.bytesLess a [] = false := by cases a <;> rfl
theorem less_iff : ∀ a b : List UInt8, Op.bytesLess a b = true ↔ Lib.compareBytes a b < 0
  | [], [] => by simp [Op.bytesLess, Lib.compareBytes]
  | [], b :: bs => by simp [Op.bytesLess, Lib.compareBytes]
  | a :: as, [] => by simp [Op.bytesLess, Lib.compareBytes]
  | a :: as, b :: bs => by
    have ih := less_iff as bs
    rw [Op.bytesLess, Lib.compareBytes]
    by_cases h1 : a < b
    · simp [h1]
    · rw [if_neg h1]
      by_cases h2 : b < a
      · rw [if_pos h2]
        have hne : (a == b) = false := by
          rw [beq_eq_false_iff_ne]; rintro rfl; exact UInt8.lt_irrefl _ h2
        simp [h1, hne]
      · rw [if_neg h2]
        have he : a = b := UInt8.le_antisymm (UInt8.not_lt.1 h2) (UInt8.not_lt.1 h1)
        subst he
        simp only [h1, decide_false, Bool.false_or, beq_self_eq_true, Bool.true_and]
        exact ih
theorem compare_eq : ∀ a b : List UInt8, Lib.compareBytes a b = 0 → a = b
  | [], [], _ => rfl
  | [], b :: bs, h => by simp [Lib.compareBytes] at h
  | a :: as, [], h => by simp [Lib.compareBytes] at h
  | a :: as, b :: bs, h => by
    rw [Lib.compareBytes] at h
    by_cases h1 : a < b
    · rw [if_pos h1] at h; cases h
    · rw [if_neg h1] at h
      by_cases h2 : b < a
      · rw [if_pos h2] at h; cases h
      · rw [if_neg h2] at h
        rw [compare_eq as bs h, UInt8.le_antisymm (UInt8.not_lt.1 h2) (UInt8.not_lt.1 h1)]
theorem less_trans : ∀ a b c : List UInt8, Op.bytesLess a b = true → Op.bytesLess b c = true → Op.bytesLess a c = true
  | a, b, [], _, h2 => by rw [less_nil] at h2; cases h2
  | a, [], c :: cs, h1, _ => by rw [less_nil] at h1; cases h1
  | [], b :: bs, c :: cs, _, _ => rfl
  | a :: as, b :: bs, c :: cs, h1, h2 => by
    rw [Op.bytesLess] at h1 h2 ⊢
    simp only [Bool.or_eq_true, decide_eq_true_eq, Bool.and_eq_true, beq_iff_eq] at h1 h2 ⊢
    rcases h1 with h1 | ⟨rfl, h1⟩
    · rcases h2 with h2 | ⟨rfl, h2⟩
      · exact .inl (UInt8.lt_trans h1 h2)
      · exact .inl h1
    · rcases h2 with h2 | ⟨rfl, h2⟩
      · exact .inl h2
      · exact .inr ⟨rfl, less_trans as bs cs h1 h2⟩
theorem less_irrefl : ∀ a : List UInt8, Op.bytesLess a a = false
  | [] => rfl
  | a :: as => by rw [Op.bytesLess]; simp [less_irrefl as, UInt8.lt_irrefl]
theorem less_total : ∀ a b : List UInt8, Op.bytesLess a b = false → a ≠ b → Op.bytesLess b a = true
  | [], [], _, h => absurd rfl h
  | [], b :: bs, h, _ => by cases h
  | a :: as, [], _, _ => rfl
  | a :: as, b :: bs, h, hne => by
    rw [Op.bytesLess] at h ⊢
    simp only [Bool.or_eq_false_iff, decide_eq_false_iff_not, Bool.and_eq_false_iff, beq_eq_false_iff_ne, Bool.or_eq_true, decide_eq_true_eq, Bool.and_eq_true, beq_iff_eq] at h ⊢
    by_cases h2 : b < a
    · exact .inl h2
    · have he : a = b := UInt8.le_antisymm (UInt8.not_lt.1 h2) (UInt8.not_lt.1 h.1)
      subst he
      refine .inr ⟨rfl, less_total as bs ?_ (fun e => hne (by rw [e]))⟩
      rcases h.2 with h | h
      · exact absurd rfl h
      · exact h
def lsorted (ns : List (List UInt8)) : Prop := ns.Pairwise fun a b => Op.bytesLess a b = true
theorem lsorted_of {ns : List (List UInt8)} (h : ∀ i (h0 : 0 < i) (hi : i < ns.length), Op.bytesLess (ns[i - 1]'(by omega)) ns[i] = true) : lsorted ns := by
  refine List.pairwise_iff_getElem.2 fun i j hi hj hij => ?_
  induction j with
  | zero => omega
  | succ j ih =>
    rcases Nat.lt_or_ge i j with h1 | h1
    · exact less_trans _ _ _ (ih (by omega) h1) (h (j + 1) (by omega) hj)
    · obtain rfl : i = j := by omega
      exact h (i + 1) (by omega) hj
/-- One lock that may be. -/
structure LkOne (x : LockD) : Prop where
  name : lkName x.name = true
  hold : 0 ≤ x.holder ∧ x.holder ≤ 9
  line : LineOk x
  fence : 1 ≤ x.fence ∧ x.fence ≤ 1073741824
theorem LkOk.names {l : List LockD} (h : LkOk l) : lsorted (l.map (·.name)) := by
  refine lsorted_of fun i h0 hi => ?_
  rw [List.length_map] at hi
  have := h.ord i h0 hi
  rw [show l.getD (i - 1) noLock = l[i - 1] by simp [List.getD, show i - 1 < l.length by omega], show l.getD i noLock = l[i] by simp [List.getD, hi]] at this
  simpa using this
theorem LkOk.one {l : List LockD} (h : LkOk l) : ∀ x ∈ l, LkOne x := fun x hx => ⟨h.name x hx, h.hold x hx, h.line x hx, h.fence x hx⟩
theorem LkOk.of {l : List LockD} (h1 : l.length ≤ 5) (h2 : ∀ x ∈ l, LkOne x) (h3 : lsorted (l.map (·.name))) : LkOk l := by
  refine ⟨h1, fun x hx => (h2 x hx).name, fun x hx => (h2 x hx).hold, fun x hx => (h2 x hx).line, fun x hx => (h2 x hx).fence, fun i h0 hi => ?_⟩
  have := List.pairwise_iff_getElem.1 h3 (i - 1) i (by rw [List.length_map]; omega) (by rw [List.length_map]; exact hi) (by omega)
  rw [show l.getD (i - 1) noLock = l[i - 1] by simp [List.getD, show i - 1 < l.length by omega], show l.getD i noLock = l[i] by simp [List.getD, hi]]
  simpa using this
theorem LkOk.set {l : List LockD} (h : LkOk l) {i : Nat} (hi : i < l.length) {x : LockD} (hx : LkOne x) (hn : x.name = l[i].name) : LkOk (l.set i x) := by
  refine LkOk.of (by rw [List.length_set]; exact h.len) (fun y hy => ?_) ?_
  · rcases List.mem_or_eq_of_mem_set hy with h1 | h1
    · exact h.one y h1
    · rw [h1]; exact hx
  · rw [List.map_set, hn]
    have : (l.map (·.name)).set i l[i].name = l.map (·.name) := by
      rw [show l[i].name = (l.map (·.name))[i]'(by rw [List.length_map]; exact hi) by simp]
      exact List.set_getElem_self _
    rw [this]; exact h.names
/-- What the search finds. -/
theorem lFind_spec {l : List LockD} (h : LkOk l) (t : List UInt8) : (∀ i (hi : i < l.length), i < lFind l t → Op.bytesLess l[i].name t = true) ∧ (∀ i (hi : i < l.length), lFind l t ≤ i → Op.bytesLess l[i].name t = false) := by
  have hn := List.pairwise_iff_getElem.1 h.names
  have hg : ∀ i (hi : i < l.length), l.getD i noLock = l[i] := fun i hi => by simp [List.getD, hi]
  obtain ⟨h1, h2⟩ := bs_spec (f := fun i => lockCmp (l.getD i noLock) t) (N := l.length) fun i j hij hj hf => by
    have h3 := hn i j (by rw [List.length_map]; omega) (by rw [List.length_map]; exact hj) hij
    simp only [List.getElem_map] at h3
    simp only [lockCmp, hg i (by omega), hg j hj] at hf ⊢
    exact (less_iff _ _).1 (less_trans _ _ _ h3 ((less_iff _ _).2 hf))
  refine ⟨fun i hi hlt => ?_, fun i hi hge => ?_⟩
  · have := h1 i hlt
    simp only [lockCmp, hg i hi] at this
    exact (less_iff _ _).2 this
  · have := h2 i hge hi
    simp only [lockCmp, hg i hi] at this
    cases hb : Op.bytesLess l[i].name t
    · rfl
    · exact absurd ((less_iff _ _).1 hb) this
theorem lThere_name {l : List LockD} {t : List UInt8} (h : lThere l t = true) : (l[lFind l t]'(lThere_lt h)).name = t := by
  have hlt := lThere_lt h
  simp only [lThere, bsFound, Bool.and_eq_true, beq_iff_eq] at h
  have h2 : lockCmp (l.getD (lFind l t) noLock) t = 0 := h.2
  rw [show l.getD (lFind l t) noLock = l[lFind l t] by simp [List.getD, hlt]] at h2
  exact compare_eq _ _ h2
theorem lThere_no {l : List LockD} {t : List UInt8} (h : LkOk l) (hf : lThere l t = false) : ∀ x ∈ l, x.name ≠ t := by
  intro x hx hxt
  obtain ⟨j, hj, rfl⟩ := List.getElem_of_mem hx
  obtain ⟨h1, h2⟩ := lFind_spec h t
  have hnj : Op.bytesLess l[j].name t = false := by rw [hxt]; exact less_irrefl _
  have hge : lFind l t ≤ j := by
    rcases Nat.lt_or_ge j (lFind l t) with h3 | h3
    · rw [h1 j hj h3] at hnj; cases hnj
    · exact h3
  have heq : lFind l t = j := by
    rcases Nat.lt_or_ge (lFind l t) j with h3 | h3
    · have h4 := List.pairwise_iff_getElem.1 h.names (lFind l t) j (by rw [List.length_map]; omega) (by rw [List.length_map]; exact hj) h3
      simp only [List.getElem_map] at h4
      rw [hxt, h2 _ (by omega) (Nat.le_refl _)] at h4
      cases h4
    · omega
  have : lThere l t = true := by
    show (decide (lFind l t < l.length) && (lockCmp (l.getD (lFind l t) noLock) t == 0)) = true
    rw [heq, show l.getD j noLock = l[j] by simp [List.getD, hj], lockCmp, hxt, compare_self]
    simp [hj]
  rw [this] at hf; cases hf
theorem LkOk.insert {l : List LockD} (h : LkOk l) {x : LockD} (hx : LkOne x) (hlen : l.length < 5) (hno : lThere l x.name = false) : LkOk (l.take (lFind l x.name) ++ x :: l.drop (lFind l x.name)) := by
  obtain ⟨h1, h2⟩ := lFind_spec h x.name
  have hne := lThere_no h hno
  have hfl : lFind l x.name ≤ l.length := bs_le _ _
  refine LkOk.of (by simp; omega) (fun y hy => ?_) ?_
  · rcases List.mem_append.1 hy with hy | hy
    · exact h.one y (List.mem_of_mem_take hy)
    · rcases List.mem_cons.1 hy with rfl | hy
      · exact hx
      · exact h.one y (List.mem_of_mem_drop hy)
  · have hn := h.names
    have hd : ∀ y ∈ l.drop (lFind l x.name), Op.bytesLess x.name y.name = true := fun y hy => by
      obtain ⟨j, hj, rfl⟩ := List.getElem_of_mem hy
      rw [List.length_drop] at hj
      rw [List.getElem_drop]
      exact less_total _ _ (h2 _ (by omega) (by omega)) (hne _ (List.getElem_mem _))
    have ht : ∀ y ∈ l.take (lFind l x.name), Op.bytesLess y.name x.name = true := fun y hy => by
      obtain ⟨j, hj, rfl⟩ := List.getElem_of_mem hy
      rw [List.length_take] at hj
      rw [List.getElem_take]
      exact h1 _ (by omega) (by omega)
    rw [List.map_append, List.map_cons]
    refine List.pairwise_append.2 ⟨?_, List.pairwise_cons.2 ⟨fun n hn' => ?_, ?_⟩, fun a ha b hb => ?_⟩
    · rw [List.map_take]; exact hn.sublist (List.take_sublist _ _)
    · obtain ⟨y, hy, rfl⟩ := List.mem_map.1 hn'
      exact hd y hy
    · rw [List.map_drop]; exact hn.sublist (List.drop_sublist _ _)
    · obtain ⟨y, hy, rfl⟩ := List.mem_map.1 ha
      rcases List.mem_cons.1 hb with rfl | hb
      · exact ht y hy
      · obtain ⟨z, hz, rfl⟩ := List.mem_map.1 hb
        exact less_trans _ _ _ (ht y hy) (hd z hz)

theorem passP_name (x : LockD) : (passP x).name = x.name := by unfold passP; split <;> rfl
theorem unline_name (x : LockD) (who : Int) : (unline x who).name = x.name := by unfold unline; split <;> rfl
theorem goneK_name (x : LockD) (who : Int) : (goneK x who).name = x.name := by
  unfold goneK; split
  · rw [passP_name, unline_name]
  · rw [unline_name]
theorem passP_one {x : LockD} (h : LkOne x) : LkOne (passP x) := by
  unfold passP
  split
  · rename_i hc
    obtain ⟨a, r, hl⟩ : ∃ a r, x.line = a :: r := by
      cases hx : x.line with
      | nil => rw [hx] at hc; simp at hc
      | cons a r => exact ⟨a, r, rfl⟩
    have hn := h.line.nodup
    have hc1 := h.line.cl
    have hlen := h.line.len
    rw [hl] at hn hc1 hlen
    have ha := hc1 a (by simp)
    refine ⟨h.name, ?_, ?_, ?_⟩
    · simp only [hl, List.getD_cons_zero]; omega
    · simp only [hl, List.getD_cons_zero, List.drop_succ_cons, List.drop_zero]
      refine ⟨by simp at hlen; show r.length ≤ 3; omega, fun h0 => by simp only at h0; omega, fun y hy => hc1 y (by simp [hy]), fun y hy => ?_, (List.nodup_cons.1 hn).2⟩
      rintro rfl
      exact (List.nodup_cons.1 hn).1 hy
    · have := h.fence; show 1 ≤ x.fence + 1 ∧ x.fence + 1 ≤ 1073741824; omega
  · exact ⟨h.name, (show 0 ≤ (0 : Int) ∧ (0 : Int) ≤ 9 by decide), ⟨by simp, fun _ => rfl, by simp, by simp, by simp⟩, h.fence⟩
theorem unline_one {x : LockD} {who : Int} (h : LkOne x) : LkOne (unline x who) := by
  unfold unline
  split
  · have hs : ∀ i, (x.line.eraseIdx i).Sublist x.line := fun i => List.eraseIdx_sublist _ _
    refine ⟨h.name, h.hold, ⟨Nat.le_trans (hs _).length_le h.line.len, fun h0 => ?_, fun y hy => h.line.cl y ((hs _).subset hy), fun y hy => h.line.ne y ((hs _).subset hy), h.line.nodup.sublist (hs _)⟩, h.fence⟩
    have h1 := h.line.held h0
    show x.line.eraseIdx _ = []
    rw [h1]; rfl
  · exact h
theorem goneK_one {x : LockD} {who : Int} (h : LkOne x) : LkOne (goneK x who) := by
  unfold goneK; split
  · exact passP_one (unline_one h)
  · exact unline_one h
theorem take_ok {l : List LockD} {name : List UInt8} {who : Int} {wt : Bool} (h : LkOk l) (hn : lkName name = true) (hw : 1 ≤ who ∧ who ≤ 9) : LkOk (lkTake l name who wt).1 ∧ (lkTake l name who wt).2.2 = 0 := by
  rw [lkTake, if_neg (by rw [lk_begin h hn hw]; simp)]
  by_cases ht : lThere l name = false
  · rw [if_pos ht]
    by_cases h5 : l.length = 5
    · rw [if_pos h5]; exact ⟨h, rfl⟩
    · rw [if_neg h5]
      exact ⟨LkOk.insert (x := ⟨name, who, 1, []⟩) h ⟨hn, by show 0 ≤ who ∧ who ≤ 9; omega, ⟨by simp, by simp, by simp, by simp, by simp⟩, (show 1 ≤ (1 : Int) ∧ (1 : Int) ≤ 1073741824 by decide)⟩ (by have := h.len; omega) ht, rfl⟩
  · rw [if_neg ht]
    have ht' : lThere l name = true := by simpa using ht
    have hlt := lThere_lt ht'
    have hg : l.getD (lFind l name) noLock = l[lFind l name] := by simp [List.getD, hlt]
    rw [hg]
    have ho := h.one _ (List.getElem_mem hlt)
    split
    · exact ⟨h, rfl⟩
    · rename_i hw1
      split
      · split
        · exact ⟨h, rfl⟩
        · rename_i h0 hf
          refine ⟨h.set hlt (x := { l[lFind l name] with holder := who, fence := l[lFind l name].fence + 1 }) ⟨ho.name, by show 0 ≤ who ∧ who ≤ 9; omega, ?_, by have := ho.fence; show 1 ≤ l[lFind l name].fence + 1 ∧ l[lFind l name].fence + 1 ≤ 1073741824; omega⟩ rfl, rfl⟩
          have h1 := ho.line.held h0
          exact ⟨ho.line.len, (fun h2 => by simp only at h2; omega), ho.line.cl, (fun y hy => by simp only at hy; rw [h1] at hy; cases hy), ho.line.nodup⟩
      · rename_i h0
        split
        · exact ⟨h, rfl⟩
        · rename_i hq
          split
          · exact ⟨h, rfl⟩
          · rename_i h3
            refine ⟨h.set hlt (x := { l[lFind l name] with line := l[lFind l name].line ++ [who] }) ⟨ho.name, ho.hold, ?_, ho.fence⟩ rfl, rfl⟩
            have hnin : who ∉ l[lFind l name].line := fun hm => hq (.inr hm)
            refine ⟨by have := ho.line.len; simp; omega, fun h2 => absurd h2 h0, fun y hy => ?_, fun y hy => ?_, ?_⟩
            · rcases List.mem_append.1 hy with hy | hy
              · exact ho.line.cl y hy
              · simp at hy; subst hy; exact hw
            · rcases List.mem_append.1 hy with hy | hy
              · exact ho.line.ne y hy
              · simp at hy; subst hy; exact fun e => hw1 e.symm
            · exact List.nodup_append.2 ⟨ho.line.nodup, by simp, fun a ha b hb => by simp at hb; subst hb; rintro rfl; exact hnin ha⟩
theorem free_ok {l : List LockD} {name : List UInt8} {who : Int} (h : LkOk l) (hn : lkName name = true) (hw : 1 ≤ who ∧ who ≤ 9) : LkOk (lkFree l name who).1 ∧ (lkFree l name who).2.2 = 0 := by
  rw [lkFree, if_neg (by rw [lk_begin h hn hw]; simp)]
  by_cases ht : lThere l name = false
  · rw [if_pos ht]; exact ⟨h, rfl⟩
  · rw [if_neg ht]
    have ht' : lThere l name = true := by simpa using ht
    have hlt := lThere_lt ht'
    have hg : l.getD (lFind l name) noLock = l[lFind l name] := by simp [List.getD, hlt]
    rw [hg]
    have ho := h.one _ (List.getElem_mem hlt)
    split
    · exact ⟨h.set hlt (passP_one ho) (passP_name _), rfl⟩
    · split
      · exact ⟨h.set hlt (unline_one ho) (unline_name _ _), rfl⟩
      · exact ⟨h, rfl⟩
theorem gone_ok {l : List LockD} {who : Int} (h : LkOk l) (hw : 1 ≤ who ∧ who ≤ 9) : LkOk (lkGone l who).1 ∧ lkGone l who = (l.map (fun k => goneK k who), 0) := by
  have he : lkGone l who = (l.map (fun k => goneK k who), 0) := by rw [lkGone, if_neg (by rw [lkCheck_ok.2 h]; simp), if_neg (by rw [lkClient_iff.2 hw]; decide)]
  refine ⟨?_, he⟩
  rw [he]
  refine LkOk.of (by rw [List.length_map]; exact h.len) (fun y hy => ?_) ?_
  · obtain ⟨x, hx, rfl⟩ := List.mem_map.1 hy
    exact goneK_one (h.one x hx)
  · rw [List.map_map]
    have : ((fun x : LockD => x.name) ∘ fun k => goneK k who) = fun x => x.name := by funext x; exact goneK_name x who
    rw [this]; exact h.names
end Go.Tk

/- Raw things. No program in sight. -/
namespace Go.Tk
open Go Go.RowKit
structure RawD where
  kind : Int
  a : Int
  b : Int
  c : Int
def rRaw : Rel RawD := fun _ cs x _ => cs = [.int .i64 x.kind, .int .i64 x.a, .int .i64 x.b, .int .i64 x.c]
theorem rRaw_ok : RelOk rRaw 4 := ⟨by rintro w cs x S rfl; rfl, by rintro w cs x S rfl u hu; simp at hu; rcases hu with rfl | rfl | rfl | rfl <;> rfl, fun h _ => h⟩
def I64 (n : Int) : Prop := -9223372036854775808 ≤ n ∧ n ≤ 9223372036854775807
def RawOk (x : RawD) : Prop := I64 x.kind ∧ I64 x.a ∧ I64 x.b ∧ I64 x.c
end Go.Tk

/- What locks come of commands. No program in sight. -/
namespace Go.Tk
open Go Go.RowKit
def lStep (l : List LockD) (r : RawD) : List LockD :=
  if picked r.kind 8 < 5 then (lkTake l (kname r.a) (1 + picked r.c 5) (decide (1 < picked r.kind 8))).1
  else if picked r.kind 8 < 7 then (lkFree l (kname r.a) (1 + picked r.c 5)).1
  else (lkGone l (1 + picked r.c 5)).1
def locksP (l : List RawD) : List LockD := (l.take 30).foldl lStep []
theorem picked_range (n m : Int) (hm : 0 < m) : 0 ≤ picked n m ∧ picked n m < m := by
  unfold picked
  split
  · exact ⟨Int.emod_nonneg _ (by omega), Int.emod_lt_of_pos _ hm⟩
  · exact ⟨Int.emod_nonneg _ (by omega), Int.emod_lt_of_pos _ hm⟩
theorem lStep_ok {l : List LockD} (h : LkOk l) (r : RawD) : LkOk (lStep l r) := by
  have hp := picked_range r.c 5 (by decide)
  have hw : 1 ≤ 1 + picked r.c 5 ∧ 1 + picked r.c 5 ≤ 9 := by omega
  unfold lStep
  split
  · exact (take_ok h (kname_ok _) hw).1
  · split
    · exact (free_ok h (kname_ok _) hw).1
    · exact (gone_ok h hw).1
theorem foldl_ok (r : List RawD) : ∀ {l : List LockD}, LkOk l → LkOk (r.foldl lStep l) := by
  induction r with
  | nil => exact fun h => h
  | cons x r ih => exact fun h => ih (lStep_ok h x)
theorem locksP_ok (r : List RawD) : LkOk (locksP r) := foldl_ok _ lk_nil
theorem locksP_step (l : List RawD) (n : Nat) (hn : n < l.length) : (l.take (n + 1)).foldl lStep [] = lStep ((l.take n).foldl lStep []) l[n] := by
  rw [List.take_succ_eq_append_getElem hn, List.foldl_append]; rfl
end Go.Tk

/- The three names. No program in sight. -/
namespace Go.Tk
open Go Go.RowKit

def kset : List (List UInt8) := [[97], [98], [107, 101, 121]]
theorem kname_mem (n : Int) : kname n ∈ kset := by
  unfold kname kset
  split
  · simp
  · split <;> simp
theorem kset_ok : ∀ k ∈ kset, lkName k = true := by decide
theorem nodup_len {α : Type} [BEq α] [LawfulBEq α] : ∀ (l m : List α), l.Nodup → (∀ x ∈ l, x ∈ m) → l.length ≤ m.length
  | [], m, _, _ => Nat.zero_le _
  | a :: r, m, hn, hs => by
    obtain ⟨h1, h2⟩ := List.nodup_cons.1 hn
    have ham := hs a (by simp)
    have := nodup_len r (m.erase a) h2 fun x hx => (List.mem_erase_of_ne (by rintro rfl; exact h1 hx)).2 (hs x (by simp [hx]))
    rw [List.length_erase_of_mem ham] at this
    have hpos := List.length_pos_of_mem ham
    simp only [List.length_cons]; omega
end Go.Tk

/- LocksOne, plainly. -/
namespace Go.Tk
open Go
/-- Few locks, few times given, to the first five clients. -/
structure Small (n : Nat) (l : List LockD) : Prop where
  name : ∀ x ∈ l, x.name ∈ kset
  fence : ∀ x ∈ l, x.fence ≤ n + 1
  hold : ∀ x ∈ l, x.holder ≤ 5
  line : ∀ x ∈ l, ∀ y ∈ x.line, y ≤ 5
theorem Small.nil (n : Nat) : Small n [] := ⟨by simp, by simp, by simp, by simp⟩
theorem Small.more {n m : Nat} {l : List LockD} (h : Small n l) (hm : n ≤ m) : Small m l := ⟨h.name, fun x hx => by have := h.fence x hx; omega, h.hold, h.line⟩
theorem Small.set {n : Nat} {l : List LockD} (h : Small n l) {i : Nat} {x : LockD} (h1 : x.name ∈ kset) (h2 : x.fence ≤ n + 1) (h3 : x.holder ≤ 5) (h4 : ∀ y ∈ x.line, y ≤ 5) : Small n (l.set i x) := by
  refine ⟨fun y hy => ?_, fun y hy => ?_, fun y hy => ?_, fun y hy => ?_⟩ <;> rcases List.mem_or_eq_of_mem_set hy with h5 | h5
  · exact h.name y h5
  · rw [h5]; exact h1
  · exact h.fence y h5
  · rw [h5]; exact h2
  · exact h.hold y h5
  · rw [h5]; exact h3
  · exact h.line y h5
  · rw [h5]; exact h4
theorem passP_small {x : LockD} {n : Nat} (h2 : x.fence ≤ n + 1) (h4 : ∀ y ∈ x.line, y ≤ 5) : (passP x).fence ≤ (n + 1 : Nat) + 1 ∧ (passP x).holder ≤ 5 ∧ ∀ y ∈ (passP x).line, y ≤ 5 := by
  unfold passP
  split
  · rename_i hc
    refine ⟨by show x.fence + 1 ≤ _; omega, ?_, fun y hy => h4 y (List.mem_of_mem_drop hy)⟩
    show x.line.getD 0 0 ≤ 5
    rw [show x.line.getD 0 0 = x.line[0] by simp [List.getD, hc.1]]
    exact h4 _ (List.getElem_mem _)
  · exact ⟨by show x.fence ≤ _; omega, (show (0 : Int) ≤ 5 by decide), by simp⟩
theorem unline_small {x : LockD} {a : Int} (h4 : ∀ y ∈ x.line, y ≤ 5) : ∀ y ∈ (unline x a).line, y ≤ 5 := by
  unfold unline
  split
  · exact fun y hy => h4 y ((List.eraseIdx_sublist _ _).subset hy)
  · exact h4
theorem unline_same (x : LockD) (a : Int) : (unline x a).holder = x.holder ∧ (unline x a).fence = x.fence := by unfold unline; split <;> exact ⟨rfl, rfl⟩
theorem goneK_small {x : LockD} {a : Int} {n : Nat} (h2 : x.fence ≤ n + 1) (h3 : x.holder ≤ 5) (h4 : ∀ y ∈ x.line, y ≤ 5) : (goneK x a).fence ≤ (n + 1 : Nat) + 1 ∧ (goneK x a).holder ≤ 5 ∧ ∀ y ∈ (goneK x a).line, y ≤ 5 := by
  obtain ⟨e1, e2⟩ := unline_same x a
  unfold goneK
  split
  · exact passP_small (by rw [e2]; exact h2) (unline_small h4)
  · exact ⟨by rw [e2]; omega, by rw [e1]; exact h3, unline_small h4⟩
theorem take_small {l : List LockD} {name : List UInt8} {who : Int} {wt : Bool} {n : Nat} (h : LkOk l) (hs : Small n l) (hn : name ∈ kset) (hnm : lkName name = true) (hw : 1 ≤ who ∧ who ≤ 5) : Small (n + 1) (lkTake l name who wt).1 := by
  have hm := hs.more (Nat.le_succ n)
  rw [lkTake, if_neg (by rw [lk_begin h hnm (by omega)]; simp)]
  by_cases ht : lThere l name = false
  · rw [if_pos ht]
    split
    · exact hm
    · have key : ∀ y ∈ l.take (lFind l name) ++ ⟨name, who, 1, []⟩ :: l.drop (lFind l name), y = ⟨name, who, 1, []⟩ ∨ y ∈ l := fun y hy => by
        rcases List.mem_append.1 hy with hy | hy
        · exact .inr (List.mem_of_mem_take hy)
        · rcases List.mem_cons.1 hy with rfl | hy
          · exact .inl rfl
          · exact .inr (List.mem_of_mem_drop hy)
      refine ⟨fun y hy => ?_, fun y hy => ?_, fun y hy => ?_, fun y hy => ?_⟩ <;> rcases key y hy with h5 | h5
      · rw [h5]; exact hn
      · exact hm.name y h5
      · rw [h5]; show (1 : Int) ≤ _; omega
      · exact hm.fence y h5
      · rw [h5]; exact hw.2
      · exact hm.hold y h5
      · rw [h5]; simp
      · exact hm.line y h5
  · rw [if_neg ht]
    have ht' : lThere l name = true := by simpa using ht
    have hlt := lThere_lt ht'
    have hg : l.getD (lFind l name) noLock = l[lFind l name] := by simp [List.getD, hlt]
    rw [hg]
    have hx := List.getElem_mem hlt
    split
    · exact hm
    · split
      · split
        · exact hm
        · exact hm.set (hm.name l[lFind l name] hx) (by have := hs.fence l[lFind l name] hx; show l[lFind l name].fence + 1 ≤ _; omega) hw.2 (hm.line l[lFind l name] hx)
      · split
        · exact hm
        · split
          · exact hm
          · refine hm.set (hm.name l[lFind l name] hx) (hm.fence l[lFind l name] hx) (hm.hold l[lFind l name] hx) (fun y hy => ?_)
            rcases List.mem_append.1 hy with hy | hy
            · exact hm.line l[lFind l name] hx y hy
            · simp at hy; subst hy; exact hw.2
theorem free_small {l : List LockD} {name : List UInt8} {who : Int} {n : Nat} (h : LkOk l) (hs : Small n l) (hnm : lkName name = true) (hw : 1 ≤ who ∧ who ≤ 5) : Small (n + 1) (lkFree l name who).1 := by
  have hm := hs.more (Nat.le_succ n)
  rw [lkFree, if_neg (by rw [lk_begin h hnm (by omega)]; simp)]
  by_cases ht : lThere l name = false
  · rw [if_pos ht]; exact hm
  · rw [if_neg ht]
    have ht' : lThere l name = true := by simpa using ht
    have hlt := lThere_lt ht'
    have hg : l.getD (lFind l name) noLock = l[lFind l name] := by simp [List.getD, hlt]
    rw [hg]
    have hx := List.getElem_mem hlt
    split
    · obtain ⟨p1, p2, p3⟩ := passP_small (hs.fence _ hx) (hs.line _ hx)
      exact hm.set (by rw [passP_name]; exact hm.name _ hx) p1 p2 p3
    · split
      · obtain ⟨e1, e2⟩ := unline_same l[lFind l name] who
        exact hm.set (by rw [unline_name]; exact hm.name _ hx) (by rw [e2]; exact hm.fence _ hx) (by rw [e1]; exact hm.hold _ hx) (unline_small (hm.line _ hx))
      · exact hm
theorem gone_small {l : List LockD} {who : Int} {n : Nat} (hs : Small n l) : Small (n + 1) (l.map fun k => goneK k who) := by
  refine ⟨fun y hy => ?_, fun y hy => ?_, fun y hy => ?_, fun y hy => ?_⟩ <;> obtain ⟨x, hx, rfl⟩ := List.mem_map.1 hy
  · rw [goneK_name]; exact hs.name x hx
  · exact (goneK_small (hs.fence x hx) (hs.hold x hx) (hs.line x hx)).1
  · exact (goneK_small (hs.fence x hx) (hs.hold x hx) (hs.line x hx)).2.1
  · exact (goneK_small (hs.fence x hx) (hs.hold x hx) (hs.line x hx)).2.2
theorem lStep_small {l : List LockD} {n : Nat} (h : LkOk l) (hs : Small n l) (r : RawD) : Small (n + 1) (lStep l r) := by
  have hp := picked_range r.c 5 (by decide)
  have hw : 1 ≤ 1 + picked r.c 5 ∧ 1 + picked r.c 5 ≤ 5 := by omega
  unfold lStep
  split
  · exact take_small h hs (kname_mem _) (kname_ok _) hw
  · split
    · exact free_small h hs (kname_ok _) hw
    · rw [(gone_ok h (by omega)).2]; exact gone_small hs
theorem foldl_small (r : List RawD) : ∀ {l : List LockD} {n : Nat}, LkOk l → Small n l → Small (n + r.length) (r.foldl lStep l) := by
  induction r with
  | nil => exact fun _ h => h
  | cons x r ih =>
    intro l n h hs
    have := ih (lStep_ok h x) (lStep_small h hs x)
    rw [List.length_cons, show n + (r.length + 1) = n + 1 + r.length by omega]
    exact this
theorem locksP_small (r : List RawD) : Small 30 (locksP r) := by
  have := foldl_small (r.take 30) lk_nil (Small.nil 0)
  exact this.more (by rw [List.length_take]; omega)
theorem small_len {l : List LockD} (h : LkOk l) (hs : Small 30 l) : l.length ≤ 3 := by
  have hn : (l.map (·.name)).Nodup := h.names.imp fun {a b} hab he => by rw [he, less_irrefl] at hab; cases hab
  have : (l.map (·.name)).length ≤ kset.length := nodup_len _ _ hn fun y hy => by
    obtain ⟨x, hx, rfl⟩ := List.mem_map.1 hy
    exact hs.name x hx
  rw [List.length_map] at this
  exact this
end Go.Tk

/- LocksOne, plainly: what is asked, and what is answered. -/
namespace Go.Tk
open Go
theorem lk_at {x : List LockD} {k : List UInt8} {i : Nat} (h : LkOk x) (hi : i < x.length) (hn : x[i].name = k) : lThere x k = true ∧ lFind x k = i := by
  have ht : lThere x k = true := by
    cases hb : lThere x k
    · exact absurd hn (lThere_no h hb _ (List.getElem_mem hi))
    · rfl
  refine ⟨ht, ?_⟩
  have h1 := lThere_name ht
  have h2 := lThere_lt ht
  have hp := List.pairwise_iff_getElem.1 h.names
  rcases Nat.lt_trichotomy (lFind x k) i with h3 | h3 | h3
  · have := hp (lFind x k) i (by rw [List.length_map]; omega) (by rw [List.length_map]; exact hi) h3
    simp only [List.getElem_map] at this
    rw [h1, hn, less_irrefl] at this; cases this
  · exact h3
  · have := hp i (lFind x k) (by rw [List.length_map]; omega) (by rw [List.length_map]; omega) h3
    simp only [List.getElem_map] at this
    rw [h1, hn, less_irrefl] at this; cases this
theorem passP_ne {x : LockD} {a : Int} (h : LkOne x) (hh : x.holder = a) (ha : 1 ≤ a) : (passP x).holder ≠ a := by
  unfold passP
  split
  · rename_i hc
    show x.line.getD 0 0 ≠ a
    rw [show x.line.getD 0 0 = x.line[0] by simp [List.getD, hc.1], ← hh]
    exact h.line.ne _ (List.getElem_mem _)
  · show (0 : Int) ≠ a; omega
theorem who_at {x : List LockD} {k : List UInt8} {i : Nat} (h : LkOk x) (hi : i < x.length) (hn : x[i].name = k) : lWho x k = if x[i].holder = 0 then (0, 0, 0) else (x[i].holder, x[i].fence, 0) := by
  obtain ⟨h1, h2⟩ := lk_at h hi hn
  rw [lWho, if_neg (by rw [lkCheck_ok.2 h]; simp), h1, h2, show x.getD i noLock = x[i] by simp [List.getD, hi]]
  simp
theorem one_three {x : List LockD} {k : List UInt8} {a : Int} {i : Nat} (h : LkOk x) (hk : lkName k = true) (hi : i < x.length) (hn : x[i].name = k) (hh : x[i].holder = a) (ha : 1 ≤ a ∧ a ≤ 5) :
    lWho x k = (a, x[i].fence, 0) ∧ lkTake x k 9 false = (x, ⟨10, a, []⟩, 0) ∧ lkFree x k a = (x.set i (passP x[i]), ⟨0, (passP x[i]).holder, []⟩, 0) ∧ LkOk (x.set i (passP x[i])) ∧
      (∃ f, lWho (x.set i (passP x[i])) k = ((passP x[i]).holder, f, 0)) ∧ (passP x[i]).holder ≠ a := by
  obtain ⟨h1, h2⟩ := lk_at h hi hn
  have hg : x.getD i noLock = x[i] := by simp [List.getD, hi]
  have ho := h.one _ (List.getElem_mem hi)
  have hset : LkOk (x.set i (passP x[i])) := h.set hi (passP_one ho) (passP_name _)
  refine ⟨?_, ?_, ?_, hset, ?_, passP_ne ho hh ha.1⟩
  · rw [who_at h hi hn, hh, if_neg (by omega)]
  · rw [lkTake, if_neg (by rw [lk_begin h hk (by omega)]; simp), if_neg (by rw [h1]; decide), h2, hg, hh, if_neg (by omega), if_neg (by omega), if_pos (.inl rfl)]
  · rw [lkFree, if_neg (by rw [lk_begin h hk (by omega)]; simp), if_neg (by rw [h1]; decide), h2, hg, if_pos hh]
  · have hw := who_at (k := k) (i := i) hset (by rw [List.length_set]; exact hi) (by rw [List.getElem_set_self, passP_name]; exact hn)
    rw [List.getElem_set_self] at hw
    rw [hw]
    by_cases h0 : (passP x[i]).holder = 0
    · rw [if_pos h0]; exact ⟨0, by rw [h0]⟩
    · rw [if_neg h0]; exact ⟨_, rfl⟩
theorem locks_one {L : List LockD} {k : List UInt8} {a : Int} (h : LkOk L) (hs : Small 30 L) (hks : k ∈ kset) (hk : lkName k = true) (ha : 1 ≤ a ∧ a ≤ 5) :
    (∃ b f, b ≠ 0 ∧ b ≠ a ∧ lWho L k = (b, f, 0) ∧ lkTake L k a false = (L, ⟨10, b, []⟩, 0)) ∨
    ∃ (was fence N : Int) (x : List LockD) (i : Nat), lWho L k = (was, fence, 0) ∧ (was = 0 ∨ was = a) ∧ lkTake L k a false = (x, ⟨0, N, []⟩, 0) ∧ LkOk x ∧ ∃ hi : i < x.length, x[i].name = k ∧ x[i].holder = a ∧ x[i].fence = N ∧ (was = a ↔ N = fence) ∧ fence ≤ N := by
  by_cases ht : lThere L k = true
  · have hlt := lThere_lt ht
    have hn := lThere_name ht
    have hg : L.getD (lFind L k) noLock = L[lFind L k] := by simp [List.getD, hlt]
    have ho := h.one _ (List.getElem_mem hlt)
    have hw := who_at h hlt hn
    have htk : lkTake L k a false = if L[lFind L k].holder = a then (L, ⟨0, L[lFind L k].fence, []⟩, 0)
        else if L[lFind L k].holder = 0 then (if L[lFind L k].fence = 1073741824 then (L, ⟨8, 0, []⟩, 0) else (L.set (lFind L k) { L[lFind L k] with holder := a, fence := L[lFind L k].fence + 1 }, ⟨0, L[lFind L k].fence + 1, []⟩, 0))
        else (L, ⟨10, L[lFind L k].holder, []⟩, 0) := by
      rw [lkTake, if_neg (by rw [lk_begin h hk (by omega)]; simp), if_neg (by rw [ht]; decide), hg]
      simp
    by_cases h1 : L[lFind L k].holder = a
    · right
      rw [if_pos h1] at htk
      refine ⟨a, L[lFind L k].fence, L[lFind L k].fence, L, lFind L k, ?_, .inr rfl, htk, h, hlt, hn, h1, rfl, by simp, Int.le_refl _⟩
      rw [hw, h1, if_neg (by omega)]
    · rw [if_neg h1] at htk
      by_cases h0 : L[lFind L k].holder = 0
      · right
        have hf := hs.fence _ (List.getElem_mem hlt)
        have hf1 := ho.fence
        rw [if_pos h0, if_neg (by omega)] at htk
        rw [if_pos h0] at hw
        have htok := (take_ok (wt := false) h hk (show 1 ≤ a ∧ a ≤ 9 by omega)).1
        rw [htk] at htok
        refine ⟨0, 0, _, _, lFind L k, hw, .inl rfl, htk, htok, by rw [List.length_set]; exact hlt, ?_⟩
        rw [List.getElem_set_self]
        exact ⟨hn, rfl, rfl, by constructor <;> intro h5 <;> omega, by omega⟩
      · left
        rw [if_neg h0] at htk hw
        exact ⟨_, _, h0, h1, hw, htk⟩
  · right
    have hf : lThere L k = false := by simpa using ht
    have hlen := small_len h hs
    have hw : lWho L k = (0, 0, 0) := by rw [lWho, if_neg (by rw [lkCheck_ok.2 h]; simp), if_pos (.inl hf)]
    have htk : lkTake L k a false = (L.take (lFind L k) ++ ⟨k, a, 1, []⟩ :: L.drop (lFind L k), ⟨0, 1, []⟩, 0) := by
      rw [lkTake, if_neg (by rw [lk_begin h hk (by omega)]; simp), if_pos hf, if_neg (by omega)]
    have htok := (take_ok (wt := false) h hk (show 1 ≤ a ∧ a ≤ 9 by omega)).1
    rw [htk] at htok
    have hfl : lFind L k ≤ L.length := bs_le _ _
    have hil : lFind L k < (L.take (lFind L k) ++ ⟨k, a, 1, []⟩ :: L.drop (lFind L k)).length := by simp; omega
    have hget : (L.take (lFind L k) ++ ⟨k, a, 1, []⟩ :: L.drop (lFind L k))[lFind L k] = ⟨k, a, 1, []⟩ := by
      rw [List.getElem_append_right (by rw [List.length_take]; omega)]
      simp [Nat.min_eq_left hfl]
    refine ⟨0, 0, 1, _, lFind L k, hw, .inl rfl, htk, htok, hil, ?_⟩
    rw [hget]
    exact ⟨rfl, rfl, rfl, by constructor <;> intro h5 <;> omega, by decide⟩
end Go.Tk
