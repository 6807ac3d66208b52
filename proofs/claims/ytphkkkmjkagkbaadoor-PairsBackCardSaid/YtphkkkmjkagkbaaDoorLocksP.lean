/- What the functions of package lock keep. -/
import Derived.Test.YtphkkkmjkagkbaaDoorLinesP
namespace Go.Tk
open Go

theorem less_nil (a : List UInt8) : Op.bytesLess a [] = false := by cases a <;> rfl
theorem less_iff : ∀ a b : List UInt8, Op.bytesLess a b = true ↔ Lib.compareBytes a b < 0
  | [], [] => by simp [Op.bytesLess, Lib.compareBytes]
  | [], b :: bs => by simp [Op.bytesLess, Lib.compareBytes]
  | a :: as, [] => by simp [Op.bytesLess, Lib.compareBytes]
  | a :: as, b :: bs => by
    have ih := less_iff as bs
    rw [Op.bytesLess, Lib.compareBytes]
    by_cases h1 : a < b
    · simp [h1]
    · rw [if_neg h1]
      by_cases h2 : b < a
      · rw [if_pos h2]
        have hne : (a == b) = false := by
          rw [beq_eq_false_iff_ne]; rintro rfl; exact UInt8.lt_irrefl _ h2
        simp [h1, hne]
      · rw [if_neg h2]
        have he : a = b := UInt8.le_antisymm (UInt8.not_lt.1 h2) (UInt8.not_lt.1 h1)
        subst he
        simp only [h1, decide_false, Bool.false_or, beq_self_eq_true, Bool.true_and]
        exact ih
theorem compare_eq : ∀ a b : List UInt8, Lib.compareBytes a b = 0 → a = b
  | [], [], _ => rfl
  | [], b :: bs, h => by simp [Lib.compareBytes] at h
  | a :: as, [], h => by simp [Lib.compareBytes] at h
  | a :: as, b :: bs, h => by
    rw [Lib.compareBytes] at h
    by_cases h1 : a < b
    · rw [if_pos h1] at h; cases h
    · rw [if_neg h1] at h
      by_cases h2 : b < a
      · rw [if_pos h2] at h; cases h
      · rw [if_neg h2] at h
        rw [compare_eq as bs h, UInt8.le_antisymm (UInt8.not_lt.1 h2) (UInt8.not_lt.1 h1)]
theorem less_trans : ∀ a b c : List UInt8, Op.bytesLess a b = true → Op.bytesLess b c = true → Op.bytesLess a c = true
  | a, b, [], _, h2 => by rw [less_nil] at h2; cases h2
  | a, [], c :: cs, h1, _ => by rw [less_nil] at h1; cases h1
  | [], b :: bs, c :: cs, _, _ => rfl
  | a :: as, b :: bs, c :: cs, h1, h2 => by
    rw [Op.bytesLess] at h1 h2 ⊢
    simp only [Bool.or_eq_true, decide_eq_true_eq, Bool.and_eq_true, beq_iff_eq] at h1 h2 ⊢
    rcases h1 with h1 | ⟨rfl, h1⟩
    · rcases h2 with h2 | ⟨rfl, h2⟩
      · exact .inl (UInt8.lt_trans h1 h2)
      · exact .inl h1
    · rcases h2 with h2 | ⟨rfl, h2⟩
      · exact .inl h2
      · exact .inr ⟨rfl, less_trans as bs cs h1 h2⟩
theorem less_irrefl : ∀ a : List UInt8, Op.bytesLess a a = false
  | [] => rfl
  | a :: as => by rw [Op.bytesLess]; simp [less_irrefl as, UInt8.lt_irrefl]
theorem less_total : ∀ a b : List UInt8, Op.bytesLess a b = false → a ≠ b → Op.bytesLess b a = true
  | [], [], _, h => absurd rfl h
  | [], b :: bs, h, _ => by cases h
  | a :: as, [], _, _ => rfl
  | a :: as, b :: bs, h, hne => by
    rw [Op.bytesLess] at h ⊢
    simp only [Bool.or_eq_false_iff, decide_eq_false_iff_not, Bool.and_eq_false_iff, beq_eq_false_iff_ne, Bool.or_eq_true, decide_eq_true_eq, Bool.and_eq_true, beq_iff_eq] at h ⊢
    by_cases h2 : b < a
    · exact .inl h2
    · have he : a = b := UInt8.le_antisymm (UInt8.not_lt.1 h2) (UInt8.not_lt.1 h.1)
      subst he
      refine .inr ⟨rfl, less_total as bs ?_ (fun e => hne (by rw [e]))⟩
      rcases h.2 with h | h
      · exact absurd rfl h
      · exact h
def lsorted (ns : List (List UInt8)) : Prop := ns.Pairwise fun a b => Op.bytesLess a b = true
theorem lsorted_of {ns : List (List UInt8)} (h : ∀ i (h0 : 0 < i) (hi : i < ns.length), Op.bytesLess (ns[i - 1]'(by omega)) ns[i] = true) : lsorted ns := by
  refine List.pairwise_iff_getElem.2 fun i j hi hj hij => ?_
  induction j with
  | zero => omega
  | succ j ih =>
    rcases Nat.lt_or_ge i j with h1 | h1
    · exact less_trans _ _ _ (ih (by omega) h1) (h (j + 1) (by omega) hj)
    · obtain rfl : i = j := by omega
      exact h (i + 1) (by omega) hj
/-- One lock that may be. -/
structure LkOne (x : LockD) : Prop where
  name : lkName x.name = true
  hold : 0 ≤ x.holder ∧ x.holder ≤ 9
  line : LineOk x
  fence : 1 ≤ x.fence ∧ x.fence ≤ 1073741824
theorem LkOk.names {l : List LockD} (h : LkOk l) : lsorted (l.map (·.name)) := by
  refine lsorted_of fun i h0 hi => ?_
  rw [List.length_map] at hi
  have := h.ord i h0 hi
  rw [show l.getD (i - 1) noLock = l[i - 1] by simp [List.getD, show i - 1 < l.length by omega], show l.getD i noLock = l[i] by simp [List.getD, hi]] at this
  simpa using this
theorem LkOk.one {l : List LockD} (h : LkOk l) : ∀ x ∈ l, LkOne x := fun x hx => ⟨h.name x hx, h.hold x hx, h.line x hx, h.fence x hx⟩
theorem LkOk.of {l : List LockD} (h1 : l.length ≤ 5) (h2 : ∀ x ∈ l, LkOne x) (h3 : lsorted (l.map (·.name))) : LkOk l := by
  refine ⟨h1, fun x hx => (h2 x hx).name, fun x hx => (h2 x hx).hold, fun x hx => (h2 x hx).line, fun x hx => (h2 x hx).fence, fun i h0 hi => ?_⟩
  have := List.pairwise_iff_getElem.1 h3 (i - 1) i (by rw [List.length_map]; omega) (by rw [List.length_map]; exact hi) (by omega)
  rw [show l.getD (i - 1) noLock = l[i - 1] by simp [List.getD, show i - 1 < l.length by omega], show l.getD i noLock = l[i] by simp [List.getD, hi]]
  simpa using this
theorem LkOk.set {l : List LockD} (h : LkOk l) {i : Nat} (hi : i < l.length) {x : LockD} (hx : LkOne x) (hn : x.name = l[i].name) : LkOk (l.set i x) := by
  refine LkOk.of (by rw [List.length_set]; exact h.len) (fun y hy => ?_) ?_
  · rcases List.mem_or_eq_of_mem_set hy with h1 | h1
    · exact h.one y h1
    · rw [h1]; exact hx
  · rw [List.map_set, hn]
    have : (l.map (·.name)).set i l[i].name = l.map (·.name) := by
      rw [show l[i].name = (l.map (·.name))[i]'(by rw [List.length_map]; exact hi) by simp]
      exact List.set_getElem_self _
    rw [this]; exact h.names
/-- What the search finds. -/
theorem lFind_spec {l : List LockD} (h : LkOk l) (t : List UInt8) : (∀ i (hi : i < l.length), i < lFind l t → Op.bytesLess l[i].name t = true) ∧ (∀ i (hi : i < l.length), lFind l t ≤ i → Op.bytesLess l[i].name t = false) := by
  have hn := List.pairwise_iff_getElem.1 h.names
  have hg : ∀ i (hi : i < l.length), l.getD i noLock = l[i] := fun i hi => by simp [List.getD, hi]
  obtain ⟨h1, h2⟩ := bs_spec (f := fun i => lockCmp (l.getD i noLock) t) (N := l.length) fun i j hij hj hf => by
    have h3 := hn i j (by rw [List.length_map]; omega) (by rw [List.length_map]; exact hj) hij
    simp only [List.getElem_map] at h3
    simp only [lockCmp, hg i (by omega), hg j hj] at hf ⊢
    exact (less_iff _ _).1 (less_trans _ _ _ h3 ((less_iff _ _).2 hf))
  refine ⟨fun i hi hlt => ?_, fun i hi hge => ?_⟩
  · have := h1 i hlt
    simp only [lockCmp, hg i hi] at this
    exact (less_iff _ _).2 this
  · have := h2 i hge hi
    simp only [lockCmp, hg i hi] at this
    cases hb : Op.bytesLess l[i].name t
    · rfl
    · exact absurd ((less_iff _ _).1 hb) this
theorem lThere_name {l : List LockD} {t : List UInt8} (h : lThere l t = true) : (l[lFind l t]'(lThere_lt h)).name = t := by
  have hlt := lThere_lt h
  simp only [lThere, bsFound, Bool.and_eq_true, beq_iff_eq] at h
  have h2 : lockCmp (l.getD (lFind l t) noLock) t = 0 := h.2
  rw [show l.getD (lFind l t) noLock = l[lFind l t] by simp [List.getD, hlt]] at h2
  exact compare_eq _ _ h2
theorem lThere_no {l : List LockD} {t : List UInt8} (h : LkOk l) (hf : lThere l t = false) : ∀ x ∈ l, x.name ≠ t := by
  intro x hx hxt
  obtain ⟨j, hj, rfl⟩ := List.getElem_of_mem hx
  obtain ⟨h1, h2⟩ := lFind_spec h t
  have hnj : Op.bytesLess l[j].name t = false := by rw [hxt]; exact less_irrefl _
  have hge : lFind l t ≤ j := by
    rcases Nat.lt_or_ge j (lFind l t) with h3 | h3
    · rw [h1 j hj h3] at hnj; cases hnj
    · exact h3
  have heq : lFind l t = j := by
    rcases Nat.lt_or_ge (lFind l t) j with h3 | h3
    · have h4 := List.pairwise_iff_getElem.1 h.names (lFind l t) j (by rw [List.length_map]; omega) (by rw [List.length_map]; exact hj) h3
      simp only [List.getElem_map] at h4
      rw [hxt, h2 _ (by omega) (Nat.le_refl _)] at h4
      cases h4
    · omega
  have : lThere l t = true := by
    show (decide (lFind l t < l.length) && (lockCmp (l.getD (lFind l t) noLock) t == 0)) = true
    rw [heq, show l.getD j noLock = l[j] by simp [List.getD, hj], lockCmp, hxt, compare_self]
    simp [hj]
  rw [this] at hf; cases hf
theorem LkOk.insert {l : List LockD} (h : LkOk l) {x : LockD} (hx : LkOne x) (hlen : l.length < 5) (hno : lThere l x.name = false) : LkOk (l.take (lFind l x.name) ++ x :: l.drop (lFind l x.name)) := by
  obtain ⟨h1, h2⟩ := lFind_spec h x.name
  have hne := lThere_no h hno
  have hfl : lFind l x.name ≤ l.length := bs_le _ _
  refine LkOk.of (by simp; omega) (fun y hy => ?_) ?_
  · rcases List.mem_append.1 hy with hy | hy
    · exact h.one y (List.mem_of_mem_take hy)
    · rcases List.mem_cons.1 hy with rfl | hy
      · exact hx
      · exact h.one y (List.mem_of_mem_drop hy)
  · have hn := h.names
    have hd : ∀ y ∈ l.drop (lFind l x.name), Op.bytesLess x.name y.name = true := fun y hy => by
      obtain ⟨j, hj, rfl⟩ := List.getElem_of_mem hy
      rw [List.length_drop] at hj
      rw [List.getElem_drop]
      exact less_total _ _ (h2 _ (by omega) (by omega)) (hne _ (List.getElem_mem _))
    have ht : ∀ y ∈ l.take (lFind l x.name), Op.bytesLess y.name x.name = true := fun y hy => by
      obtain ⟨j, hj, rfl⟩ := List.getElem_of_mem hy
      rw [List.length_take] at hj
      rw [List.getElem_take]
      exact h1 _ (by omega) (by omega)
    rw [List.map_append, List.map_cons]
    refine List.pairwise_append.2 ⟨?_, List.pairwise_cons.2 ⟨fun n hn' => ?_, ?_⟩, fun a ha b hb => ?_⟩
    · rw [List.map_take]; exact hn.sublist (List.take_sublist _ _)
    · obtain ⟨y, hy, rfl⟩ := List.mem_map.1 hn'
      exact hd y hy
    · rw [List.map_drop]; exact hn.sublist (List.drop_sublist _ _)
    · obtain ⟨y, hy, rfl⟩ := List.mem_map.1 ha
      rcases List.mem_cons.1 hb with rfl | hb
      · exact ht y hy
      · obtain ⟨z, hz, rfl⟩ := List.mem_map.1 hb
        exact less_trans _ _ _ (ht y hy) (hd z hz)

theorem passP_name (x : LockD) : (passP x).name = x.name := by unfold passP; split <;> rfl
theorem unline_name (x : LockD) (who : Int) : (unline x who).name = x.name := by unfold unline; split <;> rfl
theorem goneK_name (x : LockD) (who : Int) : (goneK x who).name = x.name := by
  unfold goneK; split
  · rw [passP_name, unline_name]
  · rw [unline_name]
theorem passP_one {x : LockD} (h : LkOne x) : LkOne (passP x) := by
  unfold passP
  split
  · rename_i hc
    obtain ⟨a, r, hl⟩ : ∃ a r, x.line = a :: r := by
      cases hx : x.line with
      | nil => rw [hx] at hc; simp at hc
      | cons a r => exact ⟨a, r, rfl⟩
    have hn := h.line.nodup
    have hc1 := h.line.cl
    have hlen := h.line.len
    rw [hl] at hn hc1 hlen
    have ha := hc1 a (by simp)
    refine ⟨h.name, ?_, ?_, ?_⟩
    · simp only [hl, List.getD_cons_zero]; omega
    · simp only [hl, List.getD_cons_zero, List.drop_succ_cons, List.drop_zero]
      refine ⟨by simp at hlen; show r.length ≤ 3; omega, fun h0 => by simp only at h0; omega, fun y hy => hc1 y (by simp [hy]), fun y hy => ?_, (List.nodup_cons.1 hn).2⟩
      rintro rfl
      exact (List.nodup_cons.1 hn).1 hy
    · have := h.fence; show 1 ≤ x.fence + 1 ∧ x.fence + 1 ≤ 1073741824; omega
  · exact ⟨h.name, (show 0 ≤ (0 : Int) ∧ (0 : Int) ≤ 9 by decide), ⟨by simp, fun _ => rfl, by simp, by simp, by simp⟩, h.fence⟩
theorem unline_one {x : LockD} {who : Int} (h : LkOne x) : LkOne (unline x who) := by
  unfold unline
  split
  · have hs : ∀ i, (x.line.eraseIdx i).Sublist x.line := fun i => List.eraseIdx_sublist _ _
    refine ⟨h.name, h.hold, ⟨Nat.le_trans (hs _).length_le h.line.len, fun h0 => ?_, fun y hy => h.line.cl y ((hs _).subset hy), fun y hy => h.line.ne y ((hs _).subset hy), h.line.nodup.sublist (hs _)⟩, h.fence⟩
    have h1 := h.line.held h0
    show x.line.eraseIdx _ = []
    rw [h1]; rfl
  · exact h
theorem goneK_one {x : LockD} {who : Int} (h : LkOne x) : LkOne (goneK x who) := by
  unfold goneK; split
  · exact passP_one (unline_one h)
  · exact unline_one h
theorem take_ok {l : List LockD} {name : List UInt8} {who : Int} {wt : Bool} (h : LkOk l) (hn : lkName name = true) (hw : 1 ≤ who ∧ who ≤ 9) : LkOk (lkTake l name who wt).1 ∧ (lkTake l name who wt).2.2 = 0 := by
  rw [lkTake, if_neg (by rw [lk_begin h hn hw]; simp)]
  by_cases ht : lThere l name = false
  · rw [if_pos ht]
    by_cases h5 : l.length = 5
    · rw [if_pos h5]; exact ⟨h, rfl⟩
    · rw [if_neg h5]
      exact ⟨LkOk.insert (x := ⟨name, who, 1, []⟩) h ⟨hn, by show 0 ≤ who ∧ who ≤ 9; omega, ⟨by simp, by simp, by simp, by simp, by simp⟩, (show 1 ≤ (1 : Int) ∧ (1 : Int) ≤ 1073741824 by decide)⟩ (by have := h.len; omega) ht, rfl⟩
  · rw [if_neg ht]
    have ht' : lThere l name = true := by simpa using ht
    have hlt := lThere_lt ht'
    have hg : l.getD (lFind l name) noLock = l[lFind l name] := by simp [List.getD, hlt]
    rw [hg]
    have ho := h.one _ (List.getElem_mem hlt)
    split
    · exact ⟨h, rfl⟩
    · rename_i hw1
      split
      · split
        · exact ⟨h, rfl⟩
        · rename_i h0 hf
          refine ⟨h.set hlt (x := { l[lFind l name] with holder := who, fence := l[lFind l name].fence + 1 }) ⟨ho.name, by show 0 ≤ who ∧ who ≤ 9; omega, ?_, by have := ho.fence; show 1 ≤ l[lFind l name].fence + 1 ∧ l[lFind l name].fence + 1 ≤ 1073741824; omega⟩ rfl, rfl⟩
          have h1 := ho.line.held h0
          exact ⟨ho.line.len, (fun h2 => by simp only at h2; omega), ho.line.cl, (fun y hy => by simp only at hy; rw [h1] at hy; cases hy), ho.line.nodup⟩
      · rename_i h0
        split
        · exact ⟨h, rfl⟩
        · rename_i hq
          split
          · exact ⟨h, rfl⟩
          · rename_i h3
            refine ⟨h.set hlt (x := { l[lFind l name] with line := l[lFind l name].line ++ [who] }) ⟨ho.name, ho.hold, ?_, ho.fence⟩ rfl, rfl⟩
            have hnin : who ∉ l[lFind l name].line := fun hm => hq (.inr hm)
            refine ⟨by have := ho.line.len; simp; omega, fun h2 => absurd h2 h0, fun y hy => ?_, fun y hy => ?_, ?_⟩
            · rcases List.mem_append.1 hy with hy | hy
              · exact ho.line.cl y hy
              · simp at hy; subst hy; exact hw
            · rcases List.mem_append.1 hy with hy | hy
              · exact ho.line.ne y hy
              · simp at hy; subst hy; exact fun e => hw1 e.symm
            · exact List.nodup_append.2 ⟨ho.line.nodup, by simp, fun a ha b hb => by simp at hb; subst hb; rintro rfl; exact hnin ha⟩
theorem free_ok {l : List LockD} {name : List UInt8} {who : Int} (h : LkOk l) (hn : lkName name = true) (hw : 1 ≤ who ∧ who ≤ 9) : LkOk (lkFree l name who).1 ∧ (lkFree l name who).2.2 = 0 := by
  rw [lkFree, if_neg (by rw [lk_begin h hn hw]; simp)]
  by_cases ht : lThere l name = false
  · rw [if_pos ht]; exact ⟨h, rfl⟩
  · rw [if_neg ht]
    have ht' : lThere l name = true := by simpa using ht
    have hlt := lThere_lt ht'
    have hg : l.getD (lFind l name) noLock = l[lFind l name] := by simp [List.getD, hlt]
    rw [hg]
    have ho := h.one _ (List.getElem_mem hlt)
    split
    · exact ⟨h.set hlt (passP_one ho) (passP_name _), rfl⟩
    · split
      · exact ⟨h.set hlt (unline_one ho) (unline_name _ _), rfl⟩
      · exact ⟨h, rfl⟩
theorem gone_ok {l : List LockD} {who : Int} (h : LkOk l) (hw : 1 ≤ who ∧ who ≤ 9) : LkOk (lkGone l who).1 ∧ lkGone l who = (l.map (fun k => goneK k who), 0) := by
  have he : lkGone l who = (l.map (fun k => goneK k who), 0) := by rw [lkGone, if_neg (by rw [lkCheck_ok.2 h]; simp), if_neg (by rw [lkClient_iff.2 hw]; decide)]
  refine ⟨?_, he⟩
  rw [he]
  refine LkOk.of (by rw [List.length_map]; exact h.len) (fun y hy => ?_) ?_
  · obtain ⟨x, hx, rfl⟩ := List.mem_map.1 hy
    exact goneK_one (h.one x hx)
  · rw [List.map_map]
    have : ((fun x : LockD => x.name) ∘ fun k => goneK k who) = fun x => x.name := by funext x; exact goneK_name x who
    rw [this]; exact h.names
end Go.Tk
