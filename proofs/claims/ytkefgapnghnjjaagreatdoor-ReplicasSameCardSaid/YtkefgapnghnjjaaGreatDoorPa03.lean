/- A part of the proof, laid together from: LocksP, RawD, LocksQ, Kset, OneP, OneQ, SessQ, PairP. -/
import Derived.Test.YtkefgapnghnjjaaGreatDoorPa02
import Derived.Test.YtkefgapnghnjjaaGreatDoorPa01
set_option linter.unusedSimpArgs false
set_option linter.unusedVariables false
namespace Go.Tk
open Go
theorem less_nil (a : List UInt8) : Op.bytesLess a [] = false := by cases a <;> rfl
theorem less_iff : ∀ a b : List UInt8, Op.bytesLess a b = true ↔ Lib.compareBytes a b < 0
  | [], [] => by simp [Op.bytesLess, Lib.compareBytes]
  | [], b :: bs => by simp [Op.bytesLess, Lib.compareBytes]
  | a :: as, [] => by simp [Op.bytesLess, Lib.compareBytes]
  | a :: as, b :: bs => by
    have ih := less_iff as bs
    rw [Op.bytesLess, Lib.compareBytes]
    by_cases h1 : a < b
    · simp [h1]
    · rw [if_neg h1]
      by_cases h2 : b < a
      · rw [if_pos h2]
        have hne : (a == b) = false := by
          rw [beq_eq_false_iff_ne]; rintro rfl; exact UInt8.lt_irrefl _ h2
        simp [h1, hne]
      · rw [if_neg h2]
        have he : a = b := UInt8.le_antisymm (UInt8.not_lt.1 h2) (UInt8.not_lt.1 h1)
        subst he
        simp only [h1, decide_false, Bool.false_or, beq_self_eq_true, Bool.true_and]
        exact ih
theorem less_trans : ∀ a b c : List UInt8, Op.bytesLess a b = true → Op.bytesLess b c = true → Op.bytesLess a c = true
  | a, b, [], _, h2 => by rw [less_nil] at h2; cases h2
  | a, [], c :: cs, h1, _ => by rw [less_nil] at h1; cases h1
  | [], b :: bs, c :: cs, _, _ => rfl
  | a :: as, b :: bs, c :: cs, h1, h2 => by
    rw [Op.bytesLess] at h1 h2 ⊢
    simp only [Bool.or_eq_true, decide_eq_true_eq, Bool.and_eq_true, beq_iff_eq] at h1 h2 ⊢
    rcases h1 with h1 | ⟨rfl, h1⟩
    · rcases h2 with h2 | ⟨rfl, h2⟩
      · exact .inl (UInt8.lt_trans h1 h2)
      · exact .inl h1
    · rcases h2 with h2 | ⟨rfl, h2⟩
      · exact .inl h2
      · exact .inr ⟨rfl, less_trans as bs cs h1 h2⟩
theorem less_irrefl : ∀ a : List UInt8, Op.bytesLess a a = false
  | [] => rfl
  | a :: as => by rw [Op.bytesLess]; simp [less_irrefl as, UInt8.lt_irrefl]
theorem less_total : ∀ a b : List UInt8, Op.bytesLess a b = false → a ≠ b → Op.bytesLess b a = true
  | [], [], _, h => absurd rfl h
  | [], b :: bs, h, _ => by cases h
  | a :: as, [], _, _ => rfl
  | a :: as, b :: bs, h, hne => by
    rw [Op.bytesLess] at h ⊢
    simp only [Bool.or_eq_false_iff, decide_eq_false_iff_not, Bool.and_eq_false_iff, beq_eq_false_iff_ne, Bool.or_eq_true, decide_eq_true_eq, Bool.and_eq_true, beq_iff_eq] at h ⊢
    by_cases h2 : b < a
    · exact .inl h2
    · have he : a = b := UInt8.le_antisymm (UInt8.not_lt.1 h2) (UInt8.not_lt.1 h.1)
      subst he
      refine .inr ⟨rfl, less_total as bs ?_ (fun e => hne (by rw [e]))⟩
      rcases h.2 with h | h
      · exact absurd rfl h
      · exact h
def lsorted (ns : List (List UInt8)) : Prop := ns.Pairwise fun a b => Op.bytesLess a b = true
theorem lsorted_of {ns : List (List UInt8)} (h : ∀ i (h0 : 0 < i) (hi : i < ns.length), Op.bytesLess (ns[i - 1]'(by omega)) ns[i] = true) : lsorted ns := by
  refine List.pairwise_iff_getElem.2 fun i j hi hj hij => ?_
  induction j with
  | zero => omega
  | succ j ih =>
    rcases Nat.lt_or_ge i j with h1 | h1
    · exact less_trans _ _ _ (ih (by omega) h1) (h (j + 1) (by omega) hj)
    · obtain rfl : i = j := by omega
      exact h (i + 1) (by omega) hj
structure LkOne (x : LockD) : Prop where
  name : lkName x.name = true
  hold : 0 ≤ x.holder ∧ x.holder ≤ 9
  line : LineOk x
  fence : 1 ≤ x.fence ∧ x.fence ≤ 1073741824
theorem LkOk.names {l : List LockD} (h : LkOk l) : lsorted (l.map (·.name)) := by
  refine lsorted_of fun i h0 hi => ?_
  rw [List.length_map] at hi
  have := h.ord i h0 hi
  rw [show l.getD (i - 1) noLock = l[i - 1] by simp [List.getD, show i - 1 < l.length by omega], show l.getD i noLock = l[i] by simp [List.getD, hi]] at this
  simpa using this
theorem LkOk.one {l : List LockD} (h : LkOk l) : ∀ x ∈ l, LkOne x := fun x hx => ⟨h.name x hx, h.hold x hx, h.line x hx, h.fence x hx⟩
theorem LkOk.of {l : List LockD} (h1 : l.length ≤ 5) (h2 : ∀ x ∈ l, LkOne x) (h3 : lsorted (l.map (·.name))) : LkOk l := by
  refine ⟨h1, fun x hx => (h2 x hx).name, fun x hx => (h2 x hx).hold, fun x hx => (h2 x hx).line, fun x hx => (h2 x hx).fence, fun i h0 hi => ?_⟩
  have := List.pairwise_iff_getElem.1 h3 (i - 1) i (by rw [List.length_map]; omega) (by rw [List.length_map]; exact hi) (by omega)
  rw [show l.getD (i - 1) noLock = l[i - 1] by simp [List.getD, show i - 1 < l.length by omega], show l.getD i noLock = l[i] by simp [List.getD, hi]]
  simpa using this
theorem LkOk.set {l : List LockD} (h : LkOk l) {i : Nat} (hi : i < l.length) {x : LockD} (hx : LkOne x) (hn : x.name = l[i].name) : LkOk (l.set i x) := by
  refine LkOk.of (by rw [List.length_set]; exact h.len) (fun y hy => ?_) ?_
  · rcases List.mem_or_eq_of_mem_set hy with h1 | h1
    · exact h.one y h1
    · rw [h1]; exact hx
  · rw [List.map_set, hn]
    have : (l.map (·.name)).set i l[i].name = l.map (·.name) := by
      rw [show l[i].name = (l.map (·.name))[i]'(by rw [List.length_map]; exact hi) by simp]
      exact List.set_getElem_self _
    rw [this]; exact h.names
theorem lFind_spec {l : List LockD} (h : LkOk l) (t : List UInt8) : (∀ i (hi : i < l.length), i < lFind l t → Op.bytesLess l[i].name t = true) ∧ (∀ i (hi : i < l.length), lFind l t ≤ i → Op.bytesLess l[i].name t = false) := by
  have hn := List.pairwise_iff_getElem.1 h.names
  have hg : ∀ i (hi : i < l.length), l.getD i noLock = l[i] := fun i hi => by simp [List.getD, hi]
  obtain ⟨h1, h2⟩ := bs_spec (f := fun i => lockCmp (l.getD i noLock) t) (N := l.length) fun i j hij hj hf => by
    have h3 := hn i j (by rw [List.length_map]; omega) (by rw [List.length_map]; exact hj) hij
    simp only [List.getElem_map] at h3
    simp only [lockCmp, hg i (by omega), hg j hj] at hf ⊢
    exact (less_iff _ _).1 (less_trans _ _ _ h3 ((less_iff _ _).2 hf))
  refine ⟨fun i hi hlt => ?_, fun i hi hge => ?_⟩
  · have := h1 i hlt
    simp only [lockCmp, hg i hi] at this
    exact (less_iff _ _).2 this
  · have := h2 i hge hi
    simp only [lockCmp, hg i hi] at this
    cases hb : Op.bytesLess l[i].name t
    · rfl
    · exact absurd ((less_iff _ _).1 hb) this
theorem lThere_no {l : List LockD} {t : List UInt8} (h : LkOk l) (hf : lThere l t = false) : ∀ x ∈ l, x.name ≠ t := by
  intro x hx hxt
  obtain ⟨j, hj, rfl⟩ := List.getElem_of_mem hx
  obtain ⟨h1, h2⟩ := lFind_spec h t
  have hnj : Op.bytesLess l[j].name t = false := by rw [hxt]; exact less_irrefl _
  have hge : lFind l t ≤ j := by
    rcases Nat.lt_or_ge j (lFind l t) with h3 | h3
    · rw [h1 j hj h3] at hnj; cases hnj
    · exact h3
  have heq : lFind l t = j := by
    rcases Nat.lt_or_ge (lFind l t) j with h3 | h3
    · have h4 := List.pairwise_iff_getElem.1 h.names (lFind l t) j (by rw [List.length_map]; omega) (by rw [List.length_map]; exact hj) h3
      simp only [List.getElem_map] at h4
      rw [hxt, h2 _ (by omega) (Nat.le_refl _)] at h4
      cases h4
    · omega
  have : lThere l t = true := by
    show (decide (lFind l t < l.length) && (lockCmp (l.getD (lFind l t) noLock) t == 0)) = true
    rw [heq, show l.getD j noLock = l[j] by simp [List.getD, hj], lockCmp, hxt, compare_self]
    simp [hj]
  rw [this] at hf; cases hf
theorem LkOk.insert {l : List LockD} (h : LkOk l) {x : LockD} (hx : LkOne x) (hlen : l.length < 5) (hno : lThere l x.name = false) : LkOk (l.take (lFind l x.name) ++ x :: l.drop (lFind l x.name)) := by
  obtain ⟨h1, h2⟩ := lFind_spec h x.name
  have hne := lThere_no h hno
  have hfl : lFind l x.name ≤ l.length := bs_le _ _
  refine LkOk.of (by simp; omega) (fun y hy => ?_) ?_
  · rcases List.mem_append.1 hy with hy | hy
    · exact h.one y (List.mem_of_mem_take hy)
    · rcases List.mem_cons.1 hy with rfl | hy
      · exact hx
      · exact h.one y (List.mem_of_mem_drop hy)
  · have hn := h.names
    have hd : ∀ y ∈ l.drop (lFind l x.name), Op.bytesLess x.name y.name = true := fun y hy => by
      obtain ⟨j, hj, rfl⟩ := List.getElem_of_mem hy
      rw [List.length_drop] at hj
      rw [List.getElem_drop]
      exact less_total _ _ (h2 _ (by omega) (by omega)) (hne _ (List.getElem_mem _))
    have ht : ∀ y ∈ l.take (lFind l x.name), Op.bytesLess y.name x.name = true := fun y hy => by
      obtain ⟨j, hj, rfl⟩ := List.getElem_of_mem hy
      rw [List.length_take] at hj
      rw [List.getElem_take]
      exact h1 _ (by omega) (by omega)
    rw [List.map_append, List.map_cons]
    refine List.pairwise_append.2 ⟨?_, List.pairwise_cons.2 ⟨fun n hn' => ?_, ?_⟩, fun a ha b hb => ?_⟩
    · rw [List.map_take]; exact hn.sublist (List.take_sublist _ _)
    · obtain ⟨y, hy, rfl⟩ := List.mem_map.1 hn'
      exact hd y hy
    · rw [List.map_drop]; exact hn.sublist (List.drop_sublist _ _)
    · obtain ⟨y, hy, rfl⟩ := List.mem_map.1 ha
      rcases List.mem_cons.1 hb with rfl | hb
      · exact ht y hy
      · obtain ⟨z, hz, rfl⟩ := List.mem_map.1 hb
        exact less_trans _ _ _ (ht y hy) (hd z hz)
theorem passP_name (x : LockD) : (passP x).name = x.name := by unfold passP; split <;> rfl
theorem unline_name (x : LockD) (who : Int) : (unline x who).name = x.name := by unfold unline; split <;> rfl
theorem goneK_name (x : LockD) (who : Int) : (goneK x who).name = x.name := by
  unfold goneK; split
  · rw [passP_name, unline_name]
  · rw [unline_name]
theorem passP_one {x : LockD} (h : LkOne x) : LkOne (passP x) := by
  unfold passP
  split
  · rename_i hc
    obtain ⟨a, r, hl⟩ : ∃ a r, x.line = a :: r := by
      cases hx : x.line with
      | nil => rw [hx] at hc; simp at hc
      | cons a r => exact ⟨a, r, rfl⟩
    have hn := h.line.nodup
    have hc1 := h.line.cl
    have hlen := h.line.len
    rw [hl] at hn hc1 hlen
    have ha := hc1 a (by simp)
    refine ⟨h.name, ?_, ?_, ?_⟩
    · simp only [hl, List.getD_cons_zero]; omega
    · simp only [hl, List.getD_cons_zero, List.drop_succ_cons, List.drop_zero]
      refine ⟨by simp at hlen; show r.length ≤ 3; omega, fun h0 => by simp only at h0; omega, fun y hy => hc1 y (by simp [hy]), fun y hy => ?_, (List.nodup_cons.1 hn).2⟩
      rintro rfl
      exact (List.nodup_cons.1 hn).1 hy
    · have := h.fence; show 1 ≤ x.fence + 1 ∧ x.fence + 1 ≤ 1073741824; omega
  · exact ⟨h.name, (show 0 ≤ (0 : Int) ∧ (0 : Int) ≤ 9 by decide), ⟨by simp, fun _ => rfl, by simp, by simp, by simp⟩, h.fence⟩
theorem unline_one {x : LockD} {who : Int} (h : LkOne x) : LkOne (unline x who) := by
  unfold unline
  split
  · have hs : ∀ i, (x.line.eraseIdx i).Sublist x.line := fun i => List.eraseIdx_sublist _ _
    refine ⟨h.name, h.hold, ⟨Nat.le_trans (hs _).length_le h.line.len, fun h0 => ?_, fun y hy => h.line.cl y ((hs _).subset hy), fun y hy => h.line.ne y ((hs _).subset hy), h.line.nodup.sublist (hs _)⟩, h.fence⟩
    have h1 := h.line.held h0
    show x.line.eraseIdx _ = []
    rw [h1]; rfl
  · exact h
theorem goneK_one {x : LockD} {who : Int} (h : LkOne x) : LkOne (goneK x who) := by
  unfold goneK; split
  · exact passP_one (unline_one h)
  · exact unline_one h
theorem take_ok {l : List LockD} {name : List UInt8} {who : Int} {wt : Bool} (h : LkOk l) (hn : lkName name = true) (hw : 1 ≤ who ∧ who ≤ 9) : LkOk (lkTake l name who wt).1 ∧ (lkTake l name who wt).2.2 = 0 := by
  rw [lkTake, if_neg (by rw [lk_begin h hn hw]; simp)]
  by_cases ht : lThere l name = false
  · rw [if_pos ht]
    by_cases h5 : l.length = 5
    · rw [if_pos h5]; exact ⟨h, rfl⟩
    · rw [if_neg h5]
      exact ⟨LkOk.insert (x := ⟨name, who, 1, []⟩) h ⟨hn, by show 0 ≤ who ∧ who ≤ 9; omega, ⟨by simp, by simp, by simp, by simp, by simp⟩, (show 1 ≤ (1 : Int) ∧ (1 : Int) ≤ 1073741824 by decide)⟩ (by have := h.len; omega) ht, rfl⟩
  · rw [if_neg ht]
    have ht' : lThere l name = true := by simpa using ht
    have hlt := lThere_lt ht'
    have hg : l.getD (lFind l name) noLock = l[lFind l name] := by simp [List.getD, hlt]
    rw [hg]
    have ho := h.one _ (List.getElem_mem hlt)
    split
    · exact ⟨h, rfl⟩
    · rename_i hw1
      split
      · split
        · exact ⟨h, rfl⟩
        · rename_i h0 hf
          refine ⟨h.set hlt (x := { l[lFind l name] with holder := who, fence := l[lFind l name].fence + 1 }) ⟨ho.name, by show 0 ≤ who ∧ who ≤ 9; omega, ?_, by have := ho.fence; show 1 ≤ l[lFind l name].fence + 1 ∧ l[lFind l name].fence + 1 ≤ 1073741824; omega⟩ rfl, rfl⟩
          have h1 := ho.line.held h0
          exact ⟨ho.line.len, (fun h2 => by simp only at h2; omega), ho.line.cl, (fun y hy => by simp only at hy; rw [h1] at hy; cases hy), ho.line.nodup⟩
      · rename_i h0
        split
        · exact ⟨h, rfl⟩
        · rename_i hq
          split
          · exact ⟨h, rfl⟩
          · rename_i h3
            refine ⟨h.set hlt (x := { l[lFind l name] with line := l[lFind l name].line ++ [who] }) ⟨ho.name, ho.hold, ?_, ho.fence⟩ rfl, rfl⟩
            have hnin : who ∉ l[lFind l name].line := fun hm => hq (.inr hm)
            refine ⟨by have := ho.line.len; simp; omega, fun h2 => absurd h2 h0, fun y hy => ?_, fun y hy => ?_, ?_⟩
            · rcases List.mem_append.1 hy with hy | hy
              · exact ho.line.cl y hy
              · simp at hy; subst hy; exact hw
            · rcases List.mem_append.1 hy with hy | hy
              · exact ho.line.ne y hy
              · simp at hy; subst hy; exact fun e => hw1 e.symm
            · exact List.nodup_append.2 ⟨ho.line.nodup, by simp, fun a ha b hb => by simp at hb; subst hb; rintro rfl; exact hnin ha⟩
theorem free_ok {l : List LockD} {name : List UInt8} {who : Int} (h : LkOk l) (hn : lkName name = true) (hw : 1 ≤ who ∧ who ≤ 9) : LkOk (lkFree l name who).1 ∧ (lkFree l name who).2.2 = 0 := by
  rw [lkFree, if_neg (by rw [lk_begin h hn hw]; simp)]
  by_cases ht : lThere l name = false
  · rw [if_pos ht]; exact ⟨h, rfl⟩
  · rw [if_neg ht]
    have ht' : lThere l name = true := by simpa using ht
    have hlt := lThere_lt ht'
    have hg : l.getD (lFind l name) noLock = l[lFind l name] := by simp [List.getD, hlt]
    rw [hg]
    have ho := h.one _ (List.getElem_mem hlt)
    split
    · exact ⟨h.set hlt (passP_one ho) (passP_name _), rfl⟩
    · split
      · exact ⟨h.set hlt (unline_one ho) (unline_name _ _), rfl⟩
      · exact ⟨h, rfl⟩
theorem gone_ok {l : List LockD} {who : Int} (h : LkOk l) (hw : 1 ≤ who ∧ who ≤ 9) : LkOk (lkGone l who).1 ∧ lkGone l who = (l.map (fun k => goneK k who), 0) := by
  have he : lkGone l who = (l.map (fun k => goneK k who), 0) := by rw [lkGone, if_neg (by rw [lkCheck_ok.2 h]; simp), if_neg (by rw [lkClient_iff.2 hw]; decide)]
  refine ⟨?_, he⟩
  rw [he]
  refine LkOk.of (by rw [List.length_map]; exact h.len) (fun y hy => ?_) ?_
  · obtain ⟨x, hx, rfl⟩ := List.mem_map.1 hy
    exact goneK_one (h.one x hx)
  · rw [List.map_map]
    have : ((fun x : LockD => x.name) ∘ fun k => goneK k who) = fun x => x.name := by funext x; exact goneK_name x who
    rw [this]; exact h.names
end Go.Tk

namespace Go.Tk
open Go Go.RowKit
structure RawD where
  kind : Int
  a : Int
  b : Int
  c : Int
def rRaw : Rel RawD := fun _ cs x _ => cs = [.int .i64 x.kind, .int .i64 x.a, .int .i64 x.b, .int .i64 x.c]
theorem rRaw_ok : RelOk rRaw 4 := ⟨by rintro w cs x S rfl; rfl, by rintro w cs x S rfl u hu; simp at hu; rcases hu with rfl | rfl | rfl | rfl <;> rfl, fun h _ => h⟩
def I64 (n : Int) : Prop := -9223372036854775808 ≤ n ∧ n ≤ 9223372036854775807
def RawOk (x : RawD) : Prop := I64 x.kind ∧ I64 x.a ∧ I64 x.b ∧ I64 x.c
end Go.Tk

namespace Go.Tk
open Go Go.RowKit
end Go.Tk

namespace Go.Tk
open Go Go.RowKit
def kset : List (List UInt8) := [[97], [98], [107, 101, 121]]
end Go.Tk

namespace Go.Tk
open Go
structure Small (n : Nat) (l : List LockD) : Prop where
  name : ∀ x ∈ l, x.name ∈ kset
  fence : ∀ x ∈ l, x.fence ≤ n + 1
  hold : ∀ x ∈ l, x.holder ≤ 5
  line : ∀ x ∈ l, ∀ y ∈ x.line, y ≤ 5
theorem Small.nil (n : Nat) : Small n [] := ⟨by simp, by simp, by simp, by simp⟩
theorem Small.more {n m : Nat} {l : List LockD} (h : Small n l) (hm : n ≤ m) : Small m l := ⟨h.name, fun x hx => by have := h.fence x hx; omega, h.hold, h.line⟩
theorem Small.set {n : Nat} {l : List LockD} (h : Small n l) {i : Nat} {x : LockD} (h1 : x.name ∈ kset) (h2 : x.fence ≤ n + 1) (h3 : x.holder ≤ 5) (h4 : ∀ y ∈ x.line, y ≤ 5) : Small n (l.set i x) := by
  refine ⟨fun y hy => ?_, fun y hy => ?_, fun y hy => ?_, fun y hy => ?_⟩ <;> rcases List.mem_or_eq_of_mem_set hy with h5 | h5
  · exact h.name y h5
  · rw [h5]; exact h1
  · exact h.fence y h5
  · rw [h5]; exact h2
  · exact h.hold y h5
  · rw [h5]; exact h3
  · exact h.line y h5
  · rw [h5]; exact h4
theorem unline_same (x : LockD) (a : Int) : (unline x a).holder = x.holder ∧ (unline x a).fence = x.fence := by unfold unline; split <;> exact ⟨rfl, rfl⟩
end Go.Tk

namespace Go.Tk
open Go
end Go.Tk

namespace Go.Tk
open Go
structure OpD where
  kind : Int
  a : List UInt8
  b : List UInt8
  n : Int
structure CommandD where
  kind : Int
  client : Int
  session : Int
  seq : Int
  acked : Int
  op : OpD
def noOp : OpD := ⟨0, [], [], 0⟩
def OpD.cells (o : OpD) : List Value := [.int .i64 o.kind, .string ⟨o.a.toArray⟩, .string ⟨o.b.toArray⟩, .int .i64 o.n]
def readyS (s : SessionD) (index acked : Int) : SessionD :=
  if s.acked < acked then ⟨s.client, s.id, acked, index + 1, s.replies.filter (fun k => !decide (k.seq ≤ acked))⟩ else ⟨s.client, s.id, s.acked, index + 1, s.replies⟩
def readyT (s : SessionD) (seq : Int) : ReplyD × Bool :=
  if seq ≤ s.acked then (⟨12, 0, []⟩, false)
  else if 0 ≤ fIdx (fun k => k.seq == seq) s.replies then ((s.replies.getD (fIdx (fun k => k.seq == seq) s.replies).toNat noKept).reply, false)
  else if s.acked + 4 < seq then (⟨2, 0, []⟩, false)
  else (noReply, true)
def ready (l : List SessionD) (index client session seq acked : Int) : List SessionD × ReplyD × Bool × Int :=
  if sessCheck l index ≠ 0 then ([], noReply, false, sessCheck l index)
  else if index = 1073741824 ∨ seq < 1 ∨ 1048576 < seq ∨ acked < 0 ∨ seq ≤ acked then ([], noReply, false, 2)
  else if sThere l client = false ∨ (l.getD (sFind l client) noSession).id ≠ session then (l, ⟨11, 0, []⟩, false, 0)
  else (l.set (sFind l client) (readyS (l.getD (sFind l client) noSession) index acked), (readyT (readyS (l.getD (sFind l client) noSession) index acked) seq).1, (readyT (readyS (l.getD (sFind l client) noSession) index acked) seq).2, 0)
def kFind (l : List KeptD) (q : Int) : Nat := bs (fun i => keptCmp (l.getD i noKept) q) l.length
def kThere (l : List KeptD) (q : Int) : Bool := bsFound (fun i => keptCmp (l.getD i noKept) q) l.length
def keepS (s : SessionD) (seq : Int) (r : ReplyD) : SessionD := ⟨s.client, s.id, s.acked, s.last, s.replies.take (kFind s.replies seq) ++ ⟨seq, r⟩ :: s.replies.drop (kFind s.replies seq)⟩
def keep (l : List SessionD) (index client seq : Int) (r : ReplyD) : List SessionD × Int :=
  if sessCheck l index ≠ 0 then ([], sessCheck l index)
  else if sThere l client = false then ([], 11)
  else if kThere (l.getD (sFind l client) noSession).replies seq = true then ([], 7)
  else if replies (keepS (l.getD (sFind l client) noSession) seq r) = false then ([], 2)
  else (l.set (sFind l client) (keepS (l.getD (sFind l client) noSession) seq r), 0)
theorem readyS_acked {s : SessionD} {index acked : Int} (h : s.acked < acked) : readyS s index acked = ⟨s.client, s.id, acked, index + 1, s.replies.filter (fun k => !decide (k.seq ≤ acked))⟩ := if_pos h
theorem readyS_same {s : SessionD} {index acked : Int} (h : ¬ s.acked < acked) : readyS s index acked = ⟨s.client, s.id, s.acked, index + 1, s.replies⟩ := if_neg h
end Go.Tk

namespace Go.Tk
open Go Go.RowKit
def prErr (l : List PairD) (i : Nat) : Int :=
  if lkName (l.getD i noPair).name = false then 4
  else if 12 < (l.getD i noPair).value.length then 1
  else if (l.getD i noPair).version < 1 ∨ 1073741824 < (l.getD i noPair).version then 2
  else if 0 < i ∧ Op.bytesLess (l.getD (i - 1) noPair).name (l.getD i noPair).name = false then 14
  else 0
def prCheck (l : List PairD) : Int := if 5 < l.length then 1 else firstErr (prErr l) l.length
structure PrOne (x : PairD) : Prop where
  name : lkName x.name = true
  size : x.value.length ≤ 12
  vers : 1 ≤ x.version ∧ x.version ≤ 1073741824
structure PrOk (l : List PairD) : Prop where
  len : l.length ≤ 5
  one : ∀ x ∈ l, PrOne x
  names : lsorted (l.map (·.name))
theorem getD_at {α : Type} {l : List α} {d : α} {i : Nat} (h : i < l.length) : l.getD i d = l[i] := by simp [List.getD, h]
theorem prCheck_ok {l : List PairD} : prCheck l = 0 ↔ PrOk l := by
  rw [prCheck]
  constructor
  · intro h
    split at h
    · cases h
    · have hz := firstErr_zero.1 h
      have hg : ∀ i, i < l.length → PrOne (l.getD i noPair) ∧ (0 < i → Op.bytesLess (l.getD (i - 1) noPair).name (l.getD i noPair).name = true) := by
        intro i hi
        have := hz i hi
        rw [prErr] at this
        split at this; · cases this
        split at this; · cases this
        split at this; · cases this
        split at this; · cases this
        rename_i a b c d
        refine ⟨⟨by simpa using a, by omega, by omega⟩, fun h0 => ?_⟩
        cases hb : Op.bytesLess (l.getD (i - 1) noPair).name (l.getD i noPair).name
        · exact absurd ⟨h0, hb⟩ d
        · rfl
      refine ⟨by omega, fun x hx => ?_, lsorted_of fun i h0 hi => ?_⟩
      · obtain ⟨i, hi, rfl⟩ := mem_getD l x noPair hx
        exact (hg i hi).1
      · rw [List.length_map] at hi
        have := (hg i hi).2 h0
        rw [getD_at (show i - 1 < l.length by omega), getD_at hi] at this
        simpa using this
  · intro h
    rw [if_neg (by have := h.len; omega)]
    refine firstErr_zero.2 fun i hi => ?_
    have hm := h.one _ (getD_mem l i noPair hi)
    rw [prErr, if_neg (by rw [hm.name]; decide), if_neg (by have := hm.size; omega), if_neg (by have := hm.vers; omega), if_neg]
    rintro ⟨h0, hb⟩
    have := List.pairwise_iff_getElem.1 h.names (i - 1) i (by rw [List.length_map]; omega) (by rw [List.length_map]; exact hi) (by omega)
    rw [getD_at (show i - 1 < l.length by omega), getD_at hi] at hb
    simp only [List.getElem_map] at this
    rw [hb] at this; cases this
def pairCmp (x : PairD) (t : List UInt8) : Int := Lib.compareBytes x.name t
def pFind (l : List PairD) (t : List UInt8) : Nat := bs (fun i => pairCmp (l.getD i noPair) t) l.length
def pThere (l : List PairD) (t : List UInt8) : Bool := bsFound (fun i => pairCmp (l.getD i noPair) t) l.length
theorem pThere_lt {l : List PairD} {t : List UInt8} (h : pThere l t = true) : pFind l t < l.length := by
  simp only [pThere, bsFound, Bool.and_eq_true, decide_eq_true_eq] at h; exact h.1
theorem pFind_spec {l : List PairD} (h : PrOk l) (t : List UInt8) : (∀ i (hi : i < l.length), i < pFind l t → Op.bytesLess l[i].name t = true) ∧ (∀ i (hi : i < l.length), pFind l t ≤ i → Op.bytesLess l[i].name t = false) := by
  have hn := List.pairwise_iff_getElem.1 h.names
  have hg : ∀ i (hi : i < l.length), l.getD i noPair = l[i] := fun i hi => getD_at hi
  obtain ⟨h1, h2⟩ := bs_spec (f := fun i => pairCmp (l.getD i noPair) t) (N := l.length) fun i j hij hj hf => by
    have h3 := hn i j (by rw [List.length_map]; omega) (by rw [List.length_map]; exact hj) hij
    simp only [List.getElem_map] at h3
    simp only [pairCmp, hg i (by omega), hg j hj] at hf ⊢
    exact (less_iff _ _).1 (less_trans _ _ _ h3 ((less_iff _ _).2 hf))
  refine ⟨fun i hi hlt => ?_, fun i hi hge => ?_⟩
  · have := h1 i hlt
    simp only [pairCmp, hg i hi] at this
    exact (less_iff _ _).2 this
  · have := h2 i hge hi
    simp only [pairCmp, hg i hi] at this
    cases hb : Op.bytesLess l[i].name t
    · rfl
    · exact absurd ((less_iff _ _).1 hb) this
theorem pThere_no {l : List PairD} {t : List UInt8} (h : PrOk l) (hf : pThere l t = false) : ∀ x ∈ l, x.name ≠ t := by
  intro x hx hxt
  obtain ⟨j, hj, rfl⟩ := List.getElem_of_mem hx
  obtain ⟨h1, h2⟩ := pFind_spec h t
  have hnj : Op.bytesLess l[j].name t = false := by rw [hxt]; exact less_irrefl _
  have hge : pFind l t ≤ j := by
    rcases Nat.lt_or_ge j (pFind l t) with h3 | h3
    · rw [h1 j hj h3] at hnj; cases hnj
    · exact h3
  have heq : pFind l t = j := by
    rcases Nat.lt_or_ge (pFind l t) j with h3 | h3
    · have h4 := List.pairwise_iff_getElem.1 h.names (pFind l t) j (by rw [List.length_map]; omega) (by rw [List.length_map]; exact hj) h3
      simp only [List.getElem_map] at h4
      rw [hxt, h2 _ (by omega) (Nat.le_refl _)] at h4
      cases h4
    · omega
  have : pThere l t = true := by
    show (decide (pFind l t < l.length) && (pairCmp (l.getD (pFind l t) noPair) t == 0)) = true
    rw [heq, getD_at hj, pairCmp, hxt, compare_self]
    simp [hj]
  rw [this] at hf; cases hf
theorem PrOk.set {l : List PairD} (h : PrOk l) {i : Nat} (hi : i < l.length) {x : PairD} (hx : PrOne x) (hn : x.name = l[i].name) : PrOk (l.set i x) := by
  refine ⟨by rw [List.length_set]; exact h.len, fun y hy => ?_, ?_⟩
  · rcases List.mem_or_eq_of_mem_set hy with h1 | h1
    · exact h.one y h1
    · rw [h1]; exact hx
  · rw [List.map_set, hn]
    have : (l.map (·.name)).set i l[i].name = l.map (·.name) := by
      rw [show l[i].name = (l.map (·.name))[i]'(by rw [List.length_map]; exact hi) by simp]
      exact List.set_getElem_self _
    rw [this]; exact h.names
theorem PrOk.insert {l : List PairD} (h : PrOk l) {x : PairD} (hx : PrOne x) (hlen : l.length < 5) (hno : pThere l x.name = false) : PrOk (l.take (pFind l x.name) ++ x :: l.drop (pFind l x.name)) := by
  obtain ⟨h1, h2⟩ := pFind_spec h x.name
  have hne := pThere_no h hno
  have hfl : pFind l x.name ≤ l.length := bs_le _ _
  refine ⟨by simp; omega, fun y hy => ?_, ?_⟩
  · rcases List.mem_append.1 hy with hy | hy
    · exact h.one y (List.mem_of_mem_take hy)
    · rcases List.mem_cons.1 hy with rfl | hy
      · exact hx
      · exact h.one y (List.mem_of_mem_drop hy)
  · have hn := h.names
    have hd : ∀ y ∈ l.drop (pFind l x.name), Op.bytesLess x.name y.name = true := fun y hy => by
      obtain ⟨j, hj, rfl⟩ := List.getElem_of_mem hy
      rw [List.length_drop] at hj
      rw [List.getElem_drop]
      exact less_total _ _ (h2 _ (by omega) (by omega)) (hne _ (List.getElem_mem _))
    have ht : ∀ y ∈ l.take (pFind l x.name), Op.bytesLess y.name x.name = true := fun y hy => by
      obtain ⟨j, hj, rfl⟩ := List.getElem_of_mem hy
      rw [List.length_take] at hj
      rw [List.getElem_take]
      exact h1 _ (by omega) (by omega)
    rw [List.map_append, List.map_cons]
    refine List.pairwise_append.2 ⟨?_, List.pairwise_cons.2 ⟨fun n hn' => ?_, ?_⟩, fun a ha b hb => ?_⟩
    · rw [List.map_take]; exact hn.sublist (List.take_sublist _ _)
    · obtain ⟨y, hy, rfl⟩ := List.mem_map.1 hn'
      exact hd y hy
    · rw [List.map_drop]; exact hn.sublist (List.drop_sublist _ _)
    · obtain ⟨y, hy, rfl⟩ := List.mem_map.1 ha
      rcases List.mem_cons.1 hb with rfl | hb
      · exact ht y hy
      · obtain ⟨z, hz, rfl⟩ := List.mem_map.1 hb
        exact less_trans _ _ _ (ht y hy) (hd z hz)
def prSet (l : List PairD) (name value : List UInt8) : List PairD × ReplyD × Int :=
  if prCheck l ≠ 0 then ([], noReply, prCheck l)
  else if lkName name = false then ([], noReply, 4)
  else if 12 < value.length then ([], noReply, 1)
  else if pThere l name = false then
    (if l.length = 5 then (l, ⟨8, 0, []⟩, 0) else (l.take (pFind l name) ++ ⟨name, value, 1⟩ :: l.drop (pFind l name), ⟨0, 1, []⟩, 0))
  else if (l.getD (pFind l name) noPair).version = 1073741824 then (l, ⟨8, 0, []⟩, 0)
  else (l.set (pFind l name) ⟨(l.getD (pFind l name) noPair).name, value, (l.getD (pFind l name) noPair).version + 1⟩, ⟨0, (l.getD (pFind l name) noPair).version + 1, []⟩, 0)
def prGet (l : List PairD) (name : List UInt8) : ReplyD × Int :=
  if prCheck l ≠ 0 then (noReply, prCheck l)
  else if pThere l name = false then (⟨6, 0, []⟩, 0)
  else (⟨0, (l.getD (pFind l name) noPair).version, (l.getD (pFind l name) noPair).value⟩, 0)
theorem set_ok {l : List PairD} {name value : List UInt8} (h : PrOk l) (hn : lkName name = true) (hv : value.length ≤ 12) : PrOk (prSet l name value).1 ∧ (prSet l name value).2.2 = 0 := by
  rw [prSet, if_neg (by rw [prCheck_ok.2 h]; simp), if_neg (by rw [hn]; decide), if_neg (by omega)]
  split
  · rename_i ht
    split
    · exact ⟨h, rfl⟩
    · exact ⟨h.insert (x := ⟨name, value, 1⟩) ⟨hn, hv, by simp⟩ (by have := h.len; omega) ht, rfl⟩
  · rename_i ht
    have ht' : pThere l name = true := by simpa using ht
    have hlt := pThere_lt ht'
    split
    · exact ⟨h, rfl⟩
    · rename_i hm
      rw [getD_at hlt] at hm ⊢
      have h1 := h.one _ (List.getElem_mem hlt)
      have h2 := h1.vers
      exact ⟨h.set hlt ⟨h1.name, hv, by simp only; omega⟩ rfl, rfl⟩
end Go.Tk
