/- A part of the proof, laid together from: SessI, LockI, PairQ. -/
import Derived.Test.YtkefgapnghnjjaaGreatDoorPa03
import Derived.Test.YtkefgapnghnjjaaGreatDoorPa02
set_option linter.unusedSimpArgs false
set_option linter.unusedVariables false
namespace Go.Tk
open Go Go.RowKit
def rising (ns : List Int) : Prop := ns.Pairwise fun a b => a < b
theorem rising_of {ns : List Int} (h : ∀ i (h0 : 0 < i) (hi : i < ns.length), (ns[i - 1]'(by omega)) < ns[i]) : rising ns := by
  refine List.pairwise_iff_getElem.2 fun i j hi hj hij => ?_
  induction j with
  | zero => omega
  | succ j ih =>
    have h2 := h (j + 1) (by omega) hj
    simp only [Nat.add_sub_cancel] at h2
    rcases Nat.lt_or_ge i j with h1 | h1
    · exact Int.lt_trans (ih (by omega) h1) h2
    · obtain rfl : i = j := by omega
      exact h2
theorem rising_uniq {α : Type} {l : List α} {f : α → Int} (h : rising (l.map f)) {x y : α} (hx : x ∈ l) (hy : y ∈ l) (he : f x = f y) : x = y := by
  obtain ⟨i, hi, rfl⟩ := List.getElem_of_mem hx
  obtain ⟨j, hj, rfl⟩ := List.getElem_of_mem hy
  have hp := List.pairwise_iff_getElem.1 h
  rcases Nat.lt_trichotomy i j with h1 | h1 | h1
  · have := hp i j (by rw [List.length_map]; omega) (by rw [List.length_map]; omega) h1
    simp only [List.getElem_map] at this; omega
  · subst h1; rfl
  · have := hp j i (by rw [List.length_map]; omega) (by rw [List.length_map]; omega) h1
    simp only [List.getElem_map] at this; omega
theorem rising_find {α : Type} {l : List α} {f : α → Int} {d : α} {F : Nat → Int} {t : Int} (h : rising (l.map f)) (hF : ∀ i, F i = f (l.getD i d) - t) :
    (∀ i (hi : i < l.length), i < bs F l.length → f l[i] < t) ∧ (∀ i (hi : i < l.length), bs F l.length ≤ i → t ≤ f l[i]) := by
  have hn := List.pairwise_iff_getElem.1 h
  obtain ⟨h1, h2⟩ := bs_spec (f := F) (N := l.length) fun i j hij hj hf => by
    have h3 := hn i j (by rw [List.length_map]; omega) (by rw [List.length_map]; exact hj) hij
    simp only [List.getElem_map] at h3
    rw [hF, getD_at hj] at hf
    rw [hF, getD_at (show i < l.length by omega)]
    omega
  refine ⟨fun i hi hlt => ?_, fun i hi hge => ?_⟩
  · have := h1 i hlt
    rw [hF, getD_at hi] at this; omega
  · have := h2 i hge hi
    rw [hF, getD_at hi] at this; omega
theorem rising_no {α : Type} {l : List α} {f : α → Int} {d : α} {F : Nat → Int} {t : Int} (h : rising (l.map f)) (hF : ∀ i, F i = f (l.getD i d) - t) (hf : bsFound F l.length = false) : ∀ x ∈ l, f x ≠ t := by
  intro x hx hxt
  obtain ⟨j, hj, rfl⟩ := List.getElem_of_mem hx
  obtain ⟨h1, h2⟩ := rising_find h hF
  have hle : bs F l.length ≤ j := by
    rcases Nat.lt_or_ge j (bs F l.length) with h3 | h3
    · have := h1 j hj h3; omega
    · exact h3
  have heq : bs F l.length = j := by
    rcases Nat.lt_or_ge (bs F l.length) j with h3 | h3
    · have h4 := List.pairwise_iff_getElem.1 h (bs F l.length) j (by rw [List.length_map]; omega) (by rw [List.length_map]; exact hj) h3
      simp only [List.getElem_map] at h4
      have := h2 _ (show bs F l.length < l.length by omega) (Nat.le_refl _)
      omega
    · omega
  have : bsFound F l.length = true := by
    rw [bsFound, heq, hF, getD_at hj, hxt]
    simp [hj]
  rw [this] at hf; cases hf
theorem rising_insert {α : Type} {l : List α} {f : α → Int} {d : α} {F : Nat → Int} {x : α} (h : rising (l.map f)) (hF : ∀ i, F i = f (l.getD i d) - f x) (hf : bsFound F l.length = false) :
    rising ((l.take (bs F l.length) ++ x :: l.drop (bs F l.length)).map f) := by
  obtain ⟨h1, h2⟩ := rising_find h hF
  have hne := rising_no h hF hf
  have hd : ∀ y ∈ l.drop (bs F l.length), f x < f y := fun y hy => by
    obtain ⟨j, hj, rfl⟩ := List.getElem_of_mem hy
    rw [List.length_drop] at hj
    rw [List.getElem_drop]
    have a := h2 (bs F l.length + j) (by omega) (by omega)
    have b := hne _ (List.getElem_mem (show bs F l.length + j < l.length by omega))
    omega
  have ht : ∀ y ∈ l.take (bs F l.length), f y < f x := fun y hy => by
    obtain ⟨j, hj, rfl⟩ := List.getElem_of_mem hy
    rw [List.length_take] at hj
    rw [List.getElem_take]
    exact h1 _ (by omega) (by omega)
  rw [List.map_append, List.map_cons]
  refine List.pairwise_append.2 ⟨?_, List.pairwise_cons.2 ⟨fun n hn' => ?_, ?_⟩, fun a ha b hb => ?_⟩
  · rw [List.map_take]; exact List.Pairwise.sublist (List.take_sublist _ _) h
  · obtain ⟨y, hy, rfl⟩ := List.mem_map.1 hn'
    exact hd y hy
  · rw [List.map_drop]; exact List.Pairwise.sublist (List.drop_sublist _ _) h
  · obtain ⟨y, hy, rfl⟩ := List.mem_map.1 ha
    rcases List.mem_cons.1 hb with rfl | hb
    · exact ht y hy
    · obtain ⟨z, hz, rfl⟩ := List.mem_map.1 hb
      exact Int.lt_trans (ht y hy) (hd z hz)
theorem mem_insert {α : Type} {l : List α} {x y : α} {i : Nat} : y ∈ l.take i ++ x :: l.drop i ↔ y = x ∨ y ∈ l := by
  rw [List.mem_append, List.mem_cons]
  conv => rhs; rw [← List.take_append_drop i l, List.mem_append]
  constructor
  · rintro (h | h | h)
    · exact .inr (.inl h)
    · exact .inl h
    · exact .inr (.inr h)
  · rintro (h | h | h)
    · exact .inr (.inl h)
    · exact .inl h
    · exact .inr (.inr h)
theorem len_insert {α : Type} {l : List α} {x : α} {i : Nat} (h : i ≤ l.length) : (l.take i ++ x :: l.drop i).length = l.length + 1 := by simp; omega
theorem rising_set {α : Type} {l : List α} {f : α → Int} {i : Nat} {x : α} (h : rising (l.map f)) (hi : i < l.length) (hx : f x = f l[i]) : rising ((l.set i x).map f) := by
  have : (l.set i x).map f = l.map f := by
    rw [List.map_set, hx, show f l[i] = (l.map f)[i]'(by rw [List.length_map]; exact hi) by simp]
    exact List.set_getElem_self _
  rw [this]; exact h
theorem SessOk.pw {l : List SessionD} {index : Int} (h : SessOk l index) : rising (l.map (·.client)) := by
  refine rising_of fun i h0 hi => ?_
  rw [List.length_map] at hi
  have := h.ord i h0 hi
  rw [getD_at (show i - 1 < l.length by omega), getD_at hi] at this
  simpa using this
theorem SessOk.of {l : List SessionD} {index : Int} (h0 : 0 ≤ index ∧ index ≤ 1073741824) (h1 : l.length ≤ 4) (h2 : ∀ x ∈ l, ¬ sessBad index x) (h3 : ∀ x ∈ l, replies x = true) (h4 : rising (l.map (·.client))) : SessOk l index := by
  refine ⟨h0, h1, h2, h3, fun i h0 hi => ?_⟩
  have := List.pairwise_iff_getElem.1 h4 (i - 1) i (by rw [List.length_map]; omega) (by rw [List.length_map]; exact hi) (by omega)
  rw [getD_at (show i - 1 < l.length by omega), getD_at hi]
  simpa using this
theorem sessBad_more {index : Int} {x : SessionD} (h : ¬ sessBad index x) : ¬ sessBad (index + 1) x := by
  unfold sessBad at *; omega
theorem SessOk.next {l : List SessionD} {index : Int} (h : SessOk l index) (hi : index < 1073741824) : SessOk l (index + 1) :=
  SessOk.of (by have := h.idx; omega) h.len (fun x hx => sessBad_more (h.bad x hx)) h.rep h.pw
theorem SessOk.sub {l m : List SessionD} {index : Int} (h : SessOk l index) (hs : m.Sublist l) : SessOk m index :=
  SessOk.of h.idx (Nat.le_trans hs.length_le h.len) (fun x hx => h.bad x (hs.subset hx)) (fun x hx => h.rep x (hs.subset hx)) (List.Pairwise.sublist (hs.map _) h.pw)
theorem SessOk.put {l : List SessionD} {index : Int} (h : SessOk l index) {i : Nat} (hi : i < l.length) {x : SessionD} (hb : ¬ sessBad index x) (hr : replies x = true) (hc : x.client = l[i].client) : SessOk (l.set i x) index := by
  refine SessOk.of h.idx (by rw [List.length_set]; exact h.len) (fun y hy => ?_) (fun y hy => ?_) (rising_set h.pw hi hc)
  · rcases List.mem_or_eq_of_mem_set hy with h1 | h1
    · exact h.bad y h1
    · rw [h1]; exact hb
  · rcases List.mem_or_eq_of_mem_set hy with h1 | h1
    · exact h.rep y h1
    · rw [h1]; exact hr
theorem sThere_at {l : List SessionD} {c : Int} (h : sThere l c = true) : (l[sFind l c]'(sThere_lt h)).client = c := by
  have := sThere_eq h
  rwa [getD_at (sThere_lt h)] at this
theorem sThere_no {l : List SessionD} {index c : Int} (h : SessOk l index) (hf : sThere l c = false) : ∀ x ∈ l, x.client ≠ c := rising_no (d := noSession) h.pw (fun _ => rfl) hf
theorem sThere_mem {l : List SessionD} {index : Int} (h : SessOk l index) {x : SessionD} (hx : x ∈ l) : sThere l x.client = true ∧ l.getD (sFind l x.client) noSession = x := by
  have ht : sThere l x.client = true := by
    cases hc : sThere l x.client
    · exact absurd rfl (sThere_no h hc x hx)
    · rfl
  refine ⟨ht, ?_⟩
  rw [getD_at (sThere_lt ht)]
  exact rising_uniq h.pw (List.getElem_mem _) hx (sThere_at ht)
theorem SessOk.insert {l : List SessionD} {index : Int} (h : SessOk l index) {x : SessionD} (hb : ¬ sessBad index x) (hr : replies x = true) (hl : l.length < 4) (hno : sThere l x.client = false) : SessOk (l.take (sFind l x.client) ++ x :: l.drop (sFind l x.client)) index := by
  have hle : sFind l x.client ≤ l.length := bs_le _ _
  refine SessOk.of h.idx (by rw [len_insert hle]; omega) (fun y hy => ?_) (fun y hy => ?_) (rising_insert (d := noSession) h.pw (fun _ => rfl) hno)
  · rcases mem_insert.1 hy with rfl | hy
    · exact hb
    · exact h.bad y hy
  · rcases mem_insert.1 hy with rfl | hy
    · exact hr
    · exact h.rep y hy
structure RepliesOk (s : SessionD) : Prop where
  seq : ∀ k ∈ s.replies, s.acked < k.seq ∧ k.seq ≤ s.acked + 4
  one : ∀ k ∈ s.replies, 0 ≤ k.reply.code ∧ k.reply.code ≤ 15 ∧ 0 ≤ k.reply.n ∧ k.reply.n ≤ 1073741824 ∧ k.reply.text.length ≤ 12
  rise : rising (s.replies.map (·.seq))
theorem replies_iff {s : SessionD} : replies s = true ↔ RepliesOk s := by
  constructor
  · intro h
    have hk := replies_ok h
    refine ⟨fun k hm => ?_, fun k hm => ?_, rising_of fun i h0 hi => ?_⟩
    · obtain ⟨i, hi, rfl⟩ := mem_getD s.replies k noKept hm
      have := hk i hi; unfold keptBad at this; omega
    · obtain ⟨i, hi, rfl⟩ := mem_getD s.replies k noKept hm
      have := hk i hi; unfold keptBad at this; omega
    · rw [List.length_map] at hi
      have := hk i hi
      unfold keptBad at this
      rw [getD_at (show i - 1 < s.replies.length by omega), getD_at hi] at this
      simp only [List.getElem_map]
      omega
  · intro h
    have : repliesErr s = 0 := firstErr_zero.2 fun i hi => by
      rw [if_neg]
      have h1 := h.seq _ (getD_mem s.replies i noKept hi)
      have h2 := h.one _ (getD_mem s.replies i noKept hi)
      unfold keptBad
      have h3 : 0 < i → (s.replies.getD (i - 1) noKept).seq < (s.replies.getD i noKept).seq := fun h0 => by
        have := List.pairwise_iff_getElem.1 h.rise (i - 1) i (by rw [List.length_map]; omega) (by rw [List.length_map]; exact hi) (by omega)
        rw [getD_at (show i - 1 < s.replies.length by omega), getD_at hi]
        simpa using this
      omega
    rw [replies, this]; rfl
structure ReplyOk (r : ReplyD) : Prop where
  ok : 0 ≤ r.code ∧ r.code ≤ 15 ∧ 0 ≤ r.n ∧ r.n ≤ 1073741824 ∧ r.text.length ≤ 12
theorem replies_none (c id a la : Int) : replies ⟨c, id, a, la, []⟩ = true := replies_iff.2 ⟨by simp, by simp, by simp [rising]⟩
theorem fresh_eq {l : List SessionD} {index : Int} (h : SessOk l index) : freshL l index = (l.filter (fun x => !freshP index x), 0) := by
  rw [freshL, if_neg (by simp [sessCheck_ok.2 h])]
theorem fresh_ok {l : List SessionD} {index : Int} (h : SessOk l index) : SessOk (freshL l index).1 index := by
  rw [fresh_eq h]; exact h.sub List.filter_sublist
theorem join_ok {l : List SessionD} {index c : Int} (h : SessOk l index) (hi : index < 1073741824) (hc : 1 ≤ c ∧ c ≤ 9) : SessOk (join l index c).1 (index + 1) ∧ (join l index c).2.2 = 0 ∧ ReplyOk (join l index c).2.1 := by
  have h0 := h.idx
  rw [join, if_neg (by simp [sessCheck_ok.2 h]), if_neg (by omega)]
  split
  · rename_i ht
    have hlt := sThere_lt ht
    rw [getD_at hlt]
    have hm := List.getElem_mem hlt
    have hb := h.bad _ hm
    unfold sessBad at hb
    refine ⟨(h.next hi).put hlt (by unfold sessBad; simp only; omega) ?_ rfl, rfl, ⟨by simp; omega⟩⟩
    have hr := replies_iff.1 (h.rep _ hm)
    exact replies_iff.2 ⟨hr.seq, hr.one, hr.rise⟩
  · rename_i ht
    split
    · exact ⟨h.next hi, rfl, ⟨by simp⟩⟩
    · rename_i hl
      have ht' : sThere l c = false := by simpa using ht
      exact ⟨(h.next hi).insert (x := ⟨c, index + 1, 0, index + 1, []⟩) (by unfold sessBad; simp only; omega) (replies_none _ _ _ _) (by have := h.len; omega) ht', rfl, ⟨by simp; omega⟩⟩
def leave (l : List SessionD) (index client : Int) : List SessionD × ReplyD × Int :=
  if sessCheck l index ≠ 0 then ([], noReply, sessCheck l index)
  else if sThere l client = false then (l, ⟨11, 0, []⟩, 0)
  else (l.eraseIdx (sFind l client), noReply, 0)
theorem leave_ok {l : List SessionD} {index c : Int} (h : SessOk l index) (hi : index < 1073741824) : SessOk (leave l index c).1 (index + 1) ∧ (leave l index c).2.2 = 0 ∧ ReplyOk (leave l index c).2.1 := by
  rw [leave, if_neg (by simp [sessCheck_ok.2 h])]
  split
  · exact ⟨h.next hi, rfl, ⟨by simp⟩⟩
  · exact ⟨(h.next hi).sub (List.eraseIdx_sublist _ _), rfl, ⟨by simp [noReply]⟩⟩
theorem readyS_client (s : SessionD) (index acked : Int) : (readyS s index acked).client = s.client := by unfold readyS; split <;> rfl
theorem readyS_id (s : SessionD) (index acked : Int) : (readyS s index acked).id = s.id := by unfold readyS; split <;> rfl
theorem readyS_last (s : SessionD) (index acked : Int) : (readyS s index acked).last = index + 1 := by unfold readyS; split <;> rfl
theorem readyS_ok {s : SessionD} {index acked : Int} (hi : 0 ≤ index) (h1 : ¬ sessBad index s) (h2 : replies s = true) (ha : acked ≤ 1048576) : ¬ sessBad (index + 1) (readyS s index acked) ∧ replies (readyS s index acked) = true := by
  unfold sessBad at *
  have hr := replies_iff.1 h2
  by_cases h : s.acked < acked
  · rw [readyS_acked h]
    refine ⟨by simp only; omega, replies_iff.2 ⟨fun k hk => ?_, fun k hk => ?_, ?_⟩⟩
    · obtain ⟨hk, hp⟩ := List.mem_filter.1 hk
      have := hr.seq k hk
      have : acked < k.seq := by simpa using hp
      simp only; omega
    · exact hr.one k (List.mem_filter.1 hk).1
    · exact List.Pairwise.sublist (List.filter_sublist.map _) hr.rise
  · rw [readyS_same h]
    exact ⟨by simp only; omega, replies_iff.2 ⟨hr.seq, hr.one, hr.rise⟩⟩
theorem readyT_ok {s : SessionD} {seq : Int} (h : replies s = true) : ReplyOk (readyT s seq).1 := by
  rw [readyT]
  split
  · exact ⟨by simp⟩
  · split
    · rename_i hq
      rcases fIdx_cases (fun k : KeptD => k.seq == seq) s.replies with ⟨h1, _⟩ | ⟨n, hn, h1, _⟩
      · omega
      · rw [h1]
        simp only [Int.toNat_natCast]
        rw [getD_at hn]
        exact ⟨(replies_iff.1 h).one _ (List.getElem_mem hn)⟩
    · split
      · exact ⟨by simp⟩
      · exact ⟨by simp [noReply]⟩
theorem readyT_todo {s : SessionD} {seq : Int} (h : (readyT s seq).2 = true) : s.acked < seq ∧ seq ≤ s.acked + 4 ∧ (∀ k ∈ s.replies, k.seq ≠ seq) ∧ (readyT s seq).1 = noReply := by
  rw [readyT] at h ⊢
  split at h; · cases h
  split at h; · cases h
  split at h; · cases h
  rename_i h1 h2 h3
  rw [if_neg h1, if_neg h2, if_neg h3]
  refine ⟨by omega, by omega, fun k hk => ?_, rfl⟩
  rcases fIdx_cases (fun k : KeptD => k.seq == seq) s.replies with ⟨_, hx⟩ | ⟨n, hn, h4, _⟩
  · simpa using hx k hk
  · omega
theorem ready_ok {l : List SessionD} {index c ses seq acked : Int} (h : SessOk l index) (hi : index < 1073741824) (hq : 1 ≤ seq ∧ seq ≤ 1048576 ∧ 0 ≤ acked ∧ acked < seq) :
    SessOk (ready l index c ses seq acked).1 (index + 1) ∧ (ready l index c ses seq acked).2.2.2 = 0 ∧ ReplyOk (ready l index c ses seq acked).2.1 ∧
      ((ready l index c ses seq acked).2.2.1 = true → ∃ s ∈ (ready l index c ses seq acked).1, s.client = c ∧ s.id = ses ∧ s.last = index + 1 ∧ s.acked < seq ∧ seq ≤ s.acked + 4 ∧ ∀ k ∈ s.replies, k.seq ≠ seq) := by
  rw [ready, if_neg (by simp [sessCheck_ok.2 h]), if_neg (by omega)]
  split
  · exact ⟨h.next hi, rfl, ⟨by simp⟩, fun h => by cases h⟩
  · rename_i hn
    obtain ⟨ht, hid⟩ : sThere l c = true ∧ (l.getD (sFind l c) noSession).id = ses := by
      refine ⟨?_, ?_⟩
      · cases hc : sThere l c
        · exact absurd (.inl hc) hn
        · rfl
      · rcases Classical.em ((l.getD (sFind l c) noSession).id = ses) with h | h
        · exact h
        · exact absurd (.inr h) hn
    have hlt := sThere_lt ht
    have hcl := sThere_at ht
    rw [getD_at hlt] at hid ⊢
    have hm := List.getElem_mem hlt
    obtain ⟨hb, hr⟩ := readyS_ok (acked := acked) h.idx.1 (h.bad _ hm) (h.rep _ hm) (by omega)
    refine ⟨(h.next hi).put hlt hb hr (readyS_client _ _ _), rfl, readyT_ok hr, fun htd => ?_⟩
    obtain ⟨h1, h2, h3, _⟩ := readyT_todo htd
    exact ⟨_, List.mem_set hlt _, (readyS_client _ _ _).trans hcl, (readyS_id _ _ _).trans hid, readyS_last _ _ _, h1, h2, h3⟩
theorem kThere_no {s : SessionD} (h : replies s = true) {q : Int} (hn : ∀ k ∈ s.replies, k.seq ≠ q) : kThere s.replies q = false := by
  cases hc : kThere s.replies q
  · rfl
  · simp only [kThere, bsFound, Bool.and_eq_true, decide_eq_true_eq, beq_iff_eq] at hc
    obtain ⟨h1, h2⟩ := hc
    rw [keptCmp, getD_at h1] at h2
    exact absurd (by omega) (hn _ (List.getElem_mem h1))
theorem keepS_ok {s : SessionD} {q : Int} {r : ReplyD} (h : replies s = true) (hn : ∀ k ∈ s.replies, k.seq ≠ q) (h1 : s.acked < q) (h2 : q ≤ s.acked + 4) (hr : ReplyOk r) : replies (keepS s q r) = true := by
  have h0 := replies_iff.1 h
  refine replies_iff.2 ⟨fun k hk => ?_, fun k hk => ?_, ?_⟩
  · rcases mem_insert.1 hk with rfl | hk
    · exact ⟨h1, h2⟩
    · exact h0.seq k hk
  · rcases mem_insert.1 hk with rfl | hk
    · exact hr.ok
    · exact h0.one k hk
  · exact rising_insert (l := s.replies) (f := (·.seq)) (d := noKept) (x := ⟨q, r⟩) h0.rise (fun _ => rfl) (kThere_no h hn)
theorem keep_ok {l : List SessionD} {index c q : Int} {r : ReplyD} (h : SessOk l index) {s : SessionD} (hs : s ∈ l) (hc : s.client = c) (h1 : s.acked < q) (h2 : q ≤ s.acked + 4) (hn : ∀ k ∈ s.replies, k.seq ≠ q) (hr : ReplyOk r) :
    SessOk (keep l index c q r).1 index ∧ (keep l index c q r).2 = 0 := by
  subst hc
  obtain ⟨ht, hg⟩ := sThere_mem h hs
  have hlt := sThere_lt ht
  have hk := keepS_ok (h.rep s hs) hn h1 h2 hr
  rw [keep, if_neg (by simp [sessCheck_ok.2 h]), if_neg (by simp [ht]), hg, if_neg (by simp [kThere_no (h.rep s hs) hn]), if_neg (by simp [hk])]
  rw [getD_at hlt] at hg
  refine ⟨h.put hlt ?_ hk ?_, rfl⟩
  · have := h.bad s hs
    unfold sessBad at *
    simp only [keepS]; exact this
  · rw [hg]; rfl
theorem clients_set {l : List SessionD} {i : Nat} {x : SessionD} (hi : i < l.length) (hx : x.client = l[i].client) : (l.set i x).map (·.client) = l.map (·.client) := by
  rw [List.map_set, hx, show l[i].client = (l.map (·.client))[i]'(by rw [List.length_map]; exact hi) by simp]
  exact List.set_getElem_self _
theorem keep_clients {l : List SessionD} {index c q : Int} {r : ReplyD} (h : (keep l index c q r).2 = 0) : (keep l index c q r).1.map (·.client) = l.map (·.client) := by
  rw [keep] at h ⊢
  split at h; · rename_i h1; exact absurd h h1
  split at h; · cases h
  split at h; · cases h
  split at h; · cases h
  rename_i h1 h2 h3 h4
  rw [if_neg h1, if_neg h2, if_neg h3, if_neg h4]
  have ht : sThere l c = true := by simpa using h2
  have hlt := sThere_lt ht
  exact clients_set hlt (by rw [getD_at hlt]; rfl)
theorem ready_clients {l : List SessionD} {index c ses seq acked : Int} (h : (ready l index c ses seq acked).2.2.2 = 0) : (ready l index c ses seq acked).1.map (·.client) = l.map (·.client) := by
  rw [ready] at h ⊢
  split at h; · rename_i h1; exact absurd h h1
  split at h; · cases h
  rename_i h1 h2
  rw [if_neg h1, if_neg h2]
  split
  · rfl
  · rename_i h3
    have ht : sThere l c = true := by
      cases hc : sThere l c
      · exact absurd (.inl hc) h3
      · rfl
    have hlt := sThere_lt ht
    exact clients_set hlt (by rw [getD_at hlt]; exact readyS_client _ _ _)
end Go.Tk

namespace Go.Tk
open Go Go.RowKit
def inLock (k : LockD) (c : Int) : Prop := k.holder = c ∨ c ∈ k.line
structure Later (k k' : LockD) : Prop where
  name : k'.name = k.name
  fence : k.fence ≤ k'.fence
  given : k'.holder ≠ 0 → k'.holder ≠ k.holder → k.fence < k'.fence
theorem Later.refl (k : LockD) : Later k k := ⟨rfl, Int.le_refl _, fun _ h => absurd rfl h⟩
theorem Later.trans {a b c : LockD} (h : Later a b) (k : Later b c) : Later a c := by
  refine ⟨k.name.trans h.name, Int.le_trans h.fence k.fence, fun h0 hn => ?_⟩
  have h1 := h.fence; have h2 := k.fence
  by_cases hb : c.holder = b.holder
  · have := h.given (by rw [← hb]; exact h0) (by rw [← hb]; exact hn); omega
  · have := k.given h0 hb; omega
def Newer (l l' : List LockD) : Prop := ∀ k ∈ l, ∃ k' ∈ l', Later k k'
theorem Newer.refl (l : List LockD) : Newer l l := fun k hk => ⟨k, hk, Later.refl k⟩
theorem Newer.trans {a b c : List LockD} (h : Newer a b) (k : Newer b c) : Newer a c := fun x hx => by
  obtain ⟨y, hy, h1⟩ := h x hx
  obtain ⟨z, hz, h2⟩ := k y hy
  exact ⟨z, hz, h1.trans h2⟩
theorem Newer.set {l : List LockD} {i : Nat} (hi : i < l.length) {x : LockD} (h : Later l[i] x) : Newer l (l.set i x) := by
  intro k hk
  obtain ⟨j, hj, rfl⟩ := List.getElem_of_mem hk
  by_cases hij : i = j
  · subst hij; exact ⟨x, List.mem_set hi _, h⟩
  · refine ⟨l[j], ?_, Later.refl _⟩
    rw [show l[j] = (l.set i x)[j]'(by rw [List.length_set]; exact hj) from (List.getElem_set_ne hij _).symm]
    exact List.getElem_mem _
theorem Newer.insert {l : List LockD} {i : Nat} {x : LockD} : Newer l (l.take i ++ x :: l.drop i) := fun k hk => ⟨k, mem_insert.2 (.inr hk), Later.refl k⟩
theorem Newer.map {l : List LockD} {f : LockD → LockD} (h : ∀ k ∈ l, Later k (f k)) : Newer l (l.map f) := fun k hk => ⟨f k, List.mem_map.2 ⟨k, hk, rfl⟩, h k hk⟩
theorem passP_later (k : LockD) : Later k (passP k) := by
  unfold passP
  split
  · exact ⟨rfl, by simp only; omega, fun _ _ => by simp only; omega⟩
  · exact ⟨rfl, Int.le_refl _, fun h => absurd rfl h⟩
theorem unline_later (k : LockD) (who : Int) : Later k (unline k who) :=
  ⟨unline_name _ _, by rw [(unline_same k who).2]; exact Int.le_refl _, fun _ h => absurd (unline_same k who).1 h⟩
theorem goneK_later (k : LockD) (who : Int) : Later k (goneK k who) := by
  unfold goneK
  split
  · exact (unline_later _ _).trans (passP_later _)
  · exact unline_later _ _
theorem passP_in {k : LockD} {c : Int} (h : inLock (passP k) c) (hc : c ≠ 0) : c ∈ k.line := by
  unfold passP at h
  split at h
  · rename_i h1
    obtain ⟨a, r, hl⟩ : ∃ a r, k.line = a :: r := by
      cases hx : k.line with
      | nil => rw [hx] at h1; simp at h1
      | cons a r => exact ⟨a, r, rfl⟩
    rw [hl] at h ⊢
    rcases h with h | h
    · simp at h; simp [h]
    · simp at h; simp [h]
  · rcases h with h | h
    · exact absurd h.symm hc
    · simp at h
theorem unline_not {k : LockD} {who : Int} (h : k.line.Nodup) : who ∉ (unline k who).line := by
  unfold unline
  rcases fIdx_cases (fun x => who == x) k.line with ⟨h1, h2⟩ | ⟨n, hn, h1, h2, _⟩
  · rw [if_neg (by omega)]
    intro hm
    have := h2 _ hm
    simp at this
  · rw [if_pos (by omega), h1]
    simp only [Int.toNat_natCast]
    intro hm
    have hw : k.line[n] = who := by simpa using (by simpa using h2 : who = k.line[n]).symm
    rw [List.mem_eraseIdx_iff_getElem] at hm
    obtain ⟨i, hi, hne, he⟩ := hm
    have hp := List.pairwise_iff_getElem.1 h
    have hee : k.line[i] = k.line[n] := he.trans hw.symm
    rcases Nat.lt_trichotomy i n with h3 | h3 | h3
    · exact hp i n hi hn h3 hee
    · exact hne h3
    · exact hp n i hn hi h3 hee.symm
theorem unline_sub (k : LockD) (who y : Int) (hy : y ∈ (unline k who).line) : y ∈ k.line := by
  unfold unline at hy
  split at hy
  · exact List.mem_of_mem_eraseIdx hy
  · exact hy
theorem goneK_in {k : LockD} {who c : Int} (h1 : LkOne k) (hc : c ≠ 0) (h : inLock (goneK k who) c) : inLock k c ∧ c ≠ who := by
  have hsub : ∀ y ∈ (unline k who).line, y ∈ k.line := unline_sub k who
  have hnot := unline_not (who := who) h1.line.nodup
  unfold goneK at h
  split at h
  · have := passP_in h hc
    exact ⟨.inr (hsub _ this), fun e => by subst e; exact hnot this⟩
  · rename_i hh
    rcases h with h | h
    · refine ⟨.inl ((unline_same k who).1.symm.trans h), fun e => hh (h.trans e)⟩
    · exact ⟨.inr (hsub _ h), fun e => by subst e; exact hnot h⟩
theorem mem_set_cases {α : Type} {l : List α} {i : Nat} {x y : α} (h : y ∈ l.set i x) : y ∈ l ∨ y = x := List.mem_or_eq_of_mem_set h
theorem take_more {l : List LockD} {name : List UInt8} {who : Int} {wt : Bool} (h : LkOk l) (hn : lkName name = true) (hw : 1 ≤ who ∧ who ≤ 9) :
    Newer l (lkTake l name who wt).1 ∧ (∀ k ∈ (lkTake l name who wt).1, ∀ c, c ≠ 0 → inLock k c → c = who ∨ ∃ k0 ∈ l, inLock k0 c) ∧ ReplyOk (lkTake l name who wt).2.1 := by
  have hsame : ∀ k ∈ l, ∀ c, c ≠ 0 → inLock k c → c = who ∨ ∃ k0 ∈ l, inLock k0 c := fun k hk c _ hc => .inr ⟨k, hk, hc⟩
  rw [lkTake, if_neg (by rw [lk_begin h hn hw]; simp)]
  by_cases ht : lThere l name = false
  · rw [if_pos ht]
    by_cases h5 : l.length = 5
    · rw [if_pos h5]; exact ⟨Newer.refl _, hsame, ⟨by simp⟩⟩
    · rw [if_neg h5]
      refine ⟨Newer.insert, fun k hk c hc hin => ?_, ⟨by simp⟩⟩
      rcases mem_insert.1 hk with rfl | hk
      · rcases hin with hin | hin
        · exact .inl hin.symm
        · simp at hin
      · exact hsame k hk c hc hin
  · rw [if_neg ht]
    have ht' : lThere l name = true := by simpa using ht
    have hlt := lThere_lt ht'
    rw [getD_at hlt]
    have ho := h.one _ (List.getElem_mem hlt)
    have hf := ho.fence
    have hhd := ho.hold
    split
    · exact ⟨Newer.refl _, hsame, ⟨by simp; omega⟩⟩
    · rename_i hw1
      split
      · split
        · exact ⟨Newer.refl _, hsame, ⟨by simp⟩⟩
        · rename_i h0 hf'
          refine ⟨Newer.set hlt ⟨rfl, by simp only; omega, fun _ _ => by simp only; omega⟩, fun k hk c hc hin => ?_, ⟨by simp; omega⟩⟩
          rcases mem_set_cases hk with hk | rfl
          · exact hsame k hk c hc hin
          · rcases hin with hin | hin
            · exact .inl hin.symm
            · exact .inr ⟨_, List.getElem_mem hlt, .inr hin⟩
      · rename_i h0
        split
        · exact ⟨Newer.refl _, hsame, ⟨by simp; omega⟩⟩
        · split
          · exact ⟨Newer.refl _, hsame, ⟨by simp⟩⟩
          · refine ⟨Newer.set hlt ⟨rfl, Int.le_refl _, fun _ hne => absurd rfl hne⟩, fun k hk c hc hin => ?_, ⟨by simp; omega⟩⟩
            rcases mem_set_cases hk with hk | rfl
            · exact hsame k hk c hc hin
            · rcases hin with hin | hin
              · exact .inr ⟨_, List.getElem_mem hlt, .inl hin⟩
              · rcases List.mem_append.1 hin with hin | hin
                · exact .inr ⟨_, List.getElem_mem hlt, .inr hin⟩
                · exact .inl (by simpa using hin)
theorem free_more {l : List LockD} {name : List UInt8} {who : Int} (h : LkOk l) (hn : lkName name = true) (hw : 1 ≤ who ∧ who ≤ 9) :
    Newer l (lkFree l name who).1 ∧ (∀ k ∈ (lkFree l name who).1, ∀ c, c ≠ 0 → inLock k c → ∃ k0 ∈ l, inLock k0 c) ∧ ReplyOk (lkFree l name who).2.1 := by
  have hsame : ∀ k ∈ l, ∀ c, c ≠ 0 → inLock k c → ∃ k0 ∈ l, inLock k0 c := fun k hk c _ hc => ⟨k, hk, hc⟩
  rw [lkFree, if_neg (by rw [lk_begin h hn hw]; simp)]
  by_cases ht : lThere l name = false
  · rw [if_pos ht]; exact ⟨Newer.refl _, hsame, ⟨by simp⟩⟩
  · rw [if_neg ht]
    have ht' : lThere l name = true := by simpa using ht
    have hlt := lThere_lt ht'
    rw [getD_at hlt]
    have ho := h.one _ (List.getElem_mem hlt)
    have hhd := ho.hold
    split
    · have hp := (passP_one ho).hold
      refine ⟨Newer.set hlt (passP_later _), fun k hk c hc hin => ?_, ⟨by simp; omega⟩⟩
      rcases mem_set_cases hk with hk | rfl
      · exact hsame k hk c hc hin
      · exact ⟨_, List.getElem_mem hlt, .inr (passP_in hin hc)⟩
    · rename_i hne
      split
      · refine ⟨Newer.set hlt (unline_later _ _), fun k hk c hc hin => ?_, ⟨by simp; omega⟩⟩
        rcases mem_set_cases hk with hk | rfl
        · exact hsame k hk c hc hin
        · refine ⟨_, List.getElem_mem hlt, ?_⟩
          rcases hin with hin | hin
          · exact .inl ((unline_same _ _).1.symm.trans hin)
          · refine .inr ?_
            exact unline_sub _ _ _ hin
      · exact ⟨Newer.refl _, hsame, ⟨by simp; omega⟩⟩
theorem gone_more {l : List LockD} {who : Int} (h : LkOk l) (hw : 1 ≤ who ∧ who ≤ 9) :
    Newer l (lkGone l who).1 ∧ ∀ k ∈ (lkGone l who).1, ∀ c, c ≠ 0 → inLock k c → c ≠ who ∧ ∃ k0 ∈ l, inLock k0 c := by
  obtain ⟨h1, h2⟩ := gone_ok h hw
  rw [h2]
  refine ⟨Newer.map fun k _ => goneK_later k who, fun k hk c hc hin => ?_⟩
  obtain ⟨k0, hk0, rfl⟩ := List.mem_map.1 hk
  obtain ⟨h3, h4⟩ := goneK_in (h.one k0 hk0) hc hin
  exact ⟨h4, k0, hk0, h3⟩
theorem who_code {l : List LockD} (h : LkOk l) (name : List UInt8) : (lWho l name).2.2 = 0 := by
  rw [lWho, if_neg (by simp [lkCheck_ok.2 h])]
  split <;> rfl
theorem who_in {l : List LockD} (h : LkOk l) (name : List UInt8) : 0 ≤ (lWho l name).1 ∧ (lWho l name).1 ≤ 9 := by
  rw [lWho, if_neg (by simp [lkCheck_ok.2 h])]
  split
  · simp
  · rename_i hn
    have ht : lThere l name = true := by
      cases hc : lThere l name
      · exact absurd (.inl hc) hn
      · rfl
    have hlt := lThere_lt ht
    rw [getD_at hlt]
    exact h.hold _ (List.getElem_mem hlt)
end Go.Tk

namespace Go.Tk
open Go Go.RowKit
theorem set_eq {l : List PairD} {name value : List UInt8} (h : PrOk l) (hn : lkName name = true) (hv : value.length ≤ 12) : prSet l name value =
    if pThere l name = false then
      (if l.length = 5 then (l, ⟨8, 0, []⟩, 0) else (l.take (pFind l name) ++ ⟨name, value, 1⟩ :: l.drop (pFind l name), ⟨0, 1, []⟩, 0))
    else if (l.getD (pFind l name) noPair).version = 1073741824 then (l, ⟨8, 0, []⟩, 0)
    else (l.set (pFind l name) ⟨(l.getD (pFind l name) noPair).name, value, (l.getD (pFind l name) noPair).version + 1⟩, ⟨0, (l.getD (pFind l name) noPair).version + 1, []⟩, 0) := by
  have hc := prCheck_ok.2 h
  rw [prSet, if_neg (by simp [hc]), if_neg (by simp [hn]), if_neg (by omega)]
theorem get_eq {l : List PairD} {name : List UInt8} (h : PrOk l) : prGet l name =
    if pThere l name = false then (⟨6, 0, []⟩, 0) else (⟨0, (l.getD (pFind l name) noPair).version, (l.getD (pFind l name) noPair).value⟩, 0) := by
  have hc := prCheck_ok.2 h
  rw [prGet, if_neg (by simp [hc])]
end Go.Tk
