/- A part of the proof, laid together from: FenP, FenQ, EqPair, CloneSess. -/
import Derived.Test.YtcmmenmjclgjmaaGreatDoorPa08
import Derived.Test.YtcmmenmjclgjmaaGreatDoorPa30
import Derived.Test.YtcmmenmjclgjmaaGreatDoorPa33
import Derived.Test.YtcmmenmjclgjmaaGreatDoorRows
import Derived.Test.YtcmmenmjclgjmaaGreatDoorPa09
import Derived.Test.YtcmmenmjclgjmaaGreatDoorPa02
import Derived.WalkLawsBesides
import Derived.BigRegion
import Derived.BigQuiet
import Derived.Deep.QuietTactic
import Derived.Deep.RegionLaw
import Derived.KernelRfl
set_option linter.unusedSimpArgs false
set_option linter.unusedVariables false
/- Who sets a value has its lock, with that fence; all others change nothing. No program in sight. -/
namespace Go.Tk
open Go Go.RowKit

def AckFew (l : List SessionD) : Prop := ∀ x ∈ l, x.acked ≤ 1000
theorem AckFew.sub {l m : List SessionD} (h : AckFew l) (hs : ∀ x ∈ m, x ∈ l) : AckFew m := fun x hx => h x (hs x hx)
theorem AckFew.nil : AckFew [] := fun x hx => by cases hx
theorem AckFew.put {l : List SessionD} (h : AckFew l) {i : Nat} {x : SessionD} (hx : x.acked ≤ 1000) : AckFew (l.set i x) := fun y hy => by
  rcases List.mem_or_eq_of_mem_set hy with h1 | h1
  · exact h y h1
  · rw [h1]; exact hx
theorem AckFew.at {l : List SessionD} (h : AckFew l) (i : Nat) : (l.getD i noSession).acked ≤ 1000 := by
  by_cases hi : i < l.length
  · rw [getD_at hi]; exact h _ (List.getElem_mem hi)
  · simp [List.getD, List.getElem?_eq_none (Nat.le_of_not_lt hi), noSession]
theorem ack_fresh {l : List SessionD} {i : Int} (h : AckFew l) : AckFew (freshL l i).1 := by
  rw [freshL]
  split
  · exact AckFew.nil
  · exact h.sub fun x hx => (List.mem_filter.1 hx).1
theorem ack_join {l : List SessionD} {i c : Int} (h : AckFew l) : AckFew (join l i c).1 := by
  rw [join]
  split; · exact AckFew.nil
  split; · exact AckFew.nil
  split; · exact h.put (h.at _)
  split; · exact h
  intro x hx
  rcases mem_insert.1 hx with rfl | hx
  · show (0 : Int) ≤ 1000; decide
  · exact h x hx
theorem ack_leave {l : List SessionD} {i c : Int} (h : AckFew l) : AckFew (leave l i c).1 := by
  rw [leave]
  split; · exact AckFew.nil
  split; · exact h
  exact h.sub fun x hx => (List.eraseIdx_sublist _ _).subset hx
theorem ack_ready {l : List SessionD} {i c s q a : Int} (h : AckFew l) (ha : a ≤ 1000) : AckFew (ready l i c s q a).1 := by
  rw [ready]
  split; · exact AckFew.nil
  split; · exact AckFew.nil
  split; · exact h
  refine h.put ?_
  unfold readyS
  split
  · exact ha
  · exact h.at _
theorem ack_keep {l : List SessionD} {i c q : Int} {r : ReplyD} (h : AckFew l) : AckFew (keep l i c q r).1 := by
  rw [keep]
  split; · exact AckFew.nil
  split; · exact AckFew.nil
  split; · exact AckFew.nil
  split; · exact AckFew.nil
  exact h.put (h.at _)
/-- A state that came of at most n commands, on three names. -/
structure FewSt (n : Int) (s : StateD) : Prop where
  ok : StOk s
  few : PrFew n s.pairs
  ack : AckFew s.sessions
structure CmdFew (c : CommandD) : Prop where
  ack : c.acked ≤ 1000
  name : c.kind = 2 → c.op.a ∈ kset
theorem PrFew.mono {n m : Int} {l : List PairD} (h : PrFew n l) (hn : n ≤ m) : PrFew m l := ⟨h.ok, h.name, fun x hx => Int.le_trans (h.vers x hx) hn⟩
theorem few_do {n : Int} {s : StateD} {who : Int} {o : OpD} (h : PrFew n s.pairs) (hn : 0 ≤ n ∧ n < 1073741824) (ho : OpOk o) (ha : o.a ∈ kset) : PrFew (n + 1) (maDo s who o).1.pairs := by
  have h1 := h.mono (m := n + 1) (by omega)
  rw [maDo]
  split; · exact h1
  split; · exact h1
  split; · exact h1
  split; · exact h1
  split; · exact h1
  obtain ⟨x, r, he, -, -, -, hx, -⟩ := set_few h hn.1 hn.2 ha ho.size
  rw [he]; exact hx
theorem few_cmd {n : Int} {s : StateD} {c : CommandD} (h : PrFew n s.pairs) (ha : AckFew s.sessions) (hn : 0 ≤ n ∧ n < 1073741824) (hc : CmdOk c) (hf : CmdFew c) : PrFew (n + 1) (maCmd s c).1.pairs ∧ AckFew (maCmd s c).1.sessions := by
  have h1 := h.mono (m := n + 1) (by omega)
  rw [maCmd]
  split
  · exact ⟨h1, ack_join ha⟩
  · split
    · exact ⟨h1, ack_leave ha⟩
    · rename_i h3 h4
      rw [maCall]
      split
      · have hk : c.kind = 2 := by have := hc.bounds; omega
        have hop : OpOk c.op := by
          rcases hc with ⟨hk', _⟩ | ⟨_, hcl, hse, hsq, hak, hop⟩
          · omega
          · exact hop
        refine ⟨few_do (s := ⟨s.index, s.locks, s.pairs, (ready s.sessions s.index c.client c.session c.seq c.acked).1⟩) h hn hop (hf.name hk), ?_⟩
        refine ack_keep ?_
        have : ∀ (t : StateD) (w : Int) (o : OpD), (maDo t w o).1.sessions = t.sessions := fun t w o => by
          rw [maDo]
          split; · rfl
          split; · rfl
          split; · rfl
          split; · rfl
          split <;> rfl
        rw [this]
        exact ack_ready ha hf.ack
      · exact ⟨h1, ack_ready ha hf.ack⟩
theorem few_apply {n : Int} {s : StateD} {x : Bytes} (h : FewSt n s) (hn : 0 ≤ n ∧ n < 1073741824) (hi : s.index < 1073741824) (hx : decErr x = 0) (hf : CmdFew (cmdDecode x).1) : FewSt (n + 1) (maApply s x).1 := by
  obtain ⟨_, h2, _⟩ := apply_ok h.ok hi hx
  have h3 := few_cmd (s := maFresh s) h.few (ack_fresh h.ack) hn (decode_ok hx) hf
  refine ⟨h2.ok, ?_, ?_⟩
  · rw [apply_eq h.ok hi hx]; exact h3.1
  · rw [apply_eq h.ok hi hx]; exact h3.2
theorem appliedGo_few : ∀ (l : List Bytes) (n : Int) (s : StateD), FewSt n s → 0 ≤ n → n + l.length < 1073741824 → (∀ x ∈ l, decErr x = 0) → (∀ x ∈ l, CmdFew (cmdDecode x).1) → s.index + l.length ≤ 1073741824 → FewSt (n + l.length) (appliedGo l s).1
  | [], n, s, h, _, _, _, _, _ => by simpa [appliedGo] using h
  | x :: r, n, s, h, h0, hn, hx, hf, hi => by
    rw [List.length_cons] at hi hn
    obtain ⟨h1, h2, _⟩ := apply_ok h.ok (by omega) (hx x (by simp))
    have := appliedGo_few r (n + 1) (maApply s x).1 (few_apply h (by omega) (by omega) (hx x (by simp)) (hf x (by simp))) (by omega) (by omega) (fun y hy => hx y (by simp [hy])) (fun y hy => hf y (by simp [hy])) (by have := h2.index; omega)
    rw [appliedGo, if_neg (by simp [h1]), List.length_cons, show n + ((r.length + 1 : Nat) : Int) = n + 1 + (r.length : Int) by omega]
    exact this
theorem noState_few : FewSt 0 noState := ⟨noState_ok, ⟨noState_ok.pair, by simp [noState], by simp [noState]⟩, by simp [noState, AckFew]⟩
theorem opOf_name (r : RawD) : (opOf r).a ∈ kset := by
  unfold opOf
  split <;> exact kname_mem _
theorem gStep_few {n : Nat} {g : GenD} (h : GenOk n g) (hn : n < 1000) (r : RawD) (hf : ∀ c ∈ g.out, CmdFew c) : ∀ c ∈ (gStep g r).out, CmdFew c := by
  have hs := h.pos (gWho r)
  have hb := picked_in r.b 3 (by decide)
  have ha := picked_in r.a 3 (by decide)
  have hall : ∀ x, CmdFew x → ∀ c ∈ g.out ++ [x], CmdFew c := fun x hx c hc => by
    rcases List.mem_append.1 hc with hc | hc
    · exact hf c hc
    · rw [List.mem_singleton.1 hc]; exact hx
  unfold gStep
  split; · exact hall _ ⟨by simp [gJoin], by simp [gJoin]⟩
  split; · exact hall _ ⟨by simp [gJoin], by simp [gJoin]⟩
  split; · exact hall _ ⟨by simp [gLeave], by simp [gLeave]⟩
  split
  · exact hall _ ⟨by simp only [gAgain, gOld]; omega, fun _ => opOf_name r⟩
  · exact hall _ ⟨by simp only [gCall]; omega, fun _ => opOf_name r⟩
theorem gRun_few : ∀ (l : List RawD) (n : Nat) (g : GenD), GenOk n g → n + l.length ≤ 1000 → (∀ c ∈ g.out, CmdFew c) → ∀ c ∈ (l.foldl gStep g).out, CmdFew c
  | [], _, _, _, _, hf => hf
  | r :: l, n, g, h, hn, hf => by
    rw [List.length_cons] at hn
    exact gRun_few l (n + 1) (gStep g r) (h.step (by omega) r) (by omega) (gStep_few h (by omega) r hf)
theorem commandsP_few (l : List RawD) (most : Nat) (h : most ≤ 1000) : ∀ c ∈ commandsP l most, CmdFew c := gRun_few (l.take most) 0 gNone gNone_ok (by simp; omega) (by simp [gNone])
theorem entriesP_few (l : List RawD) (most : Nat) (h : most ≤ 1000) : ∀ x ∈ entriesP (commandsP l most), CmdFew (cmdDecode x).1 := fun x hx => by
  obtain ⟨c, hc, rfl⟩ := List.mem_map.1 hx
  rw [decode_back (commandsP_ok l most h c hc)]
  exact commandsP_few l most h c hc
/-- What came of commands. -/
theorem applied_few (l : List RawD) (most : Nat) (h : most ≤ 1000) :
    ∃ t, applied (entriesP (commandsP l most)) = (t, true) ∧ StOk t ∧ t.index = (min most l.length : Nat) ∧ Held t.locks t.sessions ∧ FewSt 1000 t := by
  have hd := entries_ok (commandsP_ok l most h)
  have hlen : (entriesP (commandsP l most)).length = min most l.length := by rw [entriesP, List.length_map, commandsP_len l most h]
  obtain ⟨t, h1, h2, h3, h4⟩ := applied_ok hd (by omega)
  have := appliedGo_few _ 0 noState noState_few (by omega) (by omega) hd (entriesP_few l most h) (by simp [noState]; omega)
  rw [applied] at h1
  rw [h1] at this
  exact ⟨t, h1, h2, by rw [h3, hlen], h4, this.ok, this.few.mono (by omega), this.ack⟩

/-- The call that sets a value. -/
def fenCmd (c id q a : Int) (nm : List UInt8) (k : Int) : CommandD := ⟨2, c, id, q, a, ⟨5, nm, [110, 101, 119], k⟩⟩
theorem fen_ok {s : StateD} {x : SessionD} {c q k : Int} {nm : List UInt8} (h : FewSt 1000 s) (hi : s.index ≤ 1000) (hx : x ∈ s.sessions) (hxc : x.client = c) (hq : x.acked < q ∧ q ≤ x.acked + 4) (hn : nm ∈ kset) (hk : 1 ≤ k ∧ k ≤ 4) : CmdOk (fenCmd c x.id q x.acked nm k) := by
  have hb := h.ok.sess.bad x hx
  have ha := h.ack x hx
  unfold sessBad at hb
  subst hxc
  refine .call rfl ⟨by simp only [fenCmd]; omega, by simp only [fenCmd]; omega⟩ ⟨by simp only [fenCmd]; omega, by simp only [fenCmd]; omega⟩ ⟨by simp only [fenCmd]; omega, by simp only [fenCmd]; omega⟩ ⟨by simp only [fenCmd]; omega, by simp only [fenCmd]; omega⟩ ?_
  exact ⟨⟨by simp [fenCmd], by simp [fenCmd]⟩, kset_ok nm hn, by simp [fenCmd], by simp [fenCmd], ⟨fun _ => ⟨by simp only [fenCmd]; omega, by simp only [fenCmd]; omega⟩, by simp [fenCmd]⟩⟩
theorem fen_apply {s : StateD} {c : CommandD} (h : StOk s) (hi : s.index ≤ 1000) (hc : CmdOk c) : (cmdEncode c).2 = 0 ∧ maApply s (cmdEncode c).1 = maBump (maCmd (maFresh s) c) := by
  have hd := decode_back hc
  refine ⟨by rw [encode_ok hc], ?_⟩
  rw [apply_eq h (by omega) (by rw [decErr, hd]), hd]
theorem fen_away {s : StateD} {x : SessionD} {c q k : Int} {nm : List UInt8} (h : StOk s) (hi : s.index ≤ 1000) (hx : x ∈ s.sessions) (hxc : x.client = c) (hq : 1 ≤ q ∧ q ≤ 1048576 ∧ 0 ≤ x.acked ∧ x.acked < q) (hl : 40 < s.index + 1 - x.last) :
    (maBump (maCmd (maFresh s) (fenCmd c x.id q x.acked nm k))).2.1.code = 11 ∧ (maBump (maCmd (maFresh s) (fenCmd c x.id q x.acked nm k))).1.pairs = s.pairs := by
  subst hxc
  have hf : freshL s.sessions s.index = (s.sessions.filter (fun x => !freshP s.index x), 0) := fresh_eq h.sess
  have hok : SessOk (s.sessions.filter (fun x => !freshP s.index x)) s.index := by have := fresh_ok h.sess; rwa [hf] at this
  have ht : sThere (s.sessions.filter (fun x => !freshP s.index x)) x.client = false := by
    cases hc : sThere (s.sessions.filter (fun x => !freshP s.index x)) x.client
    · rfl
    · have hm := List.getElem_mem (sThere_lt hc)
      obtain ⟨hm1, hm2⟩ := List.mem_filter.1 hm
      have he := rising_uniq h.sess.pw hm1 hx (sThere_at hc)
      rw [he, freshP_eq h.sess hx] at hm2
      simp at hm2; omega
  have hr : ready (s.sessions.filter (fun x => !freshP s.index x)) s.index x.client x.id q x.acked = (s.sessions.filter (fun x => !freshP s.index x), ⟨11, 0, []⟩, false, 0) := by
    rw [ready, if_neg (by simp [sessCheck_ok.2 hok]), if_neg (by omega), if_pos (.inl ht)]
  have : maCmd (maFresh s) (fenCmd x.client x.id q x.acked nm k) = (⟨s.index, maGone s.locks (freshL s.sessions s.index).1 s.sessions, s.pairs, s.sessions.filter (fun x => !freshP s.index x)⟩, ⟨11, 0, []⟩) := by
    rw [maCmd, if_neg (by simp [fenCmd]), if_neg (by simp [fenCmd]), maCall]
    simp only [maFresh, fenCmd, hf, hr]
    rfl
  rw [this]
  exact ⟨rfl, rfl⟩
theorem maGone_same : ∀ (was : List SessionD) (ses : List SessionD) (lk : List LockD), (∀ y ∈ was, hasClient ses y.client = true) → maGone lk ses was = lk
  | [], _, _, _ => rfl
  | y :: was, ses, lk, h => by
    have h1 : maGone1 ses lk y = lk := by rw [maGone1, if_pos (h y (by simp))]
    show maGone (maGone1 ses lk y) ses was = lk
    rw [h1]
    exact maGone_same was ses lk fun z hz => h z (by simp [hz])
theorem fen_fresh {s : StateD} (h : StOk s) (hall : ∀ y ∈ s.sessions, s.index + 1 - y.last ≤ 40) : maFresh s = s := by
  have hf : (freshL s.sessions s.index).1 = s.sessions := by
    rw [fresh_eq h.sess]
    exact List.filter_eq_self.2 fun y hy => by rw [freshP_eq h.sess hy]; have := hall y hy; simp; omega
  rw [maFresh, hf, maGone_same]
  intro y hy
  exact hasClient_iff.2 ⟨y, hy, rfl⟩
theorem fen_do {s : StateD} {x : SessionD} {c q k : Int} {nm : List UInt8} (h : StOk s) (hi : s.index ≤ 1000) (hx : x ∈ s.sessions) (hxc : x.client = c) (hq : 1 ≤ q ∧ q ≤ 1048576 ∧ 0 ≤ x.acked ∧ x.acked < q) (hq4 : q ≤ x.acked + 4) (hno : ∀ r ∈ x.replies, r.seq ≠ q)
    (hall : ∀ y ∈ s.sessions, s.index + 1 - y.last ≤ 40) :
    ∃ m, (maBump (maCmd (maFresh s) (fenCmd c x.id q x.acked nm k))).2.1 = (maDo ⟨s.index, s.locks, s.pairs, m⟩ c ⟨5, nm, [110, 101, 119], k⟩).2 ∧
      (maBump (maCmd (maFresh s) (fenCmd c x.id q x.acked nm k))).1.pairs = (maDo ⟨s.index, s.locks, s.pairs, m⟩ c ⟨5, nm, [110, 101, 119], k⟩).1.pairs := by
  subst hxc
  rw [fen_fresh h hall]
  obtain ⟨ht, hg⟩ := sThere_mem h.sess hx
  have hr : ready s.sessions s.index x.client x.id q x.acked = (s.sessions.set (sFind s.sessions x.client) (readyS x s.index x.acked), noReply, true, 0) := by
    rw [ready, if_neg (by simp [sessCheck_ok.2 h.sess]), if_neg (by omega), if_neg (by rw [ht, hg]; simp), hg]
    have h2 : readyT (readyS x s.index x.acked) q = (noReply, true) := by
      rw [readyS_same (by omega), readyT, if_neg (by simp only; omega), if_neg, if_neg (by simp only; omega)]
      rcases fIdx_cases (fun k : KeptD => k.seq == q) x.replies with ⟨h1, _⟩ | ⟨n, hn, h1, h2, _⟩
      · rw [h1]; omega
      · exact absurd (by simpa using h2) (hno _ (List.getElem_mem hn))
    rw [h2]
  refine ⟨s.sessions.set (sFind s.sessions x.client) (readyS x s.index x.acked), ?_, ?_⟩
  all_goals
    rw [maCmd, if_neg (by simp [fenCmd]), if_neg (by simp [fenCmd]), maCall]
    simp only [fenCmd, hr]
    rfl
theorem fen_held {s : StateD} {c k : Int} {nm : List UInt8} (hh : (lWho s.locks nm).1 ≠ c ∨ (lWho s.locks nm).2.1 ≠ k) : maDo s c ⟨5, nm, [110, 101, 119], k⟩ = (s, ⟨10, (lWho s.locks nm).1, []⟩) := by
  rw [maDo, if_neg (by simp), if_neg (by simp), if_neg (by simp), if_neg (by simp), if_pos hh]
theorem fen_set {s : StateD} {c k : Int} {nm : List UInt8} (h : PrFew 1000 s.pairs) (hn : nm ∈ kset) (h1 : (lWho s.locks nm).1 = c) (h2 : (lWho s.locks nm).2.1 = k) :
    (maDo s c ⟨5, nm, [110, 101, 119], k⟩).2.code = 0 ∧ prGet (maDo s c ⟨5, nm, [110, 101, 119], k⟩).1.pairs nm = (⟨0, (maDo s c ⟨5, nm, [110, 101, 119], k⟩).2.n, [110, 101, 119]⟩, 0) ∧ PrOk (maDo s c ⟨5, nm, [110, 101, 119], k⟩).1.pairs := by
  rw [maDo, if_neg (by simp), if_neg (by simp), if_neg (by simp), if_neg (by simp), if_neg (by simp [h1, h2])]
  have hk := kset_ok nm hn
  have hs := (set_ok h.ok hk (value := [110, 101, 119]) (by simp)).1
  have hl := kset_len h.ok h.name
  have hv : ([110, 101, 119] : List UInt8).length ≤ 12 := by simp
  show (prSet s.pairs nm [110, 101, 119]).2.1.code = 0 ∧ prGet (prSet s.pairs nm [110, 101, 119]).1 nm = (⟨0, (prSet s.pairs nm [110, 101, 119]).2.1.n, [110, 101, 119]⟩, 0) ∧ PrOk (prSet s.pairs nm [110, 101, 119]).1
  rw [set_eq h.ok hk hv] at hs ⊢
  by_cases ht : pThere s.pairs nm = false
  · rw [if_pos ht, if_neg (by omega)] at hs ⊢
    exact ⟨rfl, get_mem hs (x := ⟨nm, [110, 101, 119], 1⟩) (mem_insert.2 (.inl rfl)), hs⟩
  · have ht' : pThere s.pairs nm = true := by simpa using ht
    have hlt := pThere_lt ht'
    have hnm := pThere_name ht'
    have hver := h.vers _ (List.getElem_mem hlt)
    rw [if_neg ht, getD_at hlt, if_neg (by omega), hnm] at hs ⊢
    exact ⟨rfl, get_mem hs (x := ⟨nm, [110, 101, 119], s.pairs[pFind s.pairs nm].version + 1⟩) (List.mem_set hlt _), hs⟩
end Go.Tk

/- The number of the call that FencesHold asks: behind all that are kept. No program in sight. -/
namespace Go.Tk
open Go Go.RowKit
def seqAt (x : SessionD) (j : Nat) : Int := if j = 0 then x.acked + 1 else (x.replies.getD (j - 1) noKept).seq + 1
theorem seqAt_zero (x : SessionD) : seqAt x 0 = x.acked + 1 := if_pos rfl
theorem seqAt_next (x : SessionD) (j : Nat) (h : j < x.replies.length) : seqAt x (j + 1) = x.replies[j].seq + 1 := by
  rw [seqAt, if_neg (by omega), show j + 1 - 1 = j by omega, getD_at h]
theorem seqAt_in {x : SessionD} (h : replies x = true) (j : Nat) (hj : j ≤ x.replies.length) : x.acked + 1 ≤ seqAt x j ∧ seqAt x j ≤ x.acked + 5 := by
  rw [seqAt]
  split
  · omega
  · have h1 := replies_rise h (j - 1) (by omega)
    have h2 := (replies_iff.1 h).seq (x.replies.getD (j - 1) noKept) (getD_mem _ _ _ (by omega))
    omega
theorem seqAt_none {x : SessionD} (h : replies x = true) : ∀ r ∈ x.replies, r.seq ≠ seqAt x x.replies.length := by
  intro r hr he
  obtain ⟨i, hi, rfl⟩ := List.getElem_of_mem hr
  have hro := List.pairwise_iff_getElem.1 (replies_iff.1 h).rise
  rw [seqAt, if_neg (by omega)] at he
  have hl : x.replies.length - 1 < x.replies.length := by omega
  rw [getD_at hl] at he
  rcases Nat.lt_or_ge i (x.replies.length - 1) with h1 | h1
  · have := hro i (x.replies.length - 1) (by simpa using hi) (by simpa using hl) h1
    simp only [List.getElem_map] at this
    omega
  · obtain rfl : i = x.replies.length - 1 := by omega
    omega
theorem fen_main {s : StateD} {x : SessionD} {c q k : Int} {nm : List UInt8} (h : FewSt 1000 s) (hi : s.index ≤ 1000) (hx : x ∈ s.sessions) (hxc : x.client = c) (hq : q = seqAt x x.replies.length) (hq4 : q ≤ x.acked + 4) (hn : nm ∈ kset) (hk : 1 ≤ k ∧ k ≤ 4) :
    CmdOk (fenCmd c x.id q x.acked nm k) ∧ ∃ (E : Bytes) (T : StateD) (R : ReplyD), cmdEncode (fenCmd c x.id q x.acked nm k) = (E, 0) ∧ decErr E = 0 ∧ maApply s E = (T, R, 0) ∧
      (40 < s.index + 1 - x.last → R.code = 11 ∧ s.pairs = T.pairs) ∧
      ((∀ y ∈ s.sessions, s.index + 1 - y.last ≤ 40) → (((lWho s.locks nm).1 ≠ c ∨ (lWho s.locks nm).2.1 ≠ k) → R.code = 10 ∧ R.n = (lWho s.locks nm).1 ∧ s.pairs = T.pairs) ∧
        ((lWho s.locks nm).1 = c → (lWho s.locks nm).2.1 = k → R.code = 0 ∧ prGet T.pairs nm = (⟨0, R.n, [110, 101, 119]⟩, 0) ∧ PrOk T.pairs)) := by
  have hr := h.ok.sess.rep x hx
  have hs := seqAt_in hr x.replies.length (Nat.le_refl _)
  have hb := h.ok.sess.bad x hx
  have ha := h.ack x hx
  unfold sessBad at hb
  have hqq : 1 ≤ q ∧ q ≤ 1048576 ∧ 0 ≤ x.acked ∧ x.acked < q := by omega
  have hno : ∀ r ∈ x.replies, r.seq ≠ q := by rw [hq]; exact seqAt_none hr
  have hok := fen_ok (k := k) h hi hx hxc ⟨hqq.2.2.2, hq4⟩ hn hk
  obtain ⟨he, hap⟩ := fen_apply h.ok hi hok
  have hd : decErr (cmdEncode (fenCmd c x.id q x.acked nm k)).1 = 0 := by rw [decErr, decode_back hok]
  refine ⟨hok, (cmdEncode (fenCmd c x.id q x.acked nm k)).1, (maBump (maCmd (maFresh s) (fenCmd c x.id q x.acked nm k))).1, (maBump (maCmd (maFresh s) (fenCmd c x.id q x.acked nm k))).2.1, ?_, hd, ?_, fun hl => ?_, fun hall => ⟨fun hh => ?_, fun h1 h2 => ?_⟩⟩
  · rw [← he]
  · rw [hap]; rfl
  · obtain ⟨h1, h2⟩ := fen_away (nm := nm) (k := k) h.ok hi hx hxc hqq hl
    exact ⟨h1, h2.symm⟩
  · obtain ⟨m, h1, h2⟩ := fen_do (nm := nm) (k := k) h.ok hi hx hxc hqq hq4 hno hall
    rw [h1, h2, fen_held (s := ⟨s.index, s.locks, s.pairs, m⟩) hh]
    exact ⟨rfl, rfl, rfl⟩
  · obtain ⟨m, h3, h4⟩ := fen_do (nm := nm) (k := k) h.ok hi hx hxc hqq hq4 hno hall
    rw [h3, h4]
    exact fen_set (s := ⟨s.index, s.locks, s.pairs, m⟩) h.few hn h1 h2
end Go.Tk

/- slices.Equal over pairs. -/
namespace Go.Tk
open Go Go.RowKit
theorem take_eq_succP {α : Type} {l m : List α} {n : Nat} (hl : n < l.length) (hm : n < m.length) (h : l.take n = m.take n) (he : l[n] = m[n]) : l.take (n + 1) = m.take (n + 1) := by
  rw [List.take_succ_eq_append_getElem hl, List.take_succ_eq_append_getElem hm, h, he]
instance : DecidableEq PairD := fun a b => decidable_of_iff (a.name = b.name ∧ a.value = b.value ∧ a.version = b.version) (by cases a; cases b; simp)
theorem pair_ne {s t : PairD} (h : s ≠ t) : (s.name == t.name) = false ∨ ((s.name == t.name) = true ∧ (s.value == t.value) = false) ∨ ((s.name == t.name) = true ∧ (s.value == t.value) = true ∧ (s.version == t.version) = false) := by
  by_cases h1 : s.name = t.name
  · by_cases h2 : s.value = t.value
    · refine .inr (.inr ⟨by simpa using h1, by simpa using h2, ?_⟩)
      have h3 : s.version ≠ t.version := fun h3 => h (by obtain ⟨_, _, _⟩ := s; obtain ⟨_, _, _⟩ := t; simp only at h1 h2 h3; subst h1; subst h2; subst h3; rfl)
      simpa using h3
    · exact .inr (.inl ⟨by simpa using h1, by simpa using h2⟩)
  · exact .inl (by simpa using h1)
end Go.Tk
namespace Go.Proofs.YtcmmenmjclgjmaaGreatDoor
open Go.RowKit Go.Tk

set_option maxRecDepth 100000 in
set_option maxHeartbeats 800000 in
theorem equalPair_calls (l m : List PairD) (v vm : Value) (S Sm : Nat → Prop) (w : World) (h : SlR 3 rPair w v l S) (hm : SlR 3 rPair w vm m Sm) (hl1 : l.length ≤ 1000000) (hm1 : m.length ≤ 1000000) :
    Calls Tryz.prog 22 #[v, vm] w fun e w' => e = .returned (.bool (decide (l = m))) ∧ Below w.heap.size w w' := by
  obtain ⟨a, cap, hv, hl, hc, -, -⟩ := id h
  subst hv
  obtain ⟨am, capm, hv, hlm, hcm, -, -⟩ := id hm
  subst hv
  unfold maxLen at hc hcm
  have HL := Lib.hid h
  have HM := Lib.hid hm
  clear h hm
  by_cases hne : l.length = m.length
  case neg =>
    have HF := Lib.hid (show decide (l = m) = false from decide_eq_false fun e => hne (by rw [e]))
    go_enter Tryz.func22, Tryz.ntmps22
    go_wp2
    go_ret
    exact ⟨by rw [HF.out]; rfl, Below.refl _ _⟩
  rw [← hne] at HM ⊢
  have HNE := Lib.hid hne
  clear hne hlm
  go_enter Tryz.func22, Tryz.ntmps22
  go_wp2
  go_loopw [5, 13] (fun _ i wr => ∃ n : Nat, n ≤ l.length ∧ i = .int .i64 n ∧ Hid (l.take n = m.take n) ∧ Hid (Below w.heap.size w wr))
    (fun _ i _ => l.length - (intOf i).toNat)
  case atStart => exact ⟨0, by omega, rfl, by simp [Hid], Below.refl _ _⟩
  case round =>
    obtain ⟨n, hn, rfl, hf, hb⟩ := hrel
    by_cases hlt : n < l.length
    case neg =>
      have HF := Lib.hid (show decide (l = m) = true from decide_eq_true (by have := hf.out; rwa [List.take_of_length_le (by omega), List.take_of_length_le (by rw [← HNE.out]; omega)] at this))
      go_wp2
      go_ret
      exact ⟨by rw [HF.out]; rfl, hb.out⟩
    have hltm : n < m.length := by rw [← HNE.out]; exact hlt
    obtain ⟨b, off, cap', row, hv, hSb, hrow, hcells⟩ := (HL.out.below rPair_ok (by decide) hb.out).row n hlt
    simp only [Value.slice.injEq] at hv
    obtain ⟨rfl, _, rfl⟩ := hv
    obtain rfl := hrow
    have q0 := hcells 0 _ rfl; have q1 := hcells 1 _ rfl; have q2 := hcells 2 _ rfl
    obtain ⟨b2, off2, cap2, row2, hv2, hSb2, hrow2, hcells2⟩ := (HM.out.below rPair_ok (by decide) hb.out).row n hltm
    simp only [Value.slice.injEq] at hv2
    obtain ⟨rfl, -, rfl⟩ := hv2
    obtain rfl := hrow2
    have r0 := hcells2 0 _ rfl; have r1 := hcells2 1 _ rfl; have r2 := hcells2 2 _ rfl
    simp only [Nat.add_zero] at q0 r0
    clear hcells hcells2
    have HE : Hid (l[n] = m[n] → l.take (n + 1) = m.take (n + 1)) := fun he => take_eq_succP hlt hltm hf.out he
    have HN : Hid (l[n] ≠ m[n] → decide (l = m) = false) := fun he => decide_eq_false fun e => he (by subst e; rfl)
    clear hf
    generalize l[n] = s at *
    generalize m[n] = t at *
    clear hltm
    by_cases hst : s = t
    · have HE2 := Lib.hid (HE.out hst)
      subst hst
      go_wp2
      go_region
      go_wp2
      go_roundw
      case rel => exact ⟨n + 1, by omega, by go_num, HE2, Lib.hid (Below.drew hb.out)⟩
      case measure => simp [intOf]; omega
    · have HN2 := Lib.hid (HN.out hst)
      rcases pair_ne hst with h1 | ⟨h1, h2⟩ | ⟨h1, h2, h3⟩
      all_goals
        clear hst
        go_wp2
        go_region
        go_wp2
        go_ret
        exact ⟨by rw [HN2.out]; rfl, Below.drew hb.out⟩
end Go.Proofs.YtcmmenmjclgjmaaGreatDoor

/- slices.Clone: the same elements in memory of the call's own. -/
namespace Go.Proofs.YtcmmenmjclgjmaaGreatDoor
open Go.RowKit Go.Tk

theorem Tryz.tycSess : SliceTy Tryz.prog 25 41 5 56 := ⟨Tryz.underlying25, by kernel_rfl, by decide⟩

set_option maxRecDepth 100000 in
set_option maxHeartbeats 400000 in
theorem cloneSess_calls {α : Type} {R : Rel α} (hR : RelOk R 5) (w : World) (v : Value) (l : List α) (S : Nat → Prop) (h : SlR 5 R w v l S) (hn : l.length ≤ 1000000) :
    Calls Tryz.prog 24 #[v] w fun e w' => ∃ v', e = .returned v' ∧ OwR 41 5 R w' v' l S ∧ Below w.heap.size w w' ∧ (∀ g, v'.ownBlock = some g → w.heap.size ≤ g) := by
  obtain ⟨a, cap, hv, hl, hm, hnil, hr⟩ := id h
  subst hv
  have hm' := hm
  unfold maxLen at hm'
  cases a with
  | none =>
    have h0 := hnil rfl
    subst h0
    have hl0 : l = [] := List.eq_nil_of_length_eq_zero (by omega)
    subst hl0
    have he := Lib.run_eql_slice_nil (P := Tryz.prog) (t := 25)
    go_enter Tryz.func24, Tryz.ntmps24
    go_wp2
    go_ret
    exact ⟨_, rfl, OwR.nil w S, Below.refl _ _, by simp [Value.ownBlock]⟩
  | some a =>
    obtain ⟨a', cap', rows, hv, -, -, hrl, hrel, hcells⟩ := h.rows hR (by decide)
    simp only [Value.slice.injEq] at hv
    obtain ⟨rfl, -, rfl⟩ := hv
    have hlen := OwR.rowsLen (E := 41) (v := .slice (some a) l.length cap) hR hrl hrel
    have hone := OwR.cellsOne (E := 41) hR hrl hrel
    have hfl : rows.flatten.length = l.length * 5 := by
      have : ∀ (rs : List (List Value)), (∀ r ∈ rs, r.length = 5) → rs.flatten.length = rs.length * 5 := by
        intro rs
        induction rs with
        | nil => intro _; rfl
        | cons r rs ih => intro hk; rw [List.flatten_cons, List.length_append, hk r (by simp), ih (fun r hr => hk r (by simp [hr]))]; simp; omega
      rw [this rows hlen, hrl]
    have hown0 : (w.alloc (.cells #[] 41)).ownsRow 0 41 5 (.slice (some ⟨w.heap.size, 0, none⟩) 0 0) 0 [] :=
      ⟨rfl, .inr ⟨w.heap.size, 0, #[], rfl, Nat.zero_le _, heap_alloc_new w _, Nat.le_refl _, by decide, rfl, rfl⟩⟩
    obtain ⟨v', w', hrun, g1, g2, g3⟩ := run_append_tk (P := Tryz.prog) (ty := 25) (w.alloc (.cells #[] 41)) Tryz.tycSess _ 0 [] hown0 a l.length cap rows.flatten hfl (fun j u hu => by
      obtain ⟨b, off, ha, _, hc⟩ := hcells j u hu
      simp only [Option.some.injEq] at ha
      subst ha
      have hlt := World.block_lt_of_cell? w _ hc
      rw [Addr.add_lit, World.cell?_alloc_past _ _ _ hlt]; exact hc) hone (by omega)
    have hvb : ∀ g, v'.ownBlock = some g → w.heap.size ≤ g := by
      intro g hg
      rcases g3 with e | ⟨g', e, h⟩
      · rw [e] at hg; cases hg; exact Nat.le_refl _
      · rw [e] at hg; cases hg; simp at h; omega
    have hb : Below w.heap.size w w' := ((Below.refl _ _).alloc (Nat.le_refl _) _).grown g2 (by simp) (fun k hk => by cases hk; exact Nat.le_refl _)
    have hfin : OwR 41 5 R w' v' l S := by
      refine ⟨rows, hrl, by simpa using g1, fun i r x hr hx => hR.move (hrel i r x hr hx) fun b hs hlt => ⟨hb.block b hlt, hs, ?_⟩⟩
      intro hbg
      have := hvb b hbg.symm
      omega
    have HF := Lib.hid hfin
    have HV := Lib.hid hvb
    have he := Lib.run_eql_slice_nil (P := Tryz.prog) (t := 25)
    clear hfin hvb g1 g2 g3 hcells hrel hlen hone hfl hown0 hr h hrl
    go_enter Tryz.func24, Tryz.ntmps24
    go_wp2_with (at_builtin; refine wpList_append_run rfl _ _ _ _ rfl _ _ rfl rfl hrun ?_)
    go_ret
    exact ⟨v', rfl, HF.out, hb, HV.out⟩
end Go.Proofs.YtcmmenmjclgjmaaGreatDoor
