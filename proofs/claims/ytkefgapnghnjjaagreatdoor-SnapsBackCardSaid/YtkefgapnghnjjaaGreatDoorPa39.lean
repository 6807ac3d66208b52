/- A part of the proof, laid together from: LogQ, Ent, MachE, CustP, CustQ. -/
import Derived.Test.YtkefgapnghnjjaaGreatDoorPa07
import Derived.Test.YtkefgapnghnjjaaGreatDoorPa36
import Derived.Test.YtkefgapnghnjjaaGreatDoorPa38
import Derived.Test.YtkefgapnghnjjaaGreatDoorPa33
import Derived.Test.YtkefgapnghnjjaaGreatDoorPa34
import Derived.Test.YtkefgapnghnjjaaGreatDoorPa35
set_option linter.unusedSimpArgs false
set_option linter.unusedVariables false
/- What was put stands there; a log that is cut has all that is behind. No program in sight. -/
namespace Go.Tk
open Go Go.RowKit

/-- Entries of commands that may be. -/
def entriesP (l : List CommandD) : List Bytes := l.map fun c => (cmdEncode c).1
theorem entries_ok {l : List CommandD} (h : ∀ c ∈ l, CmdOk c) : ∀ s ∈ entriesP l, decErr s = 0 := by
  intro s hs
  obtain ⟨c, hc, rfl⟩ := List.mem_map.1 hs
  rw [decErr, decode_back (h c hc)]
theorem noLog_ok : LogOk noLog := ⟨by simp [noLog], by simp [noLog], by simp [noLog]⟩
theorem skip_zero {l : LogD} {n : Int} (h : l.base ≤ n) (m : List Bytes) : skipOf l n m = 0 := by rw [skipOf, if_neg (by omega)]
theorem put_eq {l : LogD} {k : Int} {b : List Bytes} (h : LogOk l) (h0 : l.base ≤ k) (h1 : k ≤ logLast l) (hb : b.length ≤ 400) :
    logPut l k b = if (putGo b (k - l.base).toNat l.entries).2 ≠ 0 then (noLog, (putGo b (k - l.base).toNat l.entries).2)
      else if 400 < (putGo b (k - l.base).toNat l.entries).1.length then (noLog, 8) else (⟨l.base, (putGo b (k - l.base).toNat l.entries).1⟩, 0) := by
  have hc := logCheck_ok.2 h
  have hl := h.len
  have hb0 := h.base
  have h2 : logLast l ≤ l.base + 400 := by rw [logLast]; omega
  rw [logPut, skip_zero h0, if_neg (by simp [hc]), if_neg (by omega), if_neg (by omega), if_neg (by omega)]
  simp only [List.drop_zero, Int.natCast_zero, Int.add_zero]
theorem put_first {a : List Bytes} (ha : ∀ s ∈ a, decErr s = 0) (hl : a.length ≤ 400) : logPut noLog 0 a = (⟨0, a⟩, 0) := by
  rw [put_eq noLog_ok (by simp [noLog]) (by simp [noLog, logLast]) hl]
  obtain ⟨o, h1, h2, h3, h4, _⟩ := putGo_spec a 0 [] ha (by simp)
  have e : o = a := by
    have : o.length = a.length := by simp at h3 h2; omega
    rw [← List.take_length (l := o), this]
    simpa using h4
  subst e
  have e3 : putGo o (0 - noLog.base).toNat noLog.entries = (o, 0) := h1
  rw [e3, if_neg (by simp), if_neg (by show ¬(400 < o.length); omega)]; rfl
theorem flat_ok {a : List Bytes} (ha : ∀ s ∈ a, decErr s = 0) (hl : a.length ≤ 400) : LogOk ⟨0, a⟩ := ⟨by simp, hl, ha⟩
/-- LogsPut, plainly. -/
theorem logs_put {a b : List Bytes} {k : Nat} (ha : ∀ s ∈ a, decErr s = 0) (hb : ∀ s ∈ b, decErr s = 0) (hla : a.length ≤ 30) (hlb : b.length ≤ 10) (hk : k ≤ a.length) :
    ∃ y, logPut ⟨0, a⟩ k b = (⟨0, y⟩, 0) ∧ logPut ⟨0, y⟩ k b = (⟨0, y⟩, 0) ∧ LogOk ⟨0, y⟩ ∧ k + b.length ≤ y.length ∧ y.length ≤ 40 ∧
      logPut ⟨0, a⟩ (a.length + 1 : Nat) b = (noLog, 13) ∧ logBehind ⟨0, y⟩ 0 k = (a.take k, 0) ∧ logBehind ⟨0, y⟩ k (b.length : Nat) = (b, 0) := by
  obtain ⟨o, h1, h2, h3, h4, h5⟩ := putGo_spec b k a hb hk
  have hlo : o.length ≤ 40 := by omega
  have hoa : ∀ s ∈ o, decErr s = 0 := fun s hs => by
    rcases h5 s hs with h | h
    · exact ha s h
    · exact hb s h
  have hok : LogOk ⟨0, o⟩ := ⟨by simp, by show o.length ≤ 400; omega, hoa⟩
  have htk : o.take k = a.take k := by
    have := congrArg (List.take k) h4
    rw [List.take_take, show min k (k + b.length) = k by omega, List.take_append, List.take_take, List.length_take, show min k k = k by omega, show k - min k a.length = 0 by omega] at this
    simpa using this
  have hdr : (o.drop k).take b.length = b := by
    have := congrArg (List.drop k) h4
    rw [List.drop_take, show k + b.length - k = b.length by omega, List.drop_left' (by rw [List.length_take]; omega)] at this
    exact this
  have e2 := putGo_same b k o hb h2 (by rw [h4, htk])
  refine ⟨o, ?_, ?_, hok, h2, hlo, ?_, ?_, ?_⟩
  · rw [put_eq (flat_ok ha (by omega)) (by show (0 : Int) ≤ k; omega) (by show (k : Int) ≤ 0 + a.length; omega) (by omega)]
    have e3 : putGo b ((k : Int) - (⟨0, a⟩ : LogD).base).toNat (⟨0, a⟩ : LogD).entries = (o, 0) := by rw [show ((k : Int) - (⟨0, a⟩ : LogD).base).toNat = k by show ((k : Int) - 0).toNat = k; omega]; exact h1
    rw [e3, if_neg (by simp), if_neg (by show ¬(400 < o.length); omega)]
  · rw [put_eq hok (by show (0 : Int) ≤ k; omega) (by show (k : Int) ≤ 0 + o.length; omega) (by omega)]
    have e3 : putGo b ((k : Int) - (⟨0, o⟩ : LogD).base).toNat (⟨0, o⟩ : LogD).entries = (o, 0) := by rw [show ((k : Int) - (⟨0, o⟩ : LogD).base).toNat = k by show ((k : Int) - 0).toNat = k; omega]; exact e2
    rw [e3, if_neg (by simp), if_neg (by show ¬(400 < o.length); omega)]
  · have hc := logCheck_ok.2 (flat_ok ha (by omega))
    rw [logPut, if_neg (by simp [hc]), if_neg (by omega), if_neg (by omega), if_pos (by show (0 : Int) + a.length < (a.length + 1 : Nat); omega)]
  · rw [logBehind, if_neg (by simp [logCheck_ok.2 hok]), if_neg (by show ¬((0 : Int) < 0 ∨ (k : Int) < 0); omega)]
    by_cases hz : logLast ⟨0, o⟩ ≤ 0
    · rw [if_pos hz]
      have : (0 : Int) + o.length ≤ 0 := hz
      have hk0 : k = 0 := by omega
      subst hk0; simp
    · rw [if_neg hz]
      show ((o.drop ((0 : Int) - 0).toNat).take (k : Int).toNat, (0 : Int)) = _
      simp [htk]
  · rw [logBehind, if_neg (by simp [logCheck_ok.2 hok]), if_neg (by show ¬((k : Int) < 0 ∨ (b.length : Int) < 0); omega)]
    by_cases hz : logLast ⟨0, o⟩ ≤ k
    · rw [if_pos hz]
      have : (0 : Int) + o.length ≤ k := hz
      have hb0 : b.length = 0 := by omega
      rw [List.length_eq_zero_iff.1 hb0]
    · rw [if_neg hz]
      show ((o.drop ((k : Int) - 0).toNat).take (b.length : Int).toNat, (0 : Int)) = _
      rw [show ((k : Int) - 0).toNat = k by omega, show (b.length : Int).toNat = b.length by omega, hdr]
/-- LogsCut, plainly. -/
theorem logs_cut {a : List Bytes} {k : Nat} (ha : ∀ s ∈ a, decErr s = 0) (hla : a.length ≤ 30) (hk : k ≤ a.length) :
    logCut ⟨0, a⟩ k = (⟨k, a.drop k⟩, 0) ∧ LogOk ⟨k, a.drop k⟩ ∧ logLast ⟨k, a.drop k⟩ = a.length ∧ logAt ⟨k, a.drop k⟩ k = ([], 6) ∧
      ∀ i : Nat, k < i → i ≤ a.length → logAt ⟨k, a.drop k⟩ i = (a.getD (i - 1) [], 0) := by
  have hok : LogOk ⟨k, a.drop k⟩ := ⟨by simp only; omega, by simp only [List.length_drop]; omega, fun s hs => ha s (List.mem_of_mem_drop hs)⟩
  have hlast : logLast ⟨k, a.drop k⟩ = a.length := by simp only [logLast, List.length_drop]; omega
  refine ⟨?_, hok, hlast, ?_, fun i hi hi2 => ?_⟩
  · rw [logCut, if_neg (by simp [logCheck_ok.2 (flat_ok ha (by omega))]), if_neg (by show ¬((k : Int) < 0 ∨ (0 : Int) + a.length < k); omega), if_neg (by omega)]
    simp
  · rw [logAt, if_neg (by simp [logCheck_ok.2 hok]), if_pos (by simp)]
  · rw [logAt, if_neg (by simp [logCheck_ok.2 hok]), hlast, if_neg (by simp only; omega)]
    simp only
    rw [show ((i : Int) - k - 1).toNat = i - 1 - k by omega]
    simp only [List.getD, List.getElem?_drop]
    rw [show k + (i - 1 - k) = i - 1 by omega]
end Go.Tk

/- tackroomkeep.entries: the entries of commands. -/
namespace Go.Tk
open Go Go.RowKit
theorem words_len {c : CommandD} (h : CmdOk c) : ∀ s ∈ words c, s.length ≤ 1000000 := by
  intro s hs
  have hx : c.op.a.length ≤ 1000000 ∧ c.op.b.length ≤ 1000000 := by
    rcases h with ⟨_, _, _, _, _, h4⟩ | ⟨_, _, _, _, _, h4⟩
    · rw [h4]; exact ⟨by decide, by decide⟩
    · have := lkName_len h4.name
      have := h4.size
      constructor <;> omega
  simp only [words, List.mem_cons, List.not_mem_nil, or_false] at hs
  rcases hs with rfl | rfl
  · exact hx.1
  · exact hx.2
theorem rStr_any (w : World) (cs : List Value) (x : List UInt8) (S S' : Nat → Prop) (h : rStr w cs x S) : rStr w cs x S' := h
theorem entries_len {l : List CommandD} : ∀ s ∈ entriesP l, s.length ≤ 100 := by
  intro s hs
  obtain ⟨c, hc, rfl⟩ := List.mem_map.1 hs
  have := @encode_len c
  omega
theorem entriesP_len (l : List CommandD) : (entriesP l).length = l.length := by rw [entriesP, List.length_map]
end Go.Tk
namespace Go.Proofs.YtkefgapnghnjjaaGreatDoor
open Go.RowKit Go.Tk
theorem Tryz.tyStr : SliceTy Tryz.prog 26 9 1 16 := ⟨Tryz.underlying26, by kernel_rfl, by decide⟩

set_option maxRecDepth 100000 in
set_option maxHeartbeats 1600000 in
theorem entries_calls (cs : List CommandD) (hall : ∀ c ∈ cs, CmdOk c) (hlen : cs.length ≤ 1000) (v : Value) (S : Nat → Prop) (w : World) (h : SlR 9 rCommand w v cs S) :
    Calls Tryz.prog 26 #[v] w fun e w' => ∃ v', e = .returned v' ∧ SlR 1 rStr w' v' (entriesP cs) (fun b => w.heap.size ≤ b) ∧ Below w.heap.size w w' := by
  obtain ⟨a, cap, hv, hl, hm, -, -⟩ := id h
  subst hv
  unfold maxLen at hm
  have HS := Lib.hid h
  have HALL := Lib.hid hall
  clear h hall
  go_enter Tryz.func26, Tryz.ntmps26
  go_wp2
  go_loopw [3, 5, 6, 7, 10] (fun v _ _ _ i wr => ∃ n : Nat, n ≤ cs.length ∧ i = .int .i64 n ∧ Hid (OwR 9 1 rStr wr v (entriesP (cs.take n)) (fun _ => False)) ∧ Hid (∀ g, v.ownBlock = some g → w.heap.size ≤ g) ∧ Hid (Below w.heap.size w wr))
    (fun _ _ _ _ i _ => cs.length - (intOf i).toNat)
  case atStart => exact ⟨0, by omega, rfl, OwR.nil _ _, Lib.hid (fun g hg => by cases hg), Below.refl _ _⟩
  case round =>
    obtain ⟨n, hn, rfl, ho, hg, hb⟩ := hrel
    by_cases hlt : n < cs.length
    case neg =>
      have HF := Lib.hid (show cs.take n = cs from List.take_of_length_le (by omega))
      go_wp2
      refine bodyPost_ret (v := u3) (by simp [results, Tryz.results26, go_sem]) rfl ⟨u3, rfl, ?_, hb.out⟩
      have := ho.out
      rw [HF.out] at this
      exact (this.forget rStr_any).read rStr_ok (by decide) hg.out
    obtain ⟨b, off, cap', row, hv, hSb, hrow, hcells⟩ := (HS.out.below rCommand_ok (by decide) hb.out).row n hlt
    simp only [Value.slice.injEq] at hv
    obtain ⟨rfl, _, rfl⟩ := hv
    have hok := HALL.out cs[n] (List.getElem_mem hlt)
    have HT := Lib.hid (show entriesP (cs.take (n + 1)) = entriesP (cs.take n) ++ [(cmdEncode cs[n]).1] by rw [List.take_succ_eq_append_getElem hlt, entriesP, List.map_append]; rfl)
    have hel : (entriesP (cs.take n)).length = n := by rw [entriesP_len, List.length_take]; omega
    generalize cs[n] = c at *
    obtain rfl := hrow
    have q0 := hcells 0 _ rfl
    have q1 := hcells 1 _ rfl
    have q2 := hcells 2 _ rfl
    have q3 := hcells 3 _ rfl
    have q4 := hcells 4 _ rfl
    have q5 := hcells 5 _ rfl
    have q6 := hcells 6 _ rfl
    have q7 := hcells 7 _ rfl
    have q8 := hcells 8 _ rfl
    simp only [Nat.add_zero] at q0
    clear hcells
    have HWL := Lib.hid (words_len hok)
    have HE := Lib.hid (encode_ok hok)
    generalize hs : (cmdEncode c).1 = s at *
    have HSE := Lib.hid hs
    clear hok hs
    obtain ⟨ua, uc, e5⟩ := ho.out.shape
    rw [hel] at e5
    go_wp2_with fail
    refine (encode_calls c _ HWL.out).mono ?_
    rw [HE.out, HSE.out]; rintro e w2 ⟨rfl, hb3⟩
    have hb4 := below_step (below_alloc wr _) hb3
    have HB2 := Lib.hid (below_step hb.out hb4)
    have HO2 := Lib.hid (ho.out.below rStr_ok hb4)
    clear q0 q1 q2 q3 q4 q5 q6 q7 q8 hb3 hb4 hb ho
    subst e5
    go_wp2_with (at_builtin; refine wpList_app1 Tryz.tyStr (.tmp 21) (.tmp 23) rfl rfl rStr_ok s rfl rfl rfl HO2.out rfl (by rw [hel]; omega) ?_; intro v4 w4 ho4 hg4 hv4)
    go_roundw
    case rel =>
      refine ⟨n + 1, by omega, by go_num, Lib.hid (by rw [HT.out]; exact ho4), Lib.hid fun g hgg => ?_, Lib.hid (HB2.out.grown hg4 HB2.out.size fun k hk => hg.out k hk)⟩
      rcases hv4 with e | ⟨y, e, hy⟩
      · have e' : v4.ownBlock = (Value.slice ua n uc).ownBlock := e
        exact hg.out g (by rw [← e']; exact hgg)
      · rw [e] at hgg; cases hgg; exact Nat.le_trans HB2.out.size hy
    case measure => simp [intOf]; omega
end Go.Proofs.YtkefgapnghnjjaaGreatDoor

/- tackroomkeep.Applied. -/
namespace Go.Tk
open Go Go.RowKit
theorem applied_take {l : List Bytes} (h : ∀ x ∈ l, decErr x = 0) (hl : l.length ≤ 1000000) (n : Nat) (hn : n < l.length) {s : StateD} (hs : applied (l.take n) = (s, true)) :
    StOk s ∧ s.index = n ∧ (maApply s l[n]).2.2 = 0 ∧ applied (l.take (n + 1)) = ((maApply s l[n]).1, true) ∧ decErr l[n] = 0 := by
  obtain ⟨t, h1, h2, h3, -⟩ := applied_ok (l := l.take n) (fun x hx => h x (List.mem_of_mem_take hx)) (by rw [List.length_take]; omega)
  rw [hs] at h1
  obtain rfl : s = t := (Prod.mk.inj h1).1
  rw [List.length_take] at h3
  have hd := h l[n] (List.getElem_mem hn)
  obtain ⟨h4, h5, -⟩ := apply_ok h2 (by omega) hd
  refine ⟨h2, by omega, h4, ?_, hd⟩
  rw [List.take_succ_eq_append_getElem hn, applied, appliedGo_append _ _ _ _ hs, appliedGo, if_neg (by simp [h4]), appliedGo]
theorem StAt.none (w : World) (S : Nat → Prop) : StAt w noState (.slice none 0 0) (.slice none 0 0) (.slice none 0 0) S := ⟨SlR.nil _ _, SlR.nil _ _, SlR.nil _ _⟩
end Go.Tk
namespace Go.Proofs.YtkefgapnghnjjaaGreatDoor
open Go.RowKit Go.Tk

set_option linter.unusedSimpArgs false in
set_option maxRecDepth 100000 in
set_option maxHeartbeats 3200000 in
theorem applied_calls (l : List Bytes) (v : Value) (S : Nat → Prop) (w : World) (h : SlR 1 rStr w v l S) (hall : ∀ x ∈ l, decErr x = 0) (hl : l.length ≤ 1000000) :
    Calls Tryz.prog 18 #[v] w fun e w' => ∃ s vl vp vs, applied l = (s, true) ∧ e = .returned (.tuple #[.agg #[.int .i64 s.index, vl, vp, vs], .bool true]) ∧ StAt w' s vl vp vs (fun b => w.heap.size ≤ b) ∧ Below w.heap.size w w' := by
  obtain ⟨a, cap, hv, -, hm, -, -⟩ := id h
  subst hv
  unfold maxLen at hm
  have HS := Lib.hid h
  have HALL := Lib.hid hall
  clear h hall
  go_enter Tryz.func18, Tryz.ntmps18
  go_upto_region 2 with (fail)
  have HR := Lib.hid ((BoxAt.new (w := w) (cs := [.int .i64 0, .slice none 0 0, .slice none 0 0, .slice none 0 0]) (E := 36)).below (below_alloc _ (.cells #[.int .i64 0, .slice none 0 0, .slice none 0 0, .slice none 0 0] 36)))
  have hx := BoxAt.new (w := w.alloc (.cells #[.int .i64 0, .slice none 0 0, .slice none 0 0, .slice none 0 0] 36)) (cs := [.int .i64 0, .slice none 0 0, .slice none 0 0, .slice none 0 0]) (E := 36)
  rw [World.size_alloc] at hx
  have HX := Lib.hid hx
  have HB := Lib.hid (below_alloc2 w (.cells #[.int .i64 0, .slice none 0 0, .slice none 0 0, .slice none 0 0] 36) (.cells #[.int .i64 0, .slice none 0 0, .slice none 0 0, .slice none 0 0] 36))
  clear hx
  generalize (w.alloc (.cells #[.int .i64 0, .slice none 0 0, .slice none 0 0, .slice none 0 0] 36)).alloc (.cells #[.int .i64 0, .slice none 0 0, .slice none 0 0, .slice none 0 0] 36) = w0 at *
  go_wp2
  go_loopw [6, 7, 8, 9, 13] (fun _ _ _ _ i wr => ∃ n : Nat, n ≤ l.length ∧ i = .int .i64 n ∧ ∃ s vl vp vs, Hid (applied (l.take n) = (s, true)) ∧ Hid (BoxAt wr (w.heap.size + 1) [.int .i64 s.index, vl, vp, vs]) ∧ Hid (StAt wr s vl vp vs (fun b => w.heap.size + 2 ≤ b)) ∧ Hid (BoxAt wr w.heap.size [.int .i64 0, .slice none 0 0, .slice none 0 0, .slice none 0 0]) ∧ Hid (Below w.heap.size w wr))
    (fun _ _ _ _ i _ => l.length - (intOf i).toNat)
  case atStart => exact ⟨0, by omega, rfl, noState, _, _, _, Lib.hid rfl, HX, Lib.hid (StAt.none _ _), HR, HB⟩
  case round =>
    obtain ⟨n, hn, rfl, s, vl, vp, vs, happ, hbx, hst, hrs, hbl⟩ := hrel
    obtain ⟨al, cl, rfl, -, -, -, -⟩ := id hst.out.lock; obtain ⟨ap, cp, rfl, -, -, -, -⟩ := id hst.out.pair; obtain ⟨az, cz, rfl, -, -, -, -⟩ := id hst.out.sess
    have b0 := hbx.out.cell 0 _ rfl; have b1 := hbx.out.cell 1 _ rfl; have b2 := hbx.out.cell 2 _ rfl; have b3 := hbx.out.cell 3 _ rfl
    have hbz := hbl.out.size
    by_cases hlt : n < l.length
    case neg =>
      have HF := Lib.hid (show applied l = (s, true) by have := happ.out; rwa [List.take_of_length_le (by omega)] at this)
      have r0 := hrs.out.cell 0 _ rfl; have r1 := hrs.out.cell 1 _ rfl; have r2 := hrs.out.cell 2 _ rfl; have r3 := hrs.out.cell 3 _ rfl
      have t0 := hrs.out.thaw 0; have t1 := hrs.out.thaw 1; have t2 := hrs.out.thaw 2; have t3 := hrs.out.thaw 3
      have HG := Lib.hid (((((hrs.out.set 0 (by simp) (.int .i64 s.index)).set 1 (by simp) (.slice al s.locks.length cl)).set 2 (by simp) (.slice ap s.pairs.length cp)).set 3 (by simp) (.slice az s.sessions.length cz)))
      have HSF := Lib.hid (hst.out.move (w' := (((wr.setCell ⟨w.heap.size, 0, none⟩ (.int .i64 s.index)).setCell ⟨w.heap.size, 1, none⟩ (.slice al s.locks.length cl)).setCell ⟨w.heap.size, 2, none⟩ (.slice ap s.pairs.length cp)).setCell ⟨w.heap.size, 3, none⟩ (.slice az s.sessions.length cz)) (S' := fun b => w.heap.size ≤ b) fun b hb _ => ⟨(heap_far (by omega)).trans ((heap_far (by omega)).trans ((heap_far (by omega)).trans (heap_far (by omega)))), by show _ ≤ _; have : w.heap.size + 2 ≤ b := hb; omega⟩)
      have HBF := Lib.hid (below_set (below_set (below_set (below_set hbl.out (Nat.le_refl _) 0 (.int .i64 s.index)) (Nat.le_refl _) 1 (.slice al s.locks.length cl)) (Nat.le_refl _) 2 (.slice ap s.pairs.length cp)) (Nat.le_refl _) 3 (.slice az s.sessions.length cz))
      go_wp2
      generalize (((wr.setCell ⟨w.heap.size, 0, none⟩ (.int .i64 s.index)).setCell ⟨w.heap.size, 1, none⟩ (.slice al s.locks.length cl)).setCell ⟨w.heap.size, 2, none⟩ (.slice ap s.pairs.length cp)).setCell ⟨w.heap.size, 3, none⟩ (.slice az s.sessions.length cz) = wf at *
      have g0 := HG.out.cell 0 _ rfl; have g1 := HG.out.cell 1 _ rfl; have g2 := HG.out.cell 2 _ rfl; have g3 := HG.out.cell 3 _ rfl
      refine bodyPost_ret (v := .tuple #[.agg #[.int .i64 s.index, .slice al s.locks.length cl, .slice ap s.pairs.length cp, .slice az s.sessions.length cz], .bool true]) (by simp [results, Tryz.results18, go_sem, g0, g1, g2, g3]) rfl ⟨s, _, _, _, HF.out, rfl, HSF.out, HBF.out⟩
    obtain ⟨b, off, cap', row, hv, hSb, hrow, hcells⟩ := (HS.out.below rStr_ok (by decide) hbl.out).row n hlt
    simp only [Value.slice.injEq] at hv
    obtain ⟨rfl, _, rfl⟩ := hv
    obtain ⟨hok, hsi, he0, hnext, hdec⟩ := applied_take HALL.out hl n hlt happ.out
    have HN := Lib.hid hnext
    have HE0 := Lib.hid he0
    obtain rfl := hrow
    have q0 := hcells 0 _ rfl
    simp only [Nat.mul_one, Nat.add_zero] at q0
    clear hcells hnext he0 happ
    have HC := Lib.hid (maApply_calls s _ _ _ _ l[n] wr hst.out hok (by omega) hdec)
    clear hst hok hdec hsi
    generalize l[n] = x at *
    go_wp2_with fail
    refine HC.out.mono ?_
    clear HC
    rintro e w2 ⟨vl2, vp2, vs2, rfl, hst2, hb2⟩
    rw [HE0.out]
    clear HE0
    generalize (maApply s x).1 = t at HN hst2 ⊢
    generalize (maApply s x).2.1 = r
    obtain ⟨al2, cl2, rfl, -, -, -, -⟩ := id hst2.lock; obtain ⟨ap2, cp2, rfl, -, -, -, -⟩ := id hst2.pair; obtain ⟨az2, cz2, rfl, -, -, -, -⟩ := id hst2.sess
    have HX2 := Lib.hid (hbx.out.below hb2)
    have HR2 := Lib.hid (hrs.out.below hb2)
    have HB2 := Lib.hid (below_step hbl.out hb2)
    have hbz2 := hb2.size
    have HS2 := Lib.hid (hst2.sub (S' := fun b => w.heap.size + 2 ≤ b) fun b hb _ => by show _ ≤ _; have : wr.heap.size ≤ b := hb; have := hbx.out.lt; omega)
    clear hst2 hb2 hbx hrs hbl q0 b0 b1 b2 b3
    go_upto_region 8 with (fail)
    have HY := Lib.hid ((BoxAt.new (w := w2) (cs := [.int .i64 t.index, .slice al2 t.locks.length cl2, .slice ap2 t.pairs.length cp2, .slice az2 t.sessions.length cz2]) (E := 36)).below (below_alloc _ (.cells #[.int .i64 r.code, .int .i64 r.n, .string ⟨r.text.toArray⟩] 39)))
    have hba := below_alloc2 w2 (.cells #[.int .i64 t.index, .slice al2 t.locks.length cl2, .slice ap2 t.pairs.length cp2, .slice az2 t.sessions.length cz2] 36) (.cells #[.int .i64 r.code, .int .i64 r.n, .string ⟨r.text.toArray⟩] 39)
    have hne : w.heap.size + 1 < w2.heap.size := by have := HX2.out.lt; omega
    replace HX2 := Lib.hid (HX2.out.below hba)
    replace HR2 := Lib.hid (HR2.out.below hba)
    replace HS2 := Lib.hid (HS2.out.below hba)
    replace HB2 := Lib.hid (below_step HB2.out hba)
    have hbz3 := hba.size
    clear hba
    generalize (w2.alloc (.cells #[.int .i64 t.index, .slice al2 t.locks.length cl2, .slice ap2 t.pairs.length cp2, .slice az2 t.sessions.length cz2] 36)).alloc (.cells #[.int .i64 r.code, .int .i64 r.n, .string ⟨r.text.toArray⟩] 39) = w3 at *
    have y0 := HY.out.cell 0 _ rfl; have y1 := HY.out.cell 1 _ rfl; have y2 := HY.out.cell 2 _ rfl; have y3 := HY.out.cell 3 _ rfl
    have x0 := HX2.out.cell 0 _ rfl; have x1 := HX2.out.cell 1 _ rfl; have x2 := HX2.out.cell 2 _ rfl; have x3 := HX2.out.cell 3 _ rfl
    have t0 := HX2.out.thaw 0; have t1 := HX2.out.thaw 1; have t2 := HX2.out.thaw 2; have t3 := HX2.out.thaw 3
    have HXF := Lib.hid ((((HX2.out.set 0 (by simp) (.int .i64 t.index)).set 1 (by simp) (.slice al2 t.locks.length cl2)).set 2 (by simp) (.slice ap2 t.pairs.length cp2)).set 3 (by simp) (.slice az2 t.sessions.length cz2))
    have HRF := Lib.hid ((((HR2.out.far (c := w.heap.size + 1) (by omega) 0 (.int .i64 t.index)).far (c := w.heap.size + 1) (by omega) 1 (.slice al2 t.locks.length cl2)).far (c := w.heap.size + 1) (by omega) 2 (.slice ap2 t.pairs.length cp2)).far (c := w.heap.size + 1) (by omega) 3 (.slice az2 t.sessions.length cz2))
    have HSF := Lib.hid (HS2.out.move (w' := ((((w3.setCell ⟨w.heap.size + 1, 0, none⟩ (.int .i64 t.index)).setCell ⟨w.heap.size + 1, 1, none⟩ (.slice al2 t.locks.length cl2)).setCell ⟨w.heap.size + 1, 2, none⟩ (.slice ap2 t.pairs.length cp2)).setCell ⟨w.heap.size + 1, 3, none⟩ (.slice az2 t.sessions.length cz2))) (S' := fun b => w.heap.size + 2 ≤ b) fun b hb _ => ⟨(heap_far (by omega)).trans ((heap_far (by omega)).trans ((heap_far (by omega)).trans (heap_far (by omega)))), hb⟩)
    have HBF := Lib.hid (below_set (below_set (below_set (below_set HB2.out (Nat.le_succ _) 0 (.int .i64 t.index)) (Nat.le_succ _) 1 (.slice al2 t.locks.length cl2)) (Nat.le_succ _) 2 (.slice ap2 t.pairs.length cp2)) (Nat.le_succ _) 3 (.slice az2 t.sessions.length cz2))
    go_wp2
    go_roundw
    case rel => exact ⟨n + 1, by omega, by go_num, t, _, _, _, HN, HXF, HSF, HRF, HBF⟩
    case measure => simp [intOf]; omega
end Go.Proofs.YtkefgapnghnjjaaGreatDoor

/- Package customer as plain functions. No program in sight. -/
namespace Go.Tk
open Go Go.RowKit

structure WaitD where
  seq : Int
  op : OpD
structure CustomerD where
  id : Int
  session : Int
  next : Int
  waits : List WaitD
structure MailD where
  client : Int
  seq : Int
  reply : ReplyD
def noWait : WaitD := ⟨0, noOp⟩
def noCustomer : CustomerD := ⟨0, 0, 0, []⟩
def custBad (c : CustomerD) (i : Nat) : Prop :=
  (c.waits.getD i noWait).seq < 1 ∨ c.next ≤ (c.waits.getD i noWait).seq ∨ (0 < i ∧ (c.waits.getD i noWait).seq ≤ (c.waits.getD (i - 1) noWait).seq) ∨ (c.waits.getD 0 noWait).seq + 3 < (c.waits.getD i noWait).seq
instance (c : CustomerD) (i : Nat) : Decidable (custBad c i) := by unfold custBad; infer_instance
def custErr (c : CustomerD) (i : Nat) : Int := if custBad c i then 9 else opCheck (c.waits.getD i noWait).op
def custCheck (c : CustomerD) : Int :=
  if c.id < 1 ∨ 9 < c.id ∨ c.session < 0 ∨ 1073741824 < c.session ∨ c.next < 1 ∨ 1048577 < c.next then 2
  else if 4 < c.waits.length ∨ (c.session = 0 ∧ 0 < c.waits.length) then 9
  else firstErr (custErr c) c.waits.length
structure CustOk (c : CustomerD) : Prop where
  id : 1 ≤ c.id ∧ c.id ≤ 9
  session : 0 ≤ c.session ∧ c.session ≤ 1073741824
  next : 1 ≤ c.next ∧ c.next ≤ 1048577
  len : c.waits.length ≤ 4
  away : c.session = 0 → c.waits = []
  all : ∀ i, i < c.waits.length → ¬ custBad c i ∧ OpOk (c.waits.getD i noWait).op
theorem custCheck_ok {c : CustomerD} : custCheck c = 0 ↔ CustOk c := by
  rw [custCheck]
  constructor
  · intro h
    split at h; · cases h
    split at h; · cases h
    rename_i h1 h2
    refine ⟨by omega, by omega, by omega, by omega, fun h0 => ?_, fun i hi => ?_⟩
    · exact List.length_eq_zero_iff.1 (by omega)
    · have := firstErr_zero.1 h i hi
      rw [custErr] at this
      split at this
      · cases this
      · rename_i hb
        exact ⟨hb, opCheck_ok.1 this⟩
  · intro h
    have h1 := h.id; have h2 := h.session; have h3 := h.next; have h4 := h.len
    rw [if_neg (by omega), if_neg]
    · refine firstErr_zero.2 fun i hi => ?_
      rw [custErr, if_neg (h.all i hi).1]
      exact opCheck_ok.2 (h.all i hi).2
    · rintro (h5 | ⟨h5, h6⟩)
      · omega
      · rw [h.away h5] at h6; simp at h6
def custAcked (c : CustomerD) : Int := if 0 < c.waits.length then (c.waits.getD 0 noWait).seq - 1 else c.next - 1
def custNew (id : Int) : CustomerD × Int := if id < 1 ∨ 9 < id then (noCustomer, 2) else (⟨id, 0, 1, []⟩, 0)
def custStart (c : CustomerD) (o : OpD) : CustomerD × Int :=
  if custCheck c ≠ 0 then (noCustomer, custCheck c)
  else if c.session = 0 then (noCustomer, 11)
  else if opCheck o ≠ 0 then (noCustomer, opCheck o)
  else if 1048576 < c.next ∨ custAcked c + 4 < c.next then (noCustomer, 8)
  else (⟨c.id, c.session, c.next + 1, c.waits ++ [⟨c.next, o⟩]⟩, 0)
def custHello (c : CustomerD) : List UInt8 × Int := if custCheck c ≠ 0 then ([], custCheck c) else cmdEncode ⟨1, c.id, 0, 0, 0, noOp⟩
def custRequest (c : CustomerD) (k : Int) : List UInt8 × Int :=
  if custCheck c ≠ 0 then ([], custCheck c)
  else if k < 0 ∨ c.waits.length ≤ k then ([], 6)
  else cmdEncode ⟨2, c.id, c.session, (c.waits.getD k.toNat noWait).seq, custAcked c, (c.waits.getD k.toNat noWait).op⟩
def waitAt (l : List WaitD) (n : Int) : Nat := l.findIdx fun w => w.seq == n
def custHear (c : CustomerD) (m : MailD) : CustomerD × Int :=
  if custCheck c ≠ 0 then (noCustomer, custCheck c)
  else if m.client ≠ c.id then (noCustomer, 6)
  else if m.seq = 0 then
    if 0 < c.session then (noCustomer, 12)
    else if m.reply.code ≠ 0 ∧ m.reply.code ≠ 7 then (c, 0)
    else if m.reply.n < 1 ∨ 1073741824 < m.reply.n then (noCustomer, 2)
    else (⟨c.id, m.reply.n, c.next, c.waits⟩, 0)
  else if c.waits.length ≤ waitAt c.waits m.seq then (noCustomer, 12)
  else if m.reply.code = 11 then (⟨c.id, 0, c.next, []⟩, 0)
  else (⟨c.id, c.session, c.next, c.waits.eraseIdx (waitAt c.waits m.seq)⟩, 0)
/-! The law, plainly. -/
def askWaits (at_ : Int) : Nat → List WaitD
  | 0 => []
  | n + 1 => askWaits at_ n ++ [⟨n + 1, opOf ⟨at_, n, 0, 0⟩⟩]
theorem askWaits_len (a : Int) : ∀ n, (askWaits a n).length = n
  | 0 => rfl
  | n + 1 => by rw [askWaits, List.length_append, askWaits_len a n]; rfl
theorem askWaits_get (a : Int) : ∀ n i, i < n → (askWaits a n).getD i noWait = ⟨i + 1, opOf ⟨a, i, 0, 0⟩⟩
  | 0, i, h => by omega
  | n + 1, i, h => by
    have hl := askWaits_len a n
    rw [askWaits]
    by_cases hi : i < n
    · have := askWaits_get a n i hi
      rw [List.getD, List.getElem?_append_left (by omega)]
      exact this
    · have : i = n := by omega
      subst this
      rw [List.getD, List.getElem?_append_right (by omega), hl]
      simp
theorem ask_ok {id a : Int} (h : 1 ≤ id ∧ id ≤ 9) (n : Nat) (hn : n ≤ 4) : CustOk ⟨id, 5, n + 1, askWaits a n⟩ := by
  refine ⟨h, by simp, by simp only; omega, by simp only [askWaits_len]; omega, by simp, fun i hi => ?_⟩
  simp only [askWaits_len] at hi
  refine ⟨?_, by simp only [askWaits_get a n i hi]; exact opOf_ok _⟩
  simp only [custBad, askWaits_get a n i hi, askWaits_get a n 0 (by omega)]
  rintro (h1 | h1 | ⟨h0, h1⟩ | h1)
  · omega
  · omega
  · rw [askWaits_get a n (i - 1) (by omega)] at h1
    simp only at h1; omega
  · omega
end Go.Tk

/- CustomersAsk, plainly. No program in sight. -/
namespace Go.Tk
open Go Go.RowKit

def askC (id a : Int) (n : Nat) : CustomerD := ⟨id, 5, n + 1, askWaits a n⟩
theorem ask_check {id a : Int} (h : 1 ≤ id ∧ id ≤ 9) (n : Nat) (hn : n ≤ 4) : custCheck (askC id a n) = 0 := custCheck_ok.2 (ask_ok h n hn)
theorem ask_acked (id a : Int) (n : Nat) : custAcked (askC id a n) = 0 := by
  rw [custAcked]
  simp only [askC, askWaits_len]
  by_cases h : 0 < n
  · rw [if_pos h, askWaits_get a n 0 h]; simp
  · rw [if_neg h]; omega
theorem ask_start {id a : Int} (h : 1 ≤ id ∧ id ≤ 9) (n : Nat) (hn : n < 4) : custStart (askC id a n) (opOf ⟨a, n, 0, 0⟩) = (askC id a (n + 1), 0) := by
  have hc := ask_check (a := a) h n (by omega)
  have ho := opCheck_ok.2 (opOf_ok ⟨a, n, 0, 0⟩)
  rw [custStart, if_neg (by simp [hc]), if_neg (by simp [askC]), if_neg (by simp [ho]), ask_acked, if_neg (by simp only [askC]; omega)]
  simp only [askC, askWaits]
  norm_cast
theorem ask_full {id a : Int} (h : 1 ≤ id ∧ id ≤ 9) (r : RawD) : custStart (askC id a 4) (opOf r) = (noCustomer, 8) := by
  have hc := ask_check (a := a) h 4 (by omega)
  have ho := opCheck_ok.2 (opOf_ok r)
  rw [custStart, if_neg (by simp [hc]), if_neg (by simp [askC]), if_neg (by simp [ho]), ask_acked, if_pos (by simp only [askC]; omega)]
theorem ask_request {id a : Int} (h : 1 ≤ id ∧ id ≤ 9) (k : Int) (h0 : 0 ≤ k) (hk : k < 4) : custRequest (askC id a 4) k = cmdEncode ⟨2, id, 5, 1 + k, 0, opOf ⟨a, k, 0, 0⟩⟩ := by
  have hc := ask_check (a := a) h 4 (by omega)
  rw [custRequest, if_neg (by simp [hc]), if_neg (by simp only [askC, askWaits_len]; omega), ask_acked]
  simp only [askC]
  rw [askWaits_get a 4 k.toNat (by omega)]
  simp only [Int.toNat_of_nonneg h0]
  rw [Int.add_comm k 1]
theorem ask_cmd {id a : Int} (h : 1 ≤ id ∧ id ≤ 9) (k : Int) (h0 : 0 ≤ k) (hk : k < 4) : CmdOk ⟨2, id, 5, 1 + k, 0, opOf ⟨a, k, 0, 0⟩⟩ :=
  .call rfl h (by simp) ⟨by simp only; omega, by simp only; omega⟩ ⟨by simp, by simp only; omega⟩ (opOf_ok _)
theorem ask_away {id : Int} (h : 1 ≤ id ∧ id ≤ 9) : CustOk ⟨id, 0, 1, []⟩ := ⟨h, by simp, by simp, by simp, by simp, by simp⟩
theorem away_start {id : Int} (h : 1 ≤ id ∧ id ≤ 9) (o : OpD) : custStart ⟨id, 0, 1, []⟩ o = (noCustomer, 11) := by
  rw [custStart, if_neg (by simp [custCheck_ok.2 (ask_away h)]), if_pos rfl]
theorem hello_eq {id : Int} (h : 1 ≤ id ∧ id ≤ 9) : custHello ⟨id, 0, 1, []⟩ = cmdEncode ⟨1, id, 0, 0, 0, noOp⟩ := by
  rw [custHello, if_neg (by simp [custCheck_ok.2 (ask_away h)])]
theorem hello_cmd {id : Int} (h : 1 ≤ id ∧ id ≤ 9) : CmdOk ⟨1, id, 0, 0, 0, noOp⟩ := .plain (.inl rfl) h rfl rfl rfl rfl
theorem hear_join {id : Int} (h : 1 ≤ id ∧ id ≤ 9) (a : Int) : custHear ⟨id, 0, 1, []⟩ ⟨id, 0, ⟨0, 5, []⟩⟩ = (askC id a 0, 0) := by
  rw [custHear, if_neg (by simp [custCheck_ok.2 (ask_away h)]), if_neg (by simp), if_pos rfl, if_neg (by simp), if_neg (by simp), if_neg (by simp)]
  simp [askC, askWaits]
theorem ask_four (a : Int) : ∃ o0 o1 o2 o3, askWaits a 4 = [⟨1, o0⟩, ⟨2, o1⟩, ⟨3, o2⟩, ⟨4, o3⟩] ∧ OpOk o0 ∧ OpOk o1 ∧ OpOk o2 ∧ OpOk o3 :=
  ⟨opOf ⟨a, 0, 0, 0⟩, opOf ⟨a, 1, 0, 0⟩, opOf ⟨a, 2, 0, 0⟩, opOf ⟨a, 3, 0, 0⟩, rfl, opOf_ok _, opOf_ok _, opOf_ok _, opOf_ok _⟩
theorem ask_hear {id a : Int} (h : 1 ≤ id ∧ id ≤ 9) : ∃ d, custHear (askC id a 4) ⟨id, 1, noReply⟩ = (d, 0) ∧ d.waits.length = 3 ∧ (custHear d ⟨id, 1, noReply⟩) = (noCustomer, 12) := by
  have hc := ask_check (a := a) h 4 (by omega)
  obtain ⟨o0, o1, o2, o3, he, k0, k1, k2, k3⟩ := ask_four a
  have e1 : custHear (askC id a 4) ⟨id, 1, noReply⟩ = (⟨id, 5, 5, [⟨2, o1⟩, ⟨3, o2⟩, ⟨4, o3⟩]⟩, 0) := by
    rw [custHear, if_neg (by simp [hc])]
    simp [askC, he, waitAt, noReply, List.findIdx_cons]
  refine ⟨_, e1, rfl, ?_⟩
  have hd : CustOk ⟨id, 5, 5, [⟨2, o1⟩, ⟨3, o2⟩, ⟨4, o3⟩]⟩ := by
    refine ⟨h, by simp, by simp, by simp, by simp, fun i hi => ?_⟩
    simp only [List.length_cons, List.length_nil] at hi
    rcases (show i = 0 ∨ i = 1 ∨ i = 2 by omega) with rfl | rfl | rfl
    · exact ⟨by simp [custBad], k1⟩
    · exact ⟨by simp [custBad], k2⟩
    · exact ⟨by simp [custBad], k3⟩
  rw [custHear, if_neg (by simp [custCheck_ok.2 hd])]
  simp [waitAt, List.findIdx_cons]
theorem ask_gone {id a : Int} (h : 1 ≤ id ∧ id ≤ 9) : custHear (askC id a 4) ⟨id, 2, ⟨11, 0, []⟩⟩ = (⟨id, 0, 5, []⟩, 0) ∧ custCheck ⟨id, 0, 5, []⟩ = 0 := by
  have hc := ask_check (a := a) h 4 (by omega)
  obtain ⟨o0, o1, o2, o3, he, -⟩ := ask_four a
  refine ⟨?_, custCheck_ok.2 ⟨h, by simp, by simp, by simp, by simp, by simp⟩⟩
  rw [custHear, if_neg (by simp [hc])]
  simp [askC, he, waitAt, List.findIdx_cons]
end Go.Tk
