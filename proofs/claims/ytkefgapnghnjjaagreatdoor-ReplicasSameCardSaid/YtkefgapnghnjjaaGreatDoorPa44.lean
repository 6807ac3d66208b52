/- A part of the proof, laid together from: Ent, MachE, SnapsBack, Same. -/
import Derived.Test.YtkefgapnghnjjaaGreatDoorPa43
import Derived.Test.YtkefgapnghnjjaaGreatDoorPa19
import Derived.Test.YtkefgapnghnjjaaGreatDoorPa20
import Derived.Test.YtkefgapnghnjjaaGreatDoorPa18
import Derived.Test.YtkefgapnghnjjaaGreatDoorPa39
import Derived.Test.YtkefgapnghnjjaaGreatDoorPa12
import Derived.Test.YtkefgapnghnjjaaGreatDoorPa40
import Derived.Test.YtkefgapnghnjjaaGreatDoorPa41
set_option linter.unusedSimpArgs false
set_option linter.unusedVariables false
namespace Go.Tk
open Go Go.RowKit
theorem words_len {c : CommandD} (h : CmdOk c) : ∀ s ∈ words c, s.length ≤ 1000000 := by
  intro s hs
  have hx : c.op.a.length ≤ 1000000 ∧ c.op.b.length ≤ 1000000 := by
    rcases h with ⟨_, _, _, _, _, h4⟩ | ⟨_, _, _, _, _, h4⟩
    · rw [h4]; exact ⟨by decide, by decide⟩
    · have := lkName_len h4.name
      have := h4.size
      constructor <;> omega
  simp only [words, List.mem_cons, List.not_mem_nil, or_false] at hs
  rcases hs with rfl | rfl
  · exact hx.1
  · exact hx.2
theorem rStr_any (w : World) (cs : List Value) (x : List UInt8) (S S' : Nat → Prop) (h : rStr w cs x S) : rStr w cs x S' := h
theorem entriesP_len (l : List CommandD) : (entriesP l).length = l.length := by rw [entriesP, List.length_map]
end Go.Tk
namespace Go.Proofs.YtkefgapnghnjjaaGreatDoor
open Go.RowKit Go.Tk
theorem Tryz.tyStr : SliceTy Tryz.prog 26 9 1 16 := ⟨Tryz.underlying26, by kernel_rfl, by decide⟩
set_option maxRecDepth 100000 in
set_option maxHeartbeats 1600000 in
theorem entries_calls (cs : List CommandD) (hall : ∀ c ∈ cs, CmdOk c) (hlen : cs.length ≤ 1000) (v : Value) (S : Nat → Prop) (w : World) (h : SlR 9 rCommand w v cs S) :
    Calls Tryz.prog 26 #[v] w fun e w' => ∃ v', e = .returned v' ∧ SlR 1 rStr w' v' (entriesP cs) (fun b => w.heap.size ≤ b) ∧ Below w.heap.size w w' := by
  obtain ⟨a, cap, hv, hl, hm, -, -⟩ := id h
  subst hv
  unfold maxLen at hm
  have HS := Lib.hid h
  have HALL := Lib.hid hall
  clear h hall
  go_enter Tryz.func26, Tryz.ntmps26
  go_wp2
  go_loopw [3, 5, 6, 7, 10] (fun v _ _ _ i wr => ∃ n : Nat, n ≤ cs.length ∧ i = .int .i64 n ∧ Hid (OwR 9 1 rStr wr v (entriesP (cs.take n)) (fun _ => False)) ∧ Hid (∀ g, v.ownBlock = some g → w.heap.size ≤ g) ∧ Hid (Below w.heap.size w wr))
    (fun _ _ _ _ i _ => cs.length - (intOf i).toNat)
  case atStart => exact ⟨0, by omega, rfl, OwR.nil _ _, Lib.hid (fun g hg => by cases hg), Below.refl _ _⟩
  case round =>
    obtain ⟨n, hn, rfl, ho, hg, hb⟩ := hrel
    by_cases hlt : n < cs.length
    case neg =>
      have HF := Lib.hid (show cs.take n = cs from List.take_of_length_le (by omega))
      go_wp2
      refine bodyPost_ret (v := u3) (by simp [results, Tryz.results26, go_sem]) rfl ⟨u3, rfl, ?_, hb.out⟩
      have := ho.out
      rw [HF.out] at this
      exact (this.forget rStr_any).read rStr_ok (by decide) hg.out
    obtain ⟨b, off, cap', row, hv, hSb, hrow, hcells⟩ := (HS.out.below rCommand_ok (by decide) hb.out).row n hlt
    simp only [Value.slice.injEq] at hv
    obtain ⟨rfl, _, rfl⟩ := hv
    have hok := HALL.out cs[n] (List.getElem_mem hlt)
    have HT := Lib.hid (show entriesP (cs.take (n + 1)) = entriesP (cs.take n) ++ [(cmdEncode cs[n]).1] by rw [List.take_succ_eq_append_getElem hlt, entriesP, List.map_append]; rfl)
    have hel : (entriesP (cs.take n)).length = n := by rw [entriesP_len, List.length_take]; omega
    generalize cs[n] = c at *
    obtain rfl := hrow
    have q0 := hcells 0 _ rfl
    have q1 := hcells 1 _ rfl
    have q2 := hcells 2 _ rfl
    have q3 := hcells 3 _ rfl
    have q4 := hcells 4 _ rfl
    have q5 := hcells 5 _ rfl
    have q6 := hcells 6 _ rfl
    have q7 := hcells 7 _ rfl
    have q8 := hcells 8 _ rfl
    simp only [Nat.add_zero] at q0
    clear hcells
    have HWL := Lib.hid (words_len hok)
    have HE := Lib.hid (encode_ok hok)
    generalize hs : (cmdEncode c).1 = s at *
    have HSE := Lib.hid hs
    clear hok hs
    obtain ⟨ua, uc, e5⟩ := ho.out.shape
    rw [hel] at e5
    go_wp2_with fail
    refine (encode_calls c _ HWL.out).mono ?_
    rw [HE.out, HSE.out]; rintro e w2 ⟨rfl, hb3⟩
    have hb4 := below_step (below_alloc wr _) hb3
    have HB2 := Lib.hid (below_step hb.out hb4)
    have HO2 := Lib.hid (ho.out.below rStr_ok hb4)
    clear q0 q1 q2 q3 q4 q5 q6 q7 q8 hb3 hb4 hb ho
    subst e5
    go_wp2_with (at_builtin; refine wpList_app1 Tryz.tyStr (.tmp 21) (.tmp 23) rfl rfl rStr_ok s rfl rfl rfl HO2.out rfl (by rw [hel]; omega) ?_; intro v4 w4 ho4 hg4 hv4)
    go_roundw
    case rel =>
      refine ⟨n + 1, by omega, by go_num, Lib.hid (by rw [HT.out]; exact ho4), Lib.hid fun g hgg => ?_, Lib.hid (HB2.out.grown hg4 HB2.out.size fun k hk => hg.out k hk)⟩
      rcases hv4 with e | ⟨y, e, hy⟩
      · have e' : v4.ownBlock = (Value.slice ua n uc).ownBlock := e
        exact hg.out g (by rw [← e']; exact hgg)
      · rw [e] at hgg; cases hgg; exact Nat.le_trans HB2.out.size hy
    case measure => simp [intOf]; omega
end Go.Proofs.YtkefgapnghnjjaaGreatDoor

namespace Go.Tk
open Go Go.RowKit
theorem StAt.none (w : World) (S : Nat → Prop) : StAt w noState (.slice none 0 0) (.slice none 0 0) (.slice none 0 0) S := ⟨SlR.nil _ _, SlR.nil _ _, SlR.nil _ _⟩
end Go.Tk
namespace Go.Proofs.YtkefgapnghnjjaaGreatDoor
open Go.RowKit Go.Tk
end Go.Proofs.YtkefgapnghnjjaaGreatDoor

namespace Go.Tk
open Go Go.RowKit
structure BytesAt (w : World) (b : Nat) (l : List UInt8) : Prop where
  cell : ∀ (i : Nat) (x : UInt8), l[i]? = some x → w.cell? ⟨b, i, none⟩ = some (.int .u8 x.toNat)
  thaw : ∀ i, i < l.length → w.frozen? ⟨b, i, none⟩ = false
  lt : b < w.heap.size
theorem BytesAt.below {w w' : World} {b : Nat} {l : List UInt8} (h : BytesAt w b l) (hb : Below w.heap.size w w') : BytesAt w' b l :=
  ⟨fun i x hx => cell_keep (h.cell i x hx) (hb.block b h.lt), fun i hi => (World.frozen?_of_block (a := ⟨b, i, none⟩) (hb.block b h.lt)).trans (h.thaw i hi), Nat.lt_of_lt_of_le h.lt hb.size⟩
theorem BytesAt.set {w : World} {b : Nat} {l : List UInt8} (h : BytesAt w b l) (k : Nat) (c : UInt8) (hk : k < l.length) : BytesAt (w.setCell ⟨b, k, none⟩ (.int .u8 c.toNat)) b (l.set k c) := by
  refine ⟨fun i x hx => ?_, fun i hi => (World.frozen?_setCell _ _ _ _).trans (h.thaw i (by simpa using hi)), by rw [World.size_setCell]; exact h.lt⟩
  by_cases hki : k = i
  · subst hki
    rw [List.getElem?_set_self hk] at hx
    cases hx
    exact World.cell?_setCell_same w ⟨b, k, none⟩ _ (h.cell k _ (List.getElem?_eq_getElem hk))
  · rw [List.getElem?_set_ne hki] at hx
    exact (cell_near hki).trans (h.cell i x hx)
theorem BytesAt.read {w : World} {b cap : Nat} {l : List UInt8} (h : BytesAt w b l) (h1 : l.length ≤ cap) (h2 : cap ≤ maxLen) : SlR 1 rByte w (.slice (some ⟨b, 0, none⟩) l.length cap) l (fun _ => True) :=
  ⟨_, _, rfl, h1, h2, (fun h => by cases h), fun i x hx => ⟨b, 0, [.int .u8 x.toNat], rfl, trivial, rfl, fun q u hu => by
    match q, hu with
    | 0, hu =>
      cases hu
      have := h.cell i x hx
      simpa using this⟩⟩
end Go.Tk
namespace Go.Proofs.YtkefgapnghnjjaaGreatDoor
open Go.RowKit Go.Tk
end Go.Proofs.YtkefgapnghnjjaaGreatDoor

namespace Go.Proofs.YtkefgapnghnjjaaGreatDoor
open Go.RowKit Go.Tk
set_option linter.unusedSimpArgs false in
set_option maxRecDepth 100000 in
set_option maxHeartbeats 1600000 in
theorem ksame_calls (s : StateD) (hs : StOk s) (vl vp vz vl' vp' vz' : Value) (S S' : Nat → Prop) (w : World) (h : StAt w s vl vp vz S) (h' : StAt w s vl' vp' vz' S') :
    Calls Tryz.prog 36 #[.agg #[.int .i64 s.index, vl, vp, vz], .agg #[.int .i64 s.index, vl', vp', vz']] w fun e w' => e = .returned (.bool true) ∧ Below w.heap.size w w' := by
  have o1 := h.lock.oneCell; have o2 := h.pair.oneCell; have o3 := h.sess.oneCell
  have p1 := h'.lock.oneCell; have p2 := h'.pair.oneCell; have p3 := h'.sess.oneCell
  have HS := Lib.hid h; have HT := Lib.hid h'; have HK := Lib.hid hs
  clear h h' hs
  go_enter Tryz.func36, Tryz.ntmps36
  go_upto_region 1 with (fail)
  have HX := Lib.hid ((BoxAt.new (w := w) (cs := [.int .i64 s.index, vl, vp, vz]) (E := 36)).below (below_alloc _ (.cells #[.int .i64 s.index, vl', vp', vz'] 36)))
  have hz := BoxAt.new (w := w.alloc (.cells #[.int .i64 s.index, vl, vp, vz] 36)) (cs := [.int .i64 s.index, vl', vp', vz']) (E := 36)
  rw [World.size_alloc] at hz
  have HZ := Lib.hid hz
  clear hz
  have HB := Lib.hid (below_alloc2 w (.cells #[.int .i64 s.index, vl, vp, vz] 36) (.cells #[.int .i64 s.index, vl', vp', vz'] 36))
  replace HS := Lib.hid (HS.out.below HB.out)
  replace HT := Lib.hid (HT.out.below HB.out)
  generalize (w.alloc (.cells #[.int .i64 s.index, vl, vp, vz] 36)).alloc (.cells #[.int .i64 s.index, vl', vp', vz'] 36) = w0 at *
  have x0 := HX.out.cell 0 _ rfl; have x1 := HX.out.cell 1 _ rfl; have x2 := HX.out.cell 2 _ rfl; have x3 := HX.out.cell 3 _ rfl
  go_wp2_with fail
  refine (encode_st_calls s _ _ _ _ w0 HS.out HK.out).mono ?_
  rw [show encState s ++ sealB (encState s) = snapB s from rfl]
  rintro e w1 ⟨rfl, hb1⟩
  clear x0 x1 x2 x3
  replace HS := Lib.hid (HS.out.below hb1)
  replace HT := Lib.hid (HT.out.below hb1)
  replace HX := Lib.hid (HX.out.below hb1)
  replace HZ := Lib.hid (HZ.out.below hb1)
  replace HB := Lib.hid (below_step HB.out hb1)
  clear hb1
  have z0 := HZ.out.cell 0 _ rfl; have z1 := HZ.out.cell 1 _ rfl; have z2 := HZ.out.cell 2 _ rfl; have z3 := HZ.out.cell 3 _ rfl
  go_wp2_with fail
  refine (encode_st_calls s _ _ _ _ w1 HT.out HK.out).mono ?_
  rw [show encState s ++ sealB (encState s) = snapB s from rfl]
  rintro e w2 ⟨rfl, hb2⟩
  clear z0 z1 z2 z3
  replace HS := Lib.hid (HS.out.below hb2)
  replace HT := Lib.hid (HT.out.below hb2)
  replace HX := Lib.hid (HX.out.below hb2)
  replace HZ := Lib.hid (HZ.out.below hb2)
  replace HB := Lib.hid (below_step HB.out hb2)
  clear hb2
  generalize snapB s = bs at *
  go_wp2
  go_ret
  exact ⟨rfl, HB.out⟩
end Go.Proofs.YtkefgapnghnjjaaGreatDoor
