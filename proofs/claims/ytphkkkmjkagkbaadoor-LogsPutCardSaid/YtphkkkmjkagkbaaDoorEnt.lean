/- tackroomkeep.entries: the entries of commands. -/
import Derived.Test.YtphkkkmjkagkbaaDoorCmdsBack
import Derived.Test.YtphkkkmjkagkbaaDoorLogQ
namespace Go.Tk
open Go Go.RowKit
theorem rStr_any (w : World) (cs : List Value) (x : List UInt8) (S S' : Nat → Prop) (h : rStr w cs x S) : rStr w cs x S' := h
theorem entries_len {l : List CommandD} : ∀ s ∈ entriesP l, s.length ≤ 100 := by
  intro s hs
  obtain ⟨c, hc, rfl⟩ := List.mem_map.1 hs
  have := @encode_len c
  omega
theorem entriesP_len (l : List CommandD) : (entriesP l).length = l.length := by rw [entriesP, List.length_map]
end Go.Tk
namespace Go.Proofs.YtphkkkmjkagkbaaDoor
open Go.RowKit Go.Tk
theorem Tryd.tyStr : SliceTy Tryd.prog 48 9 1 16 := ⟨Tryd.underlying48, by kernel_rfl, by decide⟩

set_option maxRecDepth 100000 in
set_option maxHeartbeats 1600000 in
theorem entries_calls (cs : List CommandD) (hall : ∀ c ∈ cs, CmdOk c) (hlen : cs.length ≤ 1000) (v : Value) (S : Nat → Prop) (w : World) (h : SlR 9 rCommand w v cs S) :
    Calls Tryd.prog 16 #[v] w fun e w' => ∃ v', e = .returned v' ∧ SlR 1 rStr w' v' (entriesP cs) (fun b => w.heap.size ≤ b) ∧ Below w.heap.size w w' := by
  obtain ⟨a, cap, hv, hl, hm, -, -⟩ := id h
  subst hv
  unfold maxLen at hm
  have HS := Lib.hid h
  have HALL := Lib.hid hall
  clear h hall
  go_enter Tryd.func16, Tryd.ntmps16
  go_wp2
  go_loopw [3, 5, 6, 7, 10] (fun v _ _ _ i wr => ∃ n : Nat, n ≤ cs.length ∧ i = .int .i64 n ∧ Hid (OwR 9 1 rStr wr v (entriesP (cs.take n)) (fun _ => False)) ∧ Hid (∀ g, v.ownBlock = some g → w.heap.size ≤ g) ∧ Hid (Below w.heap.size w wr))
    (fun _ _ _ _ i _ => cs.length - (intOf i).toNat)
  case atStart => exact ⟨0, by omega, rfl, OwR.nil _ _, Lib.hid (fun g hg => by cases hg), Below.refl _ _⟩
  case round =>
    obtain ⟨n, hn, rfl, ho, hg, hb⟩ := hrel
    by_cases hlt : n < cs.length
    case neg =>
      have HF := Lib.hid (show cs.take n = cs from List.take_of_length_le (by omega))
      go_wp2
      refine bodyPost_ret (v := u3) (by simp [results, Tryd.results16, go_sem]) rfl ⟨u3, rfl, ?_, hb.out⟩
      have := ho.out
      rw [HF.out] at this
      exact (this.forget rStr_any).read rStr_ok (by decide) hg.out
    obtain ⟨b, off, cap', row, hv, hSb, hrow, hcells⟩ := (HS.out.below rCommand_ok (by decide) hb.out).row n hlt
    simp only [Value.slice.injEq] at hv
    obtain ⟨rfl, _, rfl⟩ := hv
    have hok := HALL.out cs[n] (List.getElem_mem hlt)
    have HT := Lib.hid (show entriesP (cs.take (n + 1)) = entriesP (cs.take n) ++ [(cmdEncode cs[n]).1] by rw [List.take_succ_eq_append_getElem hlt, entriesP, List.map_append]; rfl)
    have hel : (entriesP (cs.take n)).length = n := by rw [entriesP_len, List.length_take]; omega
    generalize cs[n] = c at *
    obtain rfl := hrow
    have q0 := hcells 0 _ rfl
    have q1 := hcells 1 _ rfl
    have q2 := hcells 2 _ rfl
    have q3 := hcells 3 _ rfl
    have q4 := hcells 4 _ rfl
    have q5 := hcells 5 _ rfl
    have q6 := hcells 6 _ rfl
    have q7 := hcells 7 _ rfl
    have q8 := hcells 8 _ rfl
    simp only [Nat.add_zero] at q0
    clear hcells
    have HWL := Lib.hid (words_len hok)
    have HE := Lib.hid (encode_ok hok)
    generalize hs : (cmdEncode c).1 = s at *
    have HSE := Lib.hid hs
    clear hok hs
    obtain ⟨ua, uc, e5⟩ := ho.out.shape
    rw [hel] at e5
    go_wp2_with fail
    refine (encode_calls c _ HWL.out).mono ?_
    rw [HE.out, HSE.out]; rintro e w2 ⟨rfl, hb3⟩
    have hb4 := below_step (below_alloc wr _) hb3
    have HB2 := Lib.hid (below_step hb.out hb4)
    have HO2 := Lib.hid (ho.out.below rStr_ok hb4)
    clear q0 q1 q2 q3 q4 q5 q6 q7 q8 hb3 hb4 hb ho
    subst e5
    go_wp2_with (at_builtin; refine wpList_app1 Tryd.tyStr (.tmp 21) (.tmp 23) rfl rfl rStr_ok s rfl rfl rfl HO2.out rfl (by rw [hel]; omega) ?_; intro v4 w4 ho4 hg4 hv4)
    go_roundw
    case rel =>
      refine ⟨n + 1, by omega, by go_num, Lib.hid (by rw [HT.out]; exact ho4), Lib.hid fun g hgg => ?_, Lib.hid (HB2.out.grown hg4 HB2.out.size fun k hk => hg.out k hk)⟩
      rcases hv4 with e | ⟨y, e, hy⟩
      · have e' : v4.ownBlock = (Value.slice ua n uc).ownBlock := e
        exact hg.out g (by rw [← e']; exact hgg)
      · rw [e] at hgg; cases hgg; exact Nat.le_trans HB2.out.size hy
    case measure => simp [intOf]; omega
end Go.Proofs.YtphkkkmjkagkbaaDoor
