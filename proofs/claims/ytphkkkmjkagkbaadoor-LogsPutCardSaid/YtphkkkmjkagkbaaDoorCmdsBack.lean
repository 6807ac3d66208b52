/- CommandsBack: a command is read as it was written; cut short, or longer, it is not; no condition. -/
import Derived.Test.YtphkkkmjkagkbaaDoorCmds
import Derived.Test.YtphkkkmjkagkbaaDoorCmdE
import Derived.Test.YtphkkkmjkagkbaaDoorCmdD
namespace Go.Tk
open Go Go.RowKit
theorem words_len {c : CommandD} (h : CmdOk c) : ∀ s ∈ words c, s.length ≤ 1000000 := by
  intro s hs
  have hx : c.op.a.length ≤ 1000000 ∧ c.op.b.length ≤ 1000000 := by
    rcases h with ⟨_, _, _, _, _, h4⟩ | ⟨_, _, _, _, _, h4⟩
    · rw [h4]; exact ⟨by decide, by decide⟩
    · have := lkName_len h4.name
      have := h4.size
      constructor <;> omega
  simp only [words, List.mem_cons, List.not_mem_nil, or_false] at hs
  rcases hs with rfl | rfl
  · exact hx.1
  · exact hx.2
end Go.Tk
namespace Go.Proofs.YtphkkkmjkagkbaaDoor
open Go.RowKit Go.Tk

set_option maxRecDepth 100000 in
set_option maxHeartbeats 3200000 in
theorem commandsBack_calls (w : World) (l : List RawD) (v : Value) (S : Nat → Prop) (h : SlR 4 rRaw w v l S) (hr : ∀ x ∈ l, RawOk x) (m : Int) (hm1 : -9223372036854775808 ≤ m) (hm2 : m ≤ 9223372036854775807) :
    Calls Tryd.prog 3 #[v, .int .i64 m] w fun e w' => e = .returned (.bool true) ∧ Below w.heap.size w w' := by
  have HH := Lib.hid h
  have HRR := Lib.hid hr
  have hone := h.oneCell
  clear h hr
  go_enter Tryd.func3, Tryd.ntmps3
  go_wp2_with fail
  refine (commands_calls l 20 (by omega) v S _ HH.out HRR.out).mono ?_
  rintro e w1 ⟨v1, rfl, hs1, hb1⟩
  have hall := commandsP_ok l 20 (by omega)
  generalize commandsP l 20 = cs at hs1 hall
  have HALL := Lib.hid hall
  have HS := Lib.hid hs1
  have HB1 := Lib.hid hb1
  obtain ⟨a, cap, hv, hl, hm, -, -⟩ := id hs1
  subst hv
  unfold maxLen at hm
  clear hall hs1 hb1
  go_wp2
  go_loopw [6, 7, 8, 9, 10, 11, 12, 13, 14, 18] (fun _ _ _ _ _ _ _ _ _ i wr => ∃ n : Nat, n ≤ cs.length ∧ i = .int .i64 n ∧ Hid (Below w1.heap.size w1 wr)) (fun _ _ _ _ _ _ _ _ _ i _ => cs.length - (intOf i).toNat)
  case atStart => exact ⟨0, by omega, rfl, Below.refl _ _⟩
  case round =>
    obtain ⟨n, hn, rfl, hb2⟩ := hrel
    by_cases hlt : n < cs.length
    case neg =>
      go_wp2
      go_ret
      exact ⟨rfl, below_step HB1.out hb2.out⟩
    obtain ⟨b, off, cap', row, hv, hSb, hrow, hcells⟩ := (HS.out.below rCommand_ok (by decide) hb2.out).row n hlt
    simp only [Value.slice.injEq] at hv
    obtain ⟨rfl, _, rfl⟩ := hv
    have hok := HALL.out cs[n] (List.getElem_mem hlt)
    generalize cs[n] = c at *
    obtain rfl := hrow
    have q0 := hcells 0 _ rfl
    have q1 := hcells 1 _ rfl
    have q2 := hcells 2 _ rfl
    have q3 := hcells 3 _ rfl
    have q4 := hcells 4 _ rfl
    have q5 := hcells 5 _ rfl
    have q6 := hcells 6 _ rfl
    have q7 := hcells 7 _ rfl
    have q8 := hcells 8 _ rfl
    simp only [Nat.add_zero] at q0
    clear hcells
    have HWL := Lib.hid (words_len hok)
    have HE := Lib.hid (encode_ok hok)
    have HD := Lib.hid (decode_back hok)
    have HDC := Lib.hid (decode_cut hok)
    have HDM := Lib.hid (decode_more hok)
    have hlen2 := encode_pos hok
    have hlen := @encode_len c
    generalize hs : (cmdEncode c).1 = s at *
    have HSE := Lib.hid hs
    clear hok hs
    go_wp2_with fail
    have HBX := Lib.hid (Below.refl (wr.heap.size + 1) (wr.alloc (.cells #[.int .i64 c.kind, .int .i64 c.client, .int .i64 c.session, .int .i64 c.seq, .int .i64 c.acked, .int .i64 c.op.kind, .string ⟨c.op.a.toArray⟩, .string ⟨c.op.b.toArray⟩, .int .i64 c.op.n] 28)))
    refine (encode_calls c _ HWL.out).mono ?_
    rw [HE.out, HSE.out]; rintro e w2 ⟨rfl, hb3⟩
    clear q0 q1 q2 q3 q4 q5 q6 q7 q8
    go_wp2_with fail
    refine (decode_calls s _ (by omega)).mono ?_
    rw [HD.out, valCommand]; rintro e w3 ⟨rfl, hb4⟩
    go_wp2_with fail
    obtain ⟨p, hp, hp0, hp1⟩ : ∃ p, picked m (s.length : Nat) = p ∧ 0 ≤ p ∧ p < (s.length : Nat) := ⟨_, rfl, picked_in _ _ (by omega)⟩
    obtain ⟨j, rfl⟩ : ∃ j : Nat, p = j := ⟨p.toNat, by omega⟩
    have HP := Lib.hid hp
    clear hp
    have HBY := Lib.hid (Below.refl (w3.heap.size + 1) (w3.alloc (.cells #[.int .i64 c.kind, .int .i64 c.client, .int .i64 c.session, .int .i64 c.seq, .int .i64 c.acked, .int .i64 c.op.kind, .string ⟨c.op.a.toArray⟩, .string ⟨c.op.b.toArray⟩, .int .i64 c.op.n] 28)))
    refine (picked_calls m s.length (by omega) (by omega) hm1 hm2 _).mono ?_
    rw [HP.out]; rintro e w4 ⟨rfl, rfl⟩
    have hcut := HDC.out j (by omega)
    obtain ⟨d, hd⟩ : ∃ d, cmdDecode (s.take j) = (d, 5) := ⟨(cmdDecode (s.take j)).1, by rw [← hcut]⟩
    have HDJ := Lib.hid hd
    clear hcut hd
    go_wp2_with fail
    refine (decode_calls (s.take j) _ (by rw [List.length_take]; omega)).mono ?_
    rw [HDJ.out, valCommand]; rintro e w5 ⟨rfl, hb5⟩
    obtain ⟨f, hf⟩ : ∃ f, cmdDecode (s ++ [0]) = (f, 4) := ⟨(cmdDecode (s ++ [0])).1, by rw [← HDM.out]⟩
    have HDF := Lib.hid hf
    clear hf
    go_wp2_with fail
    refine (decode_calls (s ++ [0]) _ (by simp; omega)).mono ?_
    rw [HDF.out, valCommand]; rintro e w6 ⟨rfl, hb6⟩
    have hY6 := below_step (below_step hb5 (below_alloc w5 _)) hb6
    have hX6 := below_step (below_step (below_step hb3 hb4) (below_alloc w3 _)) hY6
    have HB6 := Lib.hid (below_step (below_step hb2.out (below_alloc wr _)) hX6)
    rw [World.size_alloc] at hX6 hY6
    obtain ⟨hx, -, hxs⟩ := Tk.fresh hX6
    obtain ⟨hy, -, hys⟩ := Tk.fresh hY6
    have x0 := hx 0; have x1 := hx 1; have x2 := hx 2; have x3 := hx 3; have x4 := hx 4; have x5 := hx 5; have x6 := hx 6; have x7 := hx 7; have x8 := hx 8
    have y0 := hy 0; have y1 := hy 1; have y2 := hy 2; have y3 := hy 3; have y4 := hy 4; have y5 := hy 5; have y6 := hy 6; have y7 := hy 7; have y8 := hy 8
    clear hx hy hX6 hY6 hb3 hb4 hb5 hb6 HBX HBY hb2
    generalize wr.heap.size = B1 at *
    generalize w3.heap.size = B2 at *
    go_wp2
    go_roundw
    case rel => exact ⟨n + 1, by omega, by go_num, Lib.hid (below_step HB6.out (below_alloc w6 _))⟩
    case measure => simp [intOf]; omega
end Go.Proofs.YtphkkkmjkagkbaaDoor
