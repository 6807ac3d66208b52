/- A part of the proof, laid together from: Join, LockB0, LockN, LockB. -/
import Derived.Test.YtkefgapnghnjjaaGreatDoorPa10
import Derived.Test.YtkefgapnghnjjaaGreatDoorPa11
import Derived.Deep.RegionHeld3
import Derived.Test.YtkefgapnghnjjaaGreatDoorRows
import Derived.Test.YtkefgapnghnjjaaGreatDoorPa02
import Derived.Test.YtkefgapnghnjjaaGreatDoorPa07
import Derived.WalkLawsBesides
import Derived.BigQuiet
import Derived.Deep.QuietTactic
import Derived.Laws.IdiomStrings
import Derived.KernelRfl
set_option linter.unusedSimpArgs false
set_option linter.unusedVariables false
namespace Go.Proofs.YtkefgapnghnjjaaGreatDoor
open Go.RowKit Go.Tk
theorem find_calls (w : World) (v : Value) (l : List SessionD) (S : Nat → Prop) (h : SlR 5 rSession w v l S) (hn : l.length ≤ 1000000) (t : Int) (ht : -1000000000000 ≤ t ∧ t ≤ 1000000000000) (hb0 : ∀ x ∈ l, -1000000000000 ≤ x.client ∧ x.client ≤ 1000000000000) :
    Calls Tryz.prog 83 #[v, .int .i64 t] w fun e w' => e = .returned (.tuple #[.int .i64 (sFind l t : Nat), .bool (sThere l t)]) ∧ Below w.heap.size w w' := by
  go_enter Tryz.func83, Tryz.ntmps83
  go_wp2_with (go_at_call 125; refine (searchSess_calls _ _ l S h hn t ht hb0).mono ?_; rintro e w' ⟨rfl, hb⟩)
  go_ret2
  exact ⟨rfl, hb⟩
set_option maxRecDepth 100000 in
set_option maxHeartbeats 800000 in
theorem join_calls (l : List SessionD) (index client : Int) (v : Value) (S : Nat → Prop) (w : World) (h : SlR 5 rSession w v l S) (hc : -1000000000000 ≤ client ∧ client ≤ 1000000000000) :
    Calls Tryz.prog 45 #[v, .int .i64 index, .int .i64 client] w fun e w' => ∃ v', e = .returned (.tuple #[v', .agg #[.int .i64 (join l index client).2.1.code, .int .i64 (join l index client).2.1.n, .string ⟨(join l index client).2.1.text.toArray⟩], .int .i64 (join l index client).2.2]) ∧
      SlR 5 rSession w' v' (join l index client).1 (fun b => w.heap.size ≤ b) ∧ Below w.heap.size w w' := by
  by_cases he : sessCheck l index = 0
  case neg =>
    have HJ := Lib.hid (show join l index client = ([], noReply, sessCheck l index) by rw [join, if_pos he])
    have he' : (sessCheck l index != 0) = true := by simpa using he
    clear he
    go_enter Tryz.func45, Tryz.ntmps45
    go_wp2_with (go_at_call 73; refine (sessCheck_calls l index v S _ (h.below rSession_ok (by decide) ((Below.refl _ _).alloc (Nat.le_refl _) _))).mono ?_; rintro e w1 ⟨rfl, hb1⟩; obtain ⟨hc1, hf1⟩ := bcell hb1; have hs1 := hb1.size)
    refine bodyPost_ret (v := .tuple #[.slice none 0 0, .agg #[.int .i64 0, .int .i64 0, .string ⟨#[]⟩], .int .i64 (sessCheck l index)]) (by simp [results, Tryz.results45, go_sem, hc1]) rfl ⟨_, by rw [HJ.out]; rfl, ?_, ?_⟩
    · rw [HJ.out]; exact SlR.nil _ _
    · repeat (first | exact below_step (below_alloc w _) hb1 | refine below_set ?_ (Nat.le_refl _) _ _)
  by_cases hcl : client < 1 ∨ 9 < client ∨ index = 1073741824
  case pos =>
    have HJ := Lib.hid (show join l index client = ([], noReply, 2) by rw [join, if_neg (by simpa using he), if_pos hcl])
    have he' : (sessCheck l index != 0) = false := by simpa using he
    have hcases : client < 1 ∨ (¬ client < 1 ∧ 9 < client) ∨ (¬ client < 1 ∧ ¬ 9 < client ∧ (index == 1073741824) = true) := by simp only [beq_iff_eq]; omega
    have HE := Lib.hid he
    clear he hcl
    rcases hcases with h1 | ⟨h1, h2⟩ | ⟨h1, h2, h3⟩
    all_goals go_enter Tryz.func45, Tryz.ntmps45
    all_goals go_wp2_with (go_at_call 73; refine (sessCheck_calls l index v S _ (h.below rSession_ok (by decide) ((Below.refl _ _).alloc (Nat.le_refl _) _))).mono ?_; rintro e w1 ⟨rfl, hb1⟩; obtain ⟨hc1, hf1⟩ := bcell hb1; have hs1 := hb1.size)
    all_goals refine bodyPost_ret (v := .tuple #[.slice none 0 0, .agg #[.int .i64 0, .int .i64 0, .string ⟨#[]⟩], .int .i64 2]) (by simp [results, Tryz.results45, go_sem, hc1]) rfl ⟨_, by rw [HJ.out]; rfl, ?_, ?_⟩
    all_goals first
      | (rw [HJ.out]; exact SlR.nil _ _)
      | (repeat (first | exact below_step (below_alloc w _) hb1 | refine below_set ?_ (Nat.le_refl _) _ _))
  have hok := sessCheck_ok.1 he
  have hbnd : ∀ x ∈ l, -1000000000000 ≤ x.client ∧ x.client ≤ 1000000000000 := fun x hx => by have := hok.bad x hx; unfold sessBad at this; omega
  have hin : ∀ x ∈ l, x.replies.length ≤ 1000000 := fun x hx => by have := replies_len (hok.rep x hx); omega
  have hl4 := hok.len
  have hidx := hok.idx
  have hfl := bs_le (fun i => sessCmp (l.getD i noSession) client) l.length
  by_cases hth : sThere l client = true
  case pos =>
    have HJ := Lib.hid (show join l index client = (l.set (sFind l client) { l.getD (sFind l client) noSession with last := index + 1 }, ⟨7, (l.getD (sFind l client) noSession).id, []⟩, 0) by rw [join, if_neg (by simpa using he), if_neg hcl, if_pos hth])
    have he' : (sessCheck l index != 0) = false := by simpa using he
    have hi0 : (index == 1073741824) = false := by simp; omega
    have hi1 : ¬ client < 1 := by omega
    have hi2 : ¬ 9 < client := by omega
    have hlt := sThere_lt hth
    have HB := Lib.hid hbnd
    have HN := Lib.hid hin
    have HO := Lib.hid hok
    have HT := Lib.hid hth
    generalize hfi : sFind l client = fi at *
    have HFI := Lib.hid hfi
    clear hfi hbnd hin hok he hcl hth hfl
    go_enter Tryz.func45, Tryz.ntmps45
    go_wp2_with fail
    refine (sessCheck_calls l index v S _ (h.below rSession_ok (by decide) ((Below.refl _ _).alloc (Nat.le_refl _) _))).mono ?_; rintro e w1 ⟨rfl, hb1⟩; obtain ⟨hc1, hf1⟩ := bcell hb1; have hs1 := hb1.size
    go_wp2_with fail
    refine (copySess_calls _ v l S (h.below rSession_ok (by decide) (below_step (below_alloc w _) hb1)) (by omega) HN.out).mono ?_; rintro e w2 ⟨v2, rfl, ho2, hb2, hv2⟩; obtain ⟨hc2, hf2⟩ := bcell hb2; have hs2 := hb2.size
    have hr2 := ho2.readSess hv2
    go_wp2_with fail
    refine (find_calls _ v2 l _ hr2 (by omega) client hc HB.out).mono ?_; rw [HFI.out, HT.out]; rintro e w3 ⟨rfl, hb3⟩; obtain ⟨hc3, hf3⟩ := bcell hb3; have hs3 := hb3.size
    obtain ⟨g, cap2, rfl, hgc, hgm, hg2, hfz⟩ := ho2.shapePos (by omega)
    have hgw := hv2 g rfl
    obtain ⟨row, G, hrow, hG, hcells, hch⟩ := (ho2.below (rSessO_ok _) hb3).change (rSessO_ok _) (by decide) fi hlt
    have hgd : l.getD fi noSession = l[fi] := by simp [List.getD, hlt]
    rw [hgd] at HJ
    clear hgd
    generalize l[fi] = x at *
    obtain ⟨rv, rfl, hrv, hrg⟩ := hrow
    obtain ⟨ra, rc, rfl⟩ := hrv.shape
    have q0 := hcells 0 _ rfl
    have q1 := hcells 1 _ rfl
    have q2 := hcells 2 _ rfl
    have q3 := hcells 3 _ rfl
    have q4 := hcells 4 _ rfl
    have q3w := (hc3 g _ hg2).symm.trans q3
    have q1w := (hc3 g _ hg2).symm.trans q1
    clear hcells
    have HC := Lib.hid hch
    clear hch
    have hb := below_step (below_step (below_alloc w _) hb1) (below_step (below_step (Below.refl _ _) hb2) hb3)
    have hb4 := below_set (below_step hb1 (below_step (below_step (Below.refl _ _) hb2) hb3)) (b := g) (by omega) (fi * 5 + 3) (.int .i64 (index + 1))
    simp only [World.size_alloc] at hb4
    have hgw' : w.heap.size < g := by rw [World.size_alloc] at hs1; omega
    have hw13 : w1.heap.size ≤ w3.heap.size := by omega
    have hww1 : w.heap.size < w1.heap.size := by rw [World.size_alloc] at hs1; omega
    obtain ⟨hz, hzf, hzs⟩ := fresh hb4
    have z0 := hz 0; have z1 := hz 1; have z2 := hz 2
    have zf0 := hzf 0; have zf1 := hzf 1; have zf2 := hzf 2
    have q1' := (World.cell?_setCell_other w3 ⟨g, fi * 5 + 3, none⟩ ⟨g, fi * 5 + 1, none⟩ (.int .i64 (index + 1)) (by simp)).trans q1
    clear hz hzf
    go_wp2
    go_region
    go_wp2
    refine bodyPost_ret (v := .tuple #[.slice (some ⟨g, 0, none⟩) l.length cap2, .agg #[.int .i64 7, .int .i64 x.id, .string ⟨#[]⟩], .int .i64 0]) (by simp [results, Tryz.results45, go_sem, z0, z1, z2, zf0, zf1, zf2]) rfl ⟨_, by rw [HJ.out], ?_, ?_⟩
    · rw [HJ.out]
      refine HC.out _ _ _ [.int .i64 x.client, .int .i64 x.id, .int .i64 x.acked, .int .i64 (index + 1), .slice ra x.replies.length rc] _ rfl (fun _ _ _ _ hr => hr.read) ?_ ?_ ?_ ?_ ?_ ?_
      · intro j hj; (repeat (first | with_reducible rfl | with_reducible assumption | with_reducible refine (Go.Tk.cell_drew _ _).trans ?_ | with_reducible refine (Go.Tk.cell_far (by omega)).trans ?_ | with_reducible refine (Go.Tk.cell_near (by omega)).trans ?_ | with_reducible exact World.cell?_setCell_same _ _ _ (by with_reducible assumption)))
      · intro j u hu
        have q3' := World.cell?_setCell_same w3 ⟨g, fi * 5 + 3, none⟩ (.int .i64 (index + 1)) q3
        match j, hu with
        | 0, hu => cases hu; (repeat (first | with_reducible rfl | with_reducible assumption | with_reducible refine (Go.Tk.cell_drew _ _).trans ?_ | with_reducible refine (Go.Tk.cell_far (by omega)).trans ?_ | with_reducible refine (Go.Tk.cell_near (by omega)).trans ?_ | with_reducible exact World.cell?_setCell_same _ _ _ (by with_reducible assumption)))
        | 1, hu => cases hu; (repeat (first | with_reducible rfl | with_reducible assumption | with_reducible refine (Go.Tk.cell_drew _ _).trans ?_ | with_reducible refine (Go.Tk.cell_far (by omega)).trans ?_ | with_reducible refine (Go.Tk.cell_near (by omega)).trans ?_ | with_reducible exact World.cell?_setCell_same _ _ _ (by with_reducible assumption)))
        | 2, hu => cases hu; (repeat (first | with_reducible rfl | with_reducible assumption | with_reducible refine (Go.Tk.cell_drew _ _).trans ?_ | with_reducible refine (Go.Tk.cell_far (by omega)).trans ?_ | with_reducible refine (Go.Tk.cell_near (by omega)).trans ?_ | with_reducible exact World.cell?_setCell_same _ _ _ (by with_reducible assumption)))
        | 3, hu => cases hu; (repeat (first | with_reducible rfl | with_reducible assumption | with_reducible refine (Go.Tk.cell_drew _ _).trans ?_ | with_reducible refine (Go.Tk.cell_far (by omega)).trans ?_ | with_reducible refine (Go.Tk.cell_near (by omega)).trans ?_ | with_reducible exact World.cell?_setCell_same _ _ _ (by with_reducible assumption)))
        | 4, hu => cases hu; (repeat (first | with_reducible rfl | with_reducible assumption | with_reducible refine (Go.Tk.cell_drew _ _).trans ?_ | with_reducible refine (Go.Tk.cell_far (by omega)).trans ?_ | with_reducible refine (Go.Tk.cell_near (by omega)).trans ?_ | with_reducible exact World.cell?_setCell_same _ _ _ (by with_reducible assumption)))
      · intro b hb h1 h2 h3
        have hb' : w1.heap.size ≤ b := hb
        (repeat (first | with_reducible rfl | with_reducible assumption | with_reducible refine (Go.Tk.heap_drew _ _).trans ?_ | with_reducible refine (Go.Tk.heap_far (by omega)).trans ?_))
      · intro b hb; show _ ≤ _ ; omega
      · show _ ≤ _ ; omega
      · refine rSessO.read (EK := 146) ⟨_, rfl, hrv.move rKept_ok (fun g' hg' => ?_) (fun b hb => hb.elim), fun g' hg' => ?_⟩
        · have := hG g' (hrg g' hg')
          (repeat (first | with_reducible rfl | with_reducible assumption | with_reducible refine (Go.Tk.heap_drew _ _).trans ?_ | with_reducible refine (Go.Tk.heap_far (by omega)).trans ?_))
        · have := hG g' (hrg g' hg')
          show _ ≤ _; omega
    · (repeat (first | with_reducible exact (below_alloc w _).trans (hb4.mono (Nat.le_succ _)) | with_reducible refine Below.drew ?_ | with_reducible refine below_set ?_ (by omega) _ _ | with_reducible refine Below.alloc ?_ (by omega) _))
  case neg =>
    have hfl' : sFind l client ≤ l.length := hfl
    have he' : (sessCheck l index != 0) = false := by simpa using he
    have hi0 : (index == 1073741824) = false := by simp; omega
    have hi1 : ¬ client < 1 := by omega
    have hi2 : ¬ 9 < client := by omega
    have hth' : sThere l client = false := by simpa using hth
    have HJ1 := Lib.hid (show join l index client = if l.length = 4 then (l, ⟨8, 0, []⟩, 0) else (l.take (sFind l client) ++ ⟨client, index + 1, 0, index + 1, []⟩ :: l.drop (sFind l client), ⟨0, index + 1, []⟩, 0) by rw [join, if_neg (by simpa using he), if_neg hcl, if_neg hth])
    have HB := Lib.hid hbnd
    have HN := Lib.hid hin
    have HO := Lib.hid hok
    have HT := Lib.hid hth'
    generalize hfi : sFind l client = fi at *
    have HFI := Lib.hid hfi
    clear hfi hbnd hin hok he hcl hth hfl hth'
    by_cases hln : l.length = 4
    · have HJ := Lib.hid (HJ1.out.trans (if_pos hln))
      clear HJ1
      go_enter Tryz.func45, Tryz.ntmps45
      go_wp2_with fail
      refine (sessCheck_calls l index v S _ (h.below rSession_ok (by decide) ((Below.refl _ _).alloc (Nat.le_refl _) _))).mono ?_; rintro e w1 ⟨rfl, hb1⟩; obtain ⟨hc1, hf1⟩ := bcell hb1; have hs1 := hb1.size
      go_wp2_with fail
      refine (copySess_calls _ v l S (h.below rSession_ok (by decide) (below_step (below_alloc w _) hb1)) (by omega) HN.out).mono ?_; rintro e w2 ⟨v2, rfl, ho2, hb2, hv2⟩; obtain ⟨hc2, hf2⟩ := bcell hb2; have hs2 := hb2.size
      have hr2 := ho2.readSess hv2
      go_wp2_with fail
      refine (find_calls _ v2 l _ hr2 (by omega) client hc HB.out).mono ?_; rw [HFI.out, HT.out]; rintro e w3 ⟨rfl, hb3⟩; obtain ⟨hc3, hf3⟩ := bcell hb3; have hs3 := hb3.size
      have hr3 := hr2.below rSession_ok (by decide) hb3
      obtain ⟨ra, rc, rfl⟩ : ∃ a c, v2 = .slice a l.length c := by obtain ⟨a, c, h, _⟩ := hr2; exact ⟨a, c, h⟩
      have hb4 := below_step hb1 (below_step (below_step (Below.refl _ _) hb2) hb3)
      have hww1 : w.heap.size < w1.heap.size := by rw [World.size_alloc] at hs1; omega
      simp only [World.size_alloc] at hb4
      obtain ⟨hz, hzf, hzs⟩ := fresh hb4
      have z0 := hz 0; have z1 := hz 1; have z2 := hz 2
      have zf0 := hzf 0; have zf1 := hzf 1; have zf2 := hzf 2
      clear hz hzf
      go_wp2
      refine bodyPost_ret (v := .tuple #[.slice ra l.length rc, .agg #[.int .i64 8, .int .i64 0, .string ⟨#[]⟩], .int .i64 0]) (by simp [results, Tryz.results45, go_sem, z0, z1, z2, zf0, zf1, zf2, hln]) rfl ⟨_, by rw [HJ.out], ?_, ?_⟩
      · rw [HJ.out]
        refine (hr3.move rSession_ok (by decide) fun b hb hlt => ⟨?_, ?_⟩)
        · (repeat (first | with_reducible rfl | with_reducible assumption | with_reducible refine (Go.Tk.heap_drew _ _).trans ?_ | with_reducible refine (Go.Tk.heap_far (by omega)).trans ?_))
        · show _ ≤ _; omega
      · (repeat (first | with_reducible exact (below_alloc w _).trans (hb4.mono (Nat.le_succ _)) | with_reducible refine Below.drew ?_ | with_reducible refine below_set ?_ (by omega) _ _ | with_reducible refine Below.alloc ?_ (by omega) _))
    · have HJ := Lib.hid (HJ1.out.trans (if_neg hln))
      clear HJ1
      go_enter Tryz.func45, Tryz.ntmps45
      go_wp2_with fail
      refine (sessCheck_calls l index v S _ (h.below rSession_ok (by decide) ((Below.refl _ _).alloc (Nat.le_refl _) _))).mono ?_; rintro e w1 ⟨rfl, hb1⟩; obtain ⟨hc1, hf1⟩ := bcell hb1; have hs1 := hb1.size
      go_wp2_with fail
      refine (copySess_calls _ v l S (h.below rSession_ok (by decide) (below_step (below_alloc w _) hb1)) (by omega) HN.out).mono ?_; rintro e w2 ⟨v2, rfl, ho2, hb2, hv2⟩; obtain ⟨hc2, hf2⟩ := bcell hb2; have hs2 := hb2.size
      have hr2 := ho2.readSess hv2
      go_wp2_with fail
      refine (find_calls _ v2 l _ hr2 (by omega) client hc HB.out).mono ?_; rw [HFI.out, HT.out]; rintro e w3 ⟨rfl, hb3⟩; obtain ⟨hc3, hf3⟩ := bcell hb3; have hs3 := hb3.size
      have hr3 := hr2.below rSession_ok (by decide) hb3
      obtain ⟨ra, rc, rfl⟩ : ∃ a c, v2 = .slice a l.length c := by obtain ⟨a, c, h, _⟩ := hr2; exact ⟨a, c, h⟩
      have ho3 := ((ho2.below (rSessO_ok _) hb3).own (rSessO_ok _)).map (R' := rSession) fun _ _ _ _ hr => hr.read
      go_wp2_with fail
      refine (insertSess_calls rSession_ok l fi hfl' ⟨client, index + 1, 0, index + 1, []⟩ #[.int .i64 client, .int .i64 (index + 1), .int .i64 0, .int .i64 (index + 1), .slice none 0 0] w3 _ _ ho3 ⟨_, rfl, SlR.nil _ _⟩ (by omega)).mono ?_; rintro e w4 ⟨v4, rfl, ho4, hg4, hv4⟩
      have hb4 := (below_step hb1 (below_step (below_step (Below.refl _ _) hb2) hb3)).grown hg4 (by omega) (fun k hk => Nat.le_trans hs1 (hv2 k hk))
      have hr4 := ho4.read rSession_ok (by decide) (fun g hg => by
        rcases hv4 with h | ⟨g', h, hg'⟩
        · rw [h] at hg; exact hv2 g hg
        · rw [h] at hg; cases hg; omega)
      obtain ⟨rb, rd, rfl⟩ : ∃ a c, v4 = .slice a (l.length + 1) c := by obtain ⟨a, c, h, _⟩ := hr4; refine ⟨a, c, ?_⟩; rw [h]; simp; omega
      have hww1 : w.heap.size < w1.heap.size := by rw [World.size_alloc] at hs1; omega
      simp only [World.size_alloc] at hb4
      obtain ⟨hz, hzf, hzs⟩ := fresh hb4
      have z0 := hz 0; have z1 := hz 1; have z2 := hz 2
      have zf0 := hzf 0; have zf1 := hzf 1; have zf2 := hzf 2
      clear hz hzf
      go_wp2
      refine bodyPost_ret (v := .tuple #[.slice rb (l.length + 1) rd, .agg #[.int .i64 0, .int .i64 (index + 1), .string ⟨#[]⟩], .int .i64 0]) (by simp [results, Tryz.results45, go_sem, z0, z1, z2, zf0, zf1, zf2]) rfl ⟨_, by rw [HJ.out], ?_, ?_⟩
      · rw [HJ.out]
        refine (hr4.move rSession_ok (by decide) fun b hb hlt => ⟨?_, ?_⟩)
        · (repeat (first | with_reducible rfl | with_reducible assumption | with_reducible refine (Go.Tk.heap_drew _ _).trans ?_ | with_reducible refine (Go.Tk.heap_far (by omega)).trans ?_))
        · show _ ≤ _; omega
      · (repeat (first | with_reducible exact (below_alloc w _).trans (hb4.mono (Nat.le_succ _)) | with_reducible refine Below.drew ?_ | with_reducible refine below_set ?_ (by omega) _ _ | with_reducible refine Below.alloc ?_ (by omega) _))
end Go.Proofs.YtkefgapnghnjjaaGreatDoor

namespace Go.Proofs.YtkefgapnghnjjaaGreatDoor
open Go.RowKit Go.Tk
theorem badByte_calls (c : UInt8) (w : World) : Calls Tryz.prog 137 #[.int .u8 c.toNat] w fun e w' => e = .returned (.bool (badByte c)) ∧ w = w' := by
  have HL := Lib.hid (show badByte c = (decide ((c.toNat : Int) < 97) || decide ((122 : Int) < (c.toNat : Int))) from rfl)
  generalize badByte c = bb at HL ⊢
  generalize hx : c.toNat = x at HL ⊢
  have HX := Lib.hid hx
  clear hx
  by_cases h : (x : Int) < 97
  · have HL2 := Lib.hid (HL.out.trans (by rw [decide_eq_true h, Bool.true_or]))
    go_enter Tryz.func137, Tryz.ntmps137
    go_wp2
    go_ret
    exact ⟨by rw [HL2.out]; rfl, rfl⟩
  · have HL2 := Lib.hid (HL.out.trans (by rw [decide_eq_false h, Bool.false_or]))
    go_enter Tryz.func137, Tryz.ntmps137
    go_wp2
    go_ret
    exact ⟨by rw [HL2.out]; rfl, rfl⟩
set_option maxRecDepth 100000 in
set_option maxHeartbeats 400000 in
theorem indexByteF_calls (w : World) (v : Value) (l : List UInt8) (S : Nat → Prop) (h : SlR 1 rByte w v l S) (hn : l.length ≤ 1000000) :
    Calls Tryz.prog 162 #[v, .func (.func 137) #[] #[]] w fun e w' => e = .returned (.int .i64 (fIdx badByte l)) ∧ Below w.heap.size w w' := by
  obtain ⟨a, vc, hv, hl, hm, hnil, -⟩ := id h
  subst hv
  unfold maxLen at hm
  have hlen : (l.length : Int) ≤ 1000000 := by omega
  go_enter Tryz.func162, Tryz.ntmps162
  go_wp2
  go_loopw [8] (fun i wr => ∃ n : Nat, n ≤ l.length ∧ i = .int .i64 n ∧ Hid (∀ (j : Nat) (hj : j < l.length), j < n → badByte l[j] = false) ∧ Below w.heap.size w wr)
    (fun i _ => l.length - (intOf i).toNat)
  case atStart => exact ⟨0, by omega, rfl, fun j _ hj => by omega, Below.refl _ _⟩
  case round =>
    obtain ⟨n, hnl, rfl, hall, hb⟩ := hrel
    have hws := hb.size
    by_cases hlt : n < l.length
    · obtain ⟨b, off, vc', row, hv, hS, hrow, hcells⟩ := (h.below rByte_ok (by decide) hb).row n hlt
      simp only [Value.slice.injEq] at hv
      obtain ⟨rfl, _, rfl⟩ := hv
      have HY : Hid (badByte l[n] = true → fIdx badByte l = n) := fun ht => fIdx_at hlt ht hall.out
      have HN : Hid (badByte l[n] = false → ∀ (j : Nat) (hj : j < l.length), j < n + 1 → badByte l[j] = false) := fun ht j hj hj1 => by
        rcases Nat.lt_or_ge j n with h | h
        · exact hall.out j hj h
        · obtain rfl : j = n := by omega
          exact ht
      clear hall
      generalize hxx : l[n] = x at *
      clear hxx
      obtain rfl := hrow
      have q0 := hcells 0 _ rfl
      simp only [Nat.add_zero, Nat.mul_one] at q0
      clear hcells h
      cases hf : badByte x
      case true =>
        have HF := Lib.hid (HY.out hf)
        have HX := Lib.hid hf
        clear hf
        go_wp2_with fail
        refine (badByte_calls x _).mono ?_; rw [HX.out]; rintro e w2 ⟨rfl, rfl⟩
        go_wp2
        go_ret
        exact ⟨by rw [HF.out]; rfl, hb⟩
      case false =>
        have HX := Lib.hid hf
        have HN2 := Lib.hid (HN.out hf)
        clear hf HN
        go_wp2_with fail
        refine (badByte_calls x _).mono ?_; rw [HX.out]; rintro e w2 ⟨rfl, rfl⟩
        go_wp2
        go_roundw
        case rel => exact ⟨n + 1, by omega, by go_num, HN2.out, hb⟩
        case measure => simp [intOf]; omega
    · obtain rfl : n = l.length := by omega
      have HF : Hid (fIdx badByte l = -1) := fIdx_none fun j hj => hall.out j hj hj
      clear hall h
      go_wp2
      go_ret
      exact ⟨by rw [HF.out]; rfl, hb⟩
theorem fIdx_any {α : Type} (p : α → Bool) (l : List α) : decide (0 ≤ fIdx p l) = l.any p := by
  rcases fIdx_cases p l with ⟨h, h2⟩ | ⟨n, hn, h, h2, _⟩
  · rw [h, Eq.comm]
    refine (List.any_eq_false.2 fun x hx => by rw [h2 x hx]; decide)
  · rw [h]
    have : l.any p = true := List.any_eq_true.2 ⟨_, List.getElem_mem hn, h2⟩
    rw [this]; simp
theorem containsByteF_calls (w : World) (v : Value) (l : List UInt8) (S : Nat → Prop) (h : SlR 1 rByte w v l S) (hn : l.length ≤ 1000000) :
    Calls Tryz.prog 136 #[v, .func (.func 137) #[] #[]] w fun e w' => e = .returned (.bool (l.any badByte)) ∧ Below w.heap.size w w' := by
  have HF := Lib.hid (fIdx_any badByte l)
  go_enter Tryz.func136, Tryz.ntmps136
  go_wp2_with fail
  refine (indexByteF_calls w v l S h hn).mono ?_; rintro e w2 ⟨rfl, hb⟩
  go_wp2
  go_ret
  exact ⟨by rw [HF.out]; rfl, hb⟩
end Go.Proofs.YtkefgapnghnjjaaGreatDoor

namespace Go.Tk
open Go Go.RowKit
theorem SlR.take {α : Type} {k : Nat} {R : Rel α} {w : World} {a : Option Addr} {n cap : Nat} {l : List α} {S : Nat → Prop} (h : SlR k R w (.slice a n cap) l S) (i : Nat) (hi : i ≤ l.length) : SlR k R w (.slice a i cap) (l.take i) S := by
  obtain ⟨a', cap', hv, h1, h2, h3, h4⟩ := h
  simp only [Value.slice.injEq] at hv
  obtain ⟨rfl, rfl, rfl⟩ := hv
  have hl : (l.take i).length = i := by rw [List.length_take]; omega
  refine ⟨a, cap, by rw [hl], by omega, h2, h3, fun j x hx => ?_⟩
  have hj : j < i := by
    rcases Nat.lt_or_ge j i with h | h
    · exact h
    · rw [List.getElem?_eq_none (by omega)] at hx; cases hx
  rw [List.getElem?_take_of_lt hj] at hx
  exact h4 j x hx
theorem conv_bytes {P : Program} (w : World) (src dst e : TypeId) (s : List UInt8) (hs : P.underlying src = some .string) (hd : P.underlying dst = some (.slice e)) (he : P.underlying e = some (.int .u8)) (hl : s.length ≤ 1000000) :
    ∃ cap w1, (convert src dst (.string ⟨s.toArray⟩)).run P w = .ok (.slice (some ⟨w.heap.size, 0, none⟩) s.length cap) w1 ∧ SlR 1 rByte w1 (.slice (some ⟨w.heap.size, 0, none⟩) s.length cap) s (fun _ => True) ∧ Below w.heap.size w w1 := by
  have hsz : (⟨s.toArray⟩ : ByteArray).size = s.length := by simp [ByteArray.size]
  have hr := run_bytes_of_string (P := P) w src dst e ⟨s.toArray⟩ hs hd he
  rw [hsz] at hr
  refine ⟨_, _, hr, ⟨_, _, rfl, grownCap_ge w s.length 0 e, grownCap_le_maxLen w s.length 0 e (by unfold maxLen; omega), (fun h => by cases h), fun i x hx => ⟨w.heap.size, 0, [.int .u8 x.toNat], rfl, trivial, rfl, fun j u hu => ?_⟩⟩, Below.alloc (Below.drew (Below.refl _ _)) (Nat.le_refl _) _⟩
  · cases j with
    | succ j => simp at hu
    | zero =>
      simp at hu
      subst hu
      refine Eq.trans (cells_take (w := w.drew.alloc _) (g := w.heap.size) (heap_alloc_new w.drew _) _) ?_
      have hi : i < s.length := by
        rcases Nat.lt_or_ge i s.length with h | h
        · exact h
        · rw [List.getElem?_eq_none h] at hx; cases hx
      rw [List.getElem?_eq_getElem hi] at hx
      simp only [Option.some.injEq] at hx
      simp [bytesRow, Array.getElem?_append, hi, hx]
end Go.Tk
namespace Go.Proofs.YtkefgapnghnjjaaGreatDoor
open Go.RowKit Go.Tk
set_option maxRecDepth 100000 in
theorem name_calls (s : List UInt8) (w : World) : Calls Tryz.prog 100 #[.string ⟨s.toArray⟩] w fun e w' => e = .returned (.bool (lkName s)) ∧ Below w.heap.size w w' := by
  cases s with
  | nil =>
    go_enter Tryz.func100, Tryz.ntmps100
    go_wp2
    go_ret
    exact ⟨rfl, Below.refl _ _⟩
  | cons c r =>
    have HL := Lib.hid (show lkName (c :: r) = (decide ((c :: r).length ≤ 6) && !(c :: r).any badByte) from rfl)
    by_cases h6 : (c :: r).length ≤ 6
    · have HL2 := Lib.hid (HL.out.trans (by rw [decide_eq_true h6, Bool.true_and]))
      obtain ⟨cap, w1, hcv, hsl, hb1⟩ := conv_bytes (P := Tryz.prog) w _ _ _ (c :: r) Tryz.underlying9 Tryz.underlying85 Tryz.underlying5 (by omega)
      have HC := Lib.hid (containsByteF_calls w1 _ _ _ hsl (by omega))
      clear hsl
      have hne : (c :: r).isEmpty = false := rfl
      generalize c :: r = s at *
      go_enter Tryz.func100, Tryz.ntmps100
      go_wp2_with fail
      refine HC.out.mono ?_; rintro e w2 ⟨rfl, hb2⟩
      go_wp2
      go_ret
      exact ⟨by rw [HL2.out]; rfl, below_step hb1 hb2⟩
    · have HL2 := Lib.hid (HL.out.trans (by rw [decide_eq_false h6, Bool.false_and]))
      have hne : (c :: r).isEmpty = false := rfl
      generalize c :: r = s at *
      go_enter Tryz.func100, Tryz.ntmps100
      go_wp2
      go_ret
      exact ⟨by rw [HL2.out]; rfl, Below.refl _ _⟩
end Go.Proofs.YtkefgapnghnjjaaGreatDoor

namespace Go.Proofs.YtkefgapnghnjjaaGreatDoor
open Go.RowKit Go.Tk
theorem client_calls (n : Int) (w : World) : Calls Tryz.prog 101 #[.int .i64 n] w fun e w' => e = .returned (.bool (lkClient n)) ∧ w = w' := by
  have HL := Lib.hid (show lkClient n = (decide (1 ≤ n) && decide (n ≤ 9)) from rfl)
  by_cases h : 1 ≤ n
  · have HL2 := Lib.hid (HL.out.trans (by rw [decide_eq_true h, Bool.true_and]))
    go_enter Tryz.func101, Tryz.ntmps101
    go_wp2
    go_ret
    exact ⟨by rw [HL2.out]; rfl, rfl⟩
  · have HL2 := Lib.hid (HL.out.trans (by rw [decide_eq_false h, Bool.false_and]))
    go_enter Tryz.func101, Tryz.ntmps101
    go_wp2
    go_ret
    exact ⟨by rw [HL2.out]; rfl, rfl⟩
set_option maxRecDepth 100000 in
set_option maxHeartbeats 400000 in
theorem indexInt_calls (w : World) (v : Value) (l : List Int) (S : Nat → Prop) (h : SlR 1 rInt w v l S) (hn : l.length ≤ 1000000) (t : Int) :
    Calls Tryz.prog 122 #[v, .int .i64 t] w fun e w' => e = .returned (.int .i64 (fIdx (fun x => t == x) l)) ∧ Below w.heap.size w w' := by
  obtain ⟨a, vc, hv, hl, hm, hnil, -⟩ := id h
  subst hv
  unfold maxLen at hm
  have hlen : (l.length : Int) ≤ 1000000 := by omega
  go_enter Tryz.func122, Tryz.ntmps122
  go_wp2
  go_loopw [8] (fun i wr => ∃ n : Nat, n ≤ l.length ∧ i = .int .i64 n ∧ Hid (∀ (j : Nat) (hj : j < l.length), j < n → (t == l[j]) = false) ∧ Below w.heap.size w wr)
    (fun i _ => l.length - (intOf i).toNat)
  case atStart => exact ⟨0, by omega, rfl, fun j _ hj => by omega, Below.refl _ _⟩
  case round =>
    obtain ⟨n, hnl, rfl, hall, hb⟩ := hrel
    have hws := hb.size
    by_cases hlt : n < l.length
    · obtain ⟨b, off, vc', row, hv, hS, hrow, hcells⟩ := (h.below rInt_ok (by decide) hb).row n hlt
      simp only [Value.slice.injEq] at hv
      obtain ⟨rfl, _, rfl⟩ := hv
      have HY : Hid ((t == l[n]) = true → fIdx (fun x => t == x) l = n) := fun ht => fIdx_at hlt ht hall.out
      have HN : Hid ((t == l[n]) = false → ∀ (j : Nat) (hj : j < l.length), j < n + 1 → (t == l[j]) = false) := fun ht j hj hj1 => by
        rcases Nat.lt_or_ge j n with h | h
        · exact hall.out j hj h
        · obtain rfl : j = n := by omega
          exact ht
      clear hall
      generalize hxx : l[n] = x at *
      clear hxx
      obtain rfl := hrow
      have q0 := hcells 0 _ rfl
      simp only [Nat.add_zero, Nat.mul_one] at q0
      clear hcells h
      cases hf : (t == x)
      case true =>
        have HF := Lib.hid (HY.out hf)
        go_wp2
        go_ret
        exact ⟨by rw [HF.out]; rfl, hb⟩
      case false =>
        have HN2 := Lib.hid (HN.out hf)
        clear HN
        go_wp2
        go_roundw
        case rel => exact ⟨n + 1, by omega, by go_num, HN2.out, hb⟩
        case measure => simp [intOf]; omega
    · obtain rfl : n = l.length := by omega
      have HF : Hid (fIdx (fun x => t == x) l = -1) := fIdx_none fun j hj => hall.out j hj hj
      clear hall h
      go_wp2
      go_ret
      exact ⟨by rw [HF.out]; rfl, hb⟩
theorem any_contains (l : List Int) (t : Int) : l.any (fun x => t == x) = l.contains t := by
  rw [List.contains_eq_any_beq]
theorem containsInt_calls (w : World) (v : Value) (l : List Int) (S : Nat → Prop) (h : SlR 1 rInt w v l S) (hn : l.length ≤ 1000000) (t : Int) :
    Calls Tryz.prog 131 #[v, .int .i64 t] w fun e w' => e = .returned (.bool (l.contains t)) ∧ Below w.heap.size w w' := by
  have HF := Lib.hid ((fIdx_any (fun x => t == x) l).trans (any_contains l t))
  go_enter Tryz.func131, Tryz.ntmps131
  go_wp2_with fail
  refine (indexInt_calls w v l S h hn t).mono ?_; rintro e w2 ⟨rfl, hb⟩
  go_wp2
  go_ret
  exact ⟨by rw [HF.out]; rfl, hb⟩
end Go.Proofs.YtkefgapnghnjjaaGreatDoor
