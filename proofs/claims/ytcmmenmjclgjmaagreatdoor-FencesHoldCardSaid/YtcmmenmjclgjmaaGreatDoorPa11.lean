/- A part of the proof, laid together from: Join, Chg. -/
import Derived.Test.YtcmmenmjclgjmaaGreatDoorPa08
import Derived.Test.YtcmmenmjclgjmaaGreatDoorPa09
import Derived.Test.YtcmmenmjclgjmaaGreatDoorPa10
import Derived.Deep.RegionHeld3
import Derived.Test.YtcmmenmjclgjmaaGreatDoorPa02
import Derived.Laws.IdiomCopy
set_option linter.unusedSimpArgs false
set_option linter.unusedVariables false
/- session.find, session.Join. -/
namespace Go.Proofs.YtcmmenmjclgjmaaGreatDoor
open Go.RowKit Go.Tk

theorem find_calls (w : World) (v : Value) (l : List SessionD) (S : Nat → Prop) (h : SlR 5 rSession w v l S) (hn : l.length ≤ 1000000) (t : Int) (ht : -1000000000000 ≤ t ∧ t ≤ 1000000000000) (hb0 : ∀ x ∈ l, -1000000000000 ≤ x.client ∧ x.client ≤ 1000000000000) :
    Calls Tryz.prog 80 #[v, .int .i64 t] w fun e w' => e = .returned (.tuple #[.int .i64 (sFind l t : Nat), .bool (sThere l t)]) ∧ Below w.heap.size w w' := by
  go_enter Tryz.func80, Tryz.ntmps80
  go_wp2_with (go_at_call 112; refine (searchSess_calls _ _ l S h hn t ht hb0).mono ?_; rintro e w' ⟨rfl, hb⟩)
  go_ret2
  exact ⟨rfl, hb⟩

set_option maxRecDepth 100000 in
set_option maxHeartbeats 800000 in
theorem join_calls (l : List SessionD) (index client : Int) (v : Value) (S : Nat → Prop) (w : World) (h : SlR 5 rSession w v l S) (hc : -1000000000000 ≤ client ∧ client ≤ 1000000000000) :
    Calls Tryz.prog 52 #[v, .int .i64 index, .int .i64 client] w fun e w' => ∃ v', e = .returned (.tuple #[v', .agg #[.int .i64 (join l index client).2.1.code, .int .i64 (join l index client).2.1.n, .string ⟨(join l index client).2.1.text.toArray⟩], .int .i64 (join l index client).2.2]) ∧
      SlR 5 rSession w' v' (join l index client).1 (fun b => w.heap.size ≤ b) ∧ Below w.heap.size w w' := by
  by_cases he : sessCheck l index = 0
  case neg =>
    have HJ := Lib.hid (show join l index client = ([], noReply, sessCheck l index) by rw [join, if_pos he])
    have he' : (sessCheck l index != 0) = true := by simpa using he
    clear he
    go_enter Tryz.func52, Tryz.ntmps52
    go_wp2_with (go_at_call 37; refine (sessCheck_calls l index v S _ (h.below rSession_ok (by decide) ((Below.refl _ _).alloc (Nat.le_refl _) _))).mono ?_; rintro e w1 ⟨rfl, hb1⟩; obtain ⟨hc1, hf1⟩ := bcell hb1; have hs1 := hb1.size)
    refine bodyPost_ret (v := .tuple #[.slice none 0 0, .agg #[.int .i64 0, .int .i64 0, .string ⟨#[]⟩], .int .i64 (sessCheck l index)]) (by simp [results, Tryz.results52, go_sem, hc1]) rfl ⟨_, by rw [HJ.out]; rfl, ?_, ?_⟩
    · rw [HJ.out]; exact SlR.nil _ _
    · repeat (first | exact below_step (below_alloc w _) hb1 | refine below_set ?_ (Nat.le_refl _) _ _)
  by_cases hcl : client < 1 ∨ 9 < client ∨ index = 1073741824
  case pos =>
    have HJ := Lib.hid (show join l index client = ([], noReply, 2) by rw [join, if_neg (by simpa using he), if_pos hcl])
    have he' : (sessCheck l index != 0) = false := by simpa using he
    have hcases : client < 1 ∨ (¬ client < 1 ∧ 9 < client) ∨ (¬ client < 1 ∧ ¬ 9 < client ∧ (index == 1073741824) = true) := by simp only [beq_iff_eq]; omega
    have HE := Lib.hid he
    clear he hcl
    rcases hcases with h1 | ⟨h1, h2⟩ | ⟨h1, h2, h3⟩
    all_goals go_enter Tryz.func52, Tryz.ntmps52
    all_goals go_wp2_with (go_at_call 37; refine (sessCheck_calls l index v S _ (h.below rSession_ok (by decide) ((Below.refl _ _).alloc (Nat.le_refl _) _))).mono ?_; rintro e w1 ⟨rfl, hb1⟩; obtain ⟨hc1, hf1⟩ := bcell hb1; have hs1 := hb1.size)
    all_goals refine bodyPost_ret (v := .tuple #[.slice none 0 0, .agg #[.int .i64 0, .int .i64 0, .string ⟨#[]⟩], .int .i64 2]) (by simp [results, Tryz.results52, go_sem, hc1]) rfl ⟨_, by rw [HJ.out]; rfl, ?_, ?_⟩
    all_goals first
      | (rw [HJ.out]; exact SlR.nil _ _)
      | (repeat (first | exact below_step (below_alloc w _) hb1 | refine below_set ?_ (Nat.le_refl _) _ _))
  have hok := sessCheck_ok.1 he
  have hbnd : ∀ x ∈ l, -1000000000000 ≤ x.client ∧ x.client ≤ 1000000000000 := fun x hx => by have := hok.bad x hx; unfold sessBad at this; omega
  have hin : ∀ x ∈ l, x.replies.length ≤ 1000000 := fun x hx => by have := replies_len (hok.rep x hx); omega
  have hl4 := hok.len
  have hidx := hok.idx
  have hfl := bs_le (fun i => sessCmp (l.getD i noSession) client) l.length
  by_cases hth : sThere l client = true
  case pos =>
    have HJ := Lib.hid (show join l index client = (l.set (sFind l client) { l.getD (sFind l client) noSession with last := index + 1 }, ⟨7, (l.getD (sFind l client) noSession).id, []⟩, 0) by rw [join, if_neg (by simpa using he), if_neg hcl, if_pos hth])
    have he' : (sessCheck l index != 0) = false := by simpa using he
    have hi0 : (index == 1073741824) = false := by simp; omega
    have hi1 : ¬ client < 1 := by omega
    have hi2 : ¬ 9 < client := by omega
    have hlt := sThere_lt hth
    have HB := Lib.hid hbnd
    have HN := Lib.hid hin
    have HO := Lib.hid hok
    have HT := Lib.hid hth
    generalize hfi : sFind l client = fi at *
    have HFI := Lib.hid hfi
    clear hfi hbnd hin hok he hcl hth hfl
    go_enter Tryz.func52, Tryz.ntmps52
    go_wp2_with fail
    refine (sessCheck_calls l index v S _ (h.below rSession_ok (by decide) ((Below.refl _ _).alloc (Nat.le_refl _) _))).mono ?_; rintro e w1 ⟨rfl, hb1⟩; obtain ⟨hc1, hf1⟩ := bcell hb1; have hs1 := hb1.size
    go_wp2_with fail
    refine (copySess_calls _ v l S (h.below rSession_ok (by decide) (below_step (below_alloc w _) hb1)) (by omega) HN.out).mono ?_; rintro e w2 ⟨v2, rfl, ho2, hb2, hv2⟩; obtain ⟨hc2, hf2⟩ := bcell hb2; have hs2 := hb2.size
    have hr2 := ho2.readSess hv2
    go_wp2_with fail
    refine (find_calls _ v2 l _ hr2 (by omega) client hc HB.out).mono ?_; rw [HFI.out, HT.out]; rintro e w3 ⟨rfl, hb3⟩; obtain ⟨hc3, hf3⟩ := bcell hb3; have hs3 := hb3.size
    obtain ⟨g, cap2, rfl, hgc, hgm, hg2, hfz⟩ := ho2.shapePos (by omega)
    have hgw := hv2 g rfl
    obtain ⟨row, G, hrow, hG, hcells, hch⟩ := (ho2.below (rSessO_ok _) hb3).change (rSessO_ok _) (by decide) fi hlt
    have hgd : l.getD fi noSession = l[fi] := by simp [List.getD, hlt]
    rw [hgd] at HJ
    clear hgd
    generalize l[fi] = x at *
    obtain ⟨rv, rfl, hrv, hrg⟩ := hrow
    obtain ⟨ra, rc, rfl⟩ := hrv.shape
    have q0 := hcells 0 _ rfl
    have q1 := hcells 1 _ rfl
    have q2 := hcells 2 _ rfl
    have q3 := hcells 3 _ rfl
    have q4 := hcells 4 _ rfl
    have q3w := (hc3 g _ hg2).symm.trans q3
    have q1w := (hc3 g _ hg2).symm.trans q1

    clear hcells
    have HC := Lib.hid hch
    clear hch
    have hb := below_step (below_step (below_alloc w _) hb1) (below_step (below_step (Below.refl _ _) hb2) hb3)
    have hb4 := below_set (below_step hb1 (below_step (below_step (Below.refl _ _) hb2) hb3)) (b := g) (by omega) (fi * 5 + 3) (.int .i64 (index + 1))
    simp only [World.size_alloc] at hb4
    have hgw' : w.heap.size < g := by rw [World.size_alloc] at hs1; omega
    have hw13 : w1.heap.size ≤ w3.heap.size := by omega
    have hww1 : w.heap.size < w1.heap.size := by rw [World.size_alloc] at hs1; omega
    obtain ⟨hz, hzf, hzs⟩ := fresh hb4
    have z0 := hz 0; have z1 := hz 1; have z2 := hz 2
    have zf0 := hzf 0; have zf1 := hzf 1; have zf2 := hzf 2
    have q1' := (World.cell?_setCell_other w3 ⟨g, fi * 5 + 3, none⟩ ⟨g, fi * 5 + 1, none⟩ (.int .i64 (index + 1)) (by simp)).trans q1
    clear hz hzf
    go_wp2
    go_region
    go_wp2
    refine bodyPost_ret (v := .tuple #[.slice (some ⟨g, 0, none⟩) l.length cap2, .agg #[.int .i64 7, .int .i64 x.id, .string ⟨#[]⟩], .int .i64 0]) (by simp [results, Tryz.results52, go_sem, z0, z1, z2, zf0, zf1, zf2]) rfl ⟨_, by rw [HJ.out], ?_, ?_⟩
    · rw [HJ.out]
      refine HC.out _ _ _ [.int .i64 x.client, .int .i64 x.id, .int .i64 x.acked, .int .i64 (index + 1), .slice ra x.replies.length rc] _ rfl (fun _ _ _ _ hr => hr.read) ?_ ?_ ?_ ?_ ?_ ?_
      · intro j hj; (repeat (first | with_reducible rfl | with_reducible assumption | with_reducible refine (Go.Tk.cell_drew _ _).trans ?_ | with_reducible refine (Go.Tk.cell_far (by omega)).trans ?_ | with_reducible refine (Go.Tk.cell_near (by omega)).trans ?_ | with_reducible exact World.cell?_setCell_same _ _ _ (by with_reducible assumption)))
      · intro j u hu
        have q3' := World.cell?_setCell_same w3 ⟨g, fi * 5 + 3, none⟩ (.int .i64 (index + 1)) q3
        match j, hu with
        | 0, hu => cases hu; (repeat (first | with_reducible rfl | with_reducible assumption | with_reducible refine (Go.Tk.cell_drew _ _).trans ?_ | with_reducible refine (Go.Tk.cell_far (by omega)).trans ?_ | with_reducible refine (Go.Tk.cell_near (by omega)).trans ?_ | with_reducible exact World.cell?_setCell_same _ _ _ (by with_reducible assumption)))
        | 1, hu => cases hu; (repeat (first | with_reducible rfl | with_reducible assumption | with_reducible refine (Go.Tk.cell_drew _ _).trans ?_ | with_reducible refine (Go.Tk.cell_far (by omega)).trans ?_ | with_reducible refine (Go.Tk.cell_near (by omega)).trans ?_ | with_reducible exact World.cell?_setCell_same _ _ _ (by with_reducible assumption)))
        | 2, hu => cases hu; (repeat (first | with_reducible rfl | with_reducible assumption | with_reducible refine (Go.Tk.cell_drew _ _).trans ?_ | with_reducible refine (Go.Tk.cell_far (by omega)).trans ?_ | with_reducible refine (Go.Tk.cell_near (by omega)).trans ?_ | with_reducible exact World.cell?_setCell_same _ _ _ (by with_reducible assumption)))
        | 3, hu => cases hu; (repeat (first | with_reducible rfl | with_reducible assumption | with_reducible refine (Go.Tk.cell_drew _ _).trans ?_ | with_reducible refine (Go.Tk.cell_far (by omega)).trans ?_ | with_reducible refine (Go.Tk.cell_near (by omega)).trans ?_ | with_reducible exact World.cell?_setCell_same _ _ _ (by with_reducible assumption)))
        | 4, hu => cases hu; (repeat (first | with_reducible rfl | with_reducible assumption | with_reducible refine (Go.Tk.cell_drew _ _).trans ?_ | with_reducible refine (Go.Tk.cell_far (by omega)).trans ?_ | with_reducible refine (Go.Tk.cell_near (by omega)).trans ?_ | with_reducible exact World.cell?_setCell_same _ _ _ (by with_reducible assumption)))
      · intro b hb h1 h2 h3
        have hb' : w1.heap.size ≤ b := hb
        (repeat (first | with_reducible rfl | with_reducible assumption | with_reducible refine (Go.Tk.heap_drew _ _).trans ?_ | with_reducible refine (Go.Tk.heap_far (by omega)).trans ?_))
      · intro b hb; show _ ≤ _ ; omega
      · show _ ≤ _ ; omega
      · refine rSessO.read (EK := 55) ⟨_, rfl, hrv.move rKept_ok (fun g' hg' => ?_) (fun b hb => hb.elim), fun g' hg' => ?_⟩
        · have := hG g' (hrg g' hg')
          (repeat (first | with_reducible rfl | with_reducible assumption | with_reducible refine (Go.Tk.heap_drew _ _).trans ?_ | with_reducible refine (Go.Tk.heap_far (by omega)).trans ?_))
        · have := hG g' (hrg g' hg')
          show _ ≤ _; omega
    · (repeat (first | with_reducible exact (below_alloc w _).trans (hb4.mono (Nat.le_succ _)) | with_reducible refine Below.drew ?_ | with_reducible refine below_set ?_ (by omega) _ _ | with_reducible refine Below.alloc ?_ (by omega) _))
  case neg =>
    have hfl' : sFind l client ≤ l.length := hfl
    have he' : (sessCheck l index != 0) = false := by simpa using he
    have hi0 : (index == 1073741824) = false := by simp; omega
    have hi1 : ¬ client < 1 := by omega
    have hi2 : ¬ 9 < client := by omega
    have hth' : sThere l client = false := by simpa using hth
    have HJ1 := Lib.hid (show join l index client = if l.length = 4 then (l, ⟨8, 0, []⟩, 0) else (l.take (sFind l client) ++ ⟨client, index + 1, 0, index + 1, []⟩ :: l.drop (sFind l client), ⟨0, index + 1, []⟩, 0) by rw [join, if_neg (by simpa using he), if_neg hcl, if_neg hth])
    have HB := Lib.hid hbnd
    have HN := Lib.hid hin
    have HO := Lib.hid hok
    have HT := Lib.hid hth'
    generalize hfi : sFind l client = fi at *
    have HFI := Lib.hid hfi
    clear hfi hbnd hin hok he hcl hth hfl hth'
    by_cases hln : l.length = 4
    · have HJ := Lib.hid (HJ1.out.trans (if_pos hln))
      clear HJ1
      go_enter Tryz.func52, Tryz.ntmps52
      go_wp2_with fail
      refine (sessCheck_calls l index v S _ (h.below rSession_ok (by decide) ((Below.refl _ _).alloc (Nat.le_refl _) _))).mono ?_; rintro e w1 ⟨rfl, hb1⟩; obtain ⟨hc1, hf1⟩ := bcell hb1; have hs1 := hb1.size
      go_wp2_with fail
      refine (copySess_calls _ v l S (h.below rSession_ok (by decide) (below_step (below_alloc w _) hb1)) (by omega) HN.out).mono ?_; rintro e w2 ⟨v2, rfl, ho2, hb2, hv2⟩; obtain ⟨hc2, hf2⟩ := bcell hb2; have hs2 := hb2.size
      have hr2 := ho2.readSess hv2
      go_wp2_with fail
      refine (find_calls _ v2 l _ hr2 (by omega) client hc HB.out).mono ?_; rw [HFI.out, HT.out]; rintro e w3 ⟨rfl, hb3⟩; obtain ⟨hc3, hf3⟩ := bcell hb3; have hs3 := hb3.size
      have hr3 := hr2.below rSession_ok (by decide) hb3
      obtain ⟨ra, rc, rfl⟩ : ∃ a c, v2 = .slice a l.length c := by obtain ⟨a, c, h, _⟩ := hr2; exact ⟨a, c, h⟩
      have hb4 := below_step hb1 (below_step (below_step (Below.refl _ _) hb2) hb3)
      have hww1 : w.heap.size < w1.heap.size := by rw [World.size_alloc] at hs1; omega
      simp only [World.size_alloc] at hb4
      obtain ⟨hz, hzf, hzs⟩ := fresh hb4
      have z0 := hz 0; have z1 := hz 1; have z2 := hz 2
      have zf0 := hzf 0; have zf1 := hzf 1; have zf2 := hzf 2
      clear hz hzf
      go_wp2
      refine bodyPost_ret (v := .tuple #[.slice ra l.length rc, .agg #[.int .i64 8, .int .i64 0, .string ⟨#[]⟩], .int .i64 0]) (by simp [results, Tryz.results52, go_sem, z0, z1, z2, zf0, zf1, zf2, hln]) rfl ⟨_, by rw [HJ.out], ?_, ?_⟩
      · rw [HJ.out]
        refine (hr3.move rSession_ok (by decide) fun b hb hlt => ⟨?_, ?_⟩)
        · (repeat (first | with_reducible rfl | with_reducible assumption | with_reducible refine (Go.Tk.heap_drew _ _).trans ?_ | with_reducible refine (Go.Tk.heap_far (by omega)).trans ?_))
        · show _ ≤ _; omega
      · (repeat (first | with_reducible exact (below_alloc w _).trans (hb4.mono (Nat.le_succ _)) | with_reducible refine Below.drew ?_ | with_reducible refine below_set ?_ (by omega) _ _ | with_reducible refine Below.alloc ?_ (by omega) _))
    · have HJ := Lib.hid (HJ1.out.trans (if_neg hln))
      clear HJ1
      go_enter Tryz.func52, Tryz.ntmps52
      go_wp2_with fail
      refine (sessCheck_calls l index v S _ (h.below rSession_ok (by decide) ((Below.refl _ _).alloc (Nat.le_refl _) _))).mono ?_; rintro e w1 ⟨rfl, hb1⟩; obtain ⟨hc1, hf1⟩ := bcell hb1; have hs1 := hb1.size
      go_wp2_with fail
      refine (copySess_calls _ v l S (h.below rSession_ok (by decide) (below_step (below_alloc w _) hb1)) (by omega) HN.out).mono ?_; rintro e w2 ⟨v2, rfl, ho2, hb2, hv2⟩; obtain ⟨hc2, hf2⟩ := bcell hb2; have hs2 := hb2.size
      have hr2 := ho2.readSess hv2
      go_wp2_with fail
      refine (find_calls _ v2 l _ hr2 (by omega) client hc HB.out).mono ?_; rw [HFI.out, HT.out]; rintro e w3 ⟨rfl, hb3⟩; obtain ⟨hc3, hf3⟩ := bcell hb3; have hs3 := hb3.size
      have hr3 := hr2.below rSession_ok (by decide) hb3
      obtain ⟨ra, rc, rfl⟩ : ∃ a c, v2 = .slice a l.length c := by obtain ⟨a, c, h, _⟩ := hr2; exact ⟨a, c, h⟩
      have ho3 := ((ho2.below (rSessO_ok _) hb3).own (rSessO_ok _)).map (R' := rSession) fun _ _ _ _ hr => hr.read
      go_wp2_with fail
      refine (insertSess_calls rSession_ok l fi hfl' ⟨client, index + 1, 0, index + 1, []⟩ #[.int .i64 client, .int .i64 (index + 1), .int .i64 0, .int .i64 (index + 1), .slice none 0 0] w3 _ _ ho3 ⟨_, rfl, SlR.nil _ _⟩ (by omega)).mono ?_; rintro e w4 ⟨v4, rfl, ho4, hg4, hv4⟩
      have hb4 := (below_step hb1 (below_step (below_step (Below.refl _ _) hb2) hb3)).grown hg4 (by omega) (fun k hk => Nat.le_trans hs1 (hv2 k hk))
      have hr4 := ho4.read rSession_ok (by decide) (fun g hg => by
        rcases hv4 with h | ⟨g', h, hg'⟩
        · rw [h] at hg; exact hv2 g hg
        · rw [h] at hg; cases hg; omega)
      obtain ⟨rb, rd, rfl⟩ : ∃ a c, v4 = .slice a (l.length + 1) c := by obtain ⟨a, c, h, _⟩ := hr4; refine ⟨a, c, ?_⟩; rw [h]; simp; omega
      have hww1 : w.heap.size < w1.heap.size := by rw [World.size_alloc] at hs1; omega
      simp only [World.size_alloc] at hb4
      obtain ⟨hz, hzf, hzs⟩ := fresh hb4
      have z0 := hz 0; have z1 := hz 1; have z2 := hz 2
      have zf0 := hzf 0; have zf1 := hzf 1; have zf2 := hzf 2
      clear hz hzf
      go_wp2
      refine bodyPost_ret (v := .tuple #[.slice rb (l.length + 1) rd, .agg #[.int .i64 0, .int .i64 (index + 1), .string ⟨#[]⟩], .int .i64 0]) (by simp [results, Tryz.results52, go_sem, z0, z1, z2, zf0, zf1, zf2]) rfl ⟨_, by rw [HJ.out], ?_, ?_⟩
      · rw [HJ.out]
        refine (hr4.move rSession_ok (by decide) fun b hb hlt => ⟨?_, ?_⟩)
        · (repeat (first | with_reducible rfl | with_reducible assumption | with_reducible refine (Go.Tk.heap_drew _ _).trans ?_ | with_reducible refine (Go.Tk.heap_far (by omega)).trans ?_))
        · show _ ≤ _; omega
      · (repeat (first | with_reducible exact (below_alloc w _).trans (hb4.mono (Nat.le_succ _)) | with_reducible refine Below.drew ?_ | with_reducible refine below_set ?_ (by omega) _ _ | with_reducible refine Below.alloc ?_ (by omega) _))
end Go.Proofs.YtcmmenmjclgjmaaGreatDoor

/- A slice of a call's own, of which one element is another one, or the end is cut off. No program in sight. -/
namespace Go.Tk
open Go Go.RowKit

/-- A block has as many cells as it had. -/
def KeepsRow (g : Nat) (w w' : World) : Prop := ∀ cur E fz, w.heap[g]? = some (.cells cur E fz) → ∃ cur', w'.heap[g]? = some (.cells cur' E fz) ∧ cur'.size = cur.size
theorem KeepsRow.refl (g : Nat) (w : World) : KeepsRow g w w := fun cur _ _ h => ⟨cur, h, rfl⟩
theorem KeepsRow.trans {g : Nat} {a b c : World} (h : KeepsRow g a b) (k : KeepsRow g b c) : KeepsRow g a c := fun cur E fz hc => by
  obtain ⟨c1, h1, h2⟩ := h cur E fz hc
  obtain ⟨c2, h3, h4⟩ := k c1 E fz h1
  exact ⟨c2, h3, h4.trans h2⟩
theorem KeepsRow.same {g : Nat} {w w' : World} (h : w'.heap[g]? = w.heap[g]?) : KeepsRow g w w' := fun cur _ _ hc => ⟨cur, h.trans hc, rfl⟩
theorem KeepsRow.set {g : Nat} {a w : World} (h : KeepsRow g a w) (b o : Nat) (u : Value) : KeepsRow g a (w.setCell ⟨b, o, none⟩ u) := h.trans fun cur E fz hc => by
  by_cases hb : g = b
  · subst hb
    simp only [World.setCell, Array.getElem?_modify, ↓reduceIte, hc, Option.map_some]
    exact ⟨_, rfl, by simp⟩
  · exact ⟨cur, (heap_far hb).trans hc, rfl⟩
theorem KeepsRow.drew {g : Nat} {a w : World} (h : KeepsRow g a w) : KeepsRow g a w.drew := h
theorem KeepsRow.alloc {g : Nat} {a w : World} (h : KeepsRow g a w) (hg : g < w.heap.size) (o : Obj) : KeepsRow g a (w.alloc o) := h.trans (.same (Below.heap_alloc w o g hg))

theorem cells_take {w : World} {g : Nat} {cur : Array Value} {E : TypeId} {fz : Nat × Nat} (h : w.heap[g]? = some (.cells cur E fz)) (j : Nat) : w.cell? ⟨g, j, none⟩ = cur[j]? := by
  simp [World.cell?, h]

theorem OwR.set {α : Type} {E k : Nat} {R : Rel α} (hR : RelOk R k) {w w' : World} {g cap n : Nat} {l : List α} {S : Nat → Prop} (h : OwR E k R w (.slice (some ⟨g, 0, none⟩) n cap) l S) {i : Nat} (hi : i < l.length) {x : α} {cs : List Value}
    (hx : R w cs x (fun b => S b ∧ b ≠ g)) (hrow : KeepsRow g w w') (hout : ∀ j, j < i * k ∨ i * k + k ≤ j → w'.cell? ⟨g, j, none⟩ = w.cell? ⟨g, j, none⟩) (hin : ∀ (j : Nat) (u : Value), cs[j]? = some u → w'.cell? ⟨g, i * k + j, none⟩ = some u)
    (hblk : ∀ b, S b → b ≠ g → b < w.heap.size → w'.heap[b]? = w.heap[b]?) : OwR E k R w' (.slice (some ⟨g, 0, none⟩) n cap) (l.set i x) S := by
  obtain ⟨rows, h1, h2, h3⟩ := h
  have hcs := hR.len hx
  have hlen := OwR.rowsLen (E := E) (v := .slice (some ⟨g, 0, none⟩) n cap) hR h1 h3
  have hx' : R w' cs x (fun b => S b ∧ b ≠ g) := hR.move hx fun b hb hl => ⟨hblk b hb.1 hb.2 hl, hb⟩
  rcases h2.2 with ⟨h, _⟩ | ⟨g', cap', cur, hv, hb0, hg, hc, hm, hsz, htk⟩
  · simp at h
  simp only [Value.slice.injEq, Option.some.injEq, Addr.mk.injEq, and_true] at hv
  obtain ⟨rfl, rfl, rfl⟩ := hv
  obtain ⟨cur', hg', hs'⟩ := hrow cur E _ hg
  have hlen' : ∀ r ∈ rows.set i cs, r.length = k := by
    intro r hr
    rcases List.mem_or_eq_of_mem_set hr with h | h
    · exact hlen r h
    · rw [h]; exact hcs
  have hfl : (rows.set i cs).flatten.length = l.length * k := by
    have : ∀ (rs : List (List Value)), (∀ r ∈ rs, r.length = k) → rs.flatten.length = rs.length * k := by
      intro rs; induction rs with
      | nil => intro _; simp
      | cons r rs ih => intro hh; simp only [List.flatten_cons, List.length_append, List.length_cons]; rw [ih fun r hr => hh r (by simp [hr]), hh r (by simp), Nat.add_mul]; omega
    rw [this _ hlen', List.length_set, h1]
  refine ⟨rows.set i cs, by simp [h1], ⟨by rw [hfl, List.length_set], .inr ⟨g, cap, cur', ?_, hb0, hg', ?_, hm, by rw [hs']; exact hsz, ?_⟩⟩, fun q r y hr hy => ?_⟩
  · rw [List.length_set]
  · rw [List.length_set]; exact hc
  · rw [List.length_set]
    refine List.ext_getElem? fun j => ?_
    rcases Nat.lt_or_ge j (l.length * k) with hj | hj
    · rw [List.getElem?_take_of_lt hj]
      have hkp : 0 < k := by rcases Nat.eq_zero_or_pos k with h | h; (subst h; omega); exact h
      obtain ⟨u, hu⟩ : ∃ u, (rows.set i cs).flatten[j]? = some u := ⟨_, List.getElem?_eq_getElem (by rw [hfl]; exact hj)⟩
      rw [hu]
      obtain ⟨r, hr, hru⟩ := flatten_at hkp _ hlen' j u hu
      have hjj : j / k * k + j % k = j := by rw [Nat.mul_comm]; exact Nat.div_add_mod j k
      have hmod := Nat.mod_lt j hkp
      rw [Array.getElem?_toList, ← cells_take hg' j]
      by_cases hq : j / k = i
      · rw [hq, List.getElem?_set_self (by omega)] at hr
        cases hr
        have := hin (j % k) u hru
        rw [hq] at hjj
        rwa [hjj] at this
      · rw [List.getElem?_set_ne (Ne.symm hq)] at hr
        rw [hout j ?_, cells_take hg j, ← Array.getElem?_toList]
        · have := flatten_getElem? rows hlen (j / k) (j % k) r u hr hru
          rw [hjj, ← htk, List.getElem?_take_of_lt hj] at this
          exact this
        · rcases Nat.lt_or_ge (j / k) i with h | h
          · left
            have := Nat.mul_le_mul_right k (show j / k + 1 ≤ i by omega)
            rw [Nat.add_mul] at this; omega
          · right
            have := Nat.mul_le_mul_right k (show i + 1 ≤ j / k by omega)
            rw [Nat.add_mul] at this; omega
    · rw [List.getElem?_eq_none (by rw [List.length_take]; omega), List.getElem?_eq_none (by rw [hfl]; exact hj)]
  · have hS : ∀ b, S b ∧ some b ≠ (Value.slice (some ⟨g, 0, none⟩) l.length cap).ownBlock → b < w.heap.size → w'.heap[b]? = w.heap[b]? ∧ S b ∧ some b ≠ (Value.slice (some ⟨g, 0, none⟩) l.length cap).ownBlock := fun b hb hl =>
      ⟨hblk b hb.1 (fun e => hb.2 (by rw [e]; rfl)) hl, hb⟩
    by_cases hq : q = i
    · subst hq
      rw [List.getElem?_set_self (by omega)] at hr
      rw [List.getElem?_set_self hi] at hy
      cases hr; cases hy
      exact hR.sub hx' fun b hb _ => ⟨hb.1, fun e => hb.2 (by simpa [Value.ownBlock] using e)⟩
    · rw [List.getElem?_set_ne (Ne.symm hq)] at hr hy
      exact hR.move (h3 q r y hr hy) hS
/-- The cells of one element of a slice of one's own. -/
theorem OwR.at {α : Type} {E k : Nat} {R : Rel α} (hR : RelOk R k) {w : World} {g cap n : Nat} {l : List α} {S : Nat → Prop} (h : OwR E k R w (.slice (some ⟨g, 0, none⟩) n cap) l S) {i : Nat} (hi : i < l.length) :
    ∃ row, R w row l[i] (fun b => S b ∧ b ≠ g) ∧ ∀ (j : Nat) (u : Value), row[j]? = some u → w.cell? ⟨g, i * k + j, none⟩ = some u := by
  obtain ⟨rows, h1, h2, h3⟩ := h
  have hlen := OwR.rowsLen (E := E) (v := .slice (some ⟨g, 0, none⟩) n cap) hR h1 h3
  have hr : rows[i]? = some (rows[i]'(by omega)) := List.getElem?_eq_getElem (by omega)
  refine ⟨_, hR.sub (h3 i _ _ hr (List.getElem?_eq_getElem hi)) fun b hb _ => ⟨hb.1, fun e => hb.2 (by rw [e]; rfl)⟩, fun j u hu => ?_⟩
  have := h2.cells (g := g) rfl (i * k + j) u (flatten_getElem? rows hlen i j _ u hr hu)
  rwa [Addr.add_lit, Nat.zero_add] at this
/-- The end of it cut off, whatever stands behind. -/
theorem OwR.cut {α : Type} {E k : Nat} {R : Rel α} (hR : RelOk R k) {w w' : World} {g cap n : Nat} {l : List α} {S : Nat → Prop} (h : OwR E k R w (.slice (some ⟨g, 0, none⟩) n cap) l S) {i : Nat} (hi : i ≤ l.length) (hrow : KeepsRow g w w')
    (hout : ∀ j, j < i * k → w'.cell? ⟨g, j, none⟩ = w.cell? ⟨g, j, none⟩) (hblk : ∀ b, S b → b ≠ g → b < w.heap.size → w'.heap[b]? = w.heap[b]?) : OwR E k R w' (.slice (some ⟨g, 0, none⟩) i cap) (l.take i) S := by
  obtain ⟨rows, h1, h2, h3⟩ := h
  have hlen := OwR.rowsLen (E := E) (v := .slice (some ⟨g, 0, none⟩) n cap) hR h1 h3
  rcases h2.2 with ⟨h, _⟩ | ⟨g', cap', cur, hv, hb0, hg, hc, hm, hsz, htk⟩
  · simp at h
  simp only [Value.slice.injEq, Option.some.injEq, Addr.mk.injEq, and_true] at hv
  obtain ⟨rfl, rfl, rfl⟩ := hv
  obtain ⟨cur', hg', hs'⟩ := hrow cur E _ hg
  have hil : (l.take i).length = i := by rw [List.length_take]; omega
  have hik := Nat.mul_le_mul_right k hi
  have hck := Nat.mul_le_mul_right k hc
  have hcl : cur.toList.length = cap * k := by simpa using hsz
  have hfl : rows.flatten.length = l.length * k := h2.1
  refine ⟨rows.take i, by simp [h1], ⟨by rw [flatten_take rows hlen, hil, List.length_take, hfl]; omega, .inr ⟨g, cap, cur', by rw [hil], hb0, hg', by rw [hil]; omega, hm, by rw [hs']; exact hsz, ?_⟩⟩, fun q r y hr hy => ?_⟩
  · rw [hil, flatten_take rows hlen, ← htk, List.take_take, Nat.min_eq_left hik]
    refine List.ext_getElem? fun j => ?_
    rcases Nat.lt_or_ge j (i * k) with hj | hj
    · rw [List.getElem?_take_of_lt hj, List.getElem?_take_of_lt hj, Array.getElem?_toList, Array.getElem?_toList, ← cells_take hg' j, ← cells_take hg j]
      exact hout j hj
    · rw [List.getElem?_eq_none (by rw [List.length_take]; omega), List.getElem?_eq_none (by rw [List.length_take]; omega)]
  · have hqi : q < i := by
      rcases Nat.lt_or_ge q i with h | h
      · exact h
      · rw [List.getElem?_eq_none (by rw [hil]; exact h)] at hy; cases hy
    rw [List.getElem?_take_of_lt hqi] at hr hy
    exact hR.move (h3 q r y hr hy) fun b hb hl => ⟨hblk b hb.1 (fun e => hb.2 (by rw [e]; rfl)) hl, hb.1, fun e => hb.2 e⟩
theorem grownBy_set {a w : World} {r : Option Nat} (h : a.grownBy w r) {b : Nat} (hb : r = some b ∨ a.heap.size ≤ b) (o : Nat) (u : Value) : a.grownBy (w.setCell ⟨b, o, none⟩ u) r :=
  ⟨h.os, h.tape, h.output, by simpa [World.setCell] using h.size, fun k hk hr => (heap_far (by rcases hb with e | e; (intro e'; exact hr (by rw [e, e'])); omega)).trans (h.block k hk hr)⟩
theorem grownBy_set1 {a w : World} {g : Nat} (h : a.grownBy w (some g)) (o : Nat) (u : Value) : a.grownBy (w.setCell ⟨g, o, none⟩ u) (some g) := grownBy_set h (.inl rfl) o u
theorem grownBy_alloc {a w : World} {r : Option Nat} (h : a.grownBy w r) (o : Obj) : a.grownBy (w.alloc o) r :=
  ⟨h.os, h.tape, h.output, by have := h.size; simp; omega, fun k hk hr => (Below.heap_alloc w o k (Nat.lt_of_lt_of_le hk h.size)).trans (h.block k hk hr)⟩
theorem grownBy_below {a w w' : World} {r : Option Nat} (h : a.grownBy w r) (hb : Below w.heap.size w w') : a.grownBy w' r :=
  ⟨hb.os.trans h.os, hb.tape.trans h.tape, hb.output.trans h.output, Nat.le_trans h.size hb.size, fun k hk hr => (hb.block k (Nat.lt_of_lt_of_le hk h.size)).trans (h.block k hk hr)⟩
theorem grownBy_any {a w : World} (h : Below a.heap.size a w) (r : Option Nat) : a.grownBy w r := grownBy_below (grownBy_refl a r) h
/-- The list steps of slices.DeleteFunc. -/
theorem keep_first {α : Type} {p : α → Bool} {l : List α} {n : Nat} (hn : n < l.length) (h : p l[n] = true) (hb : ∀ (j : Nat) (hj : j < l.length), j < n → p l[j] = false) : l.take n = (l.take (n + 1)).filter (fun x => !p x) := by
  rw [List.take_succ_eq_append_getElem hn, List.filter_append]
  have h1 : (l.take n).filter (fun x => !p x) = l.take n := List.filter_eq_self.2 fun x hx => by
    obtain ⟨j, hj, rfl⟩ := List.getElem_of_mem hx
    rw [List.length_take] at hj
    rw [List.getElem_take, hb j (by omega) (by omega)]; rfl
  rw [h1]; simp [h]
theorem keep_skip {α : Type} {p : α → Bool} {l m : List α} {a b : Nat} (hb : b < l.length) (h : p l[b] = true) (hm : m.take a = (l.take b).filter (fun x => !p x)) : m.take a = (l.take (b + 1)).filter (fun x => !p x) := by
  rw [List.take_succ_eq_append_getElem hb, List.filter_append, ← hm]; simp [h]
theorem keep_take {α : Type} {p : α → Bool} {l m : List α} {a b : Nat} (hb : b < l.length) (ha : a < m.length) (h : p l[b] = false) (hm : m.take a = (l.take b).filter (fun x => !p x)) : (m.set a l[b]).take (a + 1) = (l.take (b + 1)).filter (fun x => !p x) := by
  rw [List.take_succ_eq_append_getElem hb, List.filter_append, ← hm, List.take_succ_eq_append_getElem (by simpa using ha), List.take_set_of_le (Nat.le_refl _)]; simp [h]
theorem keep_drop {α : Type} {l m : List α} {a b : Nat} (hab : a < b) (x : α) (hm : m.drop b = l.drop b) : (m.set a x).drop (b + 1) = l.drop (b + 1) := by
  rw [List.drop_set_of_lt (by omega), ← List.drop_drop, hm, List.drop_drop]
theorem drop_at {α : Type} {l m : List α} {b : Nat} (hb : b < l.length) (hl : m.length = l.length) (hm : m.drop b = l.drop b) : m[b]'(by omega) = l[b] := by
  have h1 : (m.drop b)[0]'(by simp; omega) = (l.drop b)[0]'(by simp; omega) := by simp only [hm]
  simpa using h1
theorem drop_more {α : Type} {l m : List α} {b : Nat} (hm : m.drop b = l.drop b) : m.drop (b + 1) = l.drop (b + 1) := by
  rw [← List.drop_drop, hm, List.drop_drop]
theorem KeepsRow.sets {g b : Nat} : ∀ (vs : List Value) (o : Nat) {a w : World}, KeepsRow g a w → KeepsRow g a (w.setCells b o vs)
  | [], _, _, _, h => h
  | v :: r, o, _, _, h => KeepsRow.sets r (o + 1) (h.set b o v)
theorem heap_sets {b k : Nat} (h : k ≠ b) : ∀ (vs : List Value) (o : Nat) (w : World), (w.setCells b o vs).heap[k]? = w.heap[k]?
  | [], _, _ => rfl
  | v :: r, o, w => (heap_sets h r (o + 1) _).trans (heap_far h)
theorem grownBy_sets {a : World} {r : Option Nat} {b : Nat} (hb : r = some b ∨ a.heap.size ≤ b) : ∀ (vs : List Value) (o : Nat) (w : World), a.grownBy w r → a.grownBy (w.setCells b o vs) r
  | [], _, _, h => h
  | v :: vs, o, w, h => grownBy_sets hb vs (o + 1) _ (grownBy_set h hb o v)
theorem below_sets {B b : Nat} {a : World} (hb : B ≤ b) : ∀ (vs : List Value) (o : Nat) (w : World), Below B a w → Below B a (w.setCells b o vs)
  | [], _, _, h => h
  | v :: vs, o, w, h => below_sets hb vs (o + 1) _ (below_set h hb o v)
/-- One element overwritten, as a store does it. -/
theorem OwR.setRow {α : Type} {E k : Nat} {R : Rel α} (hR : RelOk R k) {w : World} {g cap n : Nat} {l : List α} {S : Nat → Prop} (h : OwR E k R w (.slice (some ⟨g, 0, none⟩) n cap) l S) {i : Nat} (hi : i < l.length) {x : α} {cs : List Value}
    (hx : R w cs x (fun b => S b ∧ b ≠ g)) : OwR E k R (w.setCells g (i * k) cs) (.slice (some ⟨g, 0, none⟩) n cap) (l.set i x) S := by
  have hlen := hR.len hx
  refine h.set hR hi hx (KeepsRow.sets _ _ (KeepsRow.refl _ _)) (fun j hj => ?_) (fun j u hu => ?_) (fun b _ hb _ => heap_sets hb _ _ _)
  · refine World.cell?_setCells_out _ _ _ _ _ fun _ _ => ?_
    show j < _ ∨ _ ≤ j; omega
  · obtain ⟨row, hrow, hc⟩ := h.at hR hi
    have hrl := hR.len hrow
    have hj : j < cs.length := by
      rcases Nat.lt_or_ge j cs.length with h | h
      · exact h
      · rw [List.getElem?_eq_none h] at hu; cases hu
    rw [World.cell?_setCells_in g cs (i * k) w (fun q hq => ?_) j hj]
    · rw [List.getElem?_eq_getElem hj] at hu; exact hu
    · have := hc q _ (List.getElem?_eq_getElem (by omega))
      rw [this]; rfl
end Go.Tk
