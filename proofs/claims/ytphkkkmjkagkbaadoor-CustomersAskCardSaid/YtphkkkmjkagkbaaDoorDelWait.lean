/- slices.Delete of one call that waits. -/
import Derived.Test.YtphkkkmjkagkbaaDoorRows
import Derived.Test.YtphkkkmjkagkbaaDoorOwF
import Derived.Test.YtphkkkmjkagkbaaDoorCloneWait
import Derived.Test.YtphkkkmjkagkbaaDoorCustD
import Derived.WalkLawsBesides
import Derived.Deep.RegionLaw
import Derived.BigQuiet
import Derived.Deep.QuietTactic
namespace Go.Proofs.YtphkkkmjkagkbaaDoor
open Go.RowKit Go.Tk

theorem Tryd.zeroWait : ∀ i z, Tryd.prog.info? 97 = some i → i.zero = some z → ∀ v ∈ z.cells.toList, v.oneCell' = true := by
  intro i z hi hz
  have h : (Tryd.prog.info? 97).map (fun i => i.zero) = some (some (.agg #[.int .i64 0, .int .i64 0, .string ⟨#[]⟩, .string ⟨#[]⟩, .int .i64 0])) := by kernel_rfl
  rw [hi] at h
  simp only [Option.map_some, Option.some.injEq] at h
  rw [h] at hz
  cases hz
  intro v hv
  simp [Value.cells] at hv
  first | (rcases hv with rfl | rfl | rfl | rfl | rfl <;> rfl) | (rcases hv with rfl | rfl | rfl <;> rfl) | (rcases hv with rfl | rfl <;> rfl)

set_option maxRecDepth 100000 in
set_option maxHeartbeats 800000 in
theorem delWait_calls (w : World) (v : Value) (l : List WaitD) (S : Nat → Prop) (h : OwF 97 5 rWait w v l S) (hn : l.length ≤ 1000000) (i : Nat) (hi : i < l.length) :
    Calls Tryd.prog 47 #[v, .int .i64 i, .int .i64 ((i : Int) + 1)] w fun e w' => ∃ v', e = .returned v' ∧ OwF 97 5 rWait w' v' (l.eraseIdx i) S ∧ w.grownBy w' v.ownBlock ∧ v'.ownBlock = v.ownBlock := by
  obtain ⟨g, off, n, cap, rfl⟩ : ∃ g off n cap, v = .slice (some ⟨g, off, none⟩) n cap := by
    rcases h with ⟨_, h⟩ | ⟨g, off, cap, cur, rows, hv, _⟩
    · subst h; simp at hi
    · exact ⟨g, off, _, cap, hv⟩
  obtain ⟨cur, news, hg, hnl, hnc, hcm, hfit, hnews, hone, hcell, cur', hg', hsz, hfin⟩ := OwF.erase (w := w.drew) rWait_ok (h.move rWait_ok (fun _ _ => rfl) (fun _ h _ _ => ⟨rfl, h⟩)) hi
  subst hnl
  have hin : (l.length - (i + 1)) + i = l.length - 1 := by omega
  obtain ⟨p, hp⟩ : ∃ p, l.length = p + 1 := ⟨l.length - 1, by omega⟩
  obtain ⟨zs, hzl, hr2⟩ := run_clear_tk (P := Tryd.prog) (ty := 0) (w.drew.setCells g (off + i * 5) news) Tryd.tycWait g (off + p * 5) 1 (cap - p) cur' hg' (by omega) Tryd.zeroWait
  have hgb : w.grownBy ((w.drew.setCells g (off + i * 5) news).setRow g (splice cur'.toList (off + p * 5) zs).toArray) (some g) :=
    grownBy_trans (grownBy_trans (grownBy_drew (grownBy_refl w _)) (grownBy_sets (.inl rfl) _ _ _ (grownBy_refl w.drew _))) (grownBy_setRow _ g _)
  have hfz := hfin zs (hzl.trans (by omega))
  rw [show l.length - 1 = p by omega] at hfz
  have hfz' : OwF 97 5 rWait ((w.drew.setCells g (off + i * 5) news).setRow g (splice cur'.toList (off + p * 5) zs).toArray) (.slice (some ⟨g, off, none⟩) p cap) (l.eraseIdx i) S := hfz.move rWait_ok (fun _ _ => rfl) (fun _ h _ _ => ⟨rfl, h⟩)
  have HF := Lib.hid (And.intro hfz' hgb)
  clear hfz hfz' hfin hgb
  obtain ⟨wf, hwf⟩ : ∃ wf, wf = (w.drew.setCells g (off + i * 5) news).setRow g (splice cur'.toList (off + p * 5) zs).toArray := ⟨_, rfl⟩
  rw [← hwf] at hr2 HF
  clear hwf hg' hzl hsz
  obtain ⟨inf, z, hi1, hz1, hs1, hb1, hzs1⟩ := (Tryd.tycWait).parts
  have hi' : i ≤ p := by omega
  have hr1 : ∀ ad : Addr, (∀ (j : Nat) (u : Value), news[j]? = some u → w.cell? (ad.add j) = some u) →
      (Builtin.append_ #[61, 61] 61 #[.slice (some ⟨g, off, none⟩) i cap, .slice (some ad) (p - i) (cap - (i + 1))]).run Tryd.prog w.drew = .ok (.slice (some ⟨g, off, none⟩) p cap) (w.drew.setCells g (off + i * 5) news) := fun ad had => by
    have := run_append_room_cells (P := Tryd.prog) w.drew 61 61 97 inf Tryd.underlying61 hi1 g off i cap ad (p - i) (cap - (i + 1)) news (by rw [hs1]; omega) had hone (by omega)
      (fun j hj => by rw [hs1]; show (w.drew.cell? _).isSome = true; rw [cells_take hg, Array.getElem?_eq_getElem (by omega)]; rfl) (fun j hj => frozen_of_row w g _ cur _ hg)
    rw [hs1, show i + (p - i) = p by omega] at this
    exact this
  have HR1 := Lib.hid hr1
  have HC := Lib.hid hcell
  have HN := Lib.hid hnews
  clear hr1 hcell hnews hin hi1 hz1 hs1 hb1 hzs1 hg h hone
  have hlp : (l.length : Int) ≤ 1000000 := by omega
  generalize l.length = n at *
  subst hp
  unfold maxLen at hcm
  have q1 : ¬ cap = i := by omega
  have q2 : ¬ cap = p := by omega
  have q3 : p + 1 - (i + 1) = p - i := by omega
  have q4 : ((i : Int) == (i : Int) + 1) = false := by rw [beq_eq_false_iff_ne]; omega
  have q5 : i ≤ cap := by omega
  have q6 : i + 1 ≤ cap := by omega
  have q7 : p + 1 ≤ cap := by omega
  have q8 : (i : Int) + 1 ≤ (p : Int) + 1 := by omega
  have q9 : ((i : Int) + 1).toNat = i + 1 := by omega
  have q10 : (0 : Int) ≤ (i : Int) + 1 := by omega
  by_cases hci : cap = i + 1
  · obtain rfl : p = i := by omega
    subst hci
    have hr1 := HR1.out ⟨g, off, none⟩ (fun j u hu => by have h := HN.out; rw [List.getElem?_eq_none (by omega)] at hu; cases hu)
    clear HR1 HC HN q1 q2 q3
    have q11 : (p : Int) ≤ (p : Int) + 1 := by omega
    simp only [Nat.sub_self] at hr1
    simp only [Nat.add_sub_cancel_left] at hr2
    go_enter Tryd.func47, Tryd.ntmps47
    go_wp2_with fail
    go_region_law (refine step_append_run rfl _ _ 61 61 rfl _ _ (by simp [Act.eval, Act.put]) (by simp [Act.eval, Act.put]) hr1 ?_)
    clear hr1
    go_wp2_with (at_builtin; refine wpList_clear_run rfl (.tmp 31) _ rfl _ rfl hr2 ?_)
    go_ret
    exact ⟨_, rfl, HF.out.1, HF.out.2, rfl⟩
  · have hr1 := HR1.out ⟨g, off + (i + 1) * 5, none⟩ (fun j u hu => by rw [Addr.add_lit]; exact HC.out j u hu)
    clear HR1 HC HN
    go_enter Tryd.func47, Tryd.ntmps47
    go_wp2_with fail
    go_region_law (refine step_append_run rfl _ _ 61 61 rfl _ _ (by simp [Act.eval, Act.put]) (by simp [Act.eval, Act.put]) hr1 ?_)
    clear hr1
    go_wp2_with (at_builtin; refine wpList_clear_run rfl (.tmp 31) _ rfl _ rfl hr2 ?_)
    go_ret
    exact ⟨_, rfl, HF.out.1, HF.out.2, rfl⟩
end Go.Proofs.YtphkkkmjkagkbaaDoor
