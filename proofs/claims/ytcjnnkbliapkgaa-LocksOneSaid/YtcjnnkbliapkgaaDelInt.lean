/- slices.Delete of one int. -/
import Derived.Test.YtcjnnkbliapkgaaRows
import Derived.Test.YtcjnnkbliapkgaaOwF
import Derived.Test.YtcjnnkbliapkgaaCloneInt
import Derived.WalkLawsBesides
import Derived.Deep.RegionLaw
import Derived.BigQuiet
import Derived.Deep.QuietTactic
namespace Go.Proofs.Ytcjnnkbliapkgaa
open Go.RowKit Go.Tk

theorem Try.zeroInt : ∀ i z, Try.prog.info? 3 = some i → i.zero = some z → ∀ v ∈ z.cells.toList, v.oneCell' = true := by
  intro i z hi hz
  have h : (Try.prog.info? 3).map (fun i => i.zero) = some (some (.int .i64 0)) := by kernel_rfl
  rw [hi] at h
  simp only [Option.map_some, Option.some.injEq] at h
  rw [h] at hz
  cases hz
  intro v hv
  simp [Value.cells] at hv
  subst hv; rfl

set_option maxRecDepth 100000 in
set_option maxHeartbeats 800000 in
theorem delInt_calls (w : World) (v : Value) (l : List Int) (S : Nat → Prop) (h : OwF 3 1 rInt w v l S) (hn : l.length ≤ 1000000) (i : Nat) (hi : i < l.length) :
    Calls Try.prog 46 #[v, .int .i64 i, .int .i64 ((i : Int) + 1)] w fun e w' => ∃ v', e = .returned v' ∧ OwF 3 1 rInt w' v' (l.eraseIdx i) S ∧ w.grownBy w' v.ownBlock ∧ v'.ownBlock = v.ownBlock := by
  obtain ⟨g, off, n, cap, rfl⟩ : ∃ g off n cap, v = .slice (some ⟨g, off, none⟩) n cap := by
    rcases h with ⟨_, h⟩ | ⟨g, off, cap, cur, rows, hv, _⟩
    · subst h; simp at hi
    · exact ⟨g, off, _, cap, hv⟩
  obtain ⟨cur, news, hg, hnl, hnc, hcm, hfit, hnews, hone, hcell, cur', hg', hsz, hfin⟩ := OwF.erase (w := w.drew) rInt_ok (h.move rInt_ok (fun _ _ => rfl) (fun _ h _ _ => ⟨rfl, h⟩)) hi
  subst hnl
  simp only [Nat.mul_one] at *
  have hin : (l.length - (i + 1)) + i = l.length - 1 := by omega
  obtain ⟨p, hp⟩ : ∃ p, l.length = p + 1 := ⟨l.length - 1, by omega⟩
  obtain ⟨zs, hzl, hr2⟩ := run_clear_tk (P := Try.prog) (ty := 0) (w.drew.setCells g (off + i) news) Try.tycInt g (off + p) 1 (cap - p) cur' hg' (by omega) Try.zeroInt
  have hgb : w.grownBy ((w.drew.setCells g (off + i) news).setRow g (splice cur'.toList (off + p) zs).toArray) (some g) :=
    grownBy_trans (grownBy_trans (grownBy_drew (grownBy_refl w _)) (grownBy_sets (.inl rfl) _ _ _ (grownBy_refl w.drew _))) (grownBy_setRow _ g _)
  have hfz := hfin zs hzl
  rw [show l.length - 1 = p by omega] at hfz
  have hfz' : OwF 3 1 rInt ((w.drew.setCells g (off + i) news).setRow g (splice cur'.toList (off + p) zs).toArray) (.slice (some ⟨g, off, none⟩) p cap) (l.eraseIdx i) S := hfz.move rInt_ok (fun _ _ => rfl) (fun _ h _ _ => ⟨rfl, h⟩)
  have HF := Lib.hid (And.intro hfz' hgb)
  clear hfz hfz' hfin hgb
  obtain ⟨wf, hwf⟩ : ∃ wf, wf = (w.drew.setCells g (off + i) news).setRow g (splice cur'.toList (off + p) zs).toArray := ⟨_, rfl⟩
  rw [← hwf] at hr2 HF
  clear hwf hg' hzl hsz
  obtain ⟨inf, z, hi1, hz1, hs1, hb1, hzs1⟩ := (Try.tycInt).parts
  have hi' : i ≤ p := by omega
  have hr1 : ∀ ad : Addr, (∀ (j : Nat) (u : Value), news[j]? = some u → w.cell? (ad.add j) = some u) →
      (Builtin.append_ #[53, 53] 53 #[.slice (some ⟨g, off, none⟩) i cap, .slice (some ad) (p - i) (cap - (i + 1))]).run Try.prog w.drew = .ok (.slice (some ⟨g, off, none⟩) p cap) (w.drew.setCells g (off + i) news) := fun ad had => by
    have := run_append_room_cells (P := Try.prog) w.drew 53 53 3 inf Try.underlying53 hi1 g off i cap ad (p - i) (cap - (i + 1)) news (by rw [hs1]; omega) had hone (by omega)
      (fun j hj => by rw [hs1]; show (w.drew.cell? _).isSome = true; rw [cells_take hg, Array.getElem?_eq_getElem (by omega)]; rfl) (fun j hj => frozen_of_row w g _ cur _ hg)
    rw [hs1, Nat.mul_one, show i + (p - i) = p by omega] at this
    exact this
  have HR1 := Lib.hid hr1
  have HC := Lib.hid hcell
  have HN := Lib.hid hnews
  clear hr1 hcell hnews hin hi1 hz1 hs1 hb1 hzs1 hg h hone
  have hlp : (l.length : Int) ≤ 1000000 := by omega
  generalize l.length = n at *
  subst hp
  unfold maxLen at hcm
  have q1 : ¬ cap = i := by omega
  have q2 : ¬ cap = p := by omega
  have q3 : p + 1 - (i + 1) = p - i := by omega
  have q4 : ((i : Int) == (i : Int) + 1) = false := by rw [beq_eq_false_iff_ne]; omega
  have q5 : i ≤ cap := by omega
  have q6 : i + 1 ≤ cap := by omega
  have q7 : p + 1 ≤ cap := by omega
  have q8 : (i : Int) + 1 ≤ (p : Int) + 1 := by omega
  have q9 : ((i : Int) + 1).toNat = i + 1 := by omega
  have q10 : (0 : Int) ≤ (i : Int) + 1 := by omega
  by_cases hci : cap = i + 1
  · obtain rfl : p = i := by omega
    subst hci
    have hr1 := HR1.out ⟨g, off, none⟩ (fun j u hu => by have h := HN.out; rw [List.getElem?_eq_none (by omega)] at hu; cases hu)
    clear HR1 HC HN q1 q2 q3
    have q11 : (p : Int) ≤ (p : Int) + 1 := by omega
    simp only [Nat.sub_self] at hr1
    simp only [Nat.add_sub_cancel_left] at hr2
    go_enter Try.func46, Try.ntmps46
    go_wp2_with fail
    go_region_law (refine step_append_run rfl _ _ 53 53 rfl _ _ (by simp [Act.eval, Act.put]) (by simp [Act.eval, Act.put]) hr1 ?_)
    clear hr1
    go_wp2_with (at_builtin; refine wpList_clear_run rfl (.tmp 31) _ rfl _ rfl hr2 ?_)
    go_ret
    exact ⟨_, rfl, HF.out.1, HF.out.2, rfl⟩
  · have hr1 := HR1.out ⟨g, off + (i + 1), none⟩ (fun j u hu => by rw [Addr.add_lit]; exact HC.out j u hu)
    clear HR1 HC HN
    go_enter Try.func46, Try.ntmps46
    go_wp2_with fail
    go_region_law (refine step_append_run rfl _ _ 53 53 rfl _ _ (by simp [Act.eval, Act.put]) (by simp [Act.eval, Act.put]) hr1 ?_)
    clear hr1
    go_wp2_with (at_builtin; refine wpList_clear_run rfl (.tmp 31) _ rfl _ rfl hr2 ?_)
    go_ret
    exact ⟨_, rfl, HF.out.1, HF.out.2, rfl⟩
end Go.Proofs.Ytcjnnkbliapkgaa
