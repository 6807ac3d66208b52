/- lock.Gone. -/
import Derived.Test.YtcjnnkbliapkgaaFree
namespace Go.Tk
open Go Go.RowKit
/-- Locks and a code, handed back in memory of the call's own. -/
def RetLocksE (w : World) (res : List LockD × Int) (e : Ending) (w' : World) : Prop :=
  ∃ v', e = .returned (.tuple #[v', .int .i64 res.2]) ∧ SlR 4 rLock w' v' res.1 (fun b => w.heap.size ≤ b) ∧ Below w.heap.size w w'
theorem RetLocksE.nil {w w' : World} {c : Int} (hb : Below w.heap.size w w') : RetLocksE w ([], c) (.returned (.tuple #[.slice none 0 0, .int .i64 c])) w' := ⟨_, rfl, SlR.nil _ _, hb⟩
theorem map_len {α : Type} (f : α → α) (l : List α) (n : Nat) (hn : n ≤ l.length) : ((l.take n).map f ++ l.drop n).length = l.length := by simp; omega
theorem map_at {α : Type} (f : α → α) (l : List α) (n : Nat) (hn : n < l.length) : ((l.take n).map f ++ l.drop n)[n]'(by rw [map_len f l n (by omega)]; exact hn) = l[n] := by
  rw [List.getElem_append_right (by simp; omega)]
  simp [Nat.min_eq_left (Nat.le_of_lt hn)]
theorem map_step {α : Type} (f : α → α) (l : List α) (n : Nat) (hn : n < l.length) : ((l.take n).map f ++ l.drop n).set n (f l[n]) = (l.take (n + 1)).map f ++ l.drop (n + 1) := by
  rw [List.take_succ_eq_append_getElem hn, List.map_append, List.set_append_right _ _ (by simp; omega)]
  have h1 : n - ((l.take n).map f).length = 0 := by simp; omega
  rw [h1, List.drop_eq_getElem_cons hn, List.set_cons_zero]
  simp
end Go.Tk
namespace Go.Proofs.Ytcjnnkbliapkgaa
open Go.RowKit Go.Tk

set_option maxRecDepth 100000 in
set_option maxHeartbeats 1600000 in
theorem gone_calls (l : List LockD) (who : Int) (v : Value) (S : Nat → Prop) (w : World) (h : SlR 4 rLock w v l S) (hin : ∀ x ∈ l, x.line.length ≤ 1000000) :
    Calls Try.prog 25 #[v, .int .i64 who] w (RetLocksE w (lkGone l who)) := by
  have HN := Lib.hid hin
  have HH := Lib.hid h
  clear hin h
  go_enter Try.func25, Try.ntmps25
  go_wp2_with fail
  refine (lkCheck_calls l v S _ HH.out HN.out).mono ?_; rintro e w1 ⟨rfl, hb1⟩
  by_cases he : lkCheck l = 0
  case neg =>
    have HJ := Lib.hid (show lkGone l who = ([], lkCheck l) by rw [lkGone, if_pos he])
    have he' : (lkCheck l != 0) = true := by simpa using he
    clear he
    go_wp2
    go_ret2
    rw [HJ.out]; exact RetLocksE.nil hb1
  have he' : (lkCheck l != 0) = false := by simpa using he
  have HE := Lib.hid he
  have hok := lkCheck_ok.1 he
  have HO := Lib.hid hok
  have hl5 := hok.len
  clear he hok
  go_wp2_with fail
  refine (client_calls who _).mono ?_; rintro e w' ⟨rfl, rfl⟩
  cases hcl : lkClient who
  case false =>
    have HJ := Lib.hid (show lkGone l who = ([], 2) by rw [lkGone, if_neg (by simpa using HE.out), if_pos hcl])
    clear hcl
    go_wp2
    go_ret2
    rw [HJ.out]; exact RetLocksE.nil hb1
  have HJ := Lib.hid (show lkGone l who = (l.map (fun k => goneK k who), 0) by rw [lkGone, if_neg (by simpa using HE.out), if_neg (by rw [hcl]; decide)])
  clear hcl
  go_wp2_with fail
  refine (copyLock_calls _ v l S (HH.out.below rLock_ok (by decide) hb1) (by omega) HN.out).mono ?_; rintro e w2 ⟨v2, rfl, ho2, hb2, hv2⟩
  have hs1 := hb1.size
  have HO0 := Lib.hid ((ho2.sub (S' := fun b => w.heap.size ≤ b) (rLockO_ok _) (fun b hb _ => by show _ ≤ _; omega)).map (R' := rLockF 3) fun _ _ _ _ h => h.toF)
  have HB0 := Lib.hid (below_step hb1 hb2)
  have HV2 := Lib.hid (fun g (hg : v2.ownBlock = some g) => (by have := hv2 g hg; omega : w.heap.size ≤ g))
  obtain ⟨a2, c2, rfl⟩ : ∃ a c, v2 = .slice a l.length c := (ho2.own (rLockO_ok _)).shape
  clear ho2 hb2 hv2 hb1
  go_wp2
  go_loopw [7, 8, 9, 22] (fun _ _ _ i wr => ∃ n : Nat, n ≤ l.length ∧ i = .int .i64 n ∧ Hid (OwD 64 4 (rLockF 3) wr (.slice a2 l.length c2) ((l.take n).map (fun k => goneK k who) ++ l.drop n) (fun b => w.heap.size ≤ b)) ∧ Hid (Below w.heap.size w wr))
    (fun _ _ _ i _ => l.length - (intOf i).toNat)
  case atStart => exact ⟨0, by omega, rfl, HO0.out, HB0.out⟩
  case round =>
    obtain ⟨n, hnl, rfl, hod, hbw⟩ := hrel
    by_cases hlt : n < l.length
    · obtain ⟨L, hL⟩ : ∃ L, L = (l.take n).map (fun k => goneK k who) ++ l.drop n := ⟨_, rfl⟩
      have hml : L.length = l.length := by rw [hL]; exact map_len (fun k => goneK k who) l n hnl
      have hlt2 : n < L.length := by omega
      have HMA : Hid (L[n] = l[n]) := by subst hL; exact map_at (fun k => goneK k who) l n hlt
      have HMS : Hid (L.set n (goneK l[n] who) = (l.take (n + 1)).map (fun k => goneK k who) ++ l.drop (n + 1)) := by subst hL; exact map_step (fun k => goneK k who) l n hlt
      have HXL := Lib.hid (HO.out.line l[n] (List.getElem_mem hlt))
      have HXF := Lib.hid (HO.out.fence l[n] (List.getElem_mem hlt))
      rw [← hL] at hod
      clear hL
      generalize hxx : l[n] = x at HMA HMS HXL HXF
      clear hxx
      obtain ⟨g, cap, hv, -, -, hg2, hfz⟩ := hod.out.shapePos (by omega)
      simp only [Value.slice.injEq] at hv
      obtain ⟨rfl, -, rfl⟩ := hv
      have hgw := HV2.out g rfl
      obtain ⟨rv, hcells, hrv, hrg⟩ := hod.out.cellsLockF n hlt2
      rw [HMA.out] at hcells hrv
      obtain ⟨ra, rc, rfl⟩ := hrv.shape
      have c1 := hcells 1 _ rfl
      have c3 := hcells 3 _ rfl
      have f3 := hfz (n * 4 + 3)
      have HV := Lib.hid hrv
      have HG := Lib.hid hrg
      clear hcells hrv hrg hfz HO0 HB0
      have HML := Lib.hid hml
      clear hml
      have HC := Lib.hid (indexInt_calls wr _ x.line (fun _ => True) ((HV.out.forget (S' := fun _ => True) (fun _ _ _ _ _ h => h)).read rInt_ok (fun _ _ => trivial)) (by have := HXL.out.len; omega) who)
      go_wp2_with fail
      refine HC.out.mono ?_; rintro e w2 ⟨rfl, hb2⟩
      clear HC
      have hs2 := hb2.size
      have HB2 := Lib.hid (below_step hbw.out hb2)
      have HOD2 := Lib.hid (hod.out.below (rLockF_ok _) hb2)
      have d1 := cell_keep c1 (hb2.block g hg2)
      have d3 := cell_keep c3 (hb2.block g hg2)
      have e3 := (World.frozen?_of_block (hb2.block g hg2)).trans f3
      clear c1 c3 f3 hod hbw
      have hg2' : g < w2.heap.size := by omega
      have hx3 := HXL.out.len
      rcases fIdx_cases (fun y => who == y) x.line with ⟨hi, -⟩ | ⟨m, hm, hi, -, -⟩
      · have HU := Lib.hid (unline_neg hi)
        rw [hi]
        clear hi
        by_cases hw : x.holder = who
        · have HK := Lib.hid (show goneK x who = passP x by rw [goneK, HU.out, if_pos hw])
          have hwb : (x.holder == who) = true := by simpa using hw
          have HP := Lib.hid (pass_calls w2 g l.length c2 L _ HOD2.out n hlt2 (by rw [HMA.out]; have := HXF.out; omega) (by rw [HMA.out]; omega))
          clear hw
          go_wp2_with fail
          refine HP.out.mono ?_; rintro e w3 ⟨rfl, ho3, hg3⟩
          clear HP
          rw [HMA.out] at ho3
          have HO3 := Lib.hid ho3
          have HB3 := Lib.hid (HB2.out.grown hg3 (by have := HB2.out.size; omega) (fun k hk => by cases hk; exact hgw))
          clear ho3 hg3
          go_wp2
          go_roundw
          case rel => exact ⟨n + 1, by omega, by go_num, by rw [← HMS.out]; show Hid _; rw [HK.out]; exact HO3.out, HB3.out⟩
          case measure => simp [intOf]; omega
        · have HK := Lib.hid (show goneK x who = x by rw [goneK, HU.out, if_neg hw])
          have hwb : (x.holder == who) = false := by simpa using hw
          have HSS : Hid (L.set n x = L) := by show _ = _; rw [← HMA.out]; exact List.set_getElem_self _
          clear hw
          go_wp2
          go_roundw
          case rel => exact ⟨n + 1, by omega, by go_num, by rw [← HMS.out]; show Hid _; rw [HK.out, HSS.out]; exact HOD2.out, HB2.out⟩
          case measure => simp [intOf]; omega
      · have HU := Lib.hid (unline_pos hi)
        rw [hi]
        clear hi
        have hna : (Value.slice ra x.line.length rc).ownBlock ≠ some g := fun e => (HG.out g e).2.1 rfl
        have HD := Lib.hid (delInt_calls w2 _ x.line (fun _ => False) (HV.out.below rInt_ok hb2) (by omega) m hm)
        have hwn : IntKind.i64.wrap ((m : Int) + 1) = (m : Int) + 1 := IntWalk.i64_in _ (by omega)
        go_wp2_with fail
        refine HD.out.mono ?_; rintro e w3 ⟨v3, rfl, ho3, hg3, hv3⟩
        clear HD
        obtain ⟨ra3, rc3, e3'⟩ := ho3.shape
        have u1 := cell_keep d1 (hg3.block g hg2' (Ne.symm hna))
        have u3 := cell_keep d3 (hg3.block g hg2' (Ne.symm hna))
        have uf := (World.frozen?_of_block (hg3.block g hg2' (Ne.symm hna))).trans e3
        have HO4 : Hid (OwD 64 4 (rLockF 3) (w3.setCell ⟨g, n * 4 + 3, none⟩ v3) (.slice (some ⟨g, 0, none⟩) l.length c2) (L.set n (unline x who)) (fun b => w.heap.size ≤ b)) := by
          have k1 := HOD2.out.inLockF hlt2 d3 hg3 ho3 (.inl hv3)
          rw [HMA.out] at k1
          rw [HU.out]; exact k1
        have HB3 := Lib.hid (HB2.out.grown hg3 (by have := HB2.out.size; omega) (fun k hk => (HG.out k hk).1))
        have hs3 := hg3.size
        subst e3'
        clear d1 d3 e3 ho3 hg3 hv3
        by_cases hw : x.holder = who
        · have HK := Lib.hid (show goneK x who = passP (unline x who) by rw [goneK, if_pos (by rw [HU.out]; exact hw)])
          have hwb : (x.holder == who) = true := by simpa using hw
          have HLN := Lib.hid (show (unline x who).line.length ≤ 1000000 by rw [HU.out]; exact Nat.le_trans (List.length_eraseIdx_le _ _) (by omega))
          have HLF := Lib.hid (show (unline x who).fence = x.fence by rw [HU.out])
          have HP := Lib.hid (pass_calls _ g l.length c2 (L.set n (unline x who)) _ HO4.out n (by rw [List.length_set]; exact hlt2) (by rw [List.getElem_set_self, HLF.out]; have := HXF.out; omega) (by rw [List.getElem_set_self]; exact HLN.out))
          clear hw
          go_wp2_with fail
          refine HP.out.mono ?_; rintro e w5 ⟨rfl, ho5, hg5⟩
          clear HP
          rw [List.getElem_set_self, List.set_set] at ho5
          have HO5 := Lib.hid ho5
          have HB5 := Lib.hid ((below_set HB3.out (b := g) (by omega) _ _).grown hg5 (by have := HB3.out.size; simp [World.setCell]; omega) (fun k hk => by cases hk; exact hgw))
          clear ho5 hg5
          go_wp2
          go_roundw
          case rel => exact ⟨n + 1, by omega, by go_num, by rw [← HMS.out]; show Hid _; rw [HK.out]; exact HO5.out, HB5.out⟩
          case measure => simp [intOf]; omega
        · have HK := Lib.hid (show goneK x who = unline x who by rw [goneK, if_neg (by rw [HU.out]; exact hw)])
          have hwb : (x.holder == who) = false := by simpa using hw
          clear hw
          go_wp2
          go_roundw
          case rel => exact ⟨n + 1, by omega, by go_num, by rw [← HMS.out]; show Hid _; rw [HK.out]; exact HO4.out, below_set HB3.out (by omega) _ _⟩
          case measure => simp [intOf]; omega
    · obtain rfl : n = l.length := by omega
      have HOF : Hid (OwD 64 4 (rLockF 3) wr (.slice a2 l.length c2) (l.map (fun k => goneK k who)) (fun b => w.heap.size ≤ b)) := by
        have := hod.out
        rw [List.take_length, List.drop_length, List.append_nil] at this
        exact this
      clear hod HO0 HB0
      go_wp2
      go_ret2
      rw [HJ.out]
      exact ⟨_, rfl, HOF.out.readLockF HV2.out, hbw.out⟩
end Go.Proofs.Ytcjnnkbliapkgaa
