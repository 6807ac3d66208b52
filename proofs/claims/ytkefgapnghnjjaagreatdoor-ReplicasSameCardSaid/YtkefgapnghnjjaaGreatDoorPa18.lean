/- A part of the proof, laid together from: SnapF, CmdsP, CustP, CustQ, LogQ, RepQ, RepK. -/
import Derived.Test.YtkefgapnghnjjaaGreatDoorPa17
import Derived.Test.YtkefgapnghnjjaaGreatDoorPa05
import Derived.Test.YtkefgapnghnjjaaGreatDoorPa02
import Derived.Test.YtkefgapnghnjjaaGreatDoorPa03
import Derived.Lib.ItoaNum
import Derived.Test.YtkefgapnghnjjaaGreatDoorPa06
import Derived.Test.YtkefgapnghnjjaaGreatDoorPa14
import Derived.Test.YtkefgapnghnjjaaGreatDoorPa07
set_option linter.unusedSimpArgs false
set_option linter.unusedVariables false
namespace Go.Proofs.YtkefgapnghnjjaaGreatDoor
open Go.RowKit Go.Tk
set_option linter.unusedSimpArgs false in
set_option maxRecDepth 100000 in
set_option maxHeartbeats 6400000 in
theorem decode_st_calls (s : StateD) (hok : StOk s) (w : World) : Calls Tryz.prog 29 #[.string ⟨(encState s ++ sealB (encState s)).toArray⟩] w fun e w' => ∃ vl vp vs, e = .returned (.tuple #[.agg #[.int .i64 s.index, vl, vp, vs], .int .i64 0]) ∧ StAt w' s vl vp vs (fun b => w.heap.size ≤ b) ∧ Below w.heap.size w w' := by
  obtain ⟨k, hkk⟩ : ∃ k, (encState s).length = k := ⟨_, rfl⟩
  have HTK := Lib.hid (show (encState s ++ sealB (encState s)).take k = encState s by rw [← hkk]; simp)
  have hk : (encState s ++ sealB (encState s)).length = k + 4 := by rw [List.length_append, seal_len, hkk]
  have hl : (encState s ++ sealB (encState s)).length ≤ 5000 := by have := encState_len hok; omega
  have HNE := Lib.hid (show (sealB ((encState s ++ sealB (encState s)).take k) == ((encState s ++ sealB (encState s)).take (k + 4)).drop k) = true by
    rw [List.take_of_length_le (l := encState s ++ sealB (encState s)) (i := k + 4) (by omega), HTK.out, ← hkk]; simp)
  have HOK := Lib.hid hok
  clear hkk hok
  generalize encState s ++ sealB (encState s) = b at *
  go_enter Tryz.func29, Tryz.ntmps29
  go_upto_region 1 with (fail)
  have HZ := Lib.hid (BoxAt.new (w := w) (cs := [.int .i64 0, .slice none 0 0, .slice none 0 0, .slice none 0 0]) (E := 36))
  have HB := Lib.hid (below_alloc w (.cells #[.int .i64 0, .slice none 0 0, .slice none 0 0, .slice none 0 0] 36))
  generalize w.alloc (.cells #[.int .i64 0, .slice none 0 0, .slice none 0 0, .slice none 0 0] 36) = w1 at *
  go_upto_region 6 with (fail)
  have hk1 : (b.length : Int) - 4 = (k : Int) := by omega
  refine wp_region_plan 8 (fun wx => Below w1.heap.size w1 wx) (fun wx wy => Below wx.heap.size wx wy) [eqV (.string ⟨b.toArray⟩), eqV (.int .i64 (k : Int)), eqV (.string ⟨(b.take k).toArray⟩), eqV (.string ⟨(sealB (b.take k)).toArray⟩), eqV (.string ⟨b.toArray⟩), eqV (.int .i64 (k : Int)), eqV (.string ⟨((b.take (k + 4)).drop k).toArray⟩), eqV (.bool false)] (by kernel_rfl) (by kernel_rfl) rfl ?hJ ?hJS ?hst ?hobl ?hend
  case hJ => exact Below.drew (Below.refl _ _)
  case hJS =>
    exact fun wx wy h1 h2 => below_step h1 h2
  case hst => exact planStab_at _ ⟨eqV_stab _, eqV_stab _, eqV_stab _, eqV_stab _, eqV_stab _, eqV_stab _, eqV_stab _, eqV_stab _, trivial⟩
  case hobl =>
    simp only [planObls, List.take_succ_cons, List.take_zero, planPut, Act.put, List.setIfInBounds_toArray, List.set_cons_zero, List.set_cons_succ, Nat.reduceAdd, Nat.zero_add]
    refine ⟨?_, ?_, ?_, ?_, ?_, ?_, ?_, ?_, trivial⟩
    · intro vs wx hJ hn K hK
      simp [planNeeds, VAt, eqV, Region.binds] at hn
      simp only [VAt, eqV, List.getD_cons_zero, List.getD_cons_succ, Act.put, List.setIfInBounds_toArray, List.set_cons_zero, List.set_cons_succ, Nat.reduceAdd, Nat.zero_add] at hK
      go_wp2
      exact hK _ _ (Below.refl _ _) rfl
    · intro vs wx hJ hn K hK
      simp [planNeeds, VAt, eqV, Region.binds] at hn
      simp only [VAt, eqV, List.getD_cons_zero, List.getD_cons_succ, Act.put, List.setIfInBounds_toArray, List.set_cons_zero, List.set_cons_succ, Nat.reduceAdd, Nat.zero_add] at hK
      go_wp2
      exact hK _ _ (Below.refl _ _) rfl
    · intro vs wx hJ hn K hK
      simp [planNeeds, VAt, eqV, Region.binds] at hn
      simp only [VAt, eqV, List.getD_cons_zero, List.getD_cons_succ, Act.put, List.setIfInBounds_toArray, List.set_cons_zero, List.set_cons_succ, Nat.reduceAdd, Nat.zero_add] at hK
      simp only [hn] at hK ⊢
      go_wp2
      exact hK _ _ (Below.refl _ _) rfl
    · intro vs wx hJ hn K hK
      simp [planNeeds, VAt, eqV, Region.binds] at hn
      simp only [VAt, eqV, List.getD_cons_zero, List.getD_cons_succ, Act.put, List.setIfInBounds_toArray, List.set_cons_zero, List.set_cons_succ, Nat.reduceAdd, Nat.zero_add] at hK
      simp only [hn] at hK ⊢
      go_wp2_with fail
      refine (seal_calls (b.take k) (by rw [List.length_take]; omega) _).mono ?_
      rintro e w8 ⟨rfl, hb8⟩
      go_wp2
      exact hK _ _ hb8 rfl
    · intro vs wx hJ hn K hK
      simp [planNeeds, VAt, eqV, Region.binds] at hn
      simp only [VAt, eqV, List.getD_cons_zero, List.getD_cons_succ, Act.put, List.setIfInBounds_toArray, List.set_cons_zero, List.set_cons_succ, Nat.reduceAdd, Nat.zero_add] at hK
      go_wp2
      exact hK _ _ (Below.refl _ _) rfl
    · intro vs wx hJ hn K hK
      simp [planNeeds, VAt, eqV, Region.binds] at hn
      simp only [VAt, eqV, List.getD_cons_zero, List.getD_cons_succ, Act.put, List.setIfInBounds_toArray, List.set_cons_zero, List.set_cons_succ, Nat.reduceAdd, Nat.zero_add] at hK
      go_wp2
      exact hK _ _ (Below.refl _ _) rfl
    · intro vs wx hJ hn K hK
      simp [planNeeds, VAt, eqV, Region.binds] at hn
      simp only [VAt, eqV, List.getD_cons_zero, List.getD_cons_succ, Act.put, List.setIfInBounds_toArray, List.set_cons_zero, List.set_cons_succ, Nat.reduceAdd, Nat.zero_add] at hK
      simp only [hn] at hK ⊢
      go_wp2
      exact hK _ _ (Below.refl _ _) rfl
    · intro vs wx hJ hn K hK
      simp [planNeeds, VAt, eqV, Region.binds] at hn
      simp only [VAt, eqV, List.getD_cons_zero, List.getD_cons_succ, Act.put, List.setIfInBounds_toArray, List.set_cons_zero, List.set_cons_succ, Nat.reduceAdd, Nat.zero_add] at hK
      simp only [hn] at hK ⊢
      have hne := HNE.out
      generalize sealB (b.take k) = x0 at *
      generalize (b.take (k + 4)).drop k = x1 at *
      go_wp2
      exact hK _ _ (Below.refl _ _) rfl
  case hend =>
    intro vs wx hJ hv
    simp [planHave, eqV] at hv
    obtain ⟨e0, e1, e2, e3, e4, e5, e6, e7⟩ := hv
    simp only [List.take_succ_cons, List.take_zero, List.drop_succ_cons, List.drop_zero, planPut, Act.put, List.setIfInBounds_toArray, List.set_cons_zero, List.set_cons_succ, Nat.reduceAdd, Nat.zero_add]
    rw [e0, e1, e2, e3, e4, e5, e6, e7]
    clear e0 e1 e2 e3 e4 e5 e6 e7
    have HZ := Lib.hid (HZ.out.below hJ)
    have HB := Lib.hid (below_step HB.out hJ)
    clear hJ
    rename World => w2
    have HR := Lib.hid (BoxAt.new (w := w2) (cs := [.string ⟨(b.take k).toArray⟩, .int .i64 0]) (E := 150))
    have hba := below_alloc w2 (.cells #[.string ⟨(b.take k).toArray⟩, .int .i64 0] 150)
    have hz2 := HZ.out.lt
    have hB2 := HB.out.size
    replace HZ := Lib.hid (HZ.out.below hba)
    replace HB := Lib.hid (below_step HB.out hba)
    clear hba
    go_upto_region 9 with (fail)
    generalize w2.alloc (.cells #[.string ⟨(b.take k).toArray⟩, .int .i64 0] 150) = w3 at *
    obtain ⟨R, hRe⟩ : ∃ R, w2.heap.size = R := ⟨_, rfl⟩
    rw [hRe] at HR hz2 hB2 ⊢
    clear hRe
    have hr0 := HR.out
    rw [HTK.out, ← List.append_nil (encState s)] at hr0
    have HST := Lib.hid (rstate_calls s HOK.out [] R w3 hr0 (by rw [List.append_nil]; have := encState_len HOK.out; omega))
    clear hr0
    go_wp2_with fail
    refine HST.out.mono ?_
    rintro e w4 ⟨vl, vp, vs, rfl, hst, hr4, hg4⟩
    obtain ⟨a1, c1, rfl, -, -, -, -⟩ := id hst.lock; obtain ⟨a2, c2, rfl, -, -, -, -⟩ := id hst.pair; obtain ⟨a3, c3, rfl, -, -, -, -⟩ := id hst.sess
    replace HZ := Lib.hid (HZ.out.grown hg4 (fun e => by have := Option.some.inj e; omega))
    replace HB := Lib.hid (HB.out.grown hg4 HB.out.size (fun q e => by have := Option.some.inj e; omega))
    have HX := Lib.hid (BoxAt.new (w := w4) (cs := [.int .i64 s.index, .slice a1 s.locks.length c1, .slice a2 s.pairs.length c2, .slice a3 s.sessions.length c3]) (E := 36))
    have hba := below_alloc w4 (.cells #[.int .i64 s.index, .slice a1 s.locks.length c1, .slice a2 s.pairs.length c2, .slice a3 s.sessions.length c3] 36)
    replace HZ := Lib.hid (HZ.out.below hba)
    replace HB := Lib.hid (below_step HB.out hba)
    have HRX := Lib.hid (hr4.below hba)
    have HS := Lib.hid ((hst.sub (S' := fun b => w.heap.size + 1 ≤ b) (fun b hb _ => by show _ ≤ _; have : w3.heap.size ≤ b := hb; have := HR.out.lt; omega)).below hba)
    clear hba hst hr4 hg4 HST HR
    go_upto_region 10 with (fail)
    generalize w4.alloc (.cells #[.int .i64 s.index, .slice a1 s.locks.length c1, .slice a2 s.pairs.length c2, .slice a3 s.sessions.length c3] 36) = w5 at *
    generalize w4.heap.size = X at *
    have r0 := HRX.out.cell 0 _ rfl; have r1 := HRX.out.cell 1 _ rfl
    have x0 := HX.out.cell 0 _ rfl; have x1 := HX.out.cell 1 _ rfl; have x2 := HX.out.cell 2 _ rfl; have x3 := HX.out.cell 3 _ rfl
    go_wp2_with fail
    refine (maCheck_calls s _ _ _ _ w5 HS.out HOK.out.fits).mono ?_
    rw [maCheck_ok.2 HOK.out]
    rintro e w6 ⟨rfl, hb6⟩
    clear r0 r1 x0 x1 x2 x3
    replace HZ := Lib.hid (HZ.out.below hb6); replace HB := Lib.hid (below_step HB.out hb6); replace HX := Lib.hid (HX.out.below hb6); replace HS := Lib.hid (HS.out.below hb6)
    have x0 := HX.out.cell 0 _ rfl; have x1 := HX.out.cell 1 _ rfl; have x2 := HX.out.cell 2 _ rfl; have x3 := HX.out.cell 3 _ rfl
    have z0 := HZ.out.cell 0 _ rfl; have z1 := HZ.out.cell 1 _ rfl; have z2 := HZ.out.cell 2 _ rfl; have z3 := HZ.out.cell 3 _ rfl
    have t0 := HZ.out.thaw 0; have t1 := HZ.out.thaw 1; have t2 := HZ.out.thaw 2; have t3 := HZ.out.thaw 3
    have HF := Lib.hid ((((HZ.out.set 0 (by simp) (.int .i64 s.index)).set 1 (by simp) (.slice a1 s.locks.length c1)).set 2 (by simp) (.slice a2 s.pairs.length c2)).set 3 (by simp) (.slice a3 s.sessions.length c3))
    have HBF := Lib.hid (below_set (below_set (below_set (below_set HB.out (Nat.le_refl _) 0 (.int .i64 s.index)) (Nat.le_refl _) 1 (.slice a1 s.locks.length c1)) (Nat.le_refl _) 2 (.slice a2 s.pairs.length c2)) (Nat.le_refl _) 3 (.slice a3 s.sessions.length c3))
    have HSF := Lib.hid (HS.out.move (w' := ((((w6.setCell ⟨w.heap.size, 0, none⟩ (.int .i64 s.index)).setCell ⟨w.heap.size, 1, none⟩ (.slice a1 s.locks.length c1)).setCell ⟨w.heap.size, 2, none⟩ (.slice a2 s.pairs.length c2)).setCell ⟨w.heap.size, 3, none⟩ (.slice a3 s.sessions.length c3))) (S' := fun b => w.heap.size ≤ b) fun q hq _ => ⟨(heap_far (by omega)).trans ((heap_far (by omega)).trans ((heap_far (by omega)).trans (heap_far (by omega)))), by show _ ≤ _; have : w.heap.size + 1 ≤ q := hq; omega⟩)
    go_wp2
    generalize ((((w6.setCell ⟨w.heap.size, 0, none⟩ (.int .i64 s.index)).setCell ⟨w.heap.size, 1, none⟩ (.slice a1 s.locks.length c1)).setCell ⟨w.heap.size, 2, none⟩ (.slice a2 s.pairs.length c2)).setCell ⟨w.heap.size, 3, none⟩ (.slice a3 s.sessions.length c3)) = wf at *
    have g0 := HF.out.cell 0 _ rfl; have g1 := HF.out.cell 1 _ rfl; have g2 := HF.out.cell 2 _ rfl; have g3 := HF.out.cell 3 _ rfl
    refine bodyPost_ret (v := .tuple #[.agg #[.int .i64 s.index, .slice a1 s.locks.length c1, .slice a2 s.pairs.length c2, .slice a3 s.sessions.length c3], .int .i64 0]) (by simp [results, Tryz.results29, go_sem, g0, g1, g2, g3]) rfl ⟨_, _, _, rfl, HSF.out, HBF.out⟩
end Go.Proofs.YtkefgapnghnjjaaGreatDoor

namespace Go.Tk
open Go Go.RowKit
theorem picked_in (n m : Int) (hm : 0 < m) : 0 ≤ picked n m ∧ picked n m < m := by
  unfold picked
  split
  · exact ⟨Int.emod_nonneg _ (by omega), Int.emod_lt_of_pos _ hm⟩
  · exact ⟨Int.emod_nonneg _ (by omega), Int.emod_lt_of_pos _ hm⟩
def kinds : List Int := [1, 2, 2, 3, 3, 4, 5, 5, 6]
def kindOf (r : RawD) : Int := kinds.getD (picked r.kind 9).toNat 0
def vtext (n : Int) : List UInt8 := 118 :: Lib.decDigits (picked n 90).toNat
def opOf (r : RawD) : OpD := if kindOf r = 5 then ⟨5, kname r.a, vtext r.b, 1 + picked r.c 4⟩ else ⟨kindOf r, kname r.a, [], 0⟩
theorem kinds_all : ∀ i : Fin 9, 1 ≤ kinds.getD i.val 0 ∧ kinds.getD i.val 0 ≤ 6 := by decide
theorem kindOf_in (r : RawD) : 1 ≤ kindOf r ∧ kindOf r ≤ 6 := by
  have h := picked_in r.kind 9 (by decide)
  exact kinds_all ⟨(picked r.kind 9).toNat, by omega⟩
theorem decDigits_len (n : Nat) (h : n < 100) : (Lib.decDigits n).length ≤ 2 := by
  rw [Lib.decDigits]
  split
  · simp
  · rw [Lib.decDigits, dif_pos (by omega)]; simp
theorem vtext_len (n : Int) : (vtext n).length ≤ 3 := by
  have h := picked_in n 90 (by decide)
  have := decDigits_len (picked n 90).toNat (by omega)
  simp [vtext]; omega
theorem opOf_ok (r : RawD) : OpOk (opOf r) := by
  have hk := kindOf_in r
  have hv := vtext_len r.b
  have hp := picked_in r.c 4 (by decide)
  unfold opOf
  split
  · exact ⟨⟨by simp, by simp⟩, kname_ok _, by simp, by show (vtext r.b).length ≤ 12; omega, ⟨fun _ => ⟨by show (1 : Int) ≤ 1 + picked r.c 4; omega, by show 1 + picked r.c 4 ≤ (1073741824 : Int); omega⟩, by simp⟩⟩
  · rename_i h
    exact ⟨hk, kname_ok _, fun _ => rfl, by simp, ⟨fun h' => absurd h' h, fun _ => rfl⟩⟩
structure GenD where
  out : List CommandD
  next : Int → Int
  ses : Int → Int
def upd (f : Int → Int) (c v : Int) : Int → Int := fun x => if x = c then v else f x
theorem upd_same (f : Int → Int) (c v : Int) : upd f c v c = v := by simp [upd]
theorem upd_other (f : Int → Int) {c x : Int} (v : Int) (h : x ≠ c) : upd f c v x = f x := by simp [upd, h]
def gWho (r : RawD) : Int := 1 + picked r.c 4
def gWhat (r : RawD) : Int := picked (r.kind.tdiv 9) 16
def gJoin (c : Int) : CommandD := ⟨1, c, 0, 0, 0, noOp⟩
def gLeave (c : Int) : CommandD := ⟨3, c, 0, 0, 0, noOp⟩
def gOld (n : Int) (r : RawD) : Int := max 1 (n - 1 - picked r.b 3)
def gAgain (c s n : Int) (r : RawD) : CommandD := ⟨2, c, s, gOld n r, max 0 (gOld n r - 2), opOf r⟩
def gCall (c s n : Int) (r : RawD) : CommandD := ⟨2, c, s, n, max 0 (n - 1 - picked r.a 3), opOf r⟩
def gStep (g : GenD) (r : RawD) : GenD :=
  if g.ses (gWho r) = 0 then ⟨g.out ++ [gJoin (gWho r)], upd g.next (gWho r) 1, upd g.ses (gWho r) (g.out.length + 1 : Nat)⟩
  else if gWhat r = 0 then ⟨g.out ++ [gJoin (gWho r)], g.next, g.ses⟩
  else if gWhat r = 1 then ⟨g.out ++ [gLeave (gWho r)], g.next, upd g.ses (gWho r) 0⟩
  else if gWhat r < 5 ∧ 1 < g.next (gWho r) then ⟨g.out ++ [gAgain (gWho r) (g.ses (gWho r)) (g.next (gWho r)) r], g.next, g.ses⟩
  else ⟨g.out ++ [gCall (gWho r) (g.ses (gWho r)) (g.next (gWho r)) r], upd g.next (gWho r) (g.next (gWho r) + 1), g.ses⟩
def gNone : GenD := ⟨[], fun _ => 0, fun _ => 0⟩
def gRun (l : List RawD) : GenD := l.foldl gStep gNone
def commandsP (l : List RawD) (most : Nat) : List CommandD := (gRun (l.take most)).out
structure GenOk (n : Nat) (g : GenD) : Prop where
  len : g.out.length = n
  all : ∀ c ∈ g.out, CmdOk c
  ses : ∀ c, g.ses c ≠ 0 → (1 ≤ g.ses c ∧ g.ses c ≤ n) ∧ 1 ≤ g.next c
  pos : ∀ c, 0 ≤ g.ses c ∧ g.ses c ≤ n ∧ 0 ≤ g.next c ∧ g.next c ≤ n
theorem gWho_in (r : RawD) : 1 ≤ gWho r ∧ gWho r ≤ 4 := by
  have := picked_in r.c 4 (by decide)
  unfold gWho; omega
theorem GenOk.step {n : Nat} {g : GenD} (h : GenOk n g) (hn : n ≤ 1000) (r : RawD) : GenOk (n + 1) (gStep g r) := by
  have hw := gWho_in r
  have hs := h.pos (gWho r)
  have hb := picked_in r.b 3 (by decide)
  have ha := picked_in r.a 3 (by decide)
  have hop := opOf_ok r
  have hl := h.len
  have hall : ∀ x, CmdOk x → ∀ c ∈ g.out ++ [x], CmdOk c := fun x hx c hc => by
    rcases List.mem_append.1 hc with hc | hc
    · exact h.all c hc
    · rw [List.mem_singleton.1 hc]; exact hx
  have hkeep : ∀ c, g.ses c ≠ 0 → (1 ≤ g.ses c ∧ g.ses c ≤ (n + 1 : Nat)) ∧ 1 ≤ g.next c := fun c hc => by have := h.ses c hc; omega
  have hpos : ∀ c, 0 ≤ g.ses c ∧ g.ses c ≤ (n + 1 : Nat) ∧ 0 ≤ g.next c ∧ g.next c ≤ (n + 1 : Nat) := fun c => by have := h.pos c; omega
  generalize hc : gWho r = c at *
  unfold gStep
  rw [hc]
  split
  · rename_i h0
    refine ⟨by simp [hl], hall _ (.plain (by simp [gJoin]) (by simp only [gJoin]; omega) rfl rfl rfl rfl), fun x => ?_, fun x => ?_⟩
    · by_cases hx : x = c
      · subst hx; simp only [upd_same]; intro _; omega
      · simp only [upd_other _ _ hx]; exact hkeep x
    · by_cases hx : x = c
      · subst hx; simp only [upd_same]; omega
      · simp only [upd_other _ _ hx]; exact hpos x
  · rename_i h0
    have h1 := h.ses c h0
    split
    · exact ⟨by simp [hl], hall _ (.plain (by simp [gJoin]) (by simp only [gJoin]; omega) rfl rfl rfl rfl), hkeep, hpos⟩
    · split
      · refine ⟨by simp [hl], hall _ (.plain (by simp [gLeave]) (by simp only [gLeave]; omega) rfl rfl rfl rfl), fun x => ?_, fun x => ?_⟩
        · by_cases hx : x = c
          · subst hx; simp only [upd_same]; simp
          · simp only [upd_other _ _ hx]; exact hkeep x
        · by_cases hx : x = c
          · subst hx; simp only [upd_same]; have := hpos x; omega
          · simp only [upd_other _ _ hx]; exact hpos x
      · split
        · rename_i h2
          refine ⟨by simp [hl], hall _ (.call rfl ⟨by simp only [gAgain]; omega, by simp only [gAgain]; omega⟩ ⟨by simp only [gAgain]; omega, by simp only [gAgain]; omega⟩ ⟨by simp only [gAgain, gOld]; omega, by simp only [gAgain, gOld]; omega⟩ ⟨by simp only [gAgain, gOld]; omega, by simp only [gAgain, gOld]; omega⟩ hop), hkeep, hpos⟩
        · refine ⟨by simp [hl], hall _ (.call rfl ⟨by simp only [gCall]; omega, by simp only [gCall]; omega⟩ ⟨by simp only [gCall]; omega, by simp only [gCall]; omega⟩ ⟨by simp only [gCall]; omega, by simp only [gCall]; omega⟩ ⟨by simp only [gCall]; omega, by simp only [gCall]; omega⟩ hop), fun x => ?_, fun x => ?_⟩
          · by_cases hx : x = c
            · subst hx; simp only [upd_same]; intro hx'; have := hkeep x hx'; omega
            · simp only [upd_other _ _ hx]; exact hkeep x
          · by_cases hx : x = c
            · subst hx; simp only [upd_same]; have := hpos x; omega
            · simp only [upd_other _ _ hx]; exact hpos x
theorem GenOk.run : ∀ (l : List RawD) (n : Nat) (g : GenD), GenOk n g → n + l.length ≤ 1000 → GenOk (n + l.length) (l.foldl gStep g)
  | [], n, g, h, _ => h
  | r :: l, n, g, h, hn => by
    have := GenOk.run l (n + 1) (gStep g r) (h.step (by simp at hn; omega) r) (by simp at hn ⊢; omega)
    rw [List.foldl_cons, List.length_cons, show n + (l.length + 1) = n + 1 + l.length by omega]
    exact this
theorem gNone_ok : GenOk 0 gNone := ⟨rfl, by simp [gNone], by simp [gNone], by simp [gNone]⟩
theorem gRun_ok (l : List RawD) (h : l.length ≤ 1000) : GenOk l.length (gRun l) := by
  have := GenOk.run l 0 gNone gNone_ok (by omega)
  rwa [Nat.zero_add] at this
theorem commandsP_ok (l : List RawD) (most : Nat) (h : most ≤ 1000) : ∀ c ∈ commandsP l most, CmdOk c := (gRun_ok (l.take most) (by simp; omega)).all
theorem commandsP_len (l : List RawD) (most : Nat) (h : most ≤ 1000) : (commandsP l most).length = min most l.length := by
  have := (gRun_ok (l.take most) (by simp; omega)).len
  rw [commandsP, this, List.length_take]
end Go.Tk

namespace Go.Tk
open Go Go.RowKit
structure WaitD where
  seq : Int
  op : OpD
structure CustomerD where
  id : Int
  session : Int
  next : Int
  waits : List WaitD
structure MailD where
  client : Int
  seq : Int
  reply : ReplyD
def noWait : WaitD := ⟨0, noOp⟩
def custBad (c : CustomerD) (i : Nat) : Prop :=
  (c.waits.getD i noWait).seq < 1 ∨ c.next ≤ (c.waits.getD i noWait).seq ∨ (0 < i ∧ (c.waits.getD i noWait).seq ≤ (c.waits.getD (i - 1) noWait).seq) ∨ (c.waits.getD 0 noWait).seq + 3 < (c.waits.getD i noWait).seq
instance (c : CustomerD) (i : Nat) : Decidable (custBad c i) := by unfold custBad; infer_instance
end Go.Tk

namespace Go.Tk
open Go Go.RowKit
end Go.Tk

namespace Go.Tk
open Go Go.RowKit
def entriesP (l : List CommandD) : List Bytes := l.map fun c => (cmdEncode c).1
theorem entries_ok {l : List CommandD} (h : ∀ c ∈ l, CmdOk c) : ∀ s ∈ entriesP l, decErr s = 0 := by
  intro s hs
  obtain ⟨c, hc, rfl⟩ := List.mem_map.1 hs
  rw [decErr, decode_back (h c hc)]
theorem noLog_ok : LogOk noLog := ⟨by simp [noLog], by simp [noLog], by simp [noLog]⟩
theorem skip_zero {l : LogD} {n : Int} (h : l.base ≤ n) (m : List Bytes) : skipOf l n m = 0 := by rw [skipOf, if_neg (by omega)]
theorem put_eq {l : LogD} {k : Int} {b : List Bytes} (h : LogOk l) (h0 : l.base ≤ k) (h1 : k ≤ logLast l) (hb : b.length ≤ 400) :
    logPut l k b = if (putGo b (k - l.base).toNat l.entries).2 ≠ 0 then (noLog, (putGo b (k - l.base).toNat l.entries).2)
      else if 400 < (putGo b (k - l.base).toNat l.entries).1.length then (noLog, 8) else (⟨l.base, (putGo b (k - l.base).toNat l.entries).1⟩, 0) := by
  have hc := logCheck_ok.2 h
  have hl := h.len
  have hb0 := h.base
  have h2 : logLast l ≤ l.base + 400 := by rw [logLast]; omega
  rw [logPut, skip_zero h0, if_neg (by simp [hc]), if_neg (by omega), if_neg (by omega), if_neg (by omega)]
  simp only [List.drop_zero, Int.natCast_zero, Int.add_zero]
theorem put_first {a : List Bytes} (ha : ∀ s ∈ a, decErr s = 0) (hl : a.length ≤ 400) : logPut noLog 0 a = (⟨0, a⟩, 0) := by
  rw [put_eq noLog_ok (by simp [noLog]) (by simp [noLog, logLast]) hl]
  obtain ⟨o, h1, h2, h3, h4, _⟩ := putGo_spec a 0 [] ha (by simp)
  have e : o = a := by
    have : o.length = a.length := by simp at h3 h2; omega
    rw [← List.take_length (l := o), this]
    simpa using h4
  subst e
  have e3 : putGo o (0 - noLog.base).toNat noLog.entries = (o, 0) := h1
  rw [e3, if_neg (by simp), if_neg (by show ¬(400 < o.length); omega)]; rfl
end Go.Tk

namespace Go.Tk
open Go Go.RowKit
def snapB (s : StateD) : Bytes := encState s ++ sealB (encState s)
def stK (K : List Bytes) (i : Nat) : StateD := (applied (K.take i)).1
structure ReplicaD where
  log : LogD
  snap : Bytes
  state : StateD
def noReplica : ReplicaD := ⟨noLog, [], noState⟩
def SnapOf (base : Int) (snap : Bytes) (ks : StateD) : Prop := (base = 0 ∧ snap = [] ∧ ks = noState) ∨ (base ≠ 0 ∧ StOk ks ∧ ks.index = base ∧ snap = snapB ks)
structure RepFine (r : ReplicaD) (ks : StateD) : Prop where
  log : LogOk r.log
  st : StOk r.state
  at_ : r.log.base ≤ r.state.index ∧ r.state.index ≤ logLast r.log
  kept : SnapOf r.log.base r.snap ks
theorem dec_len {s : Bytes} (h : decErr s = 0) : s.length ≤ 5000 := by
  apply Classical.byContradiction
  intro hn
  rw [decErr, cmdDecode, if_pos (by omega)] at h
  cases h
theorem LogOk.small {l : LogD} (h : LogOk l) : ∀ s ∈ l.entries, s.length ≤ 1000000 := fun s hs => by have := dec_len (h.all s hs); omega
structure RA where
  b : Nat
  es : List Bytes
  i : Nat
def raLast (a : RA) : Nat := a.b + a.es.length
structure KOk (K : List Bytes) : Prop where
  dec : ∀ s ∈ K, decErr s = 0
  len : K.length ≤ 400
structure RaOk (K : List Bytes) (n : Nat) (a : RA) : Prop where
  bi : a.b ≤ a.i
  iK : a.i ≤ K.length
  il : a.i ≤ raLast a
  ln : raLast a ≤ n
  ent : a.es.take (a.i - a.b) = (K.drop a.b).take (a.i - a.b)
  dec : ∀ s ∈ a.es, decErr s = 0
theorem stK_all {K : List Bytes} (h : ∀ s ∈ K, decErr s = 0) (hl : K.length ≤ 1000000) {i : Nat} (hi : i ≤ K.length) : applied (K.take i) = (stK K i, true) ∧ StOk (stK K i) ∧ (stK K i).index = i ∧ Held (stK K i).locks (stK K i).sessions := by
  obtain ⟨t, h1, h2, h3, h4⟩ := applied_ok (l := K.take i) (fun x hx => h x (List.mem_of_mem_take hx)) (by rw [List.length_take]; omega)
  have e : stK K i = t := by rw [stK, h1]
  rw [e]
  exact ⟨h1, h2, by rw [h3, List.length_take]; omega, h4⟩
theorem stK_ok {K : List Bytes} (h : KOk K) {i : Nat} (hi : i ≤ K.length) : StOk (stK K i) ∧ (stK K i).index = i := by
  have := h.len
  obtain ⟨-, h2, h3, -⟩ := stK_all h.dec (by omega) hi
  exact ⟨h2, h3⟩
theorem stK_next {K : List Bytes} (h : ∀ s ∈ K, decErr s = 0) (hl : K.length ≤ 1000000) {i : Nat} (hi : i < K.length) : (maApply (stK K i) (K.getD i [])).2.2 = 0 ∧ stK K (i + 1) = (maApply (stK K i) (K.getD i [])).1 ∧
    ApplyTo (stK K i) (cmdDecode (K.getD i [])).1 (stK K (i + 1)) ∧ ReplyOk (maApply (stK K i) (K.getD i [])).2.1 := by
  obtain ⟨h1, h2, h3, -⟩ := stK_all h hl (Nat.le_of_lt hi)
  have hd : decErr (K.getD i []) = 0 := h _ (getD_mem K i [] hi)
  obtain ⟨h4, h5, h6⟩ := apply_ok h2 (by omega) hd
  have e : K.take (i + 1) = K.take i ++ [K.getD i []] := by rw [List.take_succ_eq_append_getElem hi]; simp [List.getD, hi]
  have e2 : stK K (i + 1) = (maApply (stK K i) (K.getD i [])).1 := by
    rw [stK, e, applied, appliedGo_append _ _ _ _ h1, appliedGo, if_neg (by rw [h4]; simp), appliedGo]
  exact ⟨h4, e2, by rw [e2]; exact h5, h6⟩
theorem RaOk.len {K : List Bytes} {n : Nat} {a : RA} (h : RaOk K n a) : a.es.length ≤ n := by have := h.ln; unfold raLast at this; omega
theorem RaOk.log {K : List Bytes} {n : Nat} {a : RA} (h : RaOk K n a) (hn : n ≤ 400) : LogOk ⟨a.b, a.es⟩ := by
  have h1 := h.len; have h2 := h.ln; unfold raLast at h2
  exact ⟨⟨by simp, by simp only; omega⟩, by simp only; omega, h.dec⟩
theorem RaOk.state {K : List Bytes} {n : Nat} {a : RA} (h : RaOk K n a) (hK : KOk K) : StOk (stK K a.i) ∧ (stK K a.i).index = a.i := stK_ok hK h.iK
theorem RaOk.more {K K' : List Bytes} {n n' : Nat} {a : RA} (h : RaOk K n a) (hK : K <+: K') (hn : n ≤ n') : RaOk K' n' a := by
  have h1 := h.bi; have h2 := h.iK; have h3 := h.il; have h4 := h.ln
  obtain ⟨t, rfl⟩ := hK
  refine ⟨h1, by rw [List.length_append]; omega, h3, by omega, ?_, h.dec⟩
  rw [h.ent, List.drop_append_of_le_length (by omega), List.take_append_of_le_length (by rw [List.length_drop]; omega)]
def raPut (a : RA) (from_ : Nat) (more : List Bytes) : RA := ⟨a.b, (putGo more (from_ - a.b) a.es).1, a.i⟩
def raApply (a : RA) (upto : Nat) : RA := ⟨a.b, a.es, upto⟩
def mailK (K : List Bytes) (j : Nat) : MailD := ⟨(cmdDecode (K.getD j [])).1.client, (cmdDecode (K.getD j [])).1.seq, (maApply (stK K j) (K.getD j [])).2.1⟩
def mailsK (K : List Bytes) (i upto : Nat) : List MailD := (List.range (upto - i)).map fun j => mailK K (i + j)
theorem mailsK_len (K : List Bytes) (i u : Nat) : (mailsK K i u).length = u - i := by simp [mailsK]
theorem mailsK_next (K : List Bytes) {i u : Nat} (h : i ≤ u) : mailsK K i (u + 1) = mailsK K i u ++ [mailK K u] := by
  rw [mailsK, show u + 1 - i = (u - i) + 1 by omega, List.range_succ, List.map_append, List.map_cons, List.map_nil, mailsK, show i + (u - i) = u by omega]
theorem RaOk.put {K : List Bytes} {n n' : Nat} {a : RA} (h : RaOk K n a) {f : Nat} {more : List Bytes} (hm : ∀ s ∈ more, decErr s = 0) (hf : a.i ≤ f) (hfl : f ≤ raLast a) (hn : n ≤ n') (hl : f + more.length ≤ n') :
    RaOk K n' (raPut a f more) ∧ (putGo more (f - a.b) a.es).2 = 0 ∧ f + more.length ≤ raLast (raPut a f more) ∧ (raPut a f more).es.take (f - a.b + more.length) = a.es.take (f - a.b) ++ more := by
  have h1 := h.bi; have h2 := h.iK; have h3 := h.il; have h4 := h.ln
  unfold raLast at *
  obtain ⟨o, o1, o2, o3, o4, o5⟩ := putGo_spec more (f - a.b) a.es hm (by omega)
  have e : raPut a f more = ⟨a.b, o, a.i⟩ := by rw [raPut, o1]
  rw [e, o1]
  refine ⟨⟨h1, h2, by show a.i ≤ a.b + o.length; omega, by show a.b + o.length ≤ _; omega, ?_, fun s hs => (o5 s hs).elim (h.dec s) (hm s)⟩, rfl, by show _ ≤ a.b + o.length; omega, o4⟩
  show o.take (a.i - a.b) = _
  rw [← h.ent]
  have := congrArg (List.take (a.i - a.b)) o4
  rw [List.take_take, List.take_append_of_le_length (by rw [List.length_take]; omega), List.take_take] at this
  rw [show min (a.i - a.b) (f - a.b + more.length) = a.i - a.b by omega, show min (a.i - a.b) (f - a.b) = a.i - a.b by omega] at this
  exact this
theorem RaOk.apply {K : List Bytes} {n : Nat} {a : RA} (h : RaOk K n a) {u : Nat} (hi : a.i ≤ u) (hK : u ≤ K.length) (hl : u ≤ raLast a) (he : a.es.take (u - a.b) = (K.drop a.b).take (u - a.b)) : RaOk K n (raApply a u) :=
  ⟨by have := h.bi; simp only [raApply]; omega, hK, hl, h.ln, he, h.dec⟩
end Go.Tk

namespace Go.Tk
open Go Go.RowKit
theorem BoxAt.store {w : World} {b : Nat} : ∀ (us cs : List Value) (o : Nat) {w : World}, BoxAt w b cs → o + us.length ≤ cs.length → BoxAt (w.setCells b o us) b (cs.take o ++ us ++ cs.drop (o + us.length))
  | [], cs, o, w, h, _ => by simpa [World.setCells] using h
  | u :: us, cs, o, w, h, hl => by
    rw [List.length_cons] at hl
    have := BoxAt.store (w := w) us (cs.set o u) (o + 1) (h.set o (by omega) u) (by rw [List.length_set]; omega)
    have e : (cs.set o u).take (o + 1) ++ us ++ (cs.set o u).drop (o + 1 + us.length) = cs.take o ++ (u :: us) ++ cs.drop (o + (us.length + 1)) := by
      rw [List.take_succ_eq_append_getElem (by rw [List.length_set]; omega), List.getElem_set_self, List.take_set_of_le (Nat.le_refl _), List.drop_set_of_lt (by omega)]
      simp [Nat.add_assoc, Nat.add_comm 1]
    rw [e] at this
    exact this
theorem BoxAt.storeAll {w : World} {b : Nat} {cs : List Value} (h : BoxAt w b cs) (us : List Value) (hl : us.length = cs.length) : BoxAt (w.setCells b 0 us) b us := by
  have := BoxAt.store (w := w) us cs 0 h (by omega)
  simpa [List.drop_of_length_le (show cs.length ≤ us.length by omega)] using this
theorem BoxAt.farAll {b c : Nat} {cs : List Value} (hne : b ≠ c) (us : List Value) (o : Nat) {w : World} (h : BoxAt w b cs) : BoxAt (w.setCells c o us) b cs := h.keep (heap_sets hne us o w)
structure RpAt (w : World) (r : ReplicaD) (ve vl vp vs : Value) (S : Nat → Prop) : Prop where
  ents : SlR 1 rStr w ve r.log.entries S
  st : StAt w r.state vl vp vs S
theorem RpAt.below {w w' : World} {r : ReplicaD} {ve vl vp vs : Value} {S : Nat → Prop} (h : RpAt w r ve vl vp vs S) (hb : Below w.heap.size w w') : RpAt w' r ve vl vp vs S :=
  ⟨h.ents.below rStr_ok (by decide) hb, h.st.below hb⟩
theorem RpAt.sub {w : World} {r : ReplicaD} {ve vl vp vs : Value} {S S' : Nat → Prop} (h : RpAt w r ve vl vp vs S) (hs : ∀ b, S b → b < w.heap.size → S' b) : RpAt w r ve vl vp vs S' :=
  ⟨h.ents.sub rStr_ok (by decide) hs, h.st.sub hs⟩
theorem RpAt.move {w w' : World} {r : ReplicaD} {ve vl vp vs : Value} {S S' : Nat → Prop} (h : RpAt w r ve vl vp vs S) (hs : ∀ b, S b → b < w.heap.size → w'.heap[b]? = w.heap[b]? ∧ S' b) : RpAt w' r ve vl vp vs S' :=
  ⟨h.ents.move rStr_ok (by decide) hs, h.st.move hs⟩
theorem RpAt.store {w : World} {r : ReplicaD} {ve vl vp vs : Value} {S S' : Nat → Prop} (h : RpAt w r ve vl vp vs S) {b : Nat} (o : Nat) (us : List Value) (hs : ∀ k, S k → k ≠ b ∧ S' k) : RpAt (w.setCells b o us) r ve vl vp vs S' :=
  h.move fun k hk _ => ⟨heap_sets (hs k hk).1 us o w, (hs k hk).2⟩
theorem StAt.store {w : World} {s : StateD} {vl vp vs : Value} {S S' : Nat → Prop} (h : StAt w s vl vp vs S) {b : Nat} (o : Nat) (us : List Value) (hs : ∀ k, S k → k ≠ b ∧ S' k) : StAt (w.setCells b o us) s vl vp vs S' :=
  h.move fun k hk _ => ⟨heap_sets (hs k hk).1 us o w, (hs k hk).2⟩
theorem SlR.store {α : Type} {k : Nat} {R : Rel α} (hR : RelOk R k) (hk : 0 < k) {w : World} {v : Value} {l : List α} {S S' : Nat → Prop} (h : SlR k R w v l S) {b : Nat} (o : Nat) (us : List Value) (hs : ∀ k, S k → k ≠ b ∧ S' k) : SlR k R (w.setCells b o us) v l S' :=
  h.move hR hk fun q hq _ => ⟨heap_sets (hs q hq).1 us o w, (hs q hq).2⟩
theorem RpAt.ones {w : World} {r : ReplicaD} {ve vl vp vs : Value} {S : Nat → Prop} (h : RpAt w r ve vl vp vs S) : ve.oneCell' = true ∧ vl.oneCell' = true ∧ vp.oneCell' = true ∧ vs.oneCell' = true :=
  ⟨h.ents.oneCell, h.st.lock.oneCell, h.st.pair.oneCell, h.st.sess.oneCell⟩
theorem RpAt.none (w : World) (S : Nat → Prop) : RpAt w noReplica (.slice none 0 0) (.slice none 0 0) (.slice none 0 0) (.slice none 0 0) S := ⟨SlR.nil _ _, SlR.nil _ _, SlR.nil _ _, SlR.nil _ _⟩
def RetRep (w : World) (r : ReplicaD) (c : Int) : Ending → World → Prop := fun e w' => ∃ ve vl vp vs, e = .returned (.tuple #[.agg #[.int .i64 r.log.base, ve, .string ⟨r.snap.toArray⟩, .int .i64 r.state.index, vl, vp, vs], .int .i64 c]) ∧ RpAt w' r ve vl vp vs (fun b => w.heap.size ≤ b) ∧ Below w.heap.size w w'
def rMail : Rel MailD := fun _ cs m _ => cs = [.int .i64 m.client, .int .i64 m.seq, .int .i64 m.reply.code, .int .i64 m.reply.n, .string ⟨m.reply.text.toArray⟩]
theorem rMail_ok : RelOk rMail 5 := ⟨by rintro w cs x S rfl; rfl, by rintro w cs x S rfl u hu; simp at hu; rcases hu with rfl | rfl | rfl | rfl | rfl <;> rfl, fun h _ => h⟩
theorem rMail_any (w : World) (cs : List Value) (x : MailD) (S S' : Nat → Prop) (h : rMail w cs x S) : rMail w cs x S' := h
def RetApply (w : World) (r : ReplicaD) (ms : List MailD) : Ending → World → Prop := fun e w' => ∃ ve vl vp vs vm, e = .returned (.tuple #[.agg #[.int .i64 r.log.base, ve, .string ⟨r.snap.toArray⟩, .int .i64 r.state.index, vl, vp, vs], vm, .int .i64 0]) ∧
  RpAt w' r ve vl vp vs (fun b => w.heap.size ≤ b) ∧ SlR 5 rMail w' vm ms (fun b => w.heap.size ≤ b) ∧ Below w.heap.size w w'
end Go.Tk
