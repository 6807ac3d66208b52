/- LinesFair: who stands in a line is given the lock in turn; no condition. -/
import Derived.Test.YtcjnnkbliapkgaaFree
import Derived.Test.YtcjnnkbliapkgaaLinesP
import Derived.Test.YtcjnnkbliapkgaaCodec
import Derived.ProofKit
import Derived.OpenShut
import Derived.Test.YtcjnnkbliapkgaaApp
namespace Go.Tk
open Go Go.RowKit
theorem lines_elems {E : Nat} {w : World} {v : Value} {a : Int} {S : Nat → Prop} (h : OwR E 1 rInt w v (ord a ++ [0]) S) : ∃ g off c, v = .slice (some ⟨g, off, none⟩) 4 c ∧ Hid (∀ j, j < 4 → w.cell? ⟨g, off + j, none⟩ = some (.int .i64 (lfH a (j + 1)))) ∧ g < w.heap.size := by
  have hr : SlR 1 rInt w v (ord a ++ [0]) (fun _ => True) := (h.forget (S' := fun _ => True) (fun _ _ _ _ _ h => h)).read rInt_ok (by decide) (fun _ _ => trivial)
  have hl : (ord a ++ [0]).length = 4 := rfl
  obtain ⟨g, off, c, row, hv, -, -, -⟩ := hr.row 0 (by rw [hl]; decide)
  have key : ∀ j (hj : j < 4), w.cell? ⟨g, off + j, none⟩ = some (.int .i64 (lfH a (j + 1))) := fun j hj => by
    obtain ⟨g2, off2, c2, row2, hv2, -, hrow2, hc2⟩ := hr.row j (by rw [hl]; exact hj)
    rw [hv] at hv2
    simp only [Value.slice.injEq, Option.some.injEq, Addr.mk.injEq, and_true] at hv2
    obtain ⟨⟨rfl, rfl⟩, _, _⟩ := hv2
    obtain rfl := hrow2
    have := hc2 0 _ rfl
    rw [Nat.mul_one, Nat.add_zero] at this
    rw [this]
    rcases (show j = 0 ∨ j = 1 ∨ j = 2 ∨ j = 3 by omega) with rfl | rfl | rfl | rfl <;> rfl
  exact ⟨g, off, c, by rw [hv, hl], key, World.block_lt_of_cell? w _ (key 0 (by decide))⟩
theorem lfH_last (a : Int) (j : Nat) (hj : j < 4) (ha : 1 ≤ a ∧ a ≤ 3) : (j = 3 ∧ lfH a (j + 1) = 0) ∨ (j < 3 ∧ 1 ≤ lfH a (j + 1)) := by
  rcases (show j = 0 ∨ j = 1 ∨ j = 2 ∨ j = 3 by omega) with rfl | rfl | rfl | rfl
  · right; refine ⟨by decide, ?_⟩; show 1 ≤ a; omega
  · right; refine ⟨by decide, ?_⟩; show 1 ≤ 1 + a % 3; omega
  · right; refine ⟨by decide, ?_⟩; show 1 ≤ 1 + (1 + a) % 3; omega
  · left; exact ⟨rfl, rfl⟩
end Go.Tk
namespace Go.Proofs.Ytcjnnkbliapkgaa
open Go.RowKit Go.Tk
open Go.ChangeShapes Go.WideShapes Go.ChangeAt
open Go.WideMaps Go.WideElems
open Go.ChangeMaps (setBlock shut_map_nil open_string shut_string keptBut_setBlock frozen?_setBlock heap_setBlock_same)

set_option maxRecDepth 100000 in
theorem kname_calls (n : Int) (hn : -9223372036854775808 ≤ n) (hn2 : n ≤ 9223372036854775807) (w : World) :
    Calls Try.prog 19 #[.int .i64 n] w fun e w' => e = .returned (.string ⟨(kname n).toArray⟩) ∧ Below w.heap.size w w' := by
  obtain ⟨p, hp, hp0, hp1⟩ : ∃ p, picked n 3 = p ∧ 0 ≤ p ∧ p < 3 := ⟨_, rfl, by unfold picked; split <;> omega, by unfold picked; split <;> omega⟩
  have HP := Lib.hid hp
  have HK := Lib.hid (show kname n = if picked n 3 = 0 then [97] else if picked n 3 = 1 then [98] else [107, 101, 121] from rfl)
  clear hp
  rcases (show p = 0 ∨ p = 1 ∨ p = 2 by omega) with rfl | rfl | rfl
  all_goals
    clear hp0 hp1
    go_enter Try.func19, Try.ntmps19
    go_wp2_with fail
    refine (picked_calls n _ (by omega) (by omega) hn hn2 _).mono ?_
    rw [HP.out]; rintro e w' ⟨rfl, rfl⟩
    go_wp2
    go_ret
    exact ⟨by rw [HK.out, HP.out]; rfl, below_alloc w _⟩

set_option maxRecDepth 100000 in
set_option maxHeartbeats 1600000 in
theorem linesFair_calls (n m : Int) (hn : -9223372036854775808 ≤ n) (hn2 : n ≤ 9223372036854775807) (hm : -9223372036854775808 ≤ m) (hm2 : m ≤ 9223372036854775807) (w : World) :
    Calls Try.prog 7 #[.int .i64 n, .int .i64 m] w fun e w' => e = .returned (.bool true) ∧ Below w.heap.size w w' := by
  have HK := Lib.hid (kname_ok n)
  obtain ⟨p, hp, hp0, hp1⟩ : ∃ p, picked m 3 = p ∧ 0 ≤ p ∧ p < 3 := ⟨_, rfl, by unfold picked; split <;> omega, by unfold picked; split <;> omega⟩
  have HP := Lib.hid hp
  obtain ⟨a, ha⟩ : ∃ a, 1 + p = a := ⟨_, rfl⟩
  have hw1 : IntKind.i64.wrap (1 + p) = a := (IntWalk.i64_in _ (by omega)).trans ha
  have ha1 : 1 ≤ a ∧ a ≤ 3 := by omega
  clear ha hp
  obtain ⟨ha1, ha2⟩ := ha1
  go_enter Try.func7, Try.ntmps7
  go_wp2_with fail
  refine (kname_calls n hn hn2 _).mono ?_; rintro e w0 ⟨rfl, hb0⟩
  generalize kname n = k at *
  go_wp2_with fail
  refine (take_calls [] k 9 true _ (fun _ => False) _ (SlR.nil _ _) (by simp)).mono ?_
  rw [take_nil HK.out (by omega)]; rintro e w1 ⟨v1, rfl, hl1, hb1⟩
  have ho1 := hl1.oneCell
  go_wp2_with fail
  refine (picked_calls m _ (by omega) (by omega) hm hm2 _).mono ?_
  rw [HP.out]; rintro e w' ⟨rfl, rfl⟩
  have HA := Lib.hid (show 1 ≤ a ∧ a ≤ 3 from ⟨ha1, ha2⟩)
  have HBW := Lib.hid (show Below w.heap.size w w1 from below_step hb0 hb1)
  have HL1 := Lib.hid (hl1.sub (S' := fun b => w.heap.size ≤ b) rLock_ok (by decide) (fun b hb _ => Nat.le_trans hb0.size hb))
  have hs01 := HBW.out.size
  clear hl1 hb0 hb1
  go_wp2_with fail
  rw [show (1 + a % 3) % 3 = (1 + a) % 3 by omega]
  go_loopw [6, 11, 12, 13, 14, 55] (fun v _ _ _ _ i wr => ∃ j : Nat, j ≤ 3 ∧ i = .int .i64 j ∧ Hid (SlR 4 rLock wr v [lf1 k a j] (fun b => w.heap.size ≤ b)) ∧ Hid (Below (w1.heap.size + 2) ((w1.alloc (.cells #[.int .i64 0, .int .i64 1, .string ⟨#[]⟩] 35)).alloc (.cells #[.int .i64 a, .int .i64 (1 + a % 3), .int .i64 (1 + (1 + a) % 3)] 3)) wr))
    (fun _ _ _ _ _ i _ => 3 - (intOf i).toNat)
  case atStart => exact ⟨0, by omega, rfl, HL1.out.below rLock_ok (by decide) (below_alloc2 w1 _ _), Below.refl _ _⟩
  case round =>
    obtain ⟨j, hj, rfl, hsl, hbw⟩ := hrel
    obtain ⟨-, -, hy, -, hzs⟩ := fresh2 hbw.out
    have hsw := hbw.out.size
    rw [size_alloc2] at hsw
    by_cases hlt : j < 3
    · have q : wr.cell? ⟨w1.heap.size + 1, j, none⟩ = some (.int .i64 ((ord a).getD j 0)) := by
        rcases (show j = 0 ∨ j = 1 ∨ j = 2 by omega) with rfl | rfl | rfl
        · exact hy 0
        · exact hy 1
        · exact hy 2
      have HT := Lib.hid (lf1_take HK.out HA.out j hlt)
      have HOK := Lib.hid (lf1_ok HK.out HA.out j hj).inner
      clear hy
      generalize (ord a).getD j 0 = o at *
      go_wp2_with fail
      refine (take_calls [lf1 k a j] k o true _ _ _ hsl.out HOK.out).mono ?_
      rw [HT.out]; rintro e w2 ⟨v2, rfl, hl2, hb2⟩
      have hone := hl2.oneCell
      have hs2 := hb2.size
      have HL2 := Lib.hid ((hl2.sub (S' := fun b => w.heap.size ≤ b) rLock_ok (by decide) (fun b hb _ => by show _ ≤ _; omega)).below rLock_ok (by decide) (below_alloc w2 (.cells #[.int .i64 10, .int .i64 9, .string ⟨#[]⟩] 35)))
      have HB2 := Lib.hid ((hbw.out.trans (hb2.mono (by omega))).alloc (by omega) (.cells #[.int .i64 10, .int .i64 9, .string ⟨#[]⟩] 35))
      clear hl2 hb2 hsl hbw q
      go_wp2
      go_roundw
      case rel => exact ⟨j + 1, by omega, by go_num, HL2.out, HB2.out⟩
      case measure => simp [intOf]; omega
    · obtain rfl : j = 3 := by omega
      have hy0 := hy 0; have hy1 := hy 1; have hy2 := hy 2
      clear hy
      have HOK := Lib.hid (lf1_ok HK.out HA.out 3 (by omega)).inner
      have HT := Lib.hid (lf1_full HK.out HA.out)
      have HBW2 := Lib.hid (show Below w.heap.size w wr from HBW.out.trans (((below_alloc2 w1 _ _).trans (hbw.out.mono (by omega))).mono hs01))
      go_wp2_with fail
      refine (take_calls [lf1 k a 3] k 8 true _ _ _ hsl.out HOK.out).mono ?_
      rw [HT.out]; rintro e w2 ⟨v2, rfl, hl2, hb2⟩
      have hs2 := hb2.size
      have HOR : Hid (SlR 1 rInt w2 (.slice (some ⟨w1.heap.size + 1, 0, none⟩) 3 3) (ord a) (fun _ => True)) := by
        refine ⟨_, 3, rfl, Nat.le_refl 3, by decide, (fun h => by cases h), fun i x hx => ⟨w1.heap.size + 1, 0, [.int .i64 x], rfl, trivial, rfl, fun q u hu => ?_⟩⟩
        have hk : ∀ o u, wr.cell? ⟨w1.heap.size + 1, o, none⟩ = some u → w2.cell? ⟨w1.heap.size + 1, o, none⟩ = some u := fun o u h => cell_keep h (hb2.block _ (by show _ < _; omega))
        match i, q, hx, hu with
        | 0, 0, hx, hu => cases hx; cases hu; exact hk _ _ hy0
        | 1, 0, hx, hu => cases hx; cases hu; exact hk _ _ hy1
        | 2, 0, hx, hu => cases hx; cases hu; exact hk _ _ hy2
      have HSL := Lib.hid hsl.out
      clear hy0 hy1 hy2 hl2 hsl
      have HC := Lib.hid (cloneInt_calls rInt_ok _ _ (ord a) _ (HOR.out.below rInt_ok (by decide) (below_alloc w2 (.cells #[.int .i64 8, .int .i64 0, .string ⟨#[]⟩] 35))) (show (3 : Nat) ≤ 1000000 by decide))
      go_wp2_with fail
      refine HC.out.mono ?_; rintro e w3 ⟨vC, rfl, hoC, hbC, hvC⟩
      clear HC HOR
      rw [World.size_alloc] at hbC hvC
      have hsC := hbC.size
      rw [World.size_alloc] at hsC
      go_wp2_with (at_builtin; refine wpList_app1 Try.tycInt (.tmp 89) (.tmp 90) rfl rfl rInt_ok (0 : Int) rfl rfl rfl hoC rfl (show (3 + 1) * (8 + 1) ≤ 140737488355328 by decide) ?_; intro v4 w4 ho4 hg4 hv4; obtain ⟨g4, off4, c4, rfl, HX4, hg4l⟩ := lines_elems ho4)
      have HB4 := Lib.hid (hbC.grown hg4 (by omega) (fun k hk => hvC k hk))
      have hs4 := hg4.size
      have HSL4 := Lib.hid (HSL.out.below rLock_ok (by decide) (below_step hb2 ((below_alloc w2 _).trans (HB4.out.mono (by omega)))))
      have HBW4 := Lib.hid (below_step HBW2.out (below_step hb2 ((below_alloc w2 _).trans (HB4.out.mono (by omega)))))
      clear HSL hoC hbC hvC ho4 hg4 hv4 hb2
      go_loopw [6, 18, 19, 20, 21, 22, 23, 24, 25, 26, 93] (fun v h _ _ _ _ _ _ _ _ i wr => ∃ j : Nat, j ≤ 4 ∧ i = .int .i64 j ∧ h = .int .i64 (lfH a j) ∧ Hid (SlR 4 rLock wr v [lf2 k a j] (fun b => w.heap.size ≤ b)) ∧ Hid (Below w4.heap.size w4 wr))
        (fun _ _ _ _ _ _ _ _ _ _ i _ => 4 - (intOf i).toNat)
      case atStart => exact ⟨0, by omega, rfl, rfl, HSL4.out, Below.refl _ _⟩
      case round =>
        obtain ⟨j, hj, rfl, rfl, hsl, hbw2⟩ := hrel
        have hsw2 := hbw2.out.size
        by_cases hlt : j < 4
        · have q := cell_keep (HX4.out j hlt) (hbw2.out.block g4 hg4l)
          have HTf := Lib.hid (lf2_free HK.out HA.out j hlt)
          have HTw := Lib.hid (lf2_who HK.out HA.out j hlt)
          have HO1 := Lib.hid (lf2_ok HK.out HA.out j (by omega)).inner
          have HO2 := Lib.hid (lf2_ok HK.out HA.out (j + 1) (by omega)).inner
          have HJ := Lib.hid (lfH_last a j hlt HA.out)
          have HE := Lib.hid (rfl : lfH a (j + 1) = lfH a (j + 1))
          generalize ho : lfH a (j + 1) = o at q HTf HTw HJ HE
          have HO := Lib.hid ho
          generalize lfH a j = h0 at *
          clear ho HE
          go_wp2_with fail
          refine (free_calls [lf2 k a j] k h0 _ _ _ hsl.out HO1.out).mono ?_
          rw [HTf.out]; rintro e w5 ⟨v5, rfl, hl5, hb5⟩
          have hone := hl5.oneCell
          have hs5 := hb5.size
          have HL5 := Lib.hid ((hl5.sub (S' := fun b => w.heap.size ≤ b) rLock_ok (by decide) (fun b hb _ => by show _ ≤ _; omega)).below rLock_ok (by decide) (below_alloc w5 (.cells #[.int .i64 0, .int .i64 o, .string ⟨#[]⟩] 35)))
          have HB5 := Lib.hid (hb5.trans ((below_alloc w5 (.cells #[.int .i64 0, .int .i64 o, .string ⟨#[]⟩] 35)).mono hs5))
          clear hl5 hb5 q
          go_wp2_with fail
          refine (lWho_calls [lf2 k a (j + 1)] k v5 _ _ HL5.out HO2.out).mono ?_
          rw [HTw.out]; rintro e w6 ⟨rfl, hb6⟩
          have HL6 := Lib.hid (HL5.out.below rLock_ok (by decide) hb6)
          have HB6 := Lib.hid (hbw2.out.trans ((HB5.out.trans (hb6.mono (by rw [World.size_alloc]; omega))).mono hsw2))
          clear hb6
          rcases HJ.out with ⟨rfl, rfl⟩ | ⟨h3, h1⟩
          · rw [if_pos rfl]
            go_wp2
            go_roundw
            case rel => exact ⟨3 + 1, by omega, by go_num, rfl, HL6.out, HB6.out⟩
            case measure => simp [intOf]
          · rw [if_neg (by omega)]
            have ho0 : (o != 0) = true := by rw [bne_iff_ne]; omega
            have hj2 : IntKind.i64.wrap ((j : Int) + 2) = (j : Int) + 2 := IntWalk.i64_in _ (by omega)
            go_wp2
            go_roundw
            case rel => exact ⟨j + 1, by omega, by go_num, by rw [HO.out], HL6.out, HB6.out⟩
            case measure => simp [intOf]; omega
        · obtain rfl : j = 4 := by omega
          obtain ⟨hz, -, hzs2⟩ := Tk.fresh (HB4.out.trans (hbw2.out.mono (by omega)))
          have z0 := hz 0
          clear hz
          have HBF := Lib.hid (below_step HBW4.out hbw2.out)
          clear hsl
          go_wp2
          go_ret
          exact ⟨rfl, HBF.out⟩

theorem Try.own5 : ownKnob Try.prog.godebug = none := by kernel_rfl

set_option maxRecDepth 100000 in
theorem linesFair_lifted (os : Os) (started : os.Started) (H : Type) (enc : TypeId × Value → H) :
    ReturnsInHanded {} Try.checked os 7 .any (Rows.linesFairSpec.pre6 enc Try.prog Try.f7 Rows.linesFairRow.domain false) (Rows.linesFairSpec.post enc Try.prog Try.f7 false true false false) := by
  refine returnsInHanded_of_change_sized (C := Try.checked) Try.own5 started (by kernel_rfl) Try.func7
    (ChangeSpec.witness6 (enc := enc) (C := Try.checked) false ⟨#[], #[.int .i64 0, .int .i64 0], []⟩ 8 (by kernel_rfl) (by kernel_rfl) (by kernel_rfl) (by kernel_rfl)) ?_
  intro W base args ds gs before hval0 hW _ _ _
  have hval : ∀ (j : Nat) t v, Try.f7.params[j]? = some t → args[j]? = some v → Value.okWide Try.prog W .any base t v := hval0
  have hW' := hW
  obtain ⟨p, q, hA0, hV, rfl, hfz, hnd⟩ := hW
  have hA : DataW.TrodAll enc Try.prog W 0 (fun _ => true) true Try.f7.params.toList args.toList ds p := hA0
  rw [Try.params7] at hA hval
  obtain ⟨v0, v1, d0, d1, p0, p1, rfl, rfl, rfl, h0, h1⟩ := trodAll_two hA
  obtain ⟨rfl, rfl⟩ := trodVars_none hV
  obtain ⟨n, rfl, rfl, rfl, wn⟩ := open_int Try.underlying3 (hval 0 3 v0 rfl rfl) h0
  obtain ⟨m, rfl, rfl, rfl, wm⟩ := open_int Try.underlying3 (hval 1 3 v1 rfl rfl) h1
  clear hA0 hval0
  have hwn := bounds_i64 wn
  have hwm := bounds_i64 wm
  refine (linesFair_calls n m hwn.1 hwn.2 hwm.1 hwm.2 W).mono fun e W' ⟨he, hb⟩ => ?_
  subst he
  simp only [List.append_nil] at hW'
  exact ⟨_, rfl, _, _, _, [], [], [], hW', trodAll_mk1 (shut_bool Try.underlying4 true),
    trodAll_mk2 (shut_int Try.underlying3 wn) (shut_int Try.underlying3 wm), rfl, hb.frame _, fun h => by cases h⟩

theorem linesFair_holds : Rows.LinesFairSaid :=
  OpenClaim.holds_of_wide 7 Try.f7 rfl rfl rfl rfl rfl rfl rfl ⟨rfl, rfl, rfl, rfl, rfl⟩ rfl rfl rfl rfl rfl (by kernel_rfl) Try.func7 (by kernel_rfl)
    (of_decide_eq_true (by kernel_rfl)) (by unfold Func.isWrapper; rw [if_neg (of_decide_eq_false (by kernel_rfl))]; exact ⟨rfl, rfl⟩)
    (fun os started H enc _ => linesFair_lifted os started H enc)
end Go.Proofs.Ytcjnnkbliapkgaa
