/- SessionsEnd: who says nothing for long has no session any more, and not earlier; no condition. -/
import Derived.Test.YtcjnnkbliapkgaaJoin
import Derived.Test.YtcjnnkbliapkgaaFresh
import Derived.Test.YtcjnnkbliapkgaaCodec
import Derived.Test.YtcjnnkbliapkgaaNumP
import Derived.ProofKit
import Derived.OpenShut
namespace Go.Tk
theorem sessEnd_check (c k : Int) (hc : 1 ≤ c ∧ c ≤ 9) (hk : 1 ≤ k ∧ k ≤ 80) : sessCheck [⟨c, 1, 0, 1, []⟩] k = 0 := by
  refine sessCheck_ok.2 ⟨by omega, by simp, ?_, ?_, ?_⟩
  · intro x hx; simp at hx; subst hx; unfold sessBad; simp; omega
  · intro x hx; simp at hx; subst hx; rfl
  · intro i h1 h2; simp at h2; omega
theorem sessEnd_join (c : Int) (hc : 1 ≤ c ∧ c ≤ 9) : join [] 0 c = ([⟨c, 1, 0, 1, []⟩], ⟨0, 1, []⟩, 0) := by
  have h0 : sessCheck [] 0 = 0 := sessCheck_ok.2 ⟨by omega, by simp, by simp, by simp, by simp⟩
  rw [join, if_neg (by rw [h0]; simp), if_neg (by omega)]
  have h1 : sThere [] c = false := rfl
  rw [h1]; simp
theorem sessEnd_fresh (c k : Int) (hc : 1 ≤ c ∧ c ≤ 9) (hk : 1 ≤ k ∧ k ≤ 80) : (freshL [⟨c, 1, 0, 1, []⟩] k).2 = 0 ∧ (freshL [⟨c, 1, 0, 1, []⟩] k).1.length = if k < 41 then 1 else 0 := by
  rw [freshL, if_neg (by rw [sessEnd_check c k hc hk]; simp)]
  refine ⟨rfl, ?_⟩
  by_cases h : k < 41
  · have hp : freshP k ⟨c, 1, 0, 1, []⟩ = false := decide_eq_false (by show ¬ (40 < RowKit.wrap64 (k + 1 - 1)); unfold RowKit.wrap64; omega)
    rw [if_pos h]; simp [hp]
  · have hp : freshP k ⟨c, 1, 0, 1, []⟩ = true := decide_eq_true (by show 40 < RowKit.wrap64 (k + 1 - 1); unfold RowKit.wrap64; omega)
    rw [if_neg h]; simp [hp]
end Go.Tk
namespace Go.Proofs.Ytcjnnkbliapkgaa
open Go.RowKit Go.Tk
open Go.ChangeShapes Go.WideShapes Go.ChangeAt
open Go.WideMaps Go.WideElems
open Go.ChangeMaps (setBlock shut_map_nil open_string shut_string keptBut_setBlock frozen?_setBlock heap_setBlock_same)

set_option maxRecDepth 100000 in
set_option maxHeartbeats 400000 in
theorem sessionsEnd_calls (n m : Int) (hn : -9223372036854775808 ≤ n) (hn2 : n ≤ 9223372036854775807) (hm : -9223372036854775808 ≤ m) (hm2 : m ≤ 9223372036854775807) (w : World) :
    Calls Try.prog 5 #[.int .i64 n, .int .i64 m] w fun e w' => e = .returned (.bool true) ∧ Below w.heap.size w w' := by
  obtain ⟨c, hc, hc0, hc1⟩ : ∃ c, picked n 9 = c ∧ 0 ≤ c ∧ c < 9 := ⟨_, rfl, by unfold picked; split <;> omega, by unfold picked; split <;> omega⟩
  obtain ⟨k, hk, hk0, hk1⟩ : ∃ k, picked m 80 = k ∧ 0 ≤ k ∧ k < 80 := ⟨_, rfl, by unfold picked; split <;> omega, by unfold picked; split <;> omega⟩
  have PC := Lib.hid hc
  have PK := Lib.hid hk
  have PJ := Lib.hid (sessEnd_join (1 + c) (by omega))
  have PF := Lib.hid (sessEnd_fresh (1 + c) (1 + k) (by omega) (by omega))
  clear hc hk
  have hw1 : IntKind.i64.wrap (1 + c) = 1 + c := IntWalk.i64_in _ (by omega)
  have hw2 : IntKind.i64.wrap (1 + k) = 1 + k := IntWalk.i64_in _ (by omega)
  go_enter Try.func5, Try.ntmps5
  go_wp2_with fail
  refine (picked_calls n _ (by omega) (by omega) hn hn2 _).mono ?_
  rw [PC.out]; rintro e w' ⟨rfl, rfl⟩
  go_wp2_with fail
  refine (join_calls [] 0 (1 + c) _ _ _ (SlR.nil _ (fun _ => False)) (by omega)).mono ?_
  rw [PJ.out]; rintro e w1 ⟨v1, rfl, hl1, hb1⟩
  go_wp2_with fail
  refine (picked_calls m _ (by omega) (by omega) hm hm2 _).mono ?_
  rw [PK.out]; rintro e w' ⟨rfl, rfl⟩
  go_wp2_with fail
  refine (fresh_calls _ (1 + k) _ _ _ (hl1.below rSession_ok (by decide) (below_alloc _ _))).mono ?_
  rw [PF.out.1]; rintro e w2 ⟨v2, rfl, hl2, hb2⟩
  have hlen := PF.out.2
  obtain ⟨a2, c2, hv2, -⟩ := hl2
  by_cases hk41 : 1 + k < 41
  case pos =>
    rw [if_pos hk41] at hlen
    rw [hlen] at hv2
    subst hv2
    go_wp2
    go_ret
    exact ⟨rfl, below_step hb1 (below_step (below_alloc w1 _) hb2)⟩
  case neg =>
    rw [if_neg hk41] at hlen
    rw [hlen] at hv2
    subst hv2
    have hdk : decide (1 + k < 41) = false := decide_eq_false hk41
    go_wp2
    go_ret
    exact ⟨rfl, below_step hb1 (below_step (below_alloc w1 _) hb2)⟩

theorem Try.own3 : ownKnob Try.prog.godebug = none := by kernel_rfl

set_option maxRecDepth 100000 in
theorem sessionsEnd_lifted (os : Os) (started : os.Started) (H : Type) (enc : TypeId × Value → H) :
    ReturnsInHanded {} Try.checked os 5 .any (Rows.sessionsEndSpec.pre6 enc Try.prog Try.f5 Rows.sessionsEndRow.domain false) (Rows.sessionsEndSpec.post enc Try.prog Try.f5 false true false false) := by
  refine returnsInHanded_of_change_sized (C := Try.checked) Try.own3 started (by kernel_rfl) Try.func5
    (ChangeSpec.witness6 (enc := enc) (C := Try.checked) false ⟨#[], #[.int .i64 0, .int .i64 0], []⟩ 8 (by kernel_rfl) (by kernel_rfl) (by kernel_rfl) (by kernel_rfl)) ?_
  intro W base args ds gs before hval0 hW _ _ _
  have hval : ∀ (j : Nat) t v, Try.f5.params[j]? = some t → args[j]? = some v → Value.okWide Try.prog W .any base t v := hval0
  have hW' := hW
  obtain ⟨p, q, hA0, hV, rfl, hfz, hnd⟩ := hW
  have hA : DataW.TrodAll enc Try.prog W 0 (fun _ => true) true Try.f5.params.toList args.toList ds p := hA0
  rw [Try.params5] at hA hval
  obtain ⟨v0, v1, d0, d1, p0, p1, rfl, rfl, rfl, h0, h1⟩ := trodAll_two hA
  obtain ⟨rfl, rfl⟩ := trodVars_none hV
  obtain ⟨n, rfl, rfl, rfl, wn⟩ := open_int Try.underlying3 (hval 0 3 v0 rfl rfl) h0
  obtain ⟨m, rfl, rfl, rfl, wm⟩ := open_int Try.underlying3 (hval 1 3 v1 rfl rfl) h1
  clear hA0 hval0
  have hwn := bounds_i64 wn
  have hwm := bounds_i64 wm
  refine (sessionsEnd_calls n m hwn.1 hwn.2 hwm.1 hwm.2 W).mono fun e W' ⟨he, hb⟩ => ?_
  subst he
  simp only [List.append_nil] at hW'
  exact ⟨_, rfl, _, _, _, [], [], [], hW', trodAll_mk1 (shut_bool Try.underlying4 true),
    trodAll_mk2 (shut_int Try.underlying3 wn) (shut_int Try.underlying3 wm), rfl, hb.frame _, fun h => by cases h⟩

theorem sessionsEnd_holds : Rows.SessionsEndSaid :=
  OpenClaim.holds_of_wide 5 Try.f5 rfl rfl rfl rfl rfl rfl rfl ⟨rfl, rfl, rfl, rfl, rfl⟩ rfl rfl rfl rfl rfl (by kernel_rfl) Try.func5 (by kernel_rfl)
    (of_decide_eq_true (by kernel_rfl)) (by unfold Func.isWrapper; rw [if_neg (of_decide_eq_false (by kernel_rfl))]; exact ⟨rfl, rfl⟩)
    (fun os started H enc _ => sessionsEnd_lifted os started H enc)
end Go.Proofs.Ytcjnnkbliapkgaa
