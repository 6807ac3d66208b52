/- CustomersAsk: what the law says holds of every input; no condition. The card is tied by the given tie. -/
import Derived.Test.YtphkkkmjkagkbaaDoorCustAsk
import Derived.Test.YtphkkkmjkagkbaaDoorRawT
import Derived.Test.YtphkkkmjkagkbaaDoorCards
import Derived.Test.YtphkkkmjkagkbaaDoorTie
import Derived.ProofKit
import Derived.LaidMore
import Derived.OpenShut
import Derived.Stop.Joined
import Derived.SevenTiedAt
namespace Go.Proofs.YtphkkkmjkagkbaaDoor
open Go.RowKit Go.Tk
open Go.ChangeShapes Go.WideShapes Go.ChangeAt
open Go.WideMaps Go.WideElems
open Go.ChangeMaps (setBlock shut_map_nil open_string shut_string keptBut_setBlock frozen?_setBlock heap_setBlock_same)

theorem Tryd.ownCustomersAsk : ownKnob Tryd.prog.godebug = none := by kernel_rfl
theorem Tryd.laidOutCustomersAsk : laidOutB Tryd.prog = true := by kernel_rfl
set_option maxRecDepth 100000 in
theorem customersAsk_door (os : Os) (args : Array Value) : laidMetH Tryd.prog Rows.customersAskRow.laid ((World.doorLaid Tryd.prog 24 os).forCall (fun _ _ => 0) ⟨#[], args, []⟩).memory :=
  laidMetH_of_parts3 (fuel := 8) (laidMet_of_run' 8 (by kernel_rfl) (by kernel_rfl)) (by kernel_rfl) (by kernel_rfl)
set_option maxRecDepth 100000 in
theorem customersAsk_lifted (os : Os) (started : os.Started) (H : Type) (enc : TypeId × Value → H) :
    ReturnsInHanded {} Tryd.checked os 7 .any (fun w args => (Rows.customersAskSpec.pre enc Tryd.prog Tryd.f7 [] false w args ∧ laidMetH Tryd.prog Rows.customersAskRow.laid w) ∧ sizedMet enc Tryd.prog Tryd.f7 (OpenSpec.ofChange Rows.customersAskSpec) false w args) (Rows.customersAskSpec.post enc Tryd.prog Tryd.f7 false true false false) := by
  refine returnsInHanded_of_change_and (C := Tryd.checked) (X := fun w _ => laidMetH Tryd.prog Rows.customersAskRow.laid w) (fun _ _ _ hh h => h.of_heap hh) Tryd.ownCustomersAsk started (by kernel_rfl) Tryd.func7
    (ChangeSpec.witness_shaped (enc := enc) (C := Tryd.checked) (os := os) (X := fun w _ => laidMetH Tryd.prog Rows.customersAskRow.laid w) false (World.doorLaid Tryd.prog 24 os) #[.int .i64 0, .slice none 0 0, .int .i64 0] 8 rfl (World.shaped_of_RefB (by kernel_rfl) (by kernel_rfl)) (by kernel_rfl) (by kernel_rfl) (by kernel_rfl) (customersAsk_door os _)) ?_
  intro W base args ds gs before hval0 hW _ _ _ _
  have hval : ∀ (j : Nat) t v, Tryd.f7.params[j]? = some t → args[j]? = some v → Value.okWide Tryd.prog W .any base t v := hval0
  have hW' := hW
  obtain ⟨p, q, hA0, hV, rfl, hfz, hnd⟩ := hW
  have hA : DataW.TrodAll enc Tryd.prog W 0 (fun _ => true) true Tryd.f7.params.toList args.toList ds p := hA0
  rw [Tryd.params7] at hA hval
  obtain ⟨v0, v1, v2, d0, d1, d2, p0, p1, p2, rfl, rfl, rfl, h0, h1, h2⟩ := trodAll_three hA
  obtain ⟨rfl, rfl⟩ := trodVars_none hV
  obtain ⟨m0, rfl, rfl, rfl, wm0⟩ := open_int Tryd.underlying3 (hval 0 3 v0 rfl rfl) h0
  obtain ⟨l1, hl1, hlr1⟩ := Tryd.rawTypes (hval 1 22 v1 rfl rfl) h1
  obtain ⟨m2, rfl, rfl, rfl, wm2⟩ := open_int Tryd.underlying3 (hval 2 3 v2 rfl rfl) h2
  clear hA0 hval0
  have hwm0 := bounds_i64 wm0
  have hwm2 := bounds_i64 wm2
  have hlt1 : ∀ x ∈ p1, x.block < W.heap.size := by
    obtain ⟨f, hf⟩ := h1
    exact fun x hx => DataW.trod_lt f _ _ _ hf x hx
  refine (customersAsk_calls W m0 hwm0.1 hwm0.2 l1 v1 _ hl1 hlr1 m2 hwm2.1 hwm2.2).mono fun e W' ⟨he, hb⟩ => ?_
  subst he
  simp only [List.append_nil, List.nil_append] at hW'
  exact ⟨_, rfl, _, _, _, [], _, [], hW', trodAll_mk1 (shut_bool Tryd.underlying4 true),
    trodAll_mk3 (shut_int Tryd.underlying3 wm0) (Below.trod Tryd.laidOutCustomersAsk (by kernel_rfl) (of_decide_eq_true (by kernel_rfl)) h1 hb hlt1) (shut_int Tryd.underlying3 wm2), rfl, hb.frame _, fun h => by cases h⟩

theorem customersAsk_said : Rows.CustomersAskSaid :=
  OpenClaim.holds_of_wide 7 Tryd.f7 rfl rfl rfl rfl rfl rfl rfl ⟨rfl, rfl, rfl, rfl, rfl⟩ rfl rfl rfl rfl rfl (by kernel_rfl) Tryd.func7 (by kernel_rfl)
    (of_decide_eq_true (by kernel_rfl)) (by unfold Func.isWrapper; rw [if_neg (of_decide_eq_false (by kernel_rfl))]; exact ⟨rfl, rfl⟩)
    (fun os started H enc _ => customersAsk_lifted os started H enc)
/-- The card. -/
theorem customersAsk_holds : Rows.CustomersAskCardSaid :=
  Claim7.holds_tied_plain_at .later [] Rows.customersAskCard.laidKinds true Rows.customersAskCard.stood.harness false
    customersAsk_said (fun _ h => by cases h) (by kernel_rfl) (fun _ h => by cases h) customersAsk_row_tie rfl ⟨rfl, rfl⟩ (by kernel_rfl) rfl
    (fun f fn hf hfn => by
      obtain rfl : f = 7 := Option.some.inj ((show Tryd.prog.funcNamed Rows.customersAskRow.func = some 7 by kernel_rfl).symm.trans hf) |>.symm
      obtain rfl : fn = Tryd.f7 := (Option.some.inj (Tryd.func7.symm.trans hfn)).symm
      exact ⟨by kernel_rfl, fun j t ht => by
        rw [Tryd.params7] at ht
        have hm : t ∈ [3, 22, 3] := by simpa using Array.mem_of_getElem? ht
        have hall : ([3, 22, 3].all fun u => !Tryd.prog.wantsStandIn u) = true := by kernel_rfl
        exact (show Tryd.prog.wantsStandIn t = false by simpa using List.all_eq_true.1 hall t hm)⟩)
    (by kernel_rfl)
end Go.Proofs.YtphkkkmjkagkbaaDoor
