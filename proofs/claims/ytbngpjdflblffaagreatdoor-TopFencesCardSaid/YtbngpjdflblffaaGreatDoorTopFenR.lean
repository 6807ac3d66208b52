/- TopFences: what the law says holds of every input; no condition. The card is tied by the given tie. -/
import Derived.Test.YtbngpjdflblffaaGreatDoorPe01
import Derived.Test.YtbngpjdflblffaaGreatDoorCards
import Derived.Test.YtbngpjdflblffaaGreatDoorTie
import Derived.ProofKit
import Derived.LaidMore
set_option linter.all false
set_option maxRecDepth 100000
namespace Go.Proofs.YtbngpjdflblffaaGreatDoor
open Go.RowKit Go.Tk
open Go.ChangeShapes Go.WideShapes Go.ChangeAt
open Go.WideMaps Go.WideElems
open Go.ChangeMaps (setBlock shut_map_nil open_string shut_string keptBut_setBlock frozen?_setBlock heap_setBlock_same)
theorem Tryz.ownTopFences:ownKnob Tryz.prog.godebug=none:=by kernel_rfl
theorem Tryz.aal:laidOutB Tryz.prog=true:=by kernel_rfl
theorem topFences_door (os:Os) (args:Array Value):laidMetH Tryz.prog Rows.topFencesRow.laid ((World.doorLaid Tryz.prog 24 os).forCall (fun _ _=>0) ⟨#[],args,[]⟩).memory :=
 laidMetH_of_parts3 (fuel:=8) (laidMet_of_run' 8 (by kernel_rfl) (by kernel_rfl)) (by kernel_rfl) (by kernel_rfl)
theorem aak (os:Os) (started:os.Started) (H:Type) (enc:TypeId×Value→H) :
 ReturnsInHanded {} Tryz.checked os 6 .any (fun w args=>(Rows.topFencesSpec.pre enc Tryz.prog Tryz.f6 [] false w args∧laidMetH Tryz.prog Rows.topFencesRow.laid w)∧sizedMet enc Tryz.prog Tryz.f6 (OpenSpec.ofChange Rows.topFencesSpec) false w args) (Rows.topFencesSpec.post enc Tryz.prog Tryz.f6 false true false false):=by
 refine returnsInHanded_of_change_and (C:=Tryz.checked) (X:=fun w _=>laidMetH Tryz.prog Rows.topFencesRow.laid w) (fun _ _ _ hh h=>h.of_heap hh) Tryz.ownTopFences started (by kernel_rfl) Tryz.func6
  (ChangeSpec.witness_shaped (enc:=enc) (C:=Tryz.checked) (os:=os) (X:=fun w _=>laidMetH Tryz.prog Rows.topFencesRow.laid w) false (World.doorLaid Tryz.prog 24 os) #[iN] 8 rfl (World.shaped_of_RefB (by kernel_rfl) (by kernel_rfl)) (by kernel_rfl) (by kernel_rfl) (by kernel_rfl) (topFences_door os _)) ?_
 intro W base args ds gs before hval0 hW _ _ _ _;have hval:∀(j:Nat) t v,Tryz.f6.params[j]?=some t→args[j]?=some v→Value.okWide Tryz.prog W .any base t v:=hval0;have hW':=hW;obtain ⟨p,q,Le,hV,rfl,hfz,hnd⟩:=hW;have hA:DataW.TrodAll enc Tryz.prog W 0 (fun _=>true) true Tryz.f6.params.toList args.toList ds p:=Le;rw [Tryz.params6] at hA hval;obtain ⟨v0,d0,rfl,rfl,h0⟩:=trodAll_one hA;obtain ⟨rfl,rfl⟩:=trodVars_none hV;obtain ⟨l0,hl0,MB⟩:=Tryz.Ba (hval 0 22 v0 rfl rfl) h0;clear Le hval0;have Mx:∀x∈p,x.block<W.heap.size:=by
  obtain ⟨f,hf⟩:=h0;exact fun x hx=>DataW.trod_lt f _ _ _ hf x hx
 refine (aam W l0 v0 _ hl0 MB).mono fun e W' ⟨he,hb⟩=>?_
 subst he;simp only [List.append_nil,List.nil_append] at hW';exact ⟨_,rfl,_,_,_,[],_,[],hW',trodAll_mk1 (shut_bool Tryz.underlying4 true),
  trodAll_mk1 (Below.trod Tryz.aal (by kernel_rfl) (of_decide_eq_true (by kernel_rfl)) h0 hb Mx),rfl,hb.frame _,fun h=>by cases h⟩
theorem topFences_said:Rows.TopFencesSaid :=
 OpenClaim.holds_of_wide 6 Tryz.f6 rfl rfl rfl rfl rfl rfl rfl ⟨rfl,rfl,rfl,rfl,rfl⟩ rfl rfl rfl rfl rfl (by kernel_rfl) Tryz.func6 (by kernel_rfl)
  (of_decide_eq_true (by kernel_rfl)) (by unfold Func.isWrapper;rw [if_neg (of_decide_eq_false (by kernel_rfl))];exact ⟨rfl,rfl⟩)
  (fun os started H enc _=>aak os started H enc)
theorem topFences_holds:Rows.TopFencesCardSaid :=
 Claim7.holds_tied_plain_at .later [] Rows.topFencesCard.laidKinds true Rows.topFencesCard.stood.harness false
  topFences_said (fun _ h=>by cases h) (by kernel_rfl) (fun _ h=>by cases h) topFences_row_tie rfl ⟨rfl,rfl⟩ (by kernel_rfl) rfl
  (fun f fn hf hfn=>by
   obtain rfl:f=6:=Option.some.inj ((show Tryz.prog.funcNamed Rows.topFencesRow.func=some 6 by kernel_rfl).symm.trans hf) |>.symm;obtain rfl:fn=Tryz.f6:=(Option.some.inj (Tryz.func6.symm.trans hfn)).symm;exact ⟨by kernel_rfl,fun j t ht=>by
    rw [Tryz.params6] at ht;have hm:t∈[22]:=by simpa using Array.mem_of_getElem? ht
    have hall:([22].all fun u=>!Tryz.prog.wantsStandIn u)=true:=by kernel_rfl
    exact (show Tryz.prog.wantsStandIn t=false by simpa using List.all_eq_true.1 hall t hm)⟩)
  (by kernel_rfl)
end Go.Proofs.YtbngpjdflblffaaGreatDoor
