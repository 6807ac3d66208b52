/- ClustersGood: what the law says holds of every input; no condition. The card is tied by the given tie. -/
import Derived.Test.YtbngpjdflblffaaGreatDoorPf01
import Derived.Test.YtbngpjdflblffaaGreatDoorCards
import Derived.Test.YtbngpjdflblffaaGreatDoorTie
import Derived.ProofKit
import Derived.LaidMore
set_option linter.all false
set_option maxRecDepth 100000
namespace Go.Proofs.YtbngpjdflblffaaGreatDoor
open Go.RowKit Go.Tk
open Go.ChangeShapes Go.WideShapes Go.ChangeAt
open Go.WideMaps Go.WideElems
open Go.ChangeMaps (setBlock shut_map_nil open_string shut_string keptBut_setBlock frozen?_setBlock heap_setBlock_same)
theorem Tryz.aan:ownKnob Tryz.prog.godebug=none:=by kernel_rfl
theorem Tryz.aaf:laidOutB Tryz.prog=true:=by kernel_rfl
theorem aaj (os:Os) (args:Array Value):laidMetH Tryz.prog Rows.clustersGoodRow.laid ((World.doorLaid Tryz.prog 24 os).forCall (fun _ _=>0) ⟨#[],args,[]⟩).memory :=
 laidMetH_of_parts3 (fuel:=8) (laidMet_of_run' 8 (by kernel_rfl) (by kernel_rfl)) (by kernel_rfl) (by kernel_rfl)
theorem aag (os:Os) (started:os.Started) (H:Type) (enc:TypeId×Value→H) :
 ReturnsInHanded {} Tryz.checked os 5 .any (fun w args=>(Rows.clustersGoodSpec.pre enc Tryz.prog Tryz.f5 [] false w args∧laidMetH Tryz.prog Rows.clustersGoodRow.laid w)∧sizedMet enc Tryz.prog Tryz.f5 (OpenSpec.ofChange Rows.clustersGoodSpec) false w args) (Rows.clustersGoodSpec.post enc Tryz.prog Tryz.f5 false true false false):=by
 refine returnsInHanded_of_change_and (C:=Tryz.checked) (X:=fun w _=>laidMetH Tryz.prog Rows.clustersGoodRow.laid w) (fun _ _ _ hh h=>h.of_heap hh) Tryz.aan started (by kernel_rfl) Tryz.func5
  (ChangeSpec.witness_shaped (enc:=enc) (C:=Tryz.checked) (os:=os) (X:=fun w _=>laidMetH Tryz.prog Rows.clustersGoodRow.laid w) false (World.doorLaid Tryz.prog 24 os) #[iN, iI 0] 8 rfl (World.shaped_of_RefB (by kernel_rfl) (by kernel_rfl)) (by kernel_rfl) (by kernel_rfl) (by kernel_rfl) (aaj os _)) ?_
 intro W base args ds gs before hval0 hW _ _ _ _;have hval:∀(j:Nat) t v,Tryz.f5.params[j]?=some t→args[j]?=some v→Value.okWide Tryz.prog W .any base t v:=hval0;have hW':=hW;obtain ⟨p,q,Le,hV,rfl,hfz,hnd⟩:=hW;have hA:DataW.TrodAll enc Tryz.prog W 0 (fun _=>true) true Tryz.f5.params.toList args.toList ds p:=Le;rw [Tryz.params5] at hA hval;obtain ⟨v0,v1,d0,d1,p0,p1,rfl,rfl,rfl,h0,h1⟩:=trodAll_two hA;obtain ⟨rfl,rfl⟩:=trodVars_none hV;obtain ⟨l0,hl0,MB⟩:=Tryz.Ba (hval 0 22 v0 rfl rfl) h0;obtain ⟨m1,rfl,rfl,rfl,Sg⟩:=open_int Tryz.underlying3 (hval 1 3 v1 rfl rfl) h1;clear Le hval0;have Mo:=bounds_i64 Sg;have Mx:∀x∈p0,x.block<W.heap.size:=by
  obtain ⟨f,hf⟩:=h0;exact fun x hx=>DataW.trod_lt f _ _ _ hf x hx
 refine (aah W l0 v0 _ hl0 MB m1 Mo.1 Mo.2).mono fun e W' ⟨he,hb⟩=>?_
 subst he;simp only [List.append_nil,List.nil_append] at hW';exact ⟨_,rfl,_,_,_,[],_,[],hW',trodAll_mk1 (shut_bool Tryz.underlying4 true),
  trodAll_mk2 (Below.trod Tryz.aaf (by kernel_rfl) (of_decide_eq_true (by kernel_rfl)) h0 hb Mx) (shut_int Tryz.underlying3 Sg),rfl,hb.frame _,fun h=>by cases h⟩
theorem aai:Rows.ClustersGoodSaid :=
 OpenClaim.holds_of_wide 5 Tryz.f5 rfl rfl rfl rfl rfl rfl rfl ⟨rfl,rfl,rfl,rfl,rfl⟩ rfl rfl rfl rfl rfl (by kernel_rfl) Tryz.func5 (by kernel_rfl)
  (of_decide_eq_true (by kernel_rfl)) (by unfold Func.isWrapper;rw [if_neg (of_decide_eq_false (by kernel_rfl))];exact ⟨rfl,rfl⟩)
  (fun os started H enc _=>aag os started H enc)
theorem clustersGood_holds:Rows.ClustersGoodCardSaid :=
 Claim7.holds_tied_plain_at .later [] Rows.clustersGoodCard.laidKinds true Rows.clustersGoodCard.stood.harness false
  aai (fun _ h=>by cases h) (by kernel_rfl) (fun _ h=>by cases h) clustersGood_row_tie rfl ⟨rfl,rfl⟩ (by kernel_rfl) rfl
  (fun f fn hf hfn=>by
   obtain rfl:f=5:=Option.some.inj ((show Tryz.prog.funcNamed Rows.clustersGoodRow.func=some 5 by kernel_rfl).symm.trans hf) |>.symm;obtain rfl:fn=Tryz.f5:=(Option.some.inj (Tryz.func5.symm.trans hfn)).symm;exact ⟨by kernel_rfl,fun j t ht=>by
    rw [Tryz.params5] at ht;have hm:t∈[22,3]:=by simpa using Array.mem_of_getElem? ht
    have hall:([22,3].all fun u=>!Tryz.prog.wantsStandIn u)=true:=by kernel_rfl
    exact (show Tryz.prog.wantsStandIn t=false by simpa using List.all_eq_true.1 hall t hm)⟩)
  (by kernel_rfl)
end Go.Proofs.YtbngpjdflblffaaGreatDoor
