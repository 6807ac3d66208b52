/- TopTwice: what the law says holds of every input; no condition. The card is tied by the given tie. -/
import Derived.Test.YtbngpjdflblffaaGreatDoorPb01
import Derived.Test.YtbngpjdflblffaaGreatDoorCards
import Derived.Test.YtbngpjdflblffaaGreatDoorTie
import Derived.ProofKit
import Derived.LaidMore
set_option linter.all false
set_option maxRecDepth 100000
namespace Go.Proofs.YtbngpjdflblffaaGreatDoor
open Go.RowKit Go.Tk
open Go.ChangeShapes Go.WideShapes Go.ChangeAt
open Go.WideMaps Go.WideElems
open Go.ChangeMaps (setBlock shut_map_nil open_string shut_string keptBut_setBlock frozen?_setBlock heap_setBlock_same)
theorem Tryz.FN:ownKnob Tryz.prog.godebug=none:=by kernel_rfl
theorem Tryz.zO:laidOutB Tryz.prog=true:=by kernel_rfl
theorem Cr (os:Os) (args:Array Value):laidMetH Tryz.prog Rows.topTwiceRow.laid ((World.doorLaid Tryz.prog 24 os).forCall (fun _ _=>0) ⟨#[],args,[]⟩).memory :=
 laidMetH_of_parts3 (fuel:=8) (laidMet_of_run' 8 (by kernel_rfl) (by kernel_rfl)) (by kernel_rfl) (by kernel_rfl)
theorem zG (os:Os) (started:os.Started) (H:Type) (enc:TypeId×Value→H) :
 ReturnsInHanded {} Tryz.checked os 9 .any (fun w args=>(Rows.topTwiceSpec.pre enc Tryz.prog Tryz.f9 [] false w args∧laidMetH Tryz.prog Rows.topTwiceRow.laid w)∧sizedMet enc Tryz.prog Tryz.f9 (OpenSpec.ofChange Rows.topTwiceSpec) false w args) (Rows.topTwiceSpec.post enc Tryz.prog Tryz.f9 false true false false):=by
 refine returnsInHanded_of_change_and (C:=Tryz.checked) (X:=fun w _=>laidMetH Tryz.prog Rows.topTwiceRow.laid w) (fun _ _ _ hh h=>h.of_heap hh) Tryz.FN started (by kernel_rfl) Tryz.func9
  (ChangeSpec.witness_shaped (enc:=enc) (C:=Tryz.checked) (os:=os) (X:=fun w _=>laidMetH Tryz.prog Rows.topTwiceRow.laid w) false (World.doorLaid Tryz.prog 24 os) #[iN] 8 rfl (World.shaped_of_RefB (by kernel_rfl) (by kernel_rfl)) (by kernel_rfl) (by kernel_rfl) (by kernel_rfl) (Cr os _)) ?_
 intro W base args ds gs before hval0 hW _ _ _ _;have hval:∀(j:Nat) t v,Tryz.f9.params[j]?=some t→args[j]?=some v→Value.okWide Tryz.prog W .any base t v:=hval0;have hW':=hW;obtain ⟨p,q,Le,hV,rfl,hfz,hnd⟩:=hW;have hA:DataW.TrodAll enc Tryz.prog W 0 (fun _=>true) true Tryz.f9.params.toList args.toList ds p:=Le;rw [Tryz.params9] at hA hval;obtain ⟨v0,d0,rfl,rfl,h0⟩:=trodAll_one hA;obtain ⟨rfl,rfl⟩:=trodVars_none hV;obtain ⟨l0,hl0,MB⟩:=Tryz.Ba (hval 0 22 v0 rfl rfl) h0;clear Le hval0;have Mx:∀x∈p,x.block<W.heap.size:=by
  obtain ⟨f,hf⟩:=h0;exact fun x hx=>DataW.trod_lt f _ _ _ hf x hx
 refine (AB W l0 v0 _ hl0 MB).mono fun e W' ⟨he,hb⟩=>?_
 subst he;simp only [List.append_nil,List.nil_append] at hW';exact ⟨_,rfl,_,_,_,[],_,[],hW',trodAll_mk1 (shut_bool Tryz.underlying4 true),
  trodAll_mk1 (Below.trod Tryz.zO (by kernel_rfl) (of_decide_eq_true (by kernel_rfl)) h0 hb Mx),rfl,hb.frame _,fun h=>by cases h⟩
theorem Cq:Rows.TopTwiceSaid :=
 OpenClaim.holds_of_wide 9 Tryz.f9 rfl rfl rfl rfl rfl rfl rfl ⟨rfl,rfl,rfl,rfl,rfl⟩ rfl rfl rfl rfl rfl (by kernel_rfl) Tryz.func9 (by kernel_rfl)
  (of_decide_eq_true (by kernel_rfl)) (by unfold Func.isWrapper;rw [if_neg (of_decide_eq_false (by kernel_rfl))];exact ⟨rfl,rfl⟩)
  (fun os started H enc _=>zG os started H enc)
theorem topTwice_holds:Rows.TopTwiceCardSaid :=
 Claim7.holds_tied_plain_at .later [] Rows.topTwiceCard.laidKinds true Rows.topTwiceCard.stood.harness false
  Cq (fun _ h=>by cases h) (by kernel_rfl) (fun _ h=>by cases h) topTwice_row_tie rfl ⟨rfl,rfl⟩ (by kernel_rfl) rfl
  (fun f fn hf hfn=>by
   obtain rfl:f=9:=Option.some.inj ((show Tryz.prog.funcNamed Rows.topTwiceRow.func=some 9 by kernel_rfl).symm.trans hf) |>.symm;obtain rfl:fn=Tryz.f9:=(Option.some.inj (Tryz.func9.symm.trans hfn)).symm;exact ⟨by kernel_rfl,fun j t ht=>by
    rw [Tryz.params9] at ht;have hm:t∈[22]:=by simpa using Array.mem_of_getElem? ht
    have hall:([22].all fun u=>!Tryz.prog.wantsStandIn u)=true:=by kernel_rfl
    exact (show Tryz.prog.wantsStandIn t=false by simpa using List.all_eq_true.1 hall t hm)⟩)
  (by kernel_rfl)
end Go.Proofs.YtbngpjdflblffaaGreatDoor
