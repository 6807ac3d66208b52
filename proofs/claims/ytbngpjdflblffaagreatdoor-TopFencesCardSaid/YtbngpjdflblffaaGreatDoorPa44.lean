/- A part of the proof, laid together from: CluT. -/
import Derived.Test.YtbngpjdflblffaaGreatDoorPa43
set_option linter.all false
set_option maxRecDepth 100000
set_option maxHeartbeats 12800000
namespace Go.Tk
open Go Go.RowKit
theorem LH {w:World} {b:Nat} {m:kM} (h:aD w b [iI m.client, iI m.seq, iI m.aI.code, iI m.aI.n, iS m.aI.text]):aZ 5 jV w (.slice (some ⟨b,0,none⟩) 1 1) [m] (fun q=>q=b) :=
 ⟨_,1,rfl,by simp,by simp [maxLen],by simp,fun i x hx=>by
  match i,hx with
  | 0,hx=>cases hx;exact ⟨b,0,_,rfl,rfl,rfl,fun j u hu=>by rw [show 0+0*5+j=j by omega];exact h.cell j u hu⟩⟩
theorem aT.m9 {m n:Nat} {x:bS} (h:aT m n x):x.bu.length≤9:=by
 rw [h.tK]
 by_cases hm:m=0
 ·omega
 ·have h1:=(h.bu (m - 1) (by omega)).1.id.2
  have h2:=(h.bu (m - 1) (by omega)).2.1;omega
theorem Av (x:bS) (m:kM):kD (fun c:bA=>c.id == m.client) x.bu=if nX x m<x.bu.length then (nX x m:Int) else -1:=by
 by_cases h:nX x m<x.bu.length
 ·rw [if_pos h]
  refine qO h (List.findIdx_getElem (w:=h)) fun j hj hlt=>?_
  have:=List.not_of_lt_findIdx hlt;simpa using this
 ·rw [if_neg h]
  refine mH fun j hj=>?_
  have:=List.not_of_lt_findIdx (p:=fun c:bA=>c.id == m.client) (xs:=x.bu) (i:=j) (by unfold nX at h;omega);simpa using this
end Go.Tk
namespace Go.Proofs.YtbngpjdflblffaaGreatDoor
open Go.RowKit Go.Tk
theorem FR (x:bA) (rv:Value) (jd:rv.oneCell'=true) (m:kM) (B:Nat) (w:World) (h:w.cell? ⟨B,0,none⟩=some (iI m.client)) (hl:B<w.heap.size) :
 Calls Tryz.prog 131 #[.agg #[iI x.id, iI x.session, iI x.next,rv], iP B 0] w fun e w''=>e=.returned (.bool (x.id == m.client))∧Below w.heap.size w w'':=by
 go_enter Tryz.func131,Tryz.ntmps131
 go_wp2;go_ret;exact ⟨rfl,aj w _⟩
theorem zM (m n:Nat) (x:bS) (X:Nat) (Z:Nat→Prop) (w:World) (h:gW 45 73 101 9 w X x Z) (hok:aT m n x) (a:dK) (ha:fC a) (hc0:a.k<0) :
 Calls Tryz.prog 88 #[iP X 0, .agg #[iI a.kind, iI a.c, iI a.r, iI a.k, iI a.op.kind, iS a.op.a, iS a.op.b, iI a.op.n]] w fun e w'=>e=.returned (iI ((x,(6:Int))).2)∧eY 45 73 101 9 w X Z w' ((x,(6:Int))).1:=by
 have HH:=iH h;obtain ⟨kd,c,r',k,op⟩:=a;simp only at hc0;clear h hok ha;have hd1:decide (k<0)=true:=decide_eq_true hc0;clear hc0
 go_enter Tryz.func88,Tryz.ntmps88
 go_upto_region 1 with (fail);generalize bF:w.alloc (.cells #[iI kd, iI c, iI r', iI k, iI op.kind, iS op.a, iS op.b, iI op.n] 70)=w1 at *;have hbz:=tQ bF;have HX:=iH (tO bF);have HB:=iH hbz;clear hbz;clear bF;obtain ⟨BX,jT⟩:∃BX,w.heap.size=BX:=⟨_,rfl⟩;rw [jT] at HX⊢;have yY:=iH jT;clear jT;have nL:=iH (cB HH.out HB.out);have y3:=HX.out.cell 3 _ rfl
 go_quiet (fail)
 have hbd:Below w1.heap.size w1 (w1.drewN nq):=below_drewN iB _;replace HX:=iH (HX.out.below hbd);replace HB:=iH (ah HB.out hbd);clear hbd;generalize w1.drewN nq=w2 at *;replace nL:=iH (cB HH.out HB.out);clear y3;go_wp2;go_ret;exact ⟨rfl,Z,nL.out,fun b hb=>.inl hb,aX.of_below HB.out⟩
theorem zL (m n:Nat) (x:bS) (X:Nat) (Z:Nat→Prop) (w:World) (h:gW 45 73 101 9 w X x Z) (hok:aT m n x) (a:dK) (ha:fC a) (hc0:0≤a.k) (hc1:(x.bD.length:Int)≤a.k) :
 Calls Tryz.prog 88 #[iP X 0, .agg #[iI a.kind, iI a.c, iI a.r, iI a.k, iI a.op.kind, iS a.op.a, iS a.op.b, iI a.op.n]] w fun e w'=>e=.returned (iI ((x,(6:Int))).2)∧eY 45 73 101 9 w X Z w' ((x,(6:Int))).1:=by
 have HH:=iH h;obtain ⟨kd,c,r',k,op⟩:=a;simp only at hc0 hc1;clear h hok ha;have hd1:decide (k<0)=false:=decide_eq_false (by omega);have hd2:decide ((x.bD.length:Int)≤k)=true:=decide_eq_true hc1;clear hc0 hc1
 go_enter Tryz.func88,Tryz.ntmps88
 go_upto_region 1 with (fail);generalize bF:w.alloc (.cells #[iI kd, iI c, iI r', iI k, iI op.kind, iS op.a, iS op.b, iI op.n] 70)=w1 at *;have hbz:=tQ bF;have HX:=iH (tO bF);have HB:=iH hbz;clear hbz;clear bF;obtain ⟨BX,jT⟩:∃BX,w.heap.size=BX:=⟨_,rfl⟩;rw [jT] at HX⊢;have yY:=iH jT;clear jT;have nL:=iH (cB HH.out HB.out);obtain ⟨vr,vc,vm,vk,hm⟩:=nL.out;obtain ⟨ca,cc,hv⟩:=hm.jh.shape;subst hv;have hone:=hm.rep.oneCell;have kL:=hm.nV.oneCell;have qb:=hm.comm.oneCell;have x2:=hm.box.cell 2 _ rfl;clear hm;have y3:=HX.out.cell 3 _ rfl
 go_quiet (fail)
 have hbd:Below w1.heap.size w1 (w1.drewN nq):=below_drewN iB _;replace HX:=iH (HX.out.below hbd);replace HB:=iH (ah HB.out hbd);clear hbd;generalize w1.drewN nq=w2 at *;replace nL:=iH (cB HH.out HB.out);clear y3;go_wp2;go_ret;exact ⟨rfl,Z,nL.out,fun b hb=>.inl hb,aX.of_below HB.out⟩
theorem Ej (m n:Nat) (x:bS) (X:Nat) (Z:Nat→Prop) (w:World) (h:gW 45 73 101 9 w X x Z) (hok:aT m n x) (a:dK) (ha:fC a) (hc0:0≤a.k) (hc1:a.k<x.bD.length) :
 Calls Tryz.prog 88 #[iP X 0, .agg #[iI a.kind, iI a.c, iI a.r, iI a.k, iI a.op.kind, iS a.op.a, iS a.op.b, iI a.op.n]] w fun e w'=>e=.returned (iI (qW x a).2)∧eY 45 73 101 9 w X Z w' (qW x a).1:=by
 have gG:=iH hok;obtain ⟨i,hi⟩:∃i:Nat,(i:Int)=a.k:=⟨a.k.toNat,by omega⟩;have him:i<x.bD.length:=by omega
 have Wl:=hok.bD;obtain ⟨kd,c,r',k,op⟩:=a;simp only at hi hc0 hc1⊢;subst hi;obtain ⟨M,hM⟩:∃M,x.bD.getD i wm=M:=⟨_,rfl⟩;obtain ⟨RES,uA⟩:∃RES,qW x ⟨kd,c,r',(i:Int),op⟩=RES:=⟨_,rfl⟩;rw [uA];have yX:=iH (show (if kd=11 then (if x.bD.length=60 then (x,(8:Int)) else (kU x [M],0)) else if kd=10 then (yR x i,0) else if x.bu.length≤nX x M then (yR x i,6) else qV (yR x i) (nX x M) (kE (iq x (nX x M)) M))=RES by rw [←uA,qW];simp only [Int.toNat_natCast,hM];rw [if_neg (show ¬ ((i:Int)<0∨(x.bD.length:Int)≤(i:Int)) by omega)]);have Yk:x.bu.length≤9:=hok.m9;clear hok ha hc0 hc1 uA;have hd1:decide ((i:Int)<0)=false:=decide_eq_false (by omega);have hd2:decide (x.bD.length≤i)=false:=decide_eq_false (by omega);obtain ⟨vr,vc,vm,vk,hm⟩:=h;obtain ⟨_,hnil⟩ | ⟨g,cap,hv⟩:=hm.jh.D9
 ·rw [hnil] at him;cases him
 subst hv;have Jz:=hm.jh;obtain ⟨hcap,hmax⟩:=Jz.room;unfold maxLen at hmax;obtain ⟨row,hR,hcells⟩:=Jz.at bT him;rw [show x.bD[i]=M from (getD_lt him).symm.trans hM] at hR;obtain rfl:=hR;have hgl:=Jz.lt g rfl;have xY:=hm.box.lt;have hone:=hm.rep.oneCell;have kL:=hm.nV.oneCell;have qb:=hm.comm.oneCell;have Wu:(i:Int)<(x.bD.length:Int):=by omega
 have HC:=iH hcells;have HM:=iH hm;clear Jz hcells hm hM
 go_enter Tryz.func88,Tryz.ntmps88
 go_upto_region 1 with (fail);generalize bF:w.alloc (.cells #[iI kd, iI c, iI r', iI (i:Int), iI op.kind, iS op.a, iS op.b, iI op.n] 70)=w1 at *;have hbz:=tQ bF;have HX:=iH (tO bF);have HB:=iH hbz;clear hbz;clear bF;obtain ⟨BX,jT⟩:∃BX,w.heap.size=BX:=⟨_,rfl⟩;rw [jT] at HX⊢;have yY:=iH jT;clear jT;have x2:=(HM.out.below HB.out).box.cell 2 _ rfl;have y3:=HX.out.cell 3 _ rfl
 go_quiet (fail)
 have hbd:Below w1.heap.size w1 (w1.drewN nq):=below_drewN iB _;replace HX:=iH (HX.out.below hbd);replace HB:=iH (ah HB.out hbd);clear hbd;generalize w1.drewN nq=w2 at *;clear hd1 hd2 x2 y3;have lM:=iH (HM.out.below HB.out);have x2:=lM.out.box.cell 2 _ rfl;have y3:=HX.out.cell 3 _ rfl;have c0:=aB (HC.out 0 _ rfl) (HB.out.block g hgl);have c1:=aB (HC.out 1 _ rfl) (HB.out.block g hgl);have c2:=aB (HC.out 2 _ rfl) (HB.out.block g hgl);have c3:=aB (HC.out 3 _ rfl) (HB.out.block g hgl);have c4:=aB (HC.out 4 _ rfl) (HB.out.block g hgl);simp only [Nat.add_zero] at c0;have uw:g<w2.heap.size:=Nat.lt_of_lt_of_le hgl HB.out.size;have yO:X<w2.heap.size:=Nat.lt_of_lt_of_le xY HB.out.size;have BF:=HX.out.lt;go_upto_region 3 with (fail);go_region;have Rl:=HB.out.size;have hbe:Below w2.heap.size w2 (w2.alloc (.cells #[iI M.client, iI M.seq, iI M.aI.code, iI M.aI.n, iS M.aI.text] 101)).drew:=Below.drew (aj w2 _);have H5:=iH (aD.drew (aD.new (w:=w2) (cs:=[iI M.client, iI M.seq, iI M.aI.code, iI M.aI.n, iS M.aI.text]) (E:=101)));clear c0 c1 c2 c3 c4 x2 y3 lM;replace HX:=iH (HX.out.below hbe);replace HB:=iH (ah HB.out hbe);clear hbe yO BF
 generalize (w2.alloc (.cells #[iI M.client, iI M.seq, iI M.aI.code, iI M.aI.n, iS M.aI.text] 101)).drew=w3 at *;obtain ⟨BM,TH⟩:∃BM,w2.heap.size=BM:=⟨_,rfl⟩;rw [TH] at H5 uw Rl⊢;have HLM:=iH Rl;clear TH Rl;refine eZ (fun wx=>w3=wx) rfl ?_;rintro _ rfl;have DT:=iH (HM.out.below HB.out);have y0:=HX.out.cell 0 _ rfl
 by_cases h11:kd=11
 case pos =>
  have HR1:=iH (yX.out.symm.trans (if_pos h11));have hk1:(kd == 11)=true:=by simp [h11]
  clear h11 yX;have x2:=DT.out.box.cell 2 _ rfl
  by_cases hl:x.bD.length=60
  ·have HR2:=iH (HR1.out.trans (if_pos hl))
   have he:((x.bD.length:Int) == 60)=true:=by simp;omega
   clear hl;go_wp2;go_ret;rw [HR2.out];exact ⟨rfl,Z,⟨_,_,_,_,DT.out⟩,fun b hb=>.inl hb,aX.of_below HB.out⟩
  ·have HR2:=iH (HR1.out.trans (if_neg hl))
   have he:((x.bD.length:Int) == 60)=false:=by simp;omega
   clear hl;go_upto_region 7 with (fail);clear he y0;obtain ⟨z0,z1,z2,z3,z4⟩:=IP H5.out
   go_wp2_with fail
   have hbq:Below w3.heap.size w3 (w3.alloc (.cells #[iI M.client, iI M.seq, iI M.aI.code, iI M.aI.n, iS M.aI.text] 101)):=aj w3 _;have HMQ:=iH (DT.out.below hbq);have HBQ:=iH (ah HB.out hbq);refine (Bd x X Z (fun q=>q=w3.heap.size) _ _ _ _ _ HMQ.out Wl [M] _ (LH aD.new) (fun b hb hw=>by have h1:=DT.out.lt hw;omega)).mono ?_;rintro e w5 ⟨rfl,hcd⟩;have vX:=iH (hcd.after HBQ.out);clear hcd z0 z1 z2 z3 z4 x2;go_wp2;go_ret;rw [HR2.out];exact ⟨rfl,vX.out⟩
 have HR1:=iH (yX.out.symm.trans (if_neg h11));have hk1:(kd == 11)=false:=by simpa using h11
 clear h11 yX;go_upto_region 9 with (fail);clear y0;refine dO 13 (fun done wx=>aX (fun q=>some q=(Value.slice (some ⟨g,0,none⟩) x.bD.length cap).ownBlock) w3 wx∧(done 10=false→Below w3.heap.size w3 wx)) (fun i _ _ wx wy=>(i=10→wx.grownBy wy (Value.slice (some ⟨g,0,none⟩) x.bD.length cap).ownBlock)∧(i≠10→Below wx.heap.size wx wy)) [eP (iP X 0),eP (iP X 0),eP (iP X 0),eP (iP X 2),eP (.slice (some ⟨g,0,none⟩) x.bD.length cap),eP (iP BX 3),eP (iI (i:Int)),eP (iP BX 3),eP (iI (i:Int)),eP (iI ((i:Int)+1)),(fun _ _ v wx=>(∃(a8:Option Addr) (c8:Nat),v=Value.slice a8 (x.bD.eraseIdx i).length c8∧bZ 101 5 jV wx (.slice a8 (x.bD.eraseIdx i).length c8) (x.bD.eraseIdx i) (fun _=>False)∧(Value.slice a8 (x.bD.eraseIdx i).length c8).ownBlock=some g∧w3.grownBy wx (some g))),eP (iP X 0),eP (iP X 2)] (by kernel_rfl) (by kernel_rfl) rfl ?hJ ?jP ?hst ?hself ?ek ?hend
 case hJ=>exact ⟨aX.of_below (Below.drew iB),fun _=>Below.drew iB⟩
 case jP =>
  intro i done vs1 x wx wy hi hdi h1 h2
  by_cases h:i=10
  ·subst h
   exact ⟨h1.1.grown (h2.1 rfl) fun q e=>.inl e.symm,fun hd=>by simp [bJ] at hd⟩
  ·exact ⟨h1.1.step (h2.2 h),fun hd=>ah (h1.2 (by simpa [bJ,Ne.symm h] using hd)) (h2.2 h)⟩
 case hst =>
  intro i j done vs1 x wa wb hi hj hne hdi hdj hwf hJ hS GG hV
  match j,hj with
  | 0,_=>exact hV
  | 1,_=>exact hV
  | 2,_=>exact hV
  | 3,_=>exact hV
  | 4,_=>exact hV
  | 5,_=>exact hV
  | 6,_=>exact hV
  | 7,_=>exact hV
  | 8,_=>exact hV
  | 9,_=>exact hV
  | 10,_=>exact (by obtain ⟨a8,c8,e,h1,h2,h3⟩:=hV;have hb:=(hS.2 (fun h=>hne h));exact ⟨a8,c8,e,h1.below bT hb,h2,grownBy_below h3 hb⟩)
  | 11,_=>exact hV
  | 12,_=>exact hV
  | n+13,hj=>exact absurd hj (by omega)
 case hself =>
  intro i done vs1 v w hi hV
  match i,hi with
  | 0,_=>exact hV
  | 1,_=>exact hV
  | 2,_=>exact hV
  | 3,_=>exact hV
  | 4,_=>exact hV
  | 5,_=>exact hV
  | 6,_=>exact hV
  | 7,_=>exact hV
  | 8,_=>exact hV
  | 9,_=>exact hV
  | 10,_=>exact hV
  | 11,_=>exact hV
  | 12,_=>exact hV
  | n+13,hi=>exact absurd hi (by omega)
 case ek =>
  simp only [gm,aJ,Act.put,Nat.reduceAdd,Nat.zero_add,pS];refine ⟨?_,?_,?_,?_,?_,?_,?_,?_,?_,?_,?_,?_,?_,trivial⟩
  all_goals
   intro done vs1 wx hJ hd hall hn K hK;simp [Region.binds] at hn;simp only [mM,eP,Act.put,Nat.reduceAdd,Nat.zero_add,pS] at hK
  ·go_wp2
   exact hK _ _ ⟨iD rfl,fun _=>iB⟩ rfl
  ·go_wp2
   exact hK _ _ ⟨iD rfl,fun _=>iB⟩ rfl
  ·have e1:vs1 1=iP X 0:=hall 1 (by omega) (by simp [hn])
   simp only [e1] at hK⊢;go_wp2;exact hK _ _ ⟨iD rfl,fun _=>iB⟩ rfl
  ·have e2:vs1 2=iP X 0:=hall 2 (by omega) (by simp [hn])
   simp only [e2] at hK⊢;go_wp2;exact hK _ _ ⟨iD rfl,fun _=>iB⟩ rfl
  ·have e3:vs1 3=iP X 2:=hall 3 (by omega) (by simp [hn])
   simp only [e3] at hK⊢;have x2:=DT.out.box.nK hJ.1 (fun e=>DT.out.nI.m e.symm) |>.cell 2 _ rfl;go_wp2;exact hK _ _ ⟨iD rfl,fun _=>iB⟩ rfl
  ·go_wp2
   exact hK _ _ ⟨iD rfl,fun _=>iB⟩ rfl
  ·have e5:vs1 5=iP BX 3:=hall 5 (by omega) (by simp [hn])
   simp only [e5] at hK⊢;have y3:=(HX.out.nK hJ.1 (fun e=>by have h1:=yY.out;have h2:BX=g:=(by cases e;rfl);omega)).cell 3 _ rfl;go_wp2;exact hK _ _ ⟨iD rfl,fun _=>iB⟩ rfl
  ·go_wp2
   exact hK _ _ ⟨iD rfl,fun _=>iB⟩ rfl
  ·have e7:vs1 7=iP BX 3:=hall 7 (by omega) (by simp [hn])
   simp only [e7] at hK⊢;have y3:=(HX.out.nK hJ.1 (fun e=>by have h1:=yY.out;have h2:BX=g:=(by cases e;rfl);omega)).cell 3 _ rfl;go_wp2;exact hK _ _ ⟨iD rfl,fun _=>iB⟩ rfl
  ·have e8:vs1 8=iI (i:Int):=hall 8 (by omega) (by simp [hn])
   simp only [e8] at hK⊢;go_wp2;exact hK _ _ ⟨iD rfl,fun _=>iB⟩ rfl
  ·have e4:vs1 4=.slice (some ⟨g,0,none⟩) x.bD.length cap:=hall 4 (by omega) (by simp [hn])
   have e6:vs1 6=iI (i:Int):=hall 6 (by omega) (by simp [hn]);have e9:vs1 9=iI ((i:Int)+1):=hall 9 (by omega) (by simp [hn]);simp only [e4,e6,e9] at hK⊢;have hb:=hJ.2 hd
   go_wp2_with fail
   refine (CL wx _ x.bD (fun _=>False) (DT.out.jh.below bT hb) (by omega) i him).mono ?_;rintro e w9 ⟨v9,rfl,wu,Il,Eu⟩;obtain ⟨a9,c9,rfl⟩:=wu.shape;have QS:=iH (show (∃(a8:Option Addr) (c8:Nat),Value.slice a9 (x.bD.eraseIdx i).length c9=Value.slice a8 (x.bD.eraseIdx i).length c8∧bZ 101 5 jV w9 (.slice a8 (x.bD.eraseIdx i).length c8) (x.bD.eraseIdx i) (fun _=>False)∧(Value.slice a8 (x.bD.eraseIdx i).length c8).ownBlock=some g∧w3.grownBy w9 (some g)) from ⟨a9,c9,rfl,wu,Eu,grownBy_trans (aY hb _) Il⟩);go_wp2;exact hK _ _ ⟨fun _=>Il,fun h=>absurd rfl h⟩ QS.out
  ·have e0:vs1 0=iP X 0:=hall 0 (by omega) (by simp [hn])
   simp only [e0] at hK⊢;go_wp2;exact hK _ _ ⟨iD rfl,fun _=>iB⟩ rfl
  ·have e11:vs1 11=iP X 0:=hall 11 (by omega) (by simp [hn])
   simp only [e11] at hK⊢;go_wp2;exact hK _ _ ⟨iD rfl,fun _=>iB⟩ rfl
 case hend =>
  intro done vs1 wx hJ hdn hv;obtain ⟨e0,e1,e2,e3,e4,e5,e6,e7,e8,e9,⟨a8,c8,e10,nu,qM,kN⟩,e11,e12,-⟩:=hv;simp only [eP] at e0 e1 e2 e3 e4 e5 e6 e7 e8 e9 e11 e12;simp only [aJ,Act.put,Nat.reduceAdd,Nat.zero_add,pS];rw [e0,e1,e2,e3,e4,e5,e6,e7,e8,e9,e10,e11,e12];clear e0 e1 e2 e3 e4 e5 e6 e7 e8 e9 e10 e11 e12;have HJ:=iH hJ.1;have Vo:=iH nu;have Zu:=iH kN;have Xk:=iH qM;clear hJ nu kN qM;have tx2:=(DT.out.box.nK HJ.out (fun e=>DT.out.nI.m e.symm)).thaw 2;have cx2:=(DT.out.box.nK HJ.out (fun e=>DT.out.nI.m e.symm)).cell 2 _ rfl;go_upto_region 10 with (fail);have hset:=DT.out.Jo Vo.out Zu.out (.inl Xk.out);have HF:=iH (show eB 45 73 101 9 _ X vr vc _ vk (yR x i) _ from hset.1);have zF:=iH (show aX Z w _ from (aX.of_below HB.out).trans hset.2 fun _ h=>.inl h);have Yn:Z g:=DT.out.own g (.inr (.inr (.inr (.inl rfl))));have HZ:=iH (show ∀b,(Z b∨some b=(Value.slice a8 (x.bD.eraseIdx i).length c8).ownBlock)→Z b from fun b hb=>hb.elim id fun e=>by have h1:=e.trans Xk.out;cases h1;exact Yn);have Nq:=iH (show aD (wx.setCell ⟨X,2,none⟩ (.slice a8 (x.bD.eraseIdx i).length c8)) BX [iI kd, iI c, iI r', iI (i:Int), iI op.kind, iS op.a, iS op.b, iI op.n] from ((HX.out.nK HJ.out (fun e=>by have h1:=yY.out;have h2:BX=g:=(by cases e;rfl);omega)).far (fun e=>by have h1:=yY.out;omega) _ _))
  have UC:=iH (show aD (wx.setCell ⟨X,2,none⟩ (.slice a8 (x.bD.eraseIdx i).length c8)) BM [iI M.client, iI M.seq, iI M.aI.code, iI M.aI.n, iS M.aI.text] from ((H5.out.nK HJ.out (fun e=>by have h2:BM=g:=(by cases e;rfl);omega)).far (fun e=>by have h1:=HM.out.box.lt;have h2:=HLM.out;omega) _ _));clear hset Yn tx2 cx2 Zu Xk Vo;generalize (wx.setCell ⟨X,2,none⟩ (.slice a8 (x.bD.eraseIdx i).length c8))=w4 at *;have y0:=Nq.out.cell 0 _ rfl
  by_cases h10:kd=10
  ·have HR2:=iH (HR1.out.trans (if_pos h10))
   have hk2:(kd == 10)=true:=by simp [h10]
   clear h10;go_wp2;go_ret;rw [HR2.out];exact ⟨rfl,_,⟨_,_,_,_,HF.out⟩,fun b hb=>.inl (HZ.out b hb),zF.out⟩
  have HR2:=iH (HR1.out.trans (if_neg h10));have hk2:(kd == 10)=false:=by simpa using h10
  clear h10 HR1;go_upto_region 12 with (fail);clear y0;have hin:=fun args w=>MuLone.run_callFunc_enter Tryz.func131 (by kernel_rfl) rfl args w
  have SL:aZ 4 nN w4 vc x.bu (fun _=>True):=(HF.out.nV.move (S':=fun _=>True) dV (fun _ _=>rfl) (fun b _ _ _=>⟨rfl,trivial⟩)).read dV (by decide) (fun _ _=>trivial);have hp:DN w4 none (fun _=>True) 131 (iP BM 0) (fun c=>c.id == M.client):=fun w' y rv hg hr=>FR y rv (by obtain ⟨v,e,hs⟩:=hr;simp [rR] at e;subst e;exact hs.oneCell) M BM w' (aB (UC.out.cell 0 _ rfl) (hg.block _ UC.out.lt (by simp))) (Nat.lt_of_lt_of_le UC.out.lt hg.size)
  have HI:=iH (zW w4 vc x.bu (fun _=>True) SL (by omega) 131 (iP BM 0) (fun c=>c.id == M.client) none hin hp);clear hin SL hp;have x1:=HF.out.box.cell 1 _ rfl
  by_cases hw:x.bu.length≤nX x M
  case pos =>
   have HR3:=iH (HR2.out.trans (if_pos hw));have HW:=iH hw;clear hw
   go_wp2_with fail
   refine HI.out.mono ?_;rw [Av,if_neg (by have:=HW.out;omega)];rintro e w5 ⟨rfl,hb5⟩;clear HI x1;go_wp2;go_ret;rw [HR3.out];exact ⟨rfl,_,⟨_,_,_,_,HF.out.below hb5⟩,fun b hb=>.inl (HZ.out b hb),zF.out.step hb5⟩
  have HR3:=iH (HR2.out.trans (if_neg hw));have hw:=Nat.lt_of_not_le hw;obtain ⟨W,WQ⟩:∃W,nX x M=W:=⟨_,rfl⟩;rw [WQ] at hw HR3;have HWE:=iH WQ;have NG:=iH hw;obtain ⟨C,hC⟩:∃C,iq x W=C:=⟨_,rfl⟩;have GR:=iH hC;have O9:=iH (show gB C from hC▸(gG.out.bu W (by have:=gG.out.tK;omega)).1);have Ub:=iH (show qV (yR x i) W (kE (iq x W) M)=RES from HR3.out.symm);obtain ⟨P,hP⟩:∃P,kE C M=P:=⟨_,rfl⟩;have HP:=iH hP;obtain ⟨cd,hcd⟩:∃cd,P.2=cd:=⟨_,rfl⟩;have vX:=iH hcd;clear WQ hw hC hP hcd HR3
  go_wp2_with fail
  refine HI.out.mono ?_;rw [Av,HWE.out,if_pos NG.out];rintro e w5 ⟨rfl,hb5⟩;clear HI x1;have Uk:=iH (HF.out.below hb5);have H55:=iH (UC.out.below hb5);have Uu:=iH (zF.out.step hb5);clear HF UC hb5 zF;obtain ⟨gc,KN,cv,Qq,JC,Mw,JB,hwt⟩:=Uk.out.uE (i:=W) NG.out;have VU:vc=.slice (some ⟨gc,0,none⟩) x.bu.length KN:=Qq;clear Qq;subst VU;unfold maxLen at Mw;have OA:∀(j:Nat) (u:Value),(rR (iq x W) cv)[j]?=some u→w5.cell? ⟨gc,W*4+j,none⟩=some u:=JB;have Oi:aZ 5 fI w5 cv (iq x W).waits _:=hwt;clear JB hwt;rw [GR.out] at OA Oi;obtain ⟨wa,wc,rfl,-,-,-,-⟩:=id Oi;have PT:=iH OA;have Ch:=iH Oi;have hc0:=OA 0 _ rfl;have Oy:=World.block_lt_of_cell? w5 _ hc0;have hX5:=Uk.out.box.lt;have Ym:x.bu.length≤KN:=JC;have hWL:(W:Int)<(x.bu.length:Int):=by have:=NG.out;omega
  have hdW:decide ((W:Int)<0)=false:=decide_eq_false (by omega);clear OA Oi hc0 JC;go_upto_region 15 with (fail);clear hdW
  refine dO 15 (fun _ wx=>Below w5.heap.size w5 wx) (fun i vs x wx wy=>(i=13→∃(b:Nat) (us:List Value),vs 12=iP b 0∧us.length=4∧w5.heap.size≤b∧wy=wx.setCells b 0 us)∧(i=12→x=iP (wx.heap.size) 0∧wy=wx.alloc (.cells #[iI 0, iI 0, iI 0, iN] 73))∧(i≠13→Below wx.heap.size wx wy)) [eP (iP X 0),eP (iP X 0),eP (iP X 1),eP (.slice (some ⟨gc,0,none⟩) x.bu.length KN),eP (iI (W:Int)),eP (.pointer (some ⟨gc,W*4,none⟩)),eP (.agg #[iI C.id, iI C.session, iI C.next, .slice wa C.waits.length wc]),eP (.agg #[iI M.client, iI M.seq, iI M.aI.code, iI M.aI.n, iS M.aI.text]),(fun done vs v wx=>∃(a4:Option Addr) (c4:Nat) (lo hi:Nat),v=.tuple #[.agg #[iI P.1.id, iI P.1.session, iI P.1.next, .slice a4 P.1.waits.length c4], iI cd]∧aZ 5 fI wx (.slice a4 P.1.waits.length c4) P.1.waits (fun q=>lo≤q∧q<hi)∧w5.heap.size≤lo∧hi≤wx.heap.size∧(done 12=true→∀b,vs 12=iP b 0→b<lo∨hi≤b)),(fun _ vs v _=>v=vs 8∧∃(a4:Option Addr) (c4:Nat),v=.tuple #[.agg #[iI P.1.id, iI P.1.session, iI P.1.next, .slice a4 P.1.waits.length c4], iI cd]),(fun _ vs v _=>∃(a4:Option Addr) (c4:Nat),vs 9=.tuple #[.agg #[iI P.1.id, iI P.1.session, iI P.1.next, .slice a4 P.1.waits.length c4], iI cd]∧v=.agg #[iI P.1.id, iI P.1.session, iI P.1.next, .slice a4 P.1.waits.length c4]),eP (iI cd),(fun _ _ v wx=>l6 w5.heap.size 4 v wx),(fun done vs _ wx=>done 8=true∧∃(a4:Option Addr) (c4:Nat) (lo hi b:Nat),vs 8=.tuple #[.agg #[iI P.1.id, iI P.1.session, iI P.1.next, .slice a4 P.1.waits.length c4], iI cd]∧vs 12=iP b 0∧aD wx b [iI P.1.id, iI P.1.session, iI P.1.next, .slice a4 P.1.waits.length c4]∧aZ 5 fI wx (.slice a4 P.1.waits.length c4) P.1.waits (fun q=>lo≤q∧q<hi)∧w5.heap.size≤lo∧hi≤wx.heap.size∧(b<lo∨hi≤b)∧w5.heap.size≤b),eP (iI cd)] (by kernel_rfl) (by kernel_rfl) rfl ?hJ ?jP ?hst ?hself ?ek ?hend
  case hJ=>exact Below.drew iB
  case jP =>
   intro i done vs1 x wx wy hi hdi h1 h2
   by_cases h:i=13
   ·obtain ⟨b,us,-,-,hL,rfl⟩:=h2.1 h
    exact bG hL us 0 _ h1
   ·exact ah h1 (h2.2.2 h)
  case hst =>
   intro i j done vs1 x wa wb hi hj hne hdi hdj hwf hJ hS GG hV
   match j,hj with
   | 0,_=>exact hV
   | 1,_=>exact hV
   | 2,_=>exact hV
   | 3,_=>exact hV
   | 4,_=>exact hV
   | 5,_=>exact hV
   | 6,_=>exact hV
   | 7,_=>exact hV
   | 8,_ =>
     by_cases hs:i=13
     ·subst hs
      obtain ⟨-,a4,c4,lo,hi,b,e1,e2,-,h3,h4,h5,h6,-⟩:=GG;refine ⟨a4,c4,lo,hi,e1,h3,h4,h5,fun hd b2 hb2=>?_⟩;have hb3:vs1 12=iP b2 0:=hb2;rw [e2] at hb3;simp only [Value.pointer.injEq,Option.some.injEq,Addr.mk.injEq,and_true] at hb3;subst hb3;exact h6
     ·obtain ⟨a4,c4,lo,hi,e1,h3,h4,h5,h6⟩:=hV
      have hb:=hS.2.2 hs;refine ⟨a4,c4,lo,hi,e1,aZ.below aV (by decide) h3 hb,h4,Nat.le_trans h5 hb.size,fun hd b2 hb2=>?_⟩
      by_cases ha:i=12
      ·subst ha
       have hx:=(hS.2.1 rfl).1;have hb3:x=iP b2 0:=hb2;rw [hx] at hb3;simp only [Value.pointer.injEq,Option.some.injEq,Addr.mk.injEq,and_true] at hb3;exact .inr (by omega)
      ·have hd2:done 12=true:=by simpa [bJ,Ne.symm ha] using hd
       have hb3:vs1 12=iP b2 0:=by simpa [dm,Ne.symm ha] using hb2
       exact h6 hd2 b2 hb3
   | 9,_ =>
     have h2:¬ 8=i:=by
      intro h;subst h;exact absurd (Eq.trans (show false=Region.waitsFor Region.Mode.any _ 9 8 from hwf.symm) (show _=true by kernel_rfl)) (by decide)
     exact ⟨Eq.trans hV.1 (by simp [dm,h2]),hV.2⟩
   | 10,_ =>
     have h2:¬ 9=i:=by
      intro h;subst h;exact absurd (Eq.trans (show false=Region.waitsFor Region.Mode.any _ 10 9 from hwf.symm) (show _=true by kernel_rfl)) (by decide)
     obtain ⟨a4,c4,e1,e2⟩:=hV;exact ⟨a4,c4,by simp [dm,h2];exact e1,e2⟩
   | 11,_=>exact hV
   | 12,_ =>
     by_cases h:i=13
     ·obtain ⟨b,us,-,hl,hL,e⟩:=hS.1 h
      exact l6.store hV ⟨b,us,hl,hL,e⟩
     ·exact l6.below hV (hS.2.2 h)
   | 13,_ =>
     have h1:i≠13:=fun h=>hne h
     have h2:¬ 8=i:=by
      intro h;subst h;exact absurd (Eq.trans (show false=Region.waitsFor Region.Mode.any _ 13 8 from hwf.symm) (show _=true by kernel_rfl)) (by decide)
     have h3:¬ 12=i:=by
      intro h;subst h;exact absurd (Eq.trans (show false=Region.waitsFor Region.Mode.any _ 13 12 from hwf.symm) (show _=true by kernel_rfl)) (by decide)
     have hb:=hS.2.2 h1;obtain ⟨hdc,a4,c4,lo,hi,b,e1,e2,g1,g2,g3,g4,g5,g6⟩:=hV;exact ⟨by simp [bJ,hdc],a4,c4,lo,hi,b,by simp [dm,h2];exact e1,by simp [dm,h3];exact e2,g1.below hb,aZ.below aV (by decide) g2 hb,g3,Nat.le_trans g4 hb.size,g5,g6⟩
   | 14,_=>exact hV
   | n+15,hj=>exact absurd hj (by omega)
  case hself =>
   intro i done vs1 v w hi hV
   match i,hi with
   | 0,_=>exact hV
   | 1,_=>exact hV
   | 2,_=>exact hV
   | 3,_=>exact hV
   | 4,_=>exact hV
   | 5,_=>exact hV
   | 6,_=>exact hV
   | 7,_=>exact hV
   | 8,_ =>
     obtain ⟨a4,c4,lo,hi,e1,h3,h4,h5,h6⟩:=hV;exact ⟨a4,c4,lo,hi,e1,h3,h4,h5,fun hd b hb=>h6 (by simpa [bJ] using hd) b (by simpa [dm] using hb)⟩
   | 9,_=>exact ⟨Eq.trans hV.1 (by simp [dm]),hV.2⟩
   | 10,_ =>
     obtain ⟨a4,c4,e1,e2⟩:=hV;exact ⟨a4,c4,by simp [dm];exact e1,e2⟩
   | 11,_=>exact hV
   | 12,_=>exact hV
   | 13,_ =>
     obtain ⟨hdc,a4,c4,lo,hi,b,e1,e2,g⟩:=hV;exact ⟨by simp [bJ,hdc],a4,c4,lo,hi,b,by simp [dm];exact e1,by simp [dm];exact e2,g⟩
   | 14,_=>exact hV
   | n+15,hi=>exact absurd hi (by omega)
  case ek =>
   simp only [gm,aJ,Act.put,Nat.reduceAdd,Nat.zero_add,pS];refine ⟨?_,?_,?_,?_,?_,?_,?_,?_,?_,?_,?_,?_,?_,?_,?_,trivial⟩
   all_goals
    intro done vs1 wx hJ hd hall hn K hK;simp [Region.binds] at hn;simp only [mM,eP,Act.put,Nat.reduceAdd,Nat.zero_add,pS] at hK
   ·go_wp2
    exact hK _ _ ⟨iD rfl,iD rfl,fun _=>iB⟩ rfl
   ·have e0:vs1 0=iP X 0:=hall 0 (by omega) (by simp [hn])
    simp only [e0] at hK⊢;go_wp2;exact hK _ _ ⟨iD rfl,iD rfl,fun _=>iB⟩ rfl
   ·have e1:vs1 1=iP X 0:=hall 1 (by omega) (by simp [hn])
    simp only [e1] at hK⊢;go_wp2;exact hK _ _ ⟨iD rfl,iD rfl,fun _=>iB⟩ rfl
   ·have e2:vs1 2=iP X 1:=hall 2 (by omega) (by simp [hn])
    simp only [e2] at hK⊢;have x1:=(Uk.out.below hJ).box.cell 1 _ rfl;go_wp2;exact hK _ _ ⟨iD rfl,iD rfl,fun _=>iB⟩ rfl
   ·go_wp2
    exact hK _ _ ⟨iD rfl,iD rfl,fun _=>iB⟩ rfl
   ·have e3:vs1 3=.slice (some ⟨gc,0,none⟩) x.bu.length KN:=hall 3 (by omega) (by simp [hn])
    have e4:vs1 4=iI (W:Int):=hall 4 (by omega) (by simp [hn]);simp only [e3,e4] at hK⊢;go_wp2;exact hK _ _ ⟨iD rfl,iD rfl,fun _=>iB⟩ rfl
   ·have e5:vs1 5=.pointer (some ⟨gc,W*4,none⟩):=hall 5 (by omega) (by simp [hn])
    simp only [e5] at hK⊢;have c0:=aB (PT.out 0 _ rfl) (hJ.block gc Oy);have c1:=aB (PT.out 1 _ rfl) (hJ.block gc Oy);have c2:=aB (PT.out 2 _ rfl) (hJ.block gc Oy);have c3:=aB (PT.out 3 _ rfl) (hJ.block gc Oy);simp only [Nat.add_zero] at c0;go_wp2;exact hK _ _ ⟨iD rfl,iD rfl,fun _=>iB⟩ rfl
   ·obtain ⟨z0,z1,z2,z3,z4⟩:=IP (H55.out.below hJ)
    go_wp2;exact hK _ _ ⟨iD rfl,iD rfl,fun _=>iB⟩ rfl
   ·have e6:vs1 6=.agg #[iI C.id, iI C.session, iI C.next, .slice wa C.waits.length wc]:=hall 6 (by omega) (by simp [hn])
    have e7:vs1 7=.agg #[iI M.client, iI M.seq, iI M.aI.code, iI M.aI.n, iS M.aI.text]:=hall 7 (by omega) (by simp [hn]);simp only [e6,e7] at hK⊢;have hsx:=Ch.out.below aV (by decide) hJ
    go_wp2_with fail
    refine (BJ C M _ _ wx hsx O9.out).mono ?_;rw [HP.out];rintro e w9 ⟨v9,he,Oq,gQ⟩;obtain ⟨a4,c4,rfl,-,-,-,-⟩:=id Oq;simp only [Al,vX.out] at he;subst he;have hr:aZ 5 fI w9 (.slice a4 P.1.waits.length c4) P.1.waits (fun q=>wx.heap.size≤q∧q<w9.heap.size):=Oq.sub aV (by decide) fun b hb hl=>⟨hb,hl⟩
    go_wp2;refine hK _ _ ⟨iD rfl,iD rfl,fun _=>gQ⟩ ⟨a4,c4,wx.heap.size,w9.heap.size,rfl,hr,hJ.size,Nat.le_refl _,fun hd b hb=>?_⟩;obtain ⟨b2,cs2,-,e2,-,hbx⟩:l6 w5.heap.size 4 (vs1 12) wx:=hall 12 (by omega) hd;rw [hb] at e2;simp only [Value.pointer.injEq,Option.some.injEq,Addr.mk.injEq,and_true] at e2;subst e2;exact .inl hbx.lt
   ·obtain ⟨a4,c4,lo,hi,e5,-⟩:((fun done vs v wx=>∃(a4:Option Addr) (c4:Nat) (lo hi:Nat),v=.tuple #[.agg #[iI P.1.id, iI P.1.session, iI P.1.next, .slice a4 P.1.waits.length c4], iI cd]∧aZ 5 fI wx (.slice a4 P.1.waits.length c4) P.1.waits (fun q=>lo≤q∧q<hi)∧w5.heap.size≤lo∧hi≤wx.heap.size∧(done 12=true→∀b,vs 12=iP b 0→b<lo∨hi≤b)):VE) done vs1 (vs1 8) wx:=hall 8 (by omega) (by simp [hn])
    simp only [e5] at hK⊢;go_wp2;exact hK _ _ ⟨iD rfl,iD rfl,fun _=>iB⟩ ⟨rfl,a4,c4,rfl⟩
   ·obtain ⟨a4,c4,e6⟩:∃(a4:Option Addr) (c4:Nat),vs1 9=.tuple #[.agg #[iI P.1.id, iI P.1.session, iI P.1.next, .slice a4 P.1.waits.length c4], iI cd]:=(hall 9 (by omega) (by simp [hn])).2
    simp only [e6] at hK⊢;go_wp2;exact hK _ _ ⟨iD rfl,iD rfl,fun _=>iB⟩ ⟨a4,c4,rfl,rfl⟩
   ·obtain ⟨a4,c4,e6⟩:∃(a4:Option Addr) (c4:Nat),vs1 9=.tuple #[.agg #[iI P.1.id, iI P.1.session, iI P.1.next, .slice a4 P.1.waits.length c4], iI cd]:=(hall 9 (by omega) (by simp [hn])).2
    simp only [e6] at hK⊢;go_wp2;exact hK _ _ ⟨iD rfl,iD rfl,fun _=>iB⟩ rfl
   ·go_wp2
    exact hK _ _ ⟨iD rfl,fun _=>⟨rfl,rfl⟩,fun _=>aj wx _⟩ (l6.new _ [iI 0, iI 0, iI 0, iN] _ hJ.size)
   ·obtain ⟨a4,c4,lo,hi,e5,h3,h4,h5,h6⟩:((fun done vs v wx=>∃(a4:Option Addr) (c4:Nat) (lo hi:Nat),v=.tuple #[.agg #[iI P.1.id, iI P.1.session, iI P.1.next, .slice a4 P.1.waits.length c4], iI cd]∧aZ 5 fI wx (.slice a4 P.1.waits.length c4) P.1.waits (fun q=>lo≤q∧q<hi)∧w5.heap.size≤lo∧hi≤wx.heap.size∧(done 12=true→∀b,vs 12=iP b 0→b<lo∨hi≤b)):VE) done vs1 (vs1 8) wx:=hall 8 (by omega) (by simp [hn])
    have e6:vs1 9=vs1 8:=(hall 9 (by omega) (by simp [hn])).1;obtain ⟨a4',c4',f6,e7⟩:((fun _ vs v _=>∃(a4:Option Addr) (c4:Nat),vs 9=.tuple #[.agg #[iI P.1.id, iI P.1.session, iI P.1.next, .slice a4 P.1.waits.length c4], iI cd]∧v=.agg #[iI P.1.id, iI P.1.session, iI P.1.next, .slice a4 P.1.waits.length c4]):VE) done vs1 (vs1 10) wx:=hall 10 (by omega) (by simp [hn]);rw [e6,e5] at f6;simp [and_assoc] at f6;obtain ⟨rfl,rfl⟩:=f6;obtain ⟨b,cs,hcl,e9,hL,hbx⟩:l6 w5.heap.size 4 (vs1 12) wx:=hall 12 (by omega) (by simp [hn]);obtain ⟨z0,z1,z2,z3,rfl⟩:∃z0 z1 z2 z3,cs=[z0,z1,z2,z3]:=by
     match cs,hcl with
     | [z0,z1,z2,z3],_=>exact ⟨z0,z1,z2,z3,rfl⟩
    have hap:=h6 (by simp [hn]) b e9;simp only [e7,e9] at hK⊢;obtain ⟨y0,y1,y2,y3⟩:=dJ hbx;obtain ⟨t0,t1,t2,t3⟩:=nH hbx;go_wp2;exact hK undef (wx.setCells b 0 [iI P.1.id, iI P.1.session, iI P.1.next, .slice a4 P.1.waits.length c4]) ⟨fun _=>⟨b,[iI P.1.id, iI P.1.session, iI P.1.next, .slice a4 P.1.waits.length c4],rfl,rfl,hL,rfl⟩,iD rfl,fun h=>absurd rfl h⟩ ⟨by simp [hn],a4,c4,lo,hi,b,e5,rfl,hbx.storeAll _ rfl,aZ.store aV (by decide) h3 0 _ ((fun q hq=>⟨by have h1:=hq.1;have h2:=hq.2;omega,hq⟩)),h4,Nat.le_trans h5 (bG (Nat.zero_le _) _ 0 _ (Below.refl 0 _)).size,hap,hL⟩
   ·have e11:vs1 11=iI cd:=hall 11 (by omega) (by simp [hn])
    simp only [e11] at hK⊢;go_wp2;exact hK _ _ ⟨iD rfl,iD rfl,fun _=>iB⟩ rfl
  case hend =>
   intro done vs1 wx hJ hdn hv;obtain ⟨e0,e1,e2,e3,e4,e5,e6,e7,e8,-,-,e11,-,⟨-,a4,c4,lo,hi,b,eC,eA,hbx,hrl,hlo,hhi,hap,hbL⟩,e14,-⟩:=hv;simp only [eP] at e0 e1 e2 e3 e4 e5 e6 e7 e11 e14;simp only [aJ,Act.put,Nat.reduceAdd,Nat.zero_add,pS];rw [eA,e0,e1,e2,e3,e4,e5,e6,e7,e11,e14];clear eA eC e0 e1 e2 e3 e4 e5 e6 e7 e11 e14;have HU:=iH hbx;have RY:=iH hrl;have IY:=iH (Uk.out.below hJ);have Ut:=iH (Uu.out.step hJ);clear hbx hrl hJ
   by_cases hc:cd=0
   ·have uX:=iH (show RES=({ yR x i with bu:=x.bu.set W P.1 },0) by rw [←Ub.out,GR.out,HP.out,qV,if_pos (vX.out.trans hc)];rfl)
    clear vX;subst hc;go_upto_region 17 with (fail);have x1:=IY.out.box.cell 1 _ rfl;obtain ⟨u0,u1,u2,u3⟩:=dJ HU.out;have f0:=IY.out.nV.thaw (W*4);have f1:=IY.out.nV.thaw (W*4+1);have f2:=IY.out.nV.thaw (W*4+2);have f3:=IY.out.nV.thaw (W*4+3);obtain ⟨g',cap',cv',hv',-,-,BD,-⟩:=IY.out.uE (i:=W) NG.out;have hv2:Value.slice (some ⟨gc,0,none⟩) x.bu.length KN=Value.slice (some ⟨g',0,none⟩) x.bu.length cap':=hv';simp only [Value.slice.injEq,Option.some.injEq,Addr.mk.injEq,and_true,true_and] at hv2;obtain ⟨rfl,rfl⟩:=hv2;have e0:=BD 0 _ rfl;have e1:=BD 1 _ rfl;have e2:=BD 2 _ rfl;have e3:=BD 3 _ rfl;simp only [Nat.add_zero] at e0;clear BD hv';go_region;have hset:=IY.out.LK (i:=W) (c:=P.1) (cs:=[iI P.1.id, iI P.1.session, iI P.1.next, .slice a4 P.1.waits.length c4]) (P:=fun q=>lo≤q∧q<hi) NG.out rfl ⟨_,rfl,RY.out⟩ (fun b hb hw=>by have h1:=Uk.out.lt hw;have h2:=hb.1;omega);have HF6:=iH (show eB 45 73 101 9 (((((wx.setCell ⟨gc,W*4,none⟩ (iI P.1.id)).setCell ⟨gc,W*4+1,none⟩ (iI P.1.session)).setCell ⟨gc,W*4+2,none⟩ (iI P.1.next)).setCell ⟨gc,W*4+3,none⟩ (.slice a4 P.1.waits.length c4))).drew X _ _ _ vk { yR x i with bu:=x.bu.set W P.1 } _ from hset.1.below (Below.drew iB))
    have XJ:=iH (show aX Z w (((((wx.setCell ⟨gc,W*4,none⟩ (iI P.1.id)).setCell ⟨gc,W*4+1,none⟩ (iI P.1.session)).setCell ⟨gc,W*4+2,none⟩ (iI P.1.next)).setCell ⟨gc,W*4+3,none⟩ (.slice a4 P.1.waits.length c4))).drew from (Ut.out.trans hset.2 fun b hb=>.inl (HZ.out b hb)).step (Below.drew iB));clear hset x1 u0 u1 u2 u3 f0 f1 f2 f3 e0 e1 e2 e3;generalize (((((wx.setCell ⟨gc,W*4,none⟩ (iI P.1.id)).setCell ⟨gc,W*4+1,none⟩ (iI P.1.session)).setCell ⟨gc,W*4+2,none⟩ (iI P.1.next)).setCell ⟨gc,W*4+3,none⟩ (.slice a4 P.1.waits.length c4))).drew=wf at *;refine eZ (fun wx=>wf=wx) rfl ?_;rintro _ rfl;go_wp2;go_ret;rw [uX.out];exact ⟨rfl,_,⟨_,_,_,_,HF6.out⟩,fun b hb=>hb.elim (fun h=>.inl (HZ.out b h)) fun h=>.inr (Nat.le_trans Uu.out.size (Nat.le_trans hlo h.1)),XJ.out⟩
   ·have uX:=iH (show RES=(yR x i,cd) by rw [←Ub.out,GR.out,HP.out,qV,if_neg (by rw [vX.out];exact hc),vX.out])
    have hcb:(cd == 0)=false:=by simpa using hc
    clear vX;go_wp2;go_ret;rw [uX.out];exact ⟨rfl,_,⟨_,_,_,_,IY.out⟩,fun b hb=>.inl (HZ.out b hb),Ut.out⟩
theorem H6 (m n:Nat) (x:bS) (X:Nat) (Z:Nat→Prop) (w:World) (h:gW 45 73 101 9 w X x Z) (hok:aT m n x) (a:dK) (ha:fC a) :
 Calls Tryz.prog 88 #[iP X 0, .agg #[iI a.kind, iI a.c, iI a.r, iI a.k, iI a.op.kind, iS a.op.a, iS a.op.b, iI a.op.n]] w fun e w'=>e=.returned (iI (qW x a).2)∧eY 45 73 101 9 w X Z w' (qW x a).1:=by
 by_cases hc:a.k<0∨(x.bD.length:Int)≤a.k
 ·rw [qW,if_pos hc]
  by_cases hc0:a.k<0
  ·exact zM m n x X Z w h hok a ha hc0
  ·exact zL m n x X Z w h hok a ha (by omega) (by omega)
 ·exact Ej m n x X Z w h hok a ha (by omega) (by omega)
end Go.Proofs.YtbngpjdflblffaaGreatDoor
