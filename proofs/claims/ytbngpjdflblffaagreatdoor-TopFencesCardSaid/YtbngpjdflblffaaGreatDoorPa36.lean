/- A part of the proof, laid together from: CluF. -/
import Derived.Test.YtbngpjdflblffaaGreatDoorPa35
set_option linter.all false
set_option maxRecDepth 100000
set_option maxHeartbeats 12800000
namespace Go.Tk
open Go Go.RowKit
theorem nW {B:Nat} {w w':World} (h:aX (fun q=>q=B) w w') (hB:B≤w.heap.size):Below B w w' :=
 { os:=h.os,tape:=h.tape,output:=h.output,size:=h.size,block:=fun i hi=>h.block i (Nat.lt_of_lt_of_le hi hB) (by omega) }
theorem NY {K:List Bytes} {a:RA} (hK:tL K) {lb:Nat} (hlb:lb≤K.length) (h0:0<lb) :
 (⟨⟨(dF K lb).index,if (dF K lb).index≤dH (dw K a).log then (dw K a).log.entries.drop ((dF K lb).index - (dw K a).log.base).toNat else []⟩,eD (dF K lb),dF K lb⟩:dL)=dw K (gY a lb):=by
 rw [(tY hK hlb).2];have e1:dH (dw K a).log=((bQ a:Nat):Int):=by simp [dH,dw,bQ]
 rw [e1];have e2:((lb:Int) - (dw K a).log.base).toNat=lb - a.b:=by show ((lb:Int) - (a.b:Int)).toNat=_;omega
 rw [e2];have e3:pV K (gY a lb)=eD (dF K lb):=if_neg (by show ¬ lb=0;omega);have e4:(dw K a).log.entries=a.es:=rfl;rw [e4];unfold dw;rw [e3]
 by_cases hc:lb≤bQ a
 ·rw [if_pos (by omega)];simp only [gY,if_pos hc]
 ·rw [if_neg (by omega)];simp only [gY,if_neg hc]
end Go.Tk
namespace Go.Proofs.YtbngpjdflblffaaGreatDoor
open Go.RowKit Go.Tk
theorem Ff (m n:Nat) (x:bS) (X:Nat) (Z:Nat→Prop) (w:World) (h:gW 45 73 101 9 w X x Z) (hok:aT m n x) (r:Nat) (hr:r<3) (many:Int) (Qv:-9223372036854775808≤many∧many≤9223372036854775807) (hl:r≠x.lead) (hm0:¬ many<0) (hb:bN x r<(aP x).b) :
 Calls Tryz.prog 124 #[iP X 0, iI (r:Int), iI many] w fun e w'=>e=.returned (iI 0)∧eY 45 73 101 9 w X Z w' (nE (jU x r (gY (aU x r) (aP x).b))):=by
 have gG:=iH hok;have hlen:=hok.len;have hlead:=hok.lead;have hL3:(x.lead:Int)<3:=by omega
 have U3:(r:Int)<3:=by omega
 obtain ⟨vr,vc,vm,vk,hm⟩:=h;obtain ⟨g,cap,-,-,-,-,hv,hcap,hmax,-,-⟩:=hm.oL (r:=0) (by omega);rw [hlen] at hv hcap;subst hv;unfold maxLen at hmax;obtain ⟨ae,ce,al,cl,ap,cp,az,cz,hrow⟩:=hm.row hlead hlen;obtain ⟨be,de,bl,dl,bp,dp,bz,dz,jO⟩:=hm.row hr hlen;have K3:=iH (hok.kQ.fine hok.tL hok.n4);have wM:=iH ((hok.rep r hr).fine hok.tL hok.n4);have IZ:=iH hok.kQ;have Ra:=iH (hok.rep r hr);obtain ⟨R,hR⟩:∃R,dw x.K (aP x)=R:=⟨_,rfl⟩;obtain ⟨R1,tJ⟩:∃R1,dw x.K (aU x r)=R1:=⟨_,rfl⟩;have Vm:=iH (show R.log.entries=(aP x).es by rw [←hR];rfl);have Q9:=iH (show R.log.base=((aP x).b:Int) by rw [←hR];rfl);have Nw:=iH (show R1.log.entries=(aU x r).es by rw [←tJ];rfl);have Ci:=iH (show R1.log.base=((aU x r).b:Int) by rw [←tJ];rfl);have Da:=iH (show R1.state.index=((aU x r).i:Int) by rw [←tJ];exact ((hok.rep r hr).state hok.tL).2);have HR:=iH hR;have HR1:=iH tJ;rw [show dw x.K (aU x x.lead)=R from hR] at hrow;rw [tJ] at jO wM;rw [hR] at K3;have hone:=hm.nV.oneCell;have kL:=hm.jh.oneCell;have qb:=hm.comm.oneCell;have HM:=iH hm;have HRW:=iH hrow;have dD:=iH jO;have he1:((r:Int) == (x.lead:Int))=false:=by simp;omega
 have he2:decide (many<0)=false:=decide_eq_false hm0;clear hR tJ hm hok hrow jO;have x0:=HM.out.box.cell 0 _ rfl;have x4:=HM.out.box.cell 4 _ rfl;have xY:=HM.out.box.lt;have hgl:=HRW.out.gl;have c0:=HRW.out.c0;have c1:=HRW.out.c1;have c2:=HRW.out.c2;have c3:=HRW.out.c3;have c4:=HRW.out.c4;have c5:=HRW.out.c5;have c6:=HRW.out.c6
 go_enter Tryz.func124,Tryz.ntmps124
 go_upto_region 3 with (fail);clear he1 he2;go_region;have hba:Below w.heap.size w (w.alloc (.cells #[iI R.log.base, .slice ae R.log.entries.length ce, iS R.snap, iI R.state.index, .slice al R.state.au.length cl, .slice ap R.state.pairs.length cp, .slice az R.state.af.length cz] 45)).drew:=Below.drew (aj w _);have HT:=iH (aD.drew (aD.new (w:=w) (cs:=[iI R.log.base, .slice ae R.log.entries.length ce, iS R.snap, iI R.state.index, .slice al R.state.au.length cl, .slice ap R.state.pairs.length cp, .slice az R.state.af.length cz]) (E:=45)));clear x0 x4 c0 c1 c2 c3 c4 c5 c6;have wL:=iH (HM.out.below hba);have KX:=iH (HRW.out.rp.below hba);have IV:=iH (dD.out.rp.below hba);have HB:=iH hba;have O0:=iH (And.intro hgl (And.intro dD.out.c0 (And.intro dD.out.c1 (And.intro dD.out.c2 (And.intro dD.out.c3 (And.intro dD.out.c4 (And.intro dD.out.c5 dD.out.c6)))))));clear HRW dD HM;generalize (w.alloc (.cells #[iI R.log.base, .slice ae R.log.entries.length ce, iS R.snap, iI R.state.index, .slice al R.state.au.length cl, .slice ap R.state.pairs.length cp, .slice az R.state.af.length cz] 45)).drew=w1 at *;obtain ⟨B7,MK⟩:∃B7,w.heap.size=B7:=⟨_,rfl⟩;rw [MK] at HT xY hgl⊢;have qZ:=iH MK;clear MK;refine eZ (fun wx=>w1=wx) rfl ?_;rintro _ rfl;go_upto_region 4 with (fail)
 go_wp2_with fail
 refine (lI m n x X Z w1 ⟨_,_,_,_,wL.out⟩ gG.out r hr).mono ?_;rintro e w2 ⟨rfl,hb2⟩;obtain ⟨ag,hag⟩:∃ag,bN x r=ag:=⟨_,rfl⟩;rw [hag];have K7:=iH hag;clear hag;replace wL:=iH (wL.out.below hb2);replace KX:=iH (KX.out.below hb2);replace IV:=iH (IV.out.below hb2);replace HT:=iH (HT.out.below hb2);replace HB:=iH (ah HB.out hb2);clear hb2;go_upto_region 5 with (fail);go_upto_region 6 with (fail);have hbz:Below w2.heap.size w2 (w2.alloc (.cells #[iI 0, iN, .string ⟨#[]⟩, iI 0, iN, iN, iN] 45)):=aj w2 _;have HZ:=iH (aD.new (w:=w2) (cs:=[iI 0, iN, .string ⟨#[]⟩, iI 0, iN, iN, iN]) (E:=45));have hzs:w2.heap.size<(w2.alloc (.cells #[iI 0, iN, .string ⟨#[]⟩, iI 0, iN, iN, iN] 45)).heap.size:=HZ.out.lt;generalize w2.alloc (.cells #[iI 0, iN, .string ⟨#[]⟩, iI 0, iN, iN, iN] 45)=w3 at *;have HJ2:=iH (fun wx (hJ:Below w2.heap.size w3 wx)=>show Below w2.heap.size w2 wx from hbz.trans hJ);have hsz2:w.heap.size≤w2.heap.size:=HB.out.size;clear hbz;obtain ⟨B9,NC⟩:∃B9,w2.heap.size=B9:=⟨_,rfl⟩;rw [NC] at HZ hzs HJ2 hsz2⊢;have lS:=iH NC;clear NC;have yO:X<w3.heap.size:=by have:=qZ.out;omega
 have uw:g<w3.heap.size:=by have:=qZ.out;omega
 have HST:=iH (tY gG.out.tL gG.out.oN);obtain ⟨R2,hR2⟩:∃R2,dw x.K (gY (aU x r) (aP x).b)=R2:=⟨_,rfl⟩;have hin:=(NY (a:=aU x r) gG.out.tL gG.out.oN (by omega)).trans hR2;rw [HR1.out] at hin;have Ur:=iH hin;have HR2:=iH hR2;have RV:=iH (show R.snap=eD (dF x.K (aP x).b) by rw [←HR.out];exact if_neg (by omega));clear hin hR2;have hai:=gG.out.uI hr;have Yj:=gG.out.CE;have Yg:=gG.out.n4;have hlb:=gG.out.oN;have hagb:ag<(aP x).b:=by have h1:=K7.out;omega
 have had:=decide_eq_true (show (ag:Int)<R.log.base by rw [Q9.out];omega);have hy0:=(HT.out.below (lS.out▸HJ2.out w3 iB:Below w2.heap.size w2 w3)).cell 0 _ rfl;go_upto_region 8 with (fail);clear had hy0
 refine dO 14 (fun _ wx=>aX (fun q=>q=B9) w3 wx∧∃cs:List Value,cs.length=7∧aD wx B9 cs) (fun i _ _ wx wy=>(i=13→∃us:List Value,us.length=7∧wy=wx.setCells B9 0 us)∧(i≠13→Below wx.heap.size wx wy)) [eP (iP X 0),eP (iP X 0),eP (iP X 0),eP (.slice (some ⟨g,0,none⟩) 3 cap),eP (iI (r:Int)),eP (.pointer (some ⟨g,r*7,none⟩)),eP (.agg #[iI R1.log.base, .slice be R1.log.entries.length de, iS R1.snap, iI R1.state.index, .slice bl R1.state.au.length dl, .slice bp R1.state.pairs.length dp, .slice bz R1.state.af.length dz]),eP (iP B7 2),eP (iS R.snap),(fun _ _ v wx=>∃(pe pl pp pz:Option Addr) (ne nl np nz:Nat) (lo hi:Nat),v=.tuple #[.agg #[iI R2.log.base, .slice pe R2.log.entries.length ne, iS R2.snap, iI R2.state.index, .slice pl R2.state.au.length nl, .slice pp R2.state.pairs.length np, .slice pz R2.state.af.length nz], iI 0]∧dh wx R2 (.slice pe R2.log.entries.length ne) (.slice pl R2.state.au.length nl) (.slice pp R2.state.pairs.length np) (.slice pz R2.state.af.length nz) (fun q=>lo≤q∧q<hi)∧w3.heap.size≤lo∧hi≤wx.heap.size),(fun _ vs v _=>v=vs 9∧∃(pe pl pp pz:Option Addr) (ne nl np nz:Nat),v=.tuple #[.agg #[iI R2.log.base, .slice pe R2.log.entries.length ne, iS R2.snap, iI R2.state.index, .slice pl R2.state.au.length nl, .slice pp R2.state.pairs.length np, .slice pz R2.state.af.length nz], iI 0]),(fun _ vs v _=>∃(pe pl pp pz:Option Addr) (ne nl np nz:Nat),vs 10=.tuple #[.agg #[iI R2.log.base, .slice pe R2.log.entries.length ne, iS R2.snap, iI R2.state.index, .slice pl R2.state.au.length nl, .slice pp R2.state.pairs.length np, .slice pz R2.state.af.length nz], iI 0]∧v=.agg #[iI R2.log.base, .slice pe R2.log.entries.length ne, iS R2.snap, iI R2.state.index, .slice pl R2.state.au.length nl, .slice pp R2.state.pairs.length np, .slice pz R2.state.af.length nz]),eP (iI 0),(fun _ vs _ wx=>∃(pe pl pp pz:Option Addr) (ne nl np nz:Nat) (lo hi:Nat),vs 9=.tuple #[.agg #[iI R2.log.base, .slice pe R2.log.entries.length ne, iS R2.snap, iI R2.state.index, .slice pl R2.state.au.length nl, .slice pp R2.state.pairs.length np, .slice pz R2.state.af.length nz], iI 0]∧aD wx B9 [iI R2.log.base, .slice pe R2.log.entries.length ne, iS R2.snap, iI R2.state.index, .slice pl R2.state.au.length nl, .slice pp R2.state.pairs.length np, .slice pz R2.state.af.length nz]∧dh wx R2 (.slice pe R2.log.entries.length ne) (.slice pl R2.state.au.length nl) (.slice pp R2.state.pairs.length np) (.slice pz R2.state.af.length nz) (fun q=>lo≤q∧q<hi)∧w3.heap.size≤lo∧hi≤wx.heap.size)] (by kernel_rfl) (by kernel_rfl) rfl ?hJ ?jP ?hst ?hself ?ek ?hend
 case hJ=>exact ⟨aX.of_below (Below.drew iB),_,rfl,HZ.out.drew⟩
 case jP =>
  intro i done vs1 x wx wy hi hdi h1 h2;obtain ⟨h1,cs,hl,hb⟩:=h1
  by_cases h:i=13
  ·obtain ⟨us,hL,rfl⟩:=h2.1 h
   exact ⟨h1.sets (.inl rfl) 0 us,us,hL,hb.storeAll us (hL.trans hl.symm)⟩
  ·exact ⟨h1.step (h2.2 h),cs,hl,hb.below (h2.2 h)⟩
 case hst =>
  intro i j done vs1 x wa wb hi hj hne hdi hdj hwf hJ hS GG hV
  match j,hj with
  | 0,_=>exact hV
  | 1,_=>exact hV
  | 2,_=>exact hV
  | 3,_=>exact hV
  | 4,_=>exact hV
  | 5,_=>exact hV
  | 6,_=>exact hV
  | 7,_=>exact hV
  | 8,_=>exact hV
  | 9,_ =>
    obtain ⟨pe,pl,pp,pz,ne,nl,np,nz,lo,hi,e1,h3,h4,h5⟩:=hV
    by_cases h:i=13
    ·obtain ⟨us,hL,rfl⟩:=hS.1 h
     exact ⟨pe,pl,pp,pz,ne,nl,np,nz,lo,hi,e1,dh.store h3 0 us (fun q hq=>⟨by have h1:=hq.1;have h2:=hq.2;have h3:=hzs;omega,hq⟩),h4,Nat.le_trans h5 (bG (Nat.zero_le _) us 0 _ (Below.refl 0 _)).size⟩
    ·have hb:=hS.2 h
     exact ⟨pe,pl,pp,pz,ne,nl,np,nz,lo,hi,e1,h3.below hb,h4,Nat.le_trans h5 hb.size⟩
  | 10,_ =>
    have h2:¬ 9=i:=by
     intro h;subst h;exact absurd (Eq.trans (show false=Region.waitsFor Region.Mode.any _ 10 9 from hwf.symm) (show _=true by kernel_rfl)) (by decide)
    exact ⟨Eq.trans hV.1 (by simp [dm,h2]),hV.2⟩
  | 11,_ =>
    have h2:¬ 10=i:=by
     intro h;subst h;exact absurd (Eq.trans (show false=Region.waitsFor Region.Mode.any _ 11 10 from hwf.symm) (show _=true by kernel_rfl)) (by decide)
    obtain ⟨pe,pl,pp,pz,ne,nl,np,nz,e1,e2⟩:=hV;exact ⟨pe,pl,pp,pz,ne,nl,np,nz,by simp [dm,h2];exact e1,e2⟩
  | 12,_=>exact hV
  | 13,_ =>
    have h2:¬ 9=i:=by
     intro h;subst h;exact absurd (Eq.trans (show false=Region.waitsFor Region.Mode.any _ 13 9 from hwf.symm) (show _=true by kernel_rfl)) (by decide)
    have hb:=hS.2 (fun h=>hne h);obtain ⟨pe,pl,pp,pz,ne,nl,np,nz,lo,hi,e1,g1,g2,g3,g4⟩:=hV;exact ⟨pe,pl,pp,pz,ne,nl,np,nz,lo,hi,by simp [dm,h2];exact e1,g1.below hb,g2.below hb,g3,Nat.le_trans g4 hb.size⟩
  | n+14,hj=>exact absurd hj (by omega)
 case hself =>
  intro i done vs1 v w hi hV
  match i,hi with
  | 0,_=>exact hV
  | 1,_=>exact hV
  | 2,_=>exact hV
  | 3,_=>exact hV
  | 4,_=>exact hV
  | 5,_=>exact hV
  | 6,_=>exact hV
  | 7,_=>exact hV
  | 8,_=>exact hV
  | 9,_=>exact hV
  | 10,_=>exact ⟨Eq.trans hV.1 (by simp [dm]),hV.2⟩
  | 11,_ =>
    obtain ⟨pe,pl,pp,pz,ne,nl,np,nz,e1,e2⟩:=hV;exact ⟨pe,pl,pp,pz,ne,nl,np,nz,by simp [dm];exact e1,e2⟩
  | 12,_=>exact hV
  | 13,_ =>
    obtain ⟨pe,pl,pp,pz,ne,nl,np,nz,lo,hi,e1,g⟩:=hV;exact ⟨pe,pl,pp,pz,ne,nl,np,nz,lo,hi,by simp [dm];exact e1,g⟩
  | n+14,hi=>exact absurd hi (by omega)
 case ek =>
  simp only [gm,aJ,Act.put,Nat.reduceAdd,Nat.zero_add,pS];refine ⟨?_,?_,?_,?_,?_,?_,?_,?_,?_,?_,?_,?_,?_,?_,trivial⟩
  all_goals
   intro done vs1 wx hJ hd hall hn K hK;simp [Region.binds] at hn;simp only [mM,eP,Act.put,Nat.reduceAdd,Nat.zero_add,pS] at hK;obtain ⟨hC,cs,hcl,hbx⟩:=hJ;have hJ:=nW hC (Nat.le_of_lt hzs);have PE:=hC.size
  ·go_wp2
   exact hK _ _ ⟨iD rfl,fun _=>iB⟩ rfl
  ·have e0:vs1 0=iP X 0:=hall 0 (by omega) (by simp [hn])
   simp only [e0] at hK⊢;go_wp2;exact hK _ _ ⟨iD rfl,fun _=>iB⟩ rfl
  ·have e1:vs1 1=iP X 0:=hall 1 (by omega) (by simp [hn])
   simp only [e1] at hK⊢;go_wp2;exact hK _ _ ⟨iD rfl,fun _=>iB⟩ rfl
  ·have e2:vs1 2=iP X 0:=hall 2 (by omega) (by simp [hn])
   simp only [e2] at hK⊢;have hj2:=HJ2.out wx hJ;rw [←lS.out] at hj2;have hm2:=wL.out.below hj2;have x0:=hm2.box.cell 0 _ rfl;go_wp2;exact hK _ _ ⟨iD rfl,fun _=>iB⟩ rfl
  ·go_wp2
   exact hK _ _ ⟨iD rfl,fun _=>iB⟩ rfl
  ·have e3:vs1 3=.slice (some ⟨g,0,none⟩) 3 cap:=hall 3 (by omega) (by simp [hn])
   have e4:vs1 4=iI (r:Int):=hall 4 (by omega) (by simp [hn]);simp only [e3,e4] at hK⊢;go_wp2;exact hK _ _ ⟨iD rfl,fun _=>iB⟩ rfl
  ·have e5:vs1 5=.pointer (some ⟨g,r*7,none⟩):=hall 5 (by omega) (by simp [hn])
   simp only [e5] at hK⊢;have hj2:=HJ2.out wx hJ;rw [←lS.out] at hj2;obtain ⟨Bw,q0,q1,Jn,q3,q4,q5,q6⟩:=O0.out;have gQ:=ah HB.out hj2;have c0:=aB q0 (gQ.block g (by have:=qZ.out;omega));have c1:=aB q1 (gQ.block g (by have:=qZ.out;omega));have c2:=aB Jn (gQ.block g (by have:=qZ.out;omega));have c3:=aB q3 (gQ.block g (by have:=qZ.out;omega));have c4:=aB q4 (gQ.block g (by have:=qZ.out;omega));have c5:=aB q5 (gQ.block g (by have:=qZ.out;omega));have c6:=aB q6 (gQ.block g (by have:=qZ.out;omega));clear q0 q1 Jn q3 q4 q5 q6;go_wp2;exact hK _ _ ⟨iD rfl,fun _=>iB⟩ rfl
  ·go_wp2
   exact hK _ _ ⟨iD rfl,fun _=>iB⟩ rfl
  ·have e7:vs1 7=iP B7 2:=hall 7 (by omega) (by simp [hn])
   simp only [e7] at hK⊢;have hj2:=HJ2.out wx hJ;rw [←lS.out] at hj2;have ht:=HT.out.below hj2;have y2:=ht.cell 2 _ rfl;go_wp2;exact hK _ _ ⟨iD rfl,fun _=>iB⟩ rfl
  ·have e6:vs1 6=.agg #[iI R1.log.base, .slice be R1.log.entries.length de, iS R1.snap, iI R1.state.index, .slice bl R1.state.au.length dl, .slice bp R1.state.pairs.length dp, .slice bz R1.state.af.length dz]:=hall 6 (by omega) (by simp [hn])
   have e8:vs1 8=iS R.snap:=hall 8 (by omega) (by simp [hn]);simp only [e6,e8] at hK⊢;have hj2:=HJ2.out wx hJ;rw [←lS.out] at hj2;have hsx:=IV.out.below hj2
   go_wp2_with fail
   rw [RV.out] at hK⊢;refine (AY R1 (dF x.K (aU x r).b) _ _ _ _ _ wx hsx wM.out (dF x.K (aP x).b) HST.out.1 (by rw [HST.out.2,Da.out];omega) (by rw [HST.out.2];omega)).mono ?_;rw [Ur.out];rintro e w9 ⟨ve,vl,vp,vz,rfl,jo,gQ⟩;obtain ⟨pe,ne,rfl,-,-,-,-⟩:=id jo.lD;obtain ⟨pl,nl,rfl,-,-,-,-⟩:=id jo.st.lock;obtain ⟨pp,np,rfl,-,-,-,-⟩:=id jo.st.pair;obtain ⟨pz,nz,rfl,-,-,-,-⟩:=id jo.st.dG;have hr:dh w9 R2 (.slice pe R2.log.entries.length ne) (.slice pl R2.state.au.length nl) (.slice pp R2.state.pairs.length np) (.slice pz R2.state.af.length nz) (fun q=>wx.heap.size≤q∧q<w9.heap.size):=jo.sub fun b hb hl=>⟨hb,hl⟩
   go_wp2;exact hK _ _ ⟨iD rfl,fun _=>gQ⟩ ⟨pe,pl,pp,pz,ne,nl,np,nz,wx.heap.size,w9.heap.size,rfl,hr,PE,Nat.le_refl _⟩
  ·obtain ⟨pe,pl,pp,pz,ne,nl,np,nz,lo,hi,e5,-⟩:((fun _ _ v wx=>∃(pe pl pp pz:Option Addr) (ne nl np nz:Nat) (lo hi:Nat),v=.tuple #[.agg #[iI R2.log.base, .slice pe R2.log.entries.length ne, iS R2.snap, iI R2.state.index, .slice pl R2.state.au.length nl, .slice pp R2.state.pairs.length np, .slice pz R2.state.af.length nz], iI 0]∧dh wx R2 (.slice pe R2.log.entries.length ne) (.slice pl R2.state.au.length nl) (.slice pp R2.state.pairs.length np) (.slice pz R2.state.af.length nz) (fun q=>lo≤q∧q<hi)∧w3.heap.size≤lo∧hi≤wx.heap.size):VE) done vs1 (vs1 9) wx:=hall 9 (by omega) (by simp [hn])
   simp only [e5] at hK⊢;go_wp2;exact hK _ _ ⟨iD rfl,fun _=>iB⟩ ⟨rfl,pe,pl,pp,pz,ne,nl,np,nz,rfl⟩
  ·obtain ⟨pe,pl,pp,pz,ne,nl,np,nz,e6⟩:∃(pe pl pp pz:Option Addr) (ne nl np nz:Nat),vs1 10=.tuple #[.agg #[iI R2.log.base, .slice pe R2.log.entries.length ne, iS R2.snap, iI R2.state.index, .slice pl R2.state.au.length nl, .slice pp R2.state.pairs.length np, .slice pz R2.state.af.length nz], iI 0]:=(hall 10 (by omega) (by simp [hn])).2
   simp only [e6] at hK⊢;go_wp2;exact hK _ _ ⟨iD rfl,fun _=>iB⟩ ⟨pe,pl,pp,pz,ne,nl,np,nz,rfl,rfl⟩
  ·obtain ⟨pe,pl,pp,pz,ne,nl,np,nz,e6⟩:∃(pe pl pp pz:Option Addr) (ne nl np nz:Nat),vs1 10=.tuple #[.agg #[iI R2.log.base, .slice pe R2.log.entries.length ne, iS R2.snap, iI R2.state.index, .slice pl R2.state.au.length nl, .slice pp R2.state.pairs.length np, .slice pz R2.state.af.length nz], iI 0]:=(hall 10 (by omega) (by simp [hn])).2
   simp only [e6] at hK⊢;go_wp2;exact hK _ _ ⟨iD rfl,fun _=>iB⟩ rfl
  ·obtain ⟨pe,pl,pp,pz,ne,nl,np,nz,lo,hi,e5,h3,h4,h5⟩:((fun _ _ v wx=>∃(pe pl pp pz:Option Addr) (ne nl np nz:Nat) (lo hi:Nat),v=.tuple #[.agg #[iI R2.log.base, .slice pe R2.log.entries.length ne, iS R2.snap, iI R2.state.index, .slice pl R2.state.au.length nl, .slice pp R2.state.pairs.length np, .slice pz R2.state.af.length nz], iI 0]∧dh wx R2 (.slice pe R2.log.entries.length ne) (.slice pl R2.state.au.length nl) (.slice pp R2.state.pairs.length np) (.slice pz R2.state.af.length nz) (fun q=>lo≤q∧q<hi)∧w3.heap.size≤lo∧hi≤wx.heap.size):VE) done vs1 (vs1 9) wx:=hall 9 (by omega) (by simp [hn])
   have e6:vs1 10=vs1 9:=(hall 10 (by omega) (by simp [hn])).1;obtain ⟨Qj,Pp,Po,Pn,ne',nl',Pv,Pt,f6,e7⟩:((fun _ vs v _=>∃(pe pl pp pz:Option Addr) (ne nl np nz:Nat),vs 10=.tuple #[.agg #[iI R2.log.base, .slice pe R2.log.entries.length ne, iS R2.snap, iI R2.state.index, .slice pl R2.state.au.length nl, .slice pp R2.state.pairs.length np, .slice pz R2.state.af.length nz], iI 0]∧v=.agg #[iI R2.log.base, .slice pe R2.log.entries.length ne, iS R2.snap, iI R2.state.index, .slice pl R2.state.au.length nl, .slice pp R2.state.pairs.length np, .slice pz R2.state.af.length nz]):VE) done vs1 (vs1 11) wx:=hall 11 (by omega) (by simp [hn]);rw [e6,e5] at f6;simp [and_assoc] at f6;obtain ⟨rfl,rfl,rfl,rfl,rfl,rfl,rfl,rfl⟩:=f6;obtain ⟨z0,z1,z2,z3,z4,z5,z6,rfl⟩:∃z0 z1 z2 z3 z4 z5 z6,cs=[z0,z1,z2,z3,z4,z5,z6]:=by
    match cs,hcl with
    | [z0,z1,z2,z3,z4,z5,z6],_=>exact ⟨z0,z1,z2,z3,z4,z5,z6,rfl⟩
   simp only [e7] at hK⊢;obtain ⟨y0,y1,y2,y3,y4,y5,y6⟩:=gM hbx;obtain ⟨t0,t1,t2,t3,t4,t5,t6⟩:=sK hbx;go_wp2;exact hK undef (wx.setCells B9 0 [iI R2.log.base, .slice pe R2.log.entries.length ne, iS R2.snap, iI R2.state.index, .slice pl R2.state.au.length nl, .slice pp R2.state.pairs.length np, .slice pz R2.state.af.length nz]) ⟨fun _=>⟨[iI R2.log.base, .slice pe R2.log.entries.length ne, iS R2.snap, iI R2.state.index, .slice pl R2.state.au.length nl, .slice pp R2.state.pairs.length np, .slice pz R2.state.af.length nz],rfl,rfl⟩,fun h=>absurd rfl h⟩ ⟨pe,pl,pp,pz,ne,nl,np,nz,lo,hi,e5,hbx.storeAll _ rfl,dh.store h3 0 _ (fun q hq=>⟨by have h1:=hq.1;have h2:=hq.2;have h3:=hzs;omega,hq⟩),h4,Nat.le_trans h5 (bG (Nat.zero_le _) _ 0 _ (Below.refl 0 _)).size⟩
 case hend =>
  intro done vs1 wx hJ hdn hv;obtain ⟨hC,-⟩:=hJ;have hJ:=nW hC (Nat.le_of_lt hzs);have PE:=hC.size;obtain ⟨e0,e1,e2,e3,e4,e5,e6,e7,e8,-,-,-,e12,⟨pe,pl,pp,pz,ne,nl,np,nz,lo,hi,eC,hbx,hrl,hlo,hhi⟩,-⟩:=hv;simp only [eP] at e0 e1 e2 e3 e4 e5 e6 e7 e8 e12;simp only [aJ,Act.put,Nat.reduceAdd,Nat.zero_add,pS];rw [e0,e1,e2,e3,e4,e5,e6,e7,e8,e12];clear eC e0 e1 e2 e3 e4 e5 e6 e7 e8 e12;have hj2:=HJ2.out wx hJ;rw [←lS.out] at hj2;have lM:=iH (wL.out.below hj2);have HU:=iH hbx;have EO:=iH hrl;obtain ⟨Bw,q0,q1,Jn,q3,q4,q5,q6⟩:=O0.out;have HB2:=iH (ah HB.out hj2);clear hbx hrl hj2;have c0:=aB q0 (HB2.out.block g (by have:=qZ.out;omega));have c1:=aB q1 (HB2.out.block g (by have:=qZ.out;omega));have c2:=aB Jn (HB2.out.block g (by have:=qZ.out;omega));have c3:=aB q3 (HB2.out.block g (by have:=qZ.out;omega));have c4:=aB q4 (HB2.out.block g (by have:=qZ.out;omega));have c5:=aB q5 (HB2.out.block g (by have:=qZ.out;omega));have c6:=aB q6 (HB2.out.block g (by have:=qZ.out;omega));clear q0 q1 Jn q3 q4 q5 q6;have x0:=lM.out.box.cell 0 _ rfl;have x4:=lM.out.box.cell 4 _ rfl;have f0:=lM.out.rep.thaw (r*7);have f1:=lM.out.rep.thaw (r*7+1);have f2:=lM.out.rep.thaw (r*7+2);have f3:=lM.out.rep.thaw (r*7+3);have f4:=lM.out.rep.thaw (r*7+4);have f5:=lM.out.rep.thaw (r*7+5);have f6:=lM.out.rep.thaw (r*7+6);obtain ⟨y0,y1,y2,y3,y4,y5,y6⟩:=gM HU.out;go_upto_region 14 with (fail);go_region
  have hset:=lM.out.yf (r:=r) (a:=gY (aU x r) (aP x).b) (cs:=[iI R2.log.base, .slice pe R2.log.entries.length ne, iS R2.snap, iI R2.state.index, .slice pl R2.state.au.length nl, .slice pp R2.state.pairs.length np, .slice pz R2.state.af.length nz]) (P:=fun q=>lo≤q∧q<hi) (by omega) rfl ⟨_,_,_,_,by rw [HR2.out];rfl,by rw [HR2.out];exact EO.out⟩ (fun b hb hw=>by have h1:=wL.out.lt hw;have h2:=hb.1;have h3:=lS.out;omega);have HF:=iH (show eB 45 73 101 9 ((((((((wx.setCell ⟨g,r*7,none⟩ (iI R2.log.base)).setCell ⟨g,r*7+1,none⟩ (.slice pe R2.log.entries.length ne)).setCell ⟨g,r*7+2,none⟩ (iS R2.snap)).setCell ⟨g,r*7+3,none⟩ (iI R2.state.index)).setCell ⟨g,r*7+4,none⟩ (.slice pl R2.state.au.length nl)).setCell ⟨g,r*7+5,none⟩ (.slice pp R2.state.pairs.length np)).setCell ⟨g,r*7+6,none⟩ (.slice pz R2.state.af.length nz))).drew X _ vc vm vk (jU x r (gY (aU x r) (aP x).b)) _ from hset.1.below (Below.drew iB))
  have zF:=iH (show aX Z w ((((((((wx.setCell ⟨g,r*7,none⟩ (iI R2.log.base)).setCell ⟨g,r*7+1,none⟩ (.slice pe R2.log.entries.length ne)).setCell ⟨g,r*7+2,none⟩ (iS R2.snap)).setCell ⟨g,r*7+3,none⟩ (iI R2.state.index)).setCell ⟨g,r*7+4,none⟩ (.slice pl R2.state.au.length nl)).setCell ⟨g,r*7+5,none⟩ (.slice pp R2.state.pairs.length np)).setCell ⟨g,r*7+6,none⟩ (.slice pz R2.state.af.length nz))).drew from ((aX.of_below HB2.out).trans hset.2 fun _ h=>.inl h).step (Below.drew iB));clear hset;generalize ((((((((wx.setCell ⟨g,r*7,none⟩ (iI R2.log.base)).setCell ⟨g,r*7+1,none⟩ (.slice pe R2.log.entries.length ne)).setCell ⟨g,r*7+2,none⟩ (iS R2.snap)).setCell ⟨g,r*7+3,none⟩ (iI R2.state.index)).setCell ⟨g,r*7+4,none⟩ (.slice pl R2.state.au.length nl)).setCell ⟨g,r*7+5,none⟩ (.slice pp R2.state.pairs.length np)).setCell ⟨g,r*7+6,none⟩ (.slice pz R2.state.af.length nz))).drew=wf at *;refine eZ (fun wx=>wf=wx) rfl ?_;rintro _ rfl;clear x0 x4 c0 c1 c2 c3 c4 c5 c6 f0 f1 f2 f3 f4 f5 f6 y0 y1 y2 y3 y4 y5 y6;go_upto_region 15 with (fail)
  go_wp2_with fail
  refine (sJ m n _ X _ wf ⟨_,_,_,_,HF.out⟩ (gG.out.wU hr hl hb)).mono ?_;rintro e w8 ⟨rfl,hcd⟩;have vX:=iH (hcd.step zF.out fun b hb=>hb.imp id fun h=>by have h1:=h.1;have h2:=HB.out.size;have h3:=lS.out;omega);clear hcd;go_upto_region 16 with (fail);go_wp2;go_ret;exact ⟨rfl,vX.out⟩
end Go.Proofs.YtbngpjdflblffaaGreatDoor
