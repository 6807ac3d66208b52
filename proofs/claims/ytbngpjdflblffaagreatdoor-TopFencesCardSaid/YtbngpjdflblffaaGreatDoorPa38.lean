/- A part of the proof, laid together from: CluH. -/
import Derived.Test.YtbngpjdflblffaaGreatDoorPa37
set_option linter.all false
set_option maxRecDepth 100000
set_option maxHeartbeats 12800000
namespace Go.Tk
open Go Go.RowKit
theorem Gj {K es:List Bytes} {b u:Nat} (h:es.take (u - b)=(K.drop b).take (u - b)) {i:Nat} (hb:b≤i):∀j,i≤j→j<u→es.getD (j - b) []=K.getD j []:=fun j h1 h2=>by
 have:=congrArg (fun l:List Bytes=>l[j - b]?) h;have e1:(es.take (u - b))[j - b]?=es[j - b]?:=List.getElem?_take_of_lt (by omega);have e2:((K.drop b).take (u - b))[j - b]?=K[j]?:=by rw [List.getElem?_take_of_lt (by omega),List.getElem?_drop,show b+(j - b)=j by omega]
 have e3:es[j - b]?=K[j]?:=by rw [←e1,h,e2]
 rw [List.getD_eq_getElem?_getD,List.getD_eq_getElem?_getD,e3]
end Go.Tk
namespace Go.Proofs.YtbngpjdflblffaaGreatDoor
open Go.RowKit Go.Tk
theorem Gt (m n:Nat) (x:bS) (X:Nat) (Z:Nat→Prop) (w:World) (h:gW 45 73 101 9 w X x Z) (hok:aT m n x) (r:Nat) (hr:r<3) (many:Int) (Qv:-9223372036854775808≤many∧many≤9223372036854775807) :
 Calls Tryz.prog 125 #[iP X 0, iI (r:Int), iI many] w fun e w'=>e=.returned (iI (nY x r many).2)∧eY 45 73 101 9 w X Z w' (nY x r many).1:=by
 rw [nY]
 by_cases hm0:many<0
 case pos =>
  rw [if_pos hm0];have HH:=iH h;have hd:=decide_eq_true hm0;clear h hok hm0
  go_enter Tryz.func125,Tryz.ntmps125
  go_wp2;go_ret;exact ⟨rfl,Z,HH.out,fun b hb=>.inl hb,aX.refl _ _⟩
 rw [if_neg hm0];obtain ⟨RES,uA⟩:∃RES,(if r=x.lead then (kU (jU x r (kK (aU x r) (nD x r many))) (mD x.K (aU x r).i (nD x r many)),(0:Int)) else (jU x r (kK (aU x r) (nD x r many)),0))=RES:=⟨_,rfl⟩;rw [uA];obtain ⟨t1,t2,t3,t4⟩:=hok.till hr many;have hent:=Gj (hok.wH hr t2 t3) (hok.rep r hr).bi;have hU:=show nD x r many=min ((aU x r).i+min many.toNat 400) (min x.K.length (bN x r)) from rfl
 obtain ⟨ag,hag⟩:∃ag,bN x r=ag:=⟨_,rfl⟩;rw [hag] at hU;have K7:=iH hag;obtain ⟨U,WS⟩:∃U,nD x r many=U:=⟨_,rfl⟩;have HUU:=iH WS;rw [WS] at t1 t2 t4 hent hU uA;have HT:=iH (And.intro t1 (And.intro t2 (And.intro (show U≤(aU x r).b+(aU x r).es.length from t4) trivial)));have XL:=iH hent;have gG:=iH hok;have hlen:=hok.len;have U3:(r:Int)<3:=by omega
 obtain ⟨vr,vc,vm,vk,hm⟩:=h;obtain ⟨g,cap,-,-,-,-,hv,hcap,hmax,-,-⟩:=hm.oL (r:=0) (by omega);rw [hlen] at hv hcap;subst hv;unfold maxLen at hmax;obtain ⟨be,de,bl,dl,bp,dp,bz,dz,jO⟩:=hm.row hr hlen;obtain ⟨ak,ck,hvk⟩:=hm.comm.shape;subst hvk;have wM:=iH ((hok.rep r hr).fine hok.tL hok.n4);have Ra:=iH (hok.rep r hr);obtain ⟨R1,tJ⟩:∃R1,dw x.K (aU x r)=R1:=⟨_,rfl⟩;obtain ⟨R2,hR2⟩:∃R2,dw x.K (kK (aU x r) U)=R2:=⟨_,rfl⟩;obtain ⟨MS,WV⟩:∃MS,mD x.K (aU x r).i U=MS:=⟨_,rfl⟩;rw [WV] at uA;have O7:=iH WV;have yX:=iH uA;clear uA;have Ur:=iH (show (⟨R1.log,R1.snap,dF x.K U⟩:dL)=R2 by rw [←tJ,←hR2];rfl);have Nw:=iH (show R1.log.entries=(aU x r).es by rw [←tJ];rfl);have Ci:=iH (show R1.log.base=((aU x r).b:Int) by rw [←tJ];rfl);have Xt:=iH (show R1.state=dF x.K (aU x r).i by rw [←tJ];rfl);have hidx:R1.state.index=((aU x r).i:Int):=by rw [←tJ];exact ((hok.rep r hr).state hok.tL).2
 have hi4:(aU x r).i≤400:=by have:=(hok.rep r hr).iK;have:=hok.CE;have:=hok.n4;omega
 have hk4:x.K.length≤400:=hok.tL.len;have hI0:0≤R1.state.index:=by omega
 have hI1:R1.state.index≤400:=by omega
 obtain ⟨A,hA⟩:∃A:Int,A=min many 400:=⟨_,rfl⟩;have Le:0≤A:=by omega
 have hA1:A≤400:=by omega
 have HU:=iH (show (U:Int)=min (min (R1.state.index+A) (x.K.length:Int)) (ag:Int) by rw [hidx];omega);have HA:=iH hA;have HR2:=iH hR2;rw [tJ] at jO wM;have hone:=hm.nV.oneCell;have kL:=hm.jh.oneCell;have HM:=iH hm;have dD:=iH jO;have hd:=decide_eq_false hm0;clear tJ hR2 WV hidx hi4 hA hm hok jO t1 t2 t3 t4 hent hU WS hag hm0;have xY:=HM.out.box.lt;have hgl:=dD.out.gl;have x0:=HM.out.box.cell 0 _ rfl;have c3:=dD.out.c3
 go_enter Tryz.func125,Tryz.ntmps125
 go_upto_region 4 with (fail);clear x0 c3 hd
 refine dO 28 (fun _ wx=>Below w.heap.size w wx) (fun i vs x wx wy=>(i=26→∃(b:Nat) (us:List Value),vs 25=iP b 0∧us.length=7∧w.heap.size≤b∧wy=wx.setCells b 0 us)∧(i=25→x=iP (wx.heap.size) 0∧wy=wx.alloc (.cells #[iI 0, iN, .string ⟨#[]⟩, iI 0, iN, iN, iN] 45))∧(i≠26→Below wx.heap.size wx wy)) [eP (iP X 0),eP (iP X 0),eP (iP X 0),eP (.slice (some ⟨g,0,none⟩) 3 cap),eP (iI (r:Int)),eP (.pointer (some ⟨g,r*7,none⟩)),eP (.agg #[iI R1.log.base, .slice be R1.log.entries.length de, iS R1.snap, iI R1.state.index, .slice bl R1.state.au.length dl, .slice bp R1.state.pairs.length dp, .slice bz R1.state.af.length dz]),eP (iI R1.state.index),eP (iI many),eP (iI A),eP (iI (R1.state.index+A)),eP (iP X 0),eP (iP X 0),eP (iP X 3),eP (.slice ak x.K.length ck),eP (iI (x.K.length:Int)),eP (iP X 0),eP (iI (r:Int)),eP (iI (ag:Int)),eP (iI (U:Int)),(fun done vs v wx=>∃(pe pl pp pz:Option Addr) (ne nl np nz:Nat) (pm:Option Addr) (nm:Nat) (lo hi:Nat),v=.tuple #[.agg #[iI R2.log.base, .slice pe R2.log.entries.length ne, iS R2.snap, iI R2.state.index, .slice pl R2.state.au.length nl, .slice pp R2.state.pairs.length np, .slice pz R2.state.af.length nz], .slice pm MS.length nm, iI 0]∧(dh wx R2 (.slice pe R2.log.entries.length ne) (.slice pl R2.state.au.length nl) (.slice pp R2.state.pairs.length np) (.slice pz R2.state.af.length nz) (fun q=>lo≤q∧q<hi)∧aZ 5 jV wx (.slice pm MS.length nm) MS (fun q=>lo≤q∧q<hi))∧w.heap.size≤lo∧hi≤wx.heap.size∧(done 25=true→∀b,vs 25=iP b 0→b<lo∨hi≤b)),(fun _ vs v _=>v=vs 20∧∃(pe pl pp pz:Option Addr) (ne nl np nz:Nat) (pm:Option Addr) (nm:Nat),v=.tuple #[.agg #[iI R2.log.base, .slice pe R2.log.entries.length ne, iS R2.snap, iI R2.state.index, .slice pl R2.state.au.length nl, .slice pp R2.state.pairs.length np, .slice pz R2.state.af.length nz], .slice pm MS.length nm, iI 0]),(fun _ vs v _=>∃(pe pl pp pz:Option Addr) (ne nl np nz:Nat) (pm:Option Addr) (nm:Nat),vs 21=.tuple #[.agg #[iI R2.log.base, .slice pe R2.log.entries.length ne, iS R2.snap, iI R2.state.index, .slice pl R2.state.au.length nl, .slice pp R2.state.pairs.length np, .slice pz R2.state.af.length nz], .slice pm MS.length nm, iI 0]∧v=.agg #[iI R2.log.base, .slice pe R2.log.entries.length ne, iS R2.snap, iI R2.state.index, .slice pl R2.state.au.length nl, .slice pp R2.state.pairs.length np, .slice pz R2.state.af.length nz]),(fun _ vs v _=>∃(pe pl pp pz:Option Addr) (ne nl np nz:Nat) (pm:Option Addr) (nm:Nat),vs 21=.tuple #[.agg #[iI R2.log.base, .slice pe R2.log.entries.length ne, iS R2.snap, iI R2.state.index, .slice pl R2.state.au.length nl, .slice pp R2.state.pairs.length np, .slice pz R2.state.af.length nz], .slice pm MS.length nm, iI 0]∧v=.slice pm MS.length nm),eP (iI 0),(fun _ _ v wx=>l6 w.heap.size 7 v wx),(fun done vs _ wx=>done 20=true∧∃(pe pl pp pz:Option Addr) (ne nl np nz:Nat) (pm:Option Addr) (nm:Nat) (lo hi b:Nat),vs 20=.tuple #[.agg #[iI R2.log.base, .slice pe R2.log.entries.length ne, iS R2.snap, iI R2.state.index, .slice pl R2.state.au.length nl, .slice pp R2.state.pairs.length np, .slice pz R2.state.af.length nz], .slice pm MS.length nm, iI 0]∧vs 25=iP b 0∧aD wx b [iI R2.log.base, .slice pe R2.log.entries.length ne, iS R2.snap, iI R2.state.index, .slice pl R2.state.au.length nl, .slice pp R2.state.pairs.length np, .slice pz R2.state.af.length nz]∧(dh wx R2 (.slice pe R2.log.entries.length ne) (.slice pl R2.state.au.length nl) (.slice pp R2.state.pairs.length np) (.slice pz R2.state.af.length nz) (fun q=>lo≤q∧q<hi)∧aZ 5 jV wx (.slice pm MS.length nm) MS (fun q=>lo≤q∧q<hi))∧w.heap.size≤lo∧hi≤wx.heap.size∧(b<lo∨hi≤b)∧w.heap.size≤b),(fun _ vs v _=>∃(pe pl pp pz:Option Addr) (ne nl np nz:Nat) (pm:Option Addr) (nm:Nat),vs 21=.tuple #[.agg #[iI R2.log.base, .slice pe R2.log.entries.length ne, iS R2.snap, iI R2.state.index, .slice pl R2.state.au.length nl, .slice pp R2.state.pairs.length np, .slice pz R2.state.af.length nz], .slice pm MS.length nm, iI 0]∧v=.slice pm MS.length nm)] (by kernel_rfl) (by kernel_rfl) rfl ?hJ ?jP ?hst ?hself ?ek ?hend
 case hJ=>exact Below.drew iB
 case jP =>
  intro i done vs1 x wx wy hi hdi h1 h2
  by_cases h:i=26
  ·obtain ⟨b,us,-,-,hL,rfl⟩:=h2.1 h
   exact bG hL us 0 _ h1
  ·exact ah h1 (h2.2.2 h)
 case hst =>
  intro i j done vs1 x wa wb hi hj hne hdi hdj hwf hJ hS GG hV
  match j,hj with
  | 0,_=>exact hV
  | 1,_=>exact hV
  | 2,_=>exact hV
  | 3,_=>exact hV
  | 4,_=>exact hV
  | 5,_=>exact hV
  | 6,_=>exact hV
  | 7,_=>exact hV
  | 8,_=>exact hV
  | 9,_=>exact hV
  | 10,_=>exact hV
  | 11,_=>exact hV
  | 12,_=>exact hV
  | 13,_=>exact hV
  | 14,_=>exact hV
  | 15,_=>exact hV
  | 16,_=>exact hV
  | 17,_=>exact hV
  | 18,_=>exact hV
  | 19,_=>exact hV
  | 20,_ =>
    by_cases hs:i=26
    ·subst hs
     obtain ⟨-,pe,pl,pp,pz,ne,nl,np,nz,pm,nm,lo,hi,b,e1,e2,-,h3,h4,h5,h6,-⟩:=GG;refine ⟨pe,pl,pp,pz,ne,nl,np,nz,pm,nm,lo,hi,e1,h3,h4,h5,fun hd b2 hb2=>?_⟩;have hb3:vs1 25=iP b2 0:=hb2;rw [e2] at hb3;simp only [Value.pointer.injEq,Option.some.injEq,Addr.mk.injEq,and_true] at hb3;subst hb3;exact h6
    ·obtain ⟨pe,pl,pp,pz,ne,nl,np,nz,pm,nm,lo,hi,e1,h3,h4,h5,h6⟩:=hV
     have hb:=hS.2.2 hs;refine ⟨pe,pl,pp,pz,ne,nl,np,nz,pm,nm,lo,hi,e1,⟨h3.1.below hb,h3.2.below bT (by decide) hb⟩,h4,Nat.le_trans h5 hb.size,fun hd b2 hb2=>?_⟩
     by_cases ha:i=25
     ·subst ha
      have hx:=(hS.2.1 rfl).1;have hb3:x=iP b2 0:=hb2;rw [hx] at hb3;simp only [Value.pointer.injEq,Option.some.injEq,Addr.mk.injEq,and_true] at hb3;exact .inr (by omega)
     ·have hd2:done 25=true:=by simpa [bJ,Ne.symm ha] using hd
      have hb3:vs1 25=iP b2 0:=by simpa [dm,Ne.symm ha] using hb2
      exact h6 hd2 b2 hb3
  | 21,_ =>
    have h2:¬ 20=i:=by
     intro h;subst h;exact absurd (Eq.trans (show false=Region.waitsFor Region.Mode.any _ 21 20 from hwf.symm) (show _=true by kernel_rfl)) (by decide)
    exact ⟨Eq.trans hV.1 (by simp [dm,h2]),hV.2⟩
  | 22,_ =>
    have h2:¬ 21=i:=by
     intro h;subst h;exact absurd (Eq.trans (show false=Region.waitsFor Region.Mode.any _ 22 21 from hwf.symm) (show _=true by kernel_rfl)) (by decide)
    obtain ⟨pe,pl,pp,pz,ne,nl,np,nz,pm,nm,e1,e2⟩:=hV;exact ⟨pe,pl,pp,pz,ne,nl,np,nz,pm,nm,by simp [dm,h2];exact e1,e2⟩
  | 23,_ =>
    have h2:¬ 21=i:=by
     intro h;subst h;exact absurd (Eq.trans (show false=Region.waitsFor Region.Mode.any _ 23 21 from hwf.symm) (show _=true by kernel_rfl)) (by decide)
    obtain ⟨pe,pl,pp,pz,ne,nl,np,nz,pm,nm,e1,e2⟩:=hV;exact ⟨pe,pl,pp,pz,ne,nl,np,nz,pm,nm,by simp [dm,h2];exact e1,e2⟩
  | 24,_=>exact hV
  | 25,_ =>
    by_cases h:i=26
    ·obtain ⟨b,us,-,hl,hL,e⟩:=hS.1 h
     exact l6.store hV ⟨b,us,hl,hL,e⟩
    ·exact l6.below hV (hS.2.2 h)
  | 26,_ =>
    have h1:i≠26:=fun h=>hne h
    have h2:¬ 20=i:=by
     intro h;subst h;exact absurd (Eq.trans (show false=Region.waitsFor Region.Mode.any _ 26 20 from hwf.symm) (show _=true by kernel_rfl)) (by decide)
    have h3:¬ 25=i:=by
     intro h;subst h;exact absurd (Eq.trans (show false=Region.waitsFor Region.Mode.any _ 26 25 from hwf.symm) (show _=true by kernel_rfl)) (by decide)
    have hb:=hS.2.2 h1;obtain ⟨hdc,pe,pl,pp,pz,ne,nl,np,nz,pm,nm,lo,hi,b,e1,e2,g1,g2,g3,g4,g5,g6⟩:=hV;exact ⟨by simp [bJ,hdc],pe,pl,pp,pz,ne,nl,np,nz,pm,nm,lo,hi,b,by simp [dm,h2];exact e1,by simp [dm,h3];exact e2,g1.below hb,⟨g2.1.below hb,g2.2.below bT (by decide) hb⟩,g3,Nat.le_trans g4 hb.size,g5,g6⟩
  | 27,_ =>
    have h2:¬ 21=i:=by
     intro h;subst h;exact absurd (Eq.trans (show false=Region.waitsFor Region.Mode.any _ 27 21 from hwf.symm) (show _=true by kernel_rfl)) (by decide)
    obtain ⟨pe,pl,pp,pz,ne,nl,np,nz,pm,nm,e1,e2⟩:=hV;exact ⟨pe,pl,pp,pz,ne,nl,np,nz,pm,nm,by simp [dm,h2];exact e1,e2⟩
  | n+28,hj=>exact absurd hj (by omega)
 case hself =>
  intro i done vs1 v w hi hV
  match i,hi with
  | 0,_=>exact hV
  | 1,_=>exact hV
  | 2,_=>exact hV
  | 3,_=>exact hV
  | 4,_=>exact hV
  | 5,_=>exact hV
  | 6,_=>exact hV
  | 7,_=>exact hV
  | 8,_=>exact hV
  | 9,_=>exact hV
  | 10,_=>exact hV
  | 11,_=>exact hV
  | 12,_=>exact hV
  | 13,_=>exact hV
  | 14,_=>exact hV
  | 15,_=>exact hV
  | 16,_=>exact hV
  | 17,_=>exact hV
  | 18,_=>exact hV
  | 19,_=>exact hV
  | 20,_ =>
    obtain ⟨pe,pl,pp,pz,ne,nl,np,nz,pm,nm,lo,hi,e1,h3,h4,h5,h6⟩:=hV;exact ⟨pe,pl,pp,pz,ne,nl,np,nz,pm,nm,lo,hi,e1,h3,h4,h5,fun hd b hb=>h6 (by simpa [bJ] using hd) b (by simpa [dm] using hb)⟩
  | 21,_=>exact ⟨Eq.trans hV.1 (by simp [dm]),hV.2⟩
  | 22,_ =>
    obtain ⟨pe,pl,pp,pz,ne,nl,np,nz,pm,nm,e1,e2⟩:=hV;exact ⟨pe,pl,pp,pz,ne,nl,np,nz,pm,nm,by simp [dm];exact e1,e2⟩
  | 23,_ =>
    obtain ⟨pe,pl,pp,pz,ne,nl,np,nz,pm,nm,e1,e2⟩:=hV;exact ⟨pe,pl,pp,pz,ne,nl,np,nz,pm,nm,by simp [dm];exact e1,e2⟩
  | 24,_=>exact hV
  | 25,_=>exact hV
  | 26,_ =>
    obtain ⟨hdc,pe,pl,pp,pz,ne,nl,np,nz,pm,nm,lo,hi,b,e1,e2,g⟩:=hV;exact ⟨by simp [bJ,hdc],pe,pl,pp,pz,ne,nl,np,nz,pm,nm,lo,hi,b,by simp [dm];exact e1,by simp [dm];exact e2,g⟩
  | 27,_ =>
    obtain ⟨pe,pl,pp,pz,ne,nl,np,nz,pm,nm,e1,e2⟩:=hV;exact ⟨pe,pl,pp,pz,ne,nl,np,nz,pm,nm,by simp [dm];exact e1,e2⟩
  | n+28,hi=>exact absurd hi (by omega)
 case ek =>
  simp only [gm,aJ,Act.put,Nat.reduceAdd,Nat.zero_add,pS];refine ⟨?_,?_,?_,?_,?_,?_,?_,?_,?_,?_,?_,?_,?_,?_,?_,?_,?_,?_,?_,?_,?_,?_,?_,?_,?_,?_,?_,?_,trivial⟩
  all_goals
   intro done vs1 wx hJ hd hall hn K hK;simp [Region.binds] at hn;simp only [mM,eP,Act.put,Nat.reduceAdd,Nat.zero_add,pS] at hK
  ·go_wp2
   exact hK _ _ ⟨iD rfl,iD rfl,fun _=>iB⟩ rfl
  ·have e0:vs1 0=iP X 0:=hall 0 (by omega) (by simp [hn])
   simp only [e0] at hK⊢;go_wp2;exact hK _ _ ⟨iD rfl,iD rfl,fun _=>iB⟩ rfl
  ·have e1:vs1 1=iP X 0:=hall 1 (by omega) (by simp [hn])
   simp only [e1] at hK⊢;go_wp2;exact hK _ _ ⟨iD rfl,iD rfl,fun _=>iB⟩ rfl
  ·have e2:vs1 2=iP X 0:=hall 2 (by omega) (by simp [hn])
   simp only [e2] at hK⊢;have hm2:=HM.out.below hJ;have x0:=hm2.box.cell 0 _ rfl;go_wp2;exact hK _ _ ⟨iD rfl,iD rfl,fun _=>iB⟩ rfl
  ·go_wp2
   exact hK _ _ ⟨iD rfl,iD rfl,fun _=>iB⟩ rfl
  ·have e3:vs1 3=.slice (some ⟨g,0,none⟩) 3 cap:=hall 3 (by omega) (by simp [hn])
   have e4:vs1 4=iI (r:Int):=hall 4 (by omega) (by simp [hn]);simp only [e3,e4] at hK⊢;go_wp2;exact hK _ _ ⟨iD rfl,iD rfl,fun _=>iB⟩ rfl
  ·have e5:vs1 5=.pointer (some ⟨g,r*7,none⟩):=hall 5 (by omega) (by simp [hn])
   simp only [e5] at hK⊢;have c0:=aB dD.out.c0 (hJ.block g hgl);have c1:=aB dD.out.c1 (hJ.block g hgl);have c2:=aB dD.out.c2 (hJ.block g hgl);have c3:=aB dD.out.c3 (hJ.block g hgl);have c4:=aB dD.out.c4 (hJ.block g hgl);have c5:=aB dD.out.c5 (hJ.block g hgl);have c6:=aB dD.out.c6 (hJ.block g hgl);go_wp2;exact hK _ _ ⟨iD rfl,iD rfl,fun _=>iB⟩ rfl
  ·go_wp2
   exact hK _ _ ⟨iD rfl,iD rfl,fun _=>iB⟩ rfl
  ·go_wp2
   exact hK _ _ ⟨iD rfl,iD rfl,fun _=>iB⟩ rfl
  ·have e8:vs1 8=iI many:=hall 8 (by omega) (by simp [hn])
   simp only [e8] at hK⊢;have hA:=HA.out;clear Le hA1
   rcases Int.lt_trichotomy many 400 with q1 | q1 | q1
   ·have d1:=decide_eq_true q1;have d2:decide ((400:Int)<many)=false:=decide_eq_false (by omega);have hv:A=many:=(by omega);clear hA;rw [hv] at hK;clear hv;go_wp2;exact hK _ _ ⟨iD rfl,iD rfl,fun _=>iB⟩ rfl
   ·subst q1;have hv:A=400:=(by omega);clear hA;rw [hv] at hK;clear hv;go_wp2;exact hK _ _ ⟨iD rfl,iD rfl,fun _=>iB⟩ rfl
   ·have d1:decide (many<400)=false:=decide_eq_false (by omega);have d2:decide ((400:Int)<many)=true:=decide_eq_true q1;have hv:A=400:=(by omega);clear hA;rw [hv] at hK;clear hv;go_wp2;exact hK _ _ ⟨iD rfl,iD rfl,fun _=>iB⟩ rfl
  ·have e7:vs1 7=iI R1.state.index:=hall 7 (by omega) (by simp [hn])
   have e9:vs1 9=iI A:=hall 9 (by omega) (by simp [hn]);simp only [e7,e9] at hK⊢;go_wp2;exact hK _ _ ⟨iD rfl,iD rfl,fun _=>iB⟩ rfl
  ·go_wp2
   exact hK _ _ ⟨iD rfl,iD rfl,fun _=>iB⟩ rfl
  ·have e11:vs1 11=iP X 0:=hall 11 (by omega) (by simp [hn])
   simp only [e11] at hK⊢;go_wp2;exact hK _ _ ⟨iD rfl,iD rfl,fun _=>iB⟩ rfl
  ·have e12:vs1 12=iP X 0:=hall 12 (by omega) (by simp [hn])
   simp only [e12] at hK⊢;go_wp2;exact hK _ _ ⟨iD rfl,iD rfl,fun _=>iB⟩ rfl
  ·have e13:vs1 13=iP X 3:=hall 13 (by omega) (by simp [hn])
   simp only [e13] at hK⊢;have hm2:=HM.out.below hJ;have x3:=hm2.box.cell 3 _ rfl;go_wp2;exact hK _ _ ⟨iD rfl,iD rfl,fun _=>iB⟩ rfl
  ·have e14:vs1 14=.slice ak x.K.length ck:=hall 14 (by omega) (by simp [hn])
   simp only [e14] at hK⊢;go_wp2;exact hK _ _ ⟨iD rfl,iD rfl,fun _=>iB⟩ rfl
  ·go_wp2
   exact hK _ _ ⟨iD rfl,iD rfl,fun _=>iB⟩ rfl
  ·go_wp2
   exact hK _ _ ⟨iD rfl,iD rfl,fun _=>iB⟩ rfl
  ·have e16:vs1 16=iP X 0:=hall 16 (by omega) (by simp [hn])
   have e17:vs1 17=iI (r:Int):=hall 17 (by omega) (by simp [hn]);simp only [e16,e17] at hK⊢;have hm2:=HM.out.below hJ
   go_wp2_with fail
   refine ((lI m n x X Z wx ⟨_,_,_,_,hm2⟩ gG.out r hr).mono ?_);rw [K7.out];rintro e w5 ⟨rfl,hb5⟩;go_wp2;exact hK _ _ ⟨iD rfl,iD rfl,fun _=>hb5⟩ rfl
  ·have e10:vs1 10=iI (R1.state.index+A):=hall 10 (by omega) (by simp [hn])
   have e15:vs1 15=iI (x.K.length:Int):=hall 15 (by omega) (by simp [hn]);have e18:vs1 18=iI (ag:Int):=hall 18 (by omega) (by simp [hn]);simp only [e10,e15,e18] at hK⊢;have hu:=HU.out;clear hI0 hI1 Le hA1 Qv;generalize R1.state.index+A=P at *;generalize (x.K.length:Int)=kl at *;generalize (ag:Int)=gi at *;generalize (U:Int)=ui at *
   rcases Int.lt_trichotomy P kl with q1 | q1 | q1
   ·have d1:decide (P<kl)=true:=decide_eq_true (by omega);have d2:decide (kl<P)=false:=decide_eq_false (by omega)
    rcases Int.lt_trichotomy P gi with q2 | q2 | q2
    ·have d3:decide (P<gi)=true:=decide_eq_true (by omega);have d4:decide (gi<P)=false:=decide_eq_false (by omega);have hv:ui=P:=(by omega);clear hu;subst hv;go_wp2;exact hK _ _ ⟨iD rfl,iD rfl,fun _=>iB⟩ rfl
    ·subst q2;have hv:ui=P:=(by omega);clear hu;subst hv;go_wp2;exact hK _ _ ⟨iD rfl,iD rfl,fun _=>iB⟩ rfl
    ·have d3:decide (gi<P)=true:=decide_eq_true (by omega);have d4:decide (P<gi)=false:=decide_eq_false (by omega);have hv:ui=gi:=(by omega);clear hu;subst hv;go_wp2;exact hK _ _ ⟨iD rfl,iD rfl,fun _=>iB⟩ rfl
   ·subst q1
    rcases Int.lt_trichotomy P gi with q2 | q2 | q2
    ·have d3:decide (P<gi)=true:=decide_eq_true (by omega);have d4:decide (gi<P)=false:=decide_eq_false (by omega);have hv:ui=P:=(by omega);clear hu;subst hv;go_wp2;exact hK _ _ ⟨iD rfl,iD rfl,fun _=>iB⟩ rfl
    ·subst q2;have hv:ui=P:=(by omega);clear hu;subst hv;go_wp2;exact hK _ _ ⟨iD rfl,iD rfl,fun _=>iB⟩ rfl
    ·have d3:decide (gi<P)=true:=decide_eq_true (by omega);have d4:decide (P<gi)=false:=decide_eq_false (by omega);have hv:ui=gi:=(by omega);clear hu;subst hv;go_wp2;exact hK _ _ ⟨iD rfl,iD rfl,fun _=>iB⟩ rfl
   ·have d1:decide (kl<P)=true:=decide_eq_true (by omega);have d2:decide (P<kl)=false:=decide_eq_false (by omega)
    rcases Int.lt_trichotomy kl gi with q2 | q2 | q2
    ·have d3:decide (kl<gi)=true:=decide_eq_true (by omega);have d4:decide (gi<kl)=false:=decide_eq_false (by omega);have hv:ui=kl:=(by omega);clear hu;subst hv;go_wp2;exact hK _ _ ⟨iD rfl,iD rfl,fun _=>iB⟩ rfl
    ·subst q2;have hv:ui=kl:=(by omega);clear hu;subst hv;go_wp2;exact hK _ _ ⟨iD rfl,iD rfl,fun _=>iB⟩ rfl
    ·have d3:decide (gi<kl)=true:=decide_eq_true (by omega);have d4:decide (kl<gi)=false:=decide_eq_false (by omega);have hv:ui=gi:=(by omega);clear hu;subst hv;go_wp2;exact hK _ _ ⟨iD rfl,iD rfl,fun _=>iB⟩ rfl
  ·have e6:vs1 6=.agg #[iI R1.log.base, .slice be R1.log.entries.length de, iS R1.snap, iI R1.state.index, .slice bl R1.state.au.length dl, .slice bp R1.state.pairs.length dp, .slice bz R1.state.af.length dz]:=hall 6 (by omega) (by simp [hn])
   have e19:vs1 19=iI (U:Int):=hall 19 (by omega) (by simp [hn]);simp only [e6,e19] at hK⊢;have hsx:=dD.out.rp.below hJ
   go_wp2_with fail
   refine (Eh R1 (dF x.K (aU x r).b) _ _ _ _ _ wx hsx wM.out x.K gG.out.tL (aU x r).b (aU x r).i U Ci.out Xt.out Ra.out.bi HT.out.1 HT.out.2.1 (by rw [Nw.out];exact HT.out.2.2.1) (fun j h1 h2=>by rw [Nw.out];exact XL.out j h1 h2)).mono ?_;rw [O7.out,Ur.out];rintro e w9 ⟨ve,vl,vp,vz,vm9,rfl,jo,hms,gQ⟩;obtain ⟨pe,ne,rfl,-,-,-,-⟩:=id jo.lD;obtain ⟨pl,nl,rfl,-,-,-,-⟩:=id jo.st.lock;obtain ⟨pp,np,rfl,-,-,-,-⟩:=id jo.st.pair;obtain ⟨pz,nz,rfl,-,-,-,-⟩:=id jo.st.dG;obtain ⟨pm,nm,rfl,-,-,-,-⟩:=id hms;have hr:(dh w9 R2 (.slice pe R2.log.entries.length ne) (.slice pl R2.state.au.length nl) (.slice pp R2.state.pairs.length np) (.slice pz R2.state.af.length nz) (fun q=>wx.heap.size≤q∧q<w9.heap.size)∧aZ 5 jV w9 (.slice pm MS.length nm) MS (fun q=>wx.heap.size≤q∧q<w9.heap.size)):=⟨jo.sub fun b hb hl=>⟨hb,hl⟩,aZ.sub bT (by decide) hms fun b hb hl=>⟨hb,hl⟩⟩;go_wp2;refine hK _ _ ⟨iD rfl,iD rfl,fun _=>gQ⟩ ⟨pe,pl,pp,pz,ne,nl,np,nz,pm,nm,wx.heap.size,w9.heap.size,rfl,hr,hJ.size,Nat.le_refl _,fun hd b hb=>?_⟩;obtain ⟨b2,cs2,-,e2,-,hbx⟩:l6 w.heap.size 7 (vs1 25) wx:=hall 25 (by omega) hd;rw [hb] at e2;simp only [Value.pointer.injEq,Option.some.injEq,Addr.mk.injEq,and_true] at e2;subst e2;exact .inl hbx.lt
  ·obtain ⟨pe,pl,pp,pz,ne,nl,np,nz,pm,nm,lo,hi,e5,-⟩:((fun done vs v wx=>∃(pe pl pp pz:Option Addr) (ne nl np nz:Nat) (pm:Option Addr) (nm:Nat) (lo hi:Nat),v=.tuple #[.agg #[iI R2.log.base, .slice pe R2.log.entries.length ne, iS R2.snap, iI R2.state.index, .slice pl R2.state.au.length nl, .slice pp R2.state.pairs.length np, .slice pz R2.state.af.length nz], .slice pm MS.length nm, iI 0]∧(dh wx R2 (.slice pe R2.log.entries.length ne) (.slice pl R2.state.au.length nl) (.slice pp R2.state.pairs.length np) (.slice pz R2.state.af.length nz) (fun q=>lo≤q∧q<hi)∧aZ 5 jV wx (.slice pm MS.length nm) MS (fun q=>lo≤q∧q<hi))∧w.heap.size≤lo∧hi≤wx.heap.size∧(done 25=true→∀b,vs 25=iP b 0→b<lo∨hi≤b)):VE) done vs1 (vs1 20) wx:=hall 20 (by omega) (by simp [hn])
   simp only [e5] at hK⊢;go_wp2;exact hK _ _ ⟨iD rfl,iD rfl,fun _=>iB⟩ ⟨rfl,pe,pl,pp,pz,ne,nl,np,nz,pm,nm,rfl⟩
  ·obtain ⟨pe,pl,pp,pz,ne,nl,np,nz,pm,nm,e6⟩:∃(pe pl pp pz:Option Addr) (ne nl np nz:Nat) (pm:Option Addr) (nm:Nat),vs1 21=.tuple #[.agg #[iI R2.log.base, .slice pe R2.log.entries.length ne, iS R2.snap, iI R2.state.index, .slice pl R2.state.au.length nl, .slice pp R2.state.pairs.length np, .slice pz R2.state.af.length nz], .slice pm MS.length nm, iI 0]:=(hall 21 (by omega) (by simp [hn])).2
   simp only [e6] at hK⊢;go_wp2;exact hK _ _ ⟨iD rfl,iD rfl,fun _=>iB⟩ ⟨pe,pl,pp,pz,ne,nl,np,nz,pm,nm,rfl,rfl⟩
  ·obtain ⟨pe,pl,pp,pz,ne,nl,np,nz,pm,nm,e6⟩:∃(pe pl pp pz:Option Addr) (ne nl np nz:Nat) (pm:Option Addr) (nm:Nat),vs1 21=.tuple #[.agg #[iI R2.log.base, .slice pe R2.log.entries.length ne, iS R2.snap, iI R2.state.index, .slice pl R2.state.au.length nl, .slice pp R2.state.pairs.length np, .slice pz R2.state.af.length nz], .slice pm MS.length nm, iI 0]:=(hall 21 (by omega) (by simp [hn])).2
   simp only [e6] at hK⊢;go_wp2;exact hK _ _ ⟨iD rfl,iD rfl,fun _=>iB⟩ ⟨pe,pl,pp,pz,ne,nl,np,nz,pm,nm,rfl,rfl⟩
  ·obtain ⟨pe,pl,pp,pz,ne,nl,np,nz,pm,nm,e6⟩:∃(pe pl pp pz:Option Addr) (ne nl np nz:Nat) (pm:Option Addr) (nm:Nat),vs1 21=.tuple #[.agg #[iI R2.log.base, .slice pe R2.log.entries.length ne, iS R2.snap, iI R2.state.index, .slice pl R2.state.au.length nl, .slice pp R2.state.pairs.length np, .slice pz R2.state.af.length nz], .slice pm MS.length nm, iI 0]:=(hall 21 (by omega) (by simp [hn])).2
   simp only [e6] at hK⊢;go_wp2;exact hK _ _ ⟨iD rfl,iD rfl,fun _=>iB⟩ rfl
  ·go_wp2
   exact hK _ _ ⟨iD rfl,fun _=>⟨rfl,rfl⟩,fun _=>aj wx _⟩ (l6.new _ [iI 0, iN, .string ⟨#[]⟩, iI 0, iN, iN, iN] _ hJ.size)
  ·obtain ⟨pe,pl,pp,pz,ne,nl,np,nz,pm,nm,lo,hi,e5,h3,h4,h5,h6⟩:((fun done vs v wx=>∃(pe pl pp pz:Option Addr) (ne nl np nz:Nat) (pm:Option Addr) (nm:Nat) (lo hi:Nat),v=.tuple #[.agg #[iI R2.log.base, .slice pe R2.log.entries.length ne, iS R2.snap, iI R2.state.index, .slice pl R2.state.au.length nl, .slice pp R2.state.pairs.length np, .slice pz R2.state.af.length nz], .slice pm MS.length nm, iI 0]∧(dh wx R2 (.slice pe R2.log.entries.length ne) (.slice pl R2.state.au.length nl) (.slice pp R2.state.pairs.length np) (.slice pz R2.state.af.length nz) (fun q=>lo≤q∧q<hi)∧aZ 5 jV wx (.slice pm MS.length nm) MS (fun q=>lo≤q∧q<hi))∧w.heap.size≤lo∧hi≤wx.heap.size∧(done 25=true→∀b,vs 25=iP b 0→b<lo∨hi≤b)):VE) done vs1 (vs1 20) wx:=hall 20 (by omega) (by simp [hn])
   have e6:vs1 21=vs1 20:=(hall 21 (by omega) (by simp [hn])).1;obtain ⟨Qj,Pp,Po,Pn,ne',nl',Pv,Pt,pm',X5,f6,e7⟩:((fun _ vs v _=>∃(pe pl pp pz:Option Addr) (ne nl np nz:Nat) (pm:Option Addr) (nm:Nat),vs 21=.tuple #[.agg #[iI R2.log.base, .slice pe R2.log.entries.length ne, iS R2.snap, iI R2.state.index, .slice pl R2.state.au.length nl, .slice pp R2.state.pairs.length np, .slice pz R2.state.af.length nz], .slice pm MS.length nm, iI 0]∧v=.agg #[iI R2.log.base, .slice pe R2.log.entries.length ne, iS R2.snap, iI R2.state.index, .slice pl R2.state.au.length nl, .slice pp R2.state.pairs.length np, .slice pz R2.state.af.length nz]):VE) done vs1 (vs1 22) wx:=hall 22 (by omega) (by simp [hn]);rw [e6,e5] at f6;simp [and_assoc] at f6;obtain ⟨rfl,rfl,rfl,rfl,rfl,rfl,rfl,rfl,rfl,rfl⟩:=f6;obtain ⟨b,cs,hcl,e9,hL,hbx⟩:l6 w.heap.size 7 (vs1 25) wx:=hall 25 (by omega) (by simp [hn]);obtain ⟨z0,z1,z2,z3,z4,z5,z6,rfl⟩:∃z0 z1 z2 z3 z4 z5 z6,cs=[z0,z1,z2,z3,z4,z5,z6]:=by
    match cs,hcl with
    | [z0,z1,z2,z3,z4,z5,z6],_=>exact ⟨z0,z1,z2,z3,z4,z5,z6,rfl⟩
   have hap:=h6 (by simp [hn]) b e9;simp only [e7,e9] at hK⊢;obtain ⟨y0,y1,y2,y3,y4,y5,y6⟩:=gM hbx;obtain ⟨t0,t1,t2,t3,t4,t5,t6⟩:=sK hbx;go_wp2;exact hK undef (wx.setCells b 0 [iI R2.log.base, .slice pe R2.log.entries.length ne, iS R2.snap, iI R2.state.index, .slice pl R2.state.au.length nl, .slice pp R2.state.pairs.length np, .slice pz R2.state.af.length nz]) ⟨fun _=>⟨b,[iI R2.log.base, .slice pe R2.log.entries.length ne, iS R2.snap, iI R2.state.index, .slice pl R2.state.au.length nl, .slice pp R2.state.pairs.length np, .slice pz R2.state.af.length nz],rfl,rfl,hL,rfl⟩,iD rfl,fun h=>absurd rfl h⟩ ⟨by simp [hn],pe,pl,pp,pz,ne,nl,np,nz,pm,nm,lo,hi,b,e5,rfl,hbx.storeAll _ rfl,⟨dh.store h3.1 0 _ (fun q hq=>⟨by have h1:=hq.1;have h2:=hq.2;omega,hq⟩),aZ.store bT (by decide) h3.2 0 _ (fun q hq=>⟨by have h1:=hq.1;have h2:=hq.2;omega,hq⟩)⟩,h4,Nat.le_trans h5 (bG (Nat.zero_le _) _ 0 _ (Below.refl 0 _)).size,hap,hL⟩
  ·obtain ⟨pe,pl,pp,pz,ne,nl,np,nz,pm,nm,e6,e7⟩:∃(pe pl pp pz:Option Addr) (ne nl np nz:Nat) (pm:Option Addr) (nm:Nat),vs1 21=.tuple #[.agg #[iI R2.log.base, .slice pe R2.log.entries.length ne, iS R2.snap, iI R2.state.index, .slice pl R2.state.au.length nl, .slice pp R2.state.pairs.length np, .slice pz R2.state.af.length nz], .slice pm MS.length nm, iI 0]∧vs1 23=.slice pm MS.length nm:=hall 23 (by omega) (by simp [hn])
   simp only [e7] at hK⊢;go_wp2;exact hK _ _ ⟨iD rfl,iD rfl,fun _=>iB⟩ ⟨pe,pl,pp,pz,ne,nl,np,nz,pm,nm,e6,rfl⟩
 case hend =>
  intro done vs1 wx hJ hdn hv;obtain ⟨e0,e1,e2,e3,e4,e5,e6,e7,e8,e9,e10,e11,e12,e13,e14,e15,e16,e17,e18,e19,e20,⟨eM,-⟩,-,⟨Qj,Pp,Po,Pn,ne',nl',Pv,Pt,pm',X5,f23,e23⟩,e24,-,⟨-,pe,pl,pp,pz,ne,nl,np,nz,pm,nm,lo,hi,b,eC,eA,hbx,hrl,hlo,hhi,hap,hbL⟩,⟨Qj,Pp,Po,Pn,ne',nl',Pv,Pt,pm',X5,f27,e27⟩,-⟩:=hv;rw [eM,eC] at f23;simp [and_assoc] at f23;obtain ⟨rfl,rfl,rfl,rfl,rfl,rfl,rfl,rfl,rfl,rfl⟩:=f23;rw [eM,eC] at f27;simp [and_assoc] at f27;obtain ⟨rfl,rfl,rfl,rfl,rfl,rfl,rfl,rfl,rfl,rfl⟩:=f27;clear eM;simp only [eP] at e0 e1 e2 e3 e4 e5 e6 e7 e8 e9 e10 e11 e12 e13 e14 e15 e16 e17 e18 e19 e24;simp only [aJ,Act.put,Nat.reduceAdd,Nat.zero_add,pS];rw [eA,e0,e1,e2,e3,e4,e5,e6,e7,e8,e9,e10,e11,e12,e13,e14,e15,e16,e17,e18,e19,e23,e24,e27];clear eA eC e0 e1 e2 e3 e4 e5 e6 e7 e8 e9 e10 e11 e12 e13 e14 e15 e16 e17 e18 e19 e23 e24 e27;have lM:=iH (HM.out.below hJ);have yY:=iH hbx;have EO:=iH hrl;have HB2:=iH hJ;clear hbx hrl;have c0:=aB dD.out.c0 (HB2.out.block g hgl);have c1:=aB dD.out.c1 (HB2.out.block g hgl);have c2:=aB dD.out.c2 (HB2.out.block g hgl);have c3:=aB dD.out.c3 (HB2.out.block g hgl);have c4:=aB dD.out.c4 (HB2.out.block g hgl);have c5:=aB dD.out.c5 (HB2.out.block g hgl);have c6:=aB dD.out.c6 (HB2.out.block g hgl);have x0:=lM.out.box.cell 0 _ rfl;have x4:=lM.out.box.cell 4 _ rfl
  have f0:=lM.out.rep.thaw (r*7);have f1:=lM.out.rep.thaw (r*7+1);have f2:=lM.out.rep.thaw (r*7+2);have f3:=lM.out.rep.thaw (r*7+3);have f4:=lM.out.rep.thaw (r*7+4);have f5:=lM.out.rep.thaw (r*7+5);have f6:=lM.out.rep.thaw (r*7+6);obtain ⟨y0,y1,y2,y3,y4,y5,y6⟩:=gM yY.out;go_upto_region 7 with (fail);go_region;have hset:=lM.out.yf (r:=r) (a:=kK (aU x r) U) (cs:=[iI R2.log.base, .slice pe R2.log.entries.length ne, iS R2.snap, iI R2.state.index, .slice pl R2.state.au.length nl, .slice pp R2.state.pairs.length np, .slice pz R2.state.af.length nz]) (P:=fun q=>lo≤q∧q<hi) (by omega) rfl ⟨_,_,_,_,by rw [HR2.out];rfl,by rw [HR2.out];exact EO.out.1⟩ (fun b hb hw=>by have h1:=HM.out.lt hw;have h2:=hb.1;omega);generalize bF:((((((((wx.setCell ⟨g,r*7,none⟩ (iI R2.log.base)).setCell ⟨g,r*7+1,none⟩ (.slice pe R2.log.entries.length ne)).setCell ⟨g,r*7+2,none⟩ (iS R2.snap)).setCell ⟨g,r*7+3,none⟩ (iI R2.state.index)).setCell ⟨g,r*7+4,none⟩ (.slice pl R2.state.au.length nl)).setCell ⟨g,r*7+5,none⟩ (.slice pp R2.state.pairs.length np)).setCell ⟨g,r*7+6,none⟩ (.slice pz R2.state.af.length nz))).drew=wf at *;have HF:Hid (eB 45 73 101 9 wf X _ vc vm (.slice ak x.K.length ck) (jU x r (kK (aU x r) U)) _):=bF▸iH (hset.1.below (Below.drew iB))
  have zF:Hid (aX Z w wf):=bF▸iH (((aX.of_below HB2.out).trans hset.2 fun _ h=>.inl h).step (Below.drew iB));have XF:Hid (aZ 5 jV wf (.slice pm MS.length nm) MS (fun q=>lo≤q∧q<hi)):=bF▸iH (aZ.below (w:=(((((((wx.setCell ⟨g,r*7,none⟩ (iI R2.log.base)).setCell ⟨g,r*7+1,none⟩ (.slice pe R2.log.entries.length ne)).setCell ⟨g,r*7+2,none⟩ (iS R2.snap)).setCell ⟨g,r*7+3,none⟩ (iI R2.state.index)).setCell ⟨g,r*7+4,none⟩ (.slice pl R2.state.au.length nl)).setCell ⟨g,r*7+5,none⟩ (.slice pp R2.state.pairs.length np)).setCell ⟨g,r*7+6,none⟩ (.slice pz R2.state.af.length nz))) bT (by decide) (aZ.store bT (by decide) EO.out.2 (r*7) [iI R2.log.base, .slice pe R2.log.entries.length ne, iS R2.snap, iI R2.state.index, .slice pl R2.state.au.length nl, .slice pp R2.state.pairs.length np, .slice pz R2.state.af.length nz] (fun q hq=>⟨by have h1:=hq.1;omega,hq⟩)) (Below.drew iB));clear hset;clear bF;refine eZ (fun wx=>wf=wx) rfl ?_;rintro _ rfl;clear x0 x4 c0 c1 c2 c3 c4 c5 c6 f0 f1 f2 f3 f4 f5 f6 y0 y1 y2 y3 y4 y5 y6;go_upto_region 8 with (fail)
  by_cases hl:r=x.lead
  ·have he:((r:Int) == (x.lead:Int))=true:=by simp;omega
   have uX:=iH (yX.out.symm.trans (if_pos hl));have hx4:wf.cell? ⟨X,4,none⟩=some (iI (x.lead:Int)):=HF.out.box.cell 4 _ rfl;have hsub:∀b,(lo≤b∧b<hi)→¬ wQ X (.slice (some ⟨g,0,none⟩) 3 cap) vc vm (.slice ak x.K.length ck) b:=fun b hb hw=>by have h1:=HM.out.lt hw;have h2:=hb.1;omega
   have HSB:=iH hsub;clear hl hsub;go_upto_region 9 with (fail);clear he hx4
   go_wp2_with fail
   refine (Bd (jU x r (kK (aU x r) U)) X _ _ wf _ _ _ _ HF.out gG.out.bD MS _ XF.out HSB.out).mono ?_;rintro e w8 ⟨rfl,hcd⟩;have vX:=iH (hcd.step zF.out fun b hb=>hb.imp id fun h=>by have h1:=h.1;omega);clear hcd;go_wp2;go_ret;rw [uX.out];exact ⟨rfl,vX.out⟩
  ·have he:((r:Int) == (x.lead:Int))=false:=by simp;omega
   have uX:=iH (yX.out.symm.trans (if_neg hl));have hx4:wf.cell? ⟨X,4,none⟩=some (iI (x.lead:Int)):=HF.out.box.cell 4 _ rfl;clear hl;go_wp2;go_ret;rw [uX.out];exact ⟨rfl,_,⟨_,_,_,_,HF.out⟩,fun b hb=>hb.imp id fun h=>by have h1:=h.1;omega,zF.out⟩
end Go.Proofs.YtbngpjdflblffaaGreatDoor
