/- A part of the proof, laid together from: CluJ. -/
import Derived.Test.YtbngpjdflblffaaGreatDoorPa39
set_option linter.all false
set_option maxRecDepth 100000
set_option maxHeartbeats 12800000
namespace Go.Tk
open Go Go.RowKit
theorem Ht {K:List Bytes} {n:Nat} {a:RA} (h:lJ K n a) (hK:tL K) (hne:a.i≠a.b) :
 (⟨⟨(dw K a).state.index,(dw K a).log.entries.drop ((dw K a).state.index - (dw K a).log.base).toNat⟩,eD (dw K a).state,(dw K a).state⟩:dL)=dw K (gZ a):=by
 have h1:=h.bi;have e:(dw K a).state.index=(a.i:Int):=(h.state hK).2;have e2:((a.i:Int) - (dw K a).log.base).toNat=a.i - a.b:=by show ((a.i:Int) - (a.b:Int)).toNat=_;omega
 have e3:pV K (gZ a)=eD (dF K a.i):=if_neg (by show ¬ a.i=0;omega);rw [e,e2,show dw K (gZ a)=⟨⟨(a.i:Int),a.es.drop (a.i - a.b)⟩,pV K (gZ a),dF K a.i⟩ from rfl,e3]
 rfl
end Go.Tk
namespace Go.Proofs.YtbngpjdflblffaaGreatDoor
open Go.RowKit Go.Tk
theorem Ai (m n:Nat) (x:bS) (X:Nat) (Z:Nat→Prop) (w:World) (h:gW 45 73 101 9 w X x Z) (hok:aT m n x) (a:dK) (ha:fC a) (hr0:0≤a.r) (hr3:a.r<3) (hk:a.kind=6) :
 Calls Tryz.prog 87 #[iP X 0, .agg #[iI a.kind, iI a.c, iI a.r, iI a.k, iI a.op.kind, iS a.op.a, iS a.op.b, iI a.op.n]] w fun e w'=>e=.returned (iI (qp x a.r.toNat).2)∧eY 45 73 101 9 w X Z w' (qp x a.r.toNat).1:=by
 have HH:=iH h;have gG:=iH hok;obtain ⟨r,hr⟩:∃r:Nat,(r:Int)=a.r:=⟨a.r.toNat,by omega⟩;have hr4:r<3:=by omega
 obtain ⟨kd,c,r',k,op⟩:=a;simp only at hr hr0 hr3 hk⊢;subst hr hk;simp only [Int.toNat_natCast];clear h hok ha;have hd1:decide ((r:Int)<0)=false:=decide_eq_false (by omega);have hd2:decide ((3:Int)≤(r:Int))=false:=decide_eq_false (by omega)
 go_enter Tryz.func87,Tryz.ntmps87
 go_upto_region 1 with (fail);generalize bF:w.alloc (.cells #[iI 6, iI c, iI (r:Int), iI k, iI op.kind, iS op.a, iS op.b, iI op.n] 70)=w1 at *;have hbz:=tQ bF;have HX:=iH (tO bF);have nL:=iH (cB HH.out hbz);have HB:=iH hbz;clear hbz HH;clear bF;obtain ⟨BX,jT⟩:∃BX,w.heap.size=BX:=⟨_,rfl⟩;rw [jT] at HX⊢;have yY:=iH jT;clear jT;have y2:=HX.out.cell 2 _ rfl;go_upto_region 4 with (fail);clear y2;have hbz:Below w1.heap.size w1 (w1.alloc (.cells #[iI 0, iN, .string ⟨#[]⟩, iI 0, iN, iN, iN] 45)):=aj w1 _;have HZ:=iH (aD.new (w:=w1) (cs:=[iI 0, iN, .string ⟨#[]⟩, iI 0, iN, iN, iN]) (E:=45));have HJ2:=iH (fun wx (hJ:Below w1.heap.size (w1.alloc (.cells #[iI 0, iN, .string ⟨#[]⟩, iI 0, iN, iN, iN] 45)) wx)=>show Below w1.heap.size w1 wx from hbz.trans hJ);clear hbz;generalize w1.alloc (.cells #[iI 0, iN, .string ⟨#[]⟩, iI 0, iN, iN, iN] 45)=w2 at *;have hzs:w1.heap.size<w2.heap.size:=HZ.out.lt;obtain ⟨BZ,GH⟩:∃BZ,w1.heap.size=BZ:=⟨_,rfl⟩;rw [GH] at HZ HJ2 hzs⊢;have Dc:=iH GH;clear GH;have hbw:Below w1.heap.size w1 w2:=Dc.out▸HJ2.out w2 iB
 have y0:=(HX.out.below hbw).cell 0 _ rfl;clear hbw;obtain ⟨vr,vc,vm,vk,hm⟩:=nL.out;have hlen:=gG.out.len;obtain ⟨g,cap,-,-,-,-,hv,hcap,hmax,-,-⟩:=hm.oL (r:=0) (by omega);rw [hlen] at hv hcap;subst hv;unfold maxLen at hmax;obtain ⟨be,de,bl,dl,bp,dp,bz,dz,jO⟩:=hm.row hr4 hlen;have wM:=iH ((gG.out.rep r hr4).fine gG.out.tL gG.out.n4);have hidx:=((gG.out.rep r hr4).state gG.out.tL).2;have hi4:(aU x r).i≤400:=by have:=(gG.out.rep r hr4).iK;have:=gG.out.CE;have:=gG.out.n4;omega
 obtain ⟨R1,tJ⟩:∃R1,dw x.K (aU x r)=R1:=⟨_,rfl⟩;have HR1:=iH tJ;have Ci:=iH (show R1.log.base=((aU x r).b:Int) by rw [←tJ];rfl);have Da:=iH (show R1.state.index=((aU x r).i:Int) by rw [←tJ];exact hidx);rw [tJ] at jO wM;have hone:=hm.nV.oneCell;have kL:=hm.jh.oneCell;have qb:=hm.comm.oneCell;have HM:=iH hm;have dD:=iH jO;have hgl:=jO.gl;have uw:g<w2.heap.size:=by have:=Dc.out;omega
 have yO:X<w2.heap.size:=by have:=hm.box.lt;have:=Dc.out;omega
 have U3:(r:Int)<3:=by omega
 clear tJ hm jO nL hidx;obtain ⟨R2,cd,hcs⟩:∃(R2:dL) (cd:Int),((x,(12:Int))=qp x r∧R1.state.index=R1.log.base∧yB=R2∧cd=12)∨((jU x r (gZ (aU x r)),(0:Int))=qp x r∧R1.state.index≠R1.log.base∧dw x.K (gZ (aU x r))=R2∧cd=0):=by
  rw [qp]
  by_cases hne:(aU x r).i=(aU x r).b
  ·exact ⟨_,_, .inl ⟨by rw [if_pos hne],by rw [Da.out,Ci.out,hne],rfl,rfl⟩⟩
  ·exact ⟨_,_, .inr ⟨by rw [if_neg hne],by rw [Da.out,Ci.out];omega,rfl,rfl⟩⟩
 have ZB:=iH hcs;clear hcs;go_upto_region 18 with (fail);clear y0
 refine dO 13 (fun _ wx=>aX (fun q=>q=BZ) w2 wx∧∃cs:List Value,cs.length=7∧aD wx BZ cs) (fun i _ _ wx wy=>(i=12→∃us:List Value,us.length=7∧wy=wx.setCells BZ 0 us)∧(i≠12→Below wx.heap.size wx wy)) [eP (iP X 0),eP (iP X 0),eP (iP X 0),eP (.slice (some ⟨g,0,none⟩) 3 cap),eP (iP BX 2),eP (iI (r:Int)),eP (.pointer (some ⟨g,r*7,none⟩)),eP (.agg #[iI R1.log.base, .slice be R1.log.entries.length de, iS R1.snap, iI R1.state.index, .slice bl R1.state.au.length dl, .slice bp R1.state.pairs.length dp, .slice bz R1.state.af.length dz]),(fun _ _ v wx=>∃(pe pl pp pz:Option Addr) (ne nl np nz:Nat) (lo hi:Nat),v=.tuple #[.agg #[iI R2.log.base, .slice pe R2.log.entries.length ne, iS R2.snap, iI R2.state.index, .slice pl R2.state.au.length nl, .slice pp R2.state.pairs.length np, .slice pz R2.state.af.length nz], iI cd]∧dh wx R2 (.slice pe R2.log.entries.length ne) (.slice pl R2.state.au.length nl) (.slice pp R2.state.pairs.length np) (.slice pz R2.state.af.length nz) (fun q=>lo≤q∧q<hi)∧w2.heap.size≤lo∧hi≤wx.heap.size),(fun _ vs v _=>v=vs 8∧∃(pe pl pp pz:Option Addr) (ne nl np nz:Nat),v=.tuple #[.agg #[iI R2.log.base, .slice pe R2.log.entries.length ne, iS R2.snap, iI R2.state.index, .slice pl R2.state.au.length nl, .slice pp R2.state.pairs.length np, .slice pz R2.state.af.length nz], iI cd]),(fun _ vs v _=>∃(pe pl pp pz:Option Addr) (ne nl np nz:Nat),vs 9=.tuple #[.agg #[iI R2.log.base, .slice pe R2.log.entries.length ne, iS R2.snap, iI R2.state.index, .slice pl R2.state.au.length nl, .slice pp R2.state.pairs.length np, .slice pz R2.state.af.length nz], iI cd]∧v=.agg #[iI R2.log.base, .slice pe R2.log.entries.length ne, iS R2.snap, iI R2.state.index, .slice pl R2.state.au.length nl, .slice pp R2.state.pairs.length np, .slice pz R2.state.af.length nz]),eP (iI cd),(fun _ vs _ wx=>∃(pe pl pp pz:Option Addr) (ne nl np nz:Nat) (lo hi:Nat),vs 8=.tuple #[.agg #[iI R2.log.base, .slice pe R2.log.entries.length ne, iS R2.snap, iI R2.state.index, .slice pl R2.state.au.length nl, .slice pp R2.state.pairs.length np, .slice pz R2.state.af.length nz], iI cd]∧aD wx BZ [iI R2.log.base, .slice pe R2.log.entries.length ne, iS R2.snap, iI R2.state.index, .slice pl R2.state.au.length nl, .slice pp R2.state.pairs.length np, .slice pz R2.state.af.length nz]∧dh wx R2 (.slice pe R2.log.entries.length ne) (.slice pl R2.state.au.length nl) (.slice pp R2.state.pairs.length np) (.slice pz R2.state.af.length nz) (fun q=>lo≤q∧q<hi)∧w2.heap.size≤lo∧hi≤wx.heap.size)] (by kernel_rfl) (by kernel_rfl) rfl ?hJ ?jP ?hst ?hself ?ek ?hend
 case hJ=>exact ⟨aX.of_below (Below.drew iB),_,rfl,HZ.out.drew⟩
 case jP =>
  intro i done vs1 x wx wy hi hdi h1 h2;obtain ⟨h1,cs,hl,hb⟩:=h1
  by_cases h:i=12
  ·obtain ⟨us,hL,rfl⟩:=h2.1 h
   exact ⟨h1.sets (.inl rfl) 0 us,us,hL,hb.storeAll us (hL.trans hl.symm)⟩
  ·exact ⟨h1.step (h2.2 h),cs,hl,hb.below (h2.2 h)⟩
 case hst =>
  intro i j done vs1 x wa wb hi hj hne hdi hdj hwf hJ hS GG hV
  match j,hj with
  | 0,_=>exact hV
  | 1,_=>exact hV
  | 2,_=>exact hV
  | 3,_=>exact hV
  | 4,_=>exact hV
  | 5,_=>exact hV
  | 6,_=>exact hV
  | 7,_=>exact hV
  | 8,_ =>
    obtain ⟨pe,pl,pp,pz,ne,nl,np,nz,lo,hi,e1,h3,h4,h5⟩:=hV
    by_cases h:i=12
    ·obtain ⟨us,hL,rfl⟩:=hS.1 h
     exact ⟨pe,pl,pp,pz,ne,nl,np,nz,lo,hi,e1,dh.store h3 0 us (fun q hq=>⟨by have h1:=hq.1;have h2:=hq.2;have h3:=hzs;omega,hq⟩),h4,Nat.le_trans h5 (bG (Nat.zero_le _) us 0 _ (Below.refl 0 _)).size⟩
    ·have hb:=hS.2 h
     exact ⟨pe,pl,pp,pz,ne,nl,np,nz,lo,hi,e1,h3.below hb,h4,Nat.le_trans h5 hb.size⟩
  | 9,_ =>
    have h2:¬ 8=i:=by
     intro h;subst h;exact absurd (Eq.trans (show false=Region.waitsFor Region.Mode.any _ 9 8 from hwf.symm) (show _=true by kernel_rfl)) (by decide)
    exact ⟨Eq.trans hV.1 (by simp [dm,h2]),hV.2⟩
  | 10,_ =>
    have h2:¬ 9=i:=by
     intro h;subst h;exact absurd (Eq.trans (show false=Region.waitsFor Region.Mode.any _ 10 9 from hwf.symm) (show _=true by kernel_rfl)) (by decide)
    obtain ⟨pe,pl,pp,pz,ne,nl,np,nz,e1,e2⟩:=hV;exact ⟨pe,pl,pp,pz,ne,nl,np,nz,by simp [dm,h2];exact e1,e2⟩
  | 11,_=>exact hV
  | 12,_ =>
    have h2:¬ 8=i:=by
     intro h;subst h;exact absurd (Eq.trans (show false=Region.waitsFor Region.Mode.any _ 12 8 from hwf.symm) (show _=true by kernel_rfl)) (by decide)
    have hb:=hS.2 (fun h=>hne h);obtain ⟨pe,pl,pp,pz,ne,nl,np,nz,lo,hi,e1,g1,g2,g3,g4⟩:=hV;exact ⟨pe,pl,pp,pz,ne,nl,np,nz,lo,hi,by simp [dm,h2];exact e1,g1.below hb,g2.below hb,g3,Nat.le_trans g4 hb.size⟩
  | n+13,hj=>exact absurd hj (by omega)
 case hself =>
  intro i done vs1 v w hi hV
  match i,hi with
  | 0,_=>exact hV
  | 1,_=>exact hV
  | 2,_=>exact hV
  | 3,_=>exact hV
  | 4,_=>exact hV
  | 5,_=>exact hV
  | 6,_=>exact hV
  | 7,_=>exact hV
  | 8,_=>exact hV
  | 9,_=>exact ⟨Eq.trans hV.1 (by simp [dm]),hV.2⟩
  | 10,_ =>
    obtain ⟨pe,pl,pp,pz,ne,nl,np,nz,e1,e2⟩:=hV;exact ⟨pe,pl,pp,pz,ne,nl,np,nz,by simp [dm];exact e1,e2⟩
  | 11,_=>exact hV
  | 12,_ =>
    obtain ⟨pe,pl,pp,pz,ne,nl,np,nz,lo,hi,e1,g⟩:=hV;exact ⟨pe,pl,pp,pz,ne,nl,np,nz,lo,hi,by simp [dm];exact e1,g⟩
  | n+13,hi=>exact absurd hi (by omega)
 case ek =>
  simp only [gm,aJ,Act.put,Nat.reduceAdd,Nat.zero_add,pS];refine ⟨?_,?_,?_,?_,?_,?_,?_,?_,?_,?_,?_,?_,?_,trivial⟩
  all_goals
   intro done vs1 wx hJ hd hall hn K hK;simp [Region.binds] at hn;simp only [mM,eP,Act.put,Nat.reduceAdd,Nat.zero_add,pS] at hK;obtain ⟨hC,cs,hcl,hbx⟩:=hJ;have hJ:=nW hC (Nat.le_of_lt hzs);have PE:=hC.size
  ·go_wp2
   exact hK _ _ ⟨iD rfl,fun _=>iB⟩ rfl
  ·have e0:vs1 0=iP X 0:=hall 0 (by omega) (by simp [hn])
   simp only [e0] at hK⊢;go_wp2;exact hK _ _ ⟨iD rfl,fun _=>iB⟩ rfl
  ·have e1:vs1 1=iP X 0:=hall 1 (by omega) (by simp [hn])
   simp only [e1] at hK⊢;go_wp2;exact hK _ _ ⟨iD rfl,fun _=>iB⟩ rfl
  ·have e2:vs1 2=iP X 0:=hall 2 (by omega) (by simp [hn])
   simp only [e2] at hK⊢;have hj2:=HJ2.out wx hJ;rw [←Dc.out] at hj2;have x0:=(HM.out.below hj2).box.cell 0 _ rfl;go_wp2;exact hK _ _ ⟨iD rfl,fun _=>iB⟩ rfl
  ·go_wp2
   exact hK _ _ ⟨iD rfl,fun _=>iB⟩ rfl
  ·have e4:vs1 4=iP BX 2:=hall 4 (by omega) (by simp [hn])
   simp only [e4] at hK⊢;have hj2:=HJ2.out wx hJ;rw [←Dc.out] at hj2;have y2:=(HX.out.below hj2).cell 2 _ rfl;go_wp2;exact hK _ _ ⟨iD rfl,fun _=>iB⟩ rfl
  ·have e3:vs1 3=.slice (some ⟨g,0,none⟩) 3 cap:=hall 3 (by omega) (by simp [hn])
   have e5:vs1 5=iI (r:Int):=hall 5 (by omega) (by simp [hn]);simp only [e3,e5] at hK⊢;go_wp2;exact hK _ _ ⟨iD rfl,fun _=>iB⟩ rfl
  ·have e6:vs1 6=.pointer (some ⟨g,r*7,none⟩):=hall 6 (by omega) (by simp [hn])
   simp only [e6] at hK⊢;have hj2:=HJ2.out wx hJ;rw [←Dc.out] at hj2;have c0:=aB dD.out.c0 (hj2.block g dD.out.gl);have c1:=aB dD.out.c1 (hj2.block g dD.out.gl);have c2:=aB dD.out.c2 (hj2.block g dD.out.gl);have c3:=aB dD.out.c3 (hj2.block g dD.out.gl);have c4:=aB dD.out.c4 (hj2.block g dD.out.gl);have c5:=aB dD.out.c5 (hj2.block g dD.out.gl);have c6:=aB dD.out.c6 (hj2.block g dD.out.gl);go_wp2;exact hK _ _ ⟨iD rfl,fun _=>iB⟩ rfl
  ·have e7:vs1 7=.agg #[iI R1.log.base, .slice be R1.log.entries.length de, iS R1.snap, iI R1.state.index, .slice bl R1.state.au.length dl, .slice bp R1.state.pairs.length dp, .slice bz R1.state.af.length dz]:=hall 7 (by omega) (by simp [hn])
   simp only [e7] at hK⊢;have hj2:=HJ2.out wx hJ;rw [←Dc.out] at hj2;have hsx:=dD.out.rp.below hj2
   go_wp2_with fail
   have hcall:Calls Tryz.prog 18 #[.agg #[iI R1.log.base, .slice be R1.log.entries.length de, iS R1.snap, iI R1.state.index, .slice bl R1.state.au.length dl, .slice bp R1.state.pairs.length dp, .slice bz R1.state.af.length dz]] wx (yV wx R2 cd):=by
    rcases ZB.out with ⟨-,q1,rfl,rfl⟩ | ⟨-,q1,q2,rfl⟩
    ·exact vZ R1 (dF x.K (aU x r).b) _ _ _ _ _ wx hsx wM.out q1
    ·have hin:=(Ht (gG.out.rep r hr4) gG.out.tL (by have h1:=Da.out;have h2:=Ci.out;omega)).trans q2
     rw [HR1.out] at hin;rw [←hin];exact A9 R1 (dF x.K (aU x r).b) _ _ _ _ _ wx hsx wM.out q1 (by rw [Da.out];omega)
   refine hcall.mono ?_;rintro e w9 ⟨ve,vl,vp,vz,rfl,jo,gQ⟩;obtain ⟨pe,ne,rfl,-,-,-,-⟩:=id jo.lD;obtain ⟨pl,nl,rfl,-,-,-,-⟩:=id jo.st.lock;obtain ⟨pp,np,rfl,-,-,-,-⟩:=id jo.st.pair;obtain ⟨pz,nz,rfl,-,-,-,-⟩:=id jo.st.dG;have hr:dh w9 R2 (.slice pe R2.log.entries.length ne) (.slice pl R2.state.au.length nl) (.slice pp R2.state.pairs.length np) (.slice pz R2.state.af.length nz) (fun q=>wx.heap.size≤q∧q<w9.heap.size):=jo.sub fun b hb hl=>⟨hb,hl⟩
   go_wp2;exact hK _ _ ⟨iD rfl,fun _=>gQ⟩ ⟨pe,pl,pp,pz,ne,nl,np,nz,wx.heap.size,w9.heap.size,rfl,hr,PE,Nat.le_refl _⟩
  ·obtain ⟨pe,pl,pp,pz,ne,nl,np,nz,lo,hi,e5,-⟩:((fun _ _ v wx=>∃(pe pl pp pz:Option Addr) (ne nl np nz:Nat) (lo hi:Nat),v=.tuple #[.agg #[iI R2.log.base, .slice pe R2.log.entries.length ne, iS R2.snap, iI R2.state.index, .slice pl R2.state.au.length nl, .slice pp R2.state.pairs.length np, .slice pz R2.state.af.length nz], iI cd]∧dh wx R2 (.slice pe R2.log.entries.length ne) (.slice pl R2.state.au.length nl) (.slice pp R2.state.pairs.length np) (.slice pz R2.state.af.length nz) (fun q=>lo≤q∧q<hi)∧w2.heap.size≤lo∧hi≤wx.heap.size):VE) done vs1 (vs1 8) wx:=hall 8 (by omega) (by simp [hn])
   simp only [e5] at hK⊢;go_wp2;exact hK _ _ ⟨iD rfl,fun _=>iB⟩ ⟨rfl,pe,pl,pp,pz,ne,nl,np,nz,rfl⟩
  ·obtain ⟨pe,pl,pp,pz,ne,nl,np,nz,e6⟩:∃(pe pl pp pz:Option Addr) (ne nl np nz:Nat),vs1 9=.tuple #[.agg #[iI R2.log.base, .slice pe R2.log.entries.length ne, iS R2.snap, iI R2.state.index, .slice pl R2.state.au.length nl, .slice pp R2.state.pairs.length np, .slice pz R2.state.af.length nz], iI cd]:=(hall 9 (by omega) (by simp [hn])).2
   simp only [e6] at hK⊢;go_wp2;exact hK _ _ ⟨iD rfl,fun _=>iB⟩ ⟨pe,pl,pp,pz,ne,nl,np,nz,rfl,rfl⟩
  ·obtain ⟨pe,pl,pp,pz,ne,nl,np,nz,e6⟩:∃(pe pl pp pz:Option Addr) (ne nl np nz:Nat),vs1 9=.tuple #[.agg #[iI R2.log.base, .slice pe R2.log.entries.length ne, iS R2.snap, iI R2.state.index, .slice pl R2.state.au.length nl, .slice pp R2.state.pairs.length np, .slice pz R2.state.af.length nz], iI cd]:=(hall 9 (by omega) (by simp [hn])).2
   simp only [e6] at hK⊢;go_wp2;exact hK _ _ ⟨iD rfl,fun _=>iB⟩ rfl
  ·obtain ⟨pe,pl,pp,pz,ne,nl,np,nz,lo,hi,e5,h3,h4,h5⟩:((fun _ _ v wx=>∃(pe pl pp pz:Option Addr) (ne nl np nz:Nat) (lo hi:Nat),v=.tuple #[.agg #[iI R2.log.base, .slice pe R2.log.entries.length ne, iS R2.snap, iI R2.state.index, .slice pl R2.state.au.length nl, .slice pp R2.state.pairs.length np, .slice pz R2.state.af.length nz], iI cd]∧dh wx R2 (.slice pe R2.log.entries.length ne) (.slice pl R2.state.au.length nl) (.slice pp R2.state.pairs.length np) (.slice pz R2.state.af.length nz) (fun q=>lo≤q∧q<hi)∧w2.heap.size≤lo∧hi≤wx.heap.size):VE) done vs1 (vs1 8) wx:=hall 8 (by omega) (by simp [hn])
   have e6:vs1 9=vs1 8:=(hall 9 (by omega) (by simp [hn])).1;obtain ⟨Qj,Pp,Po,Pn,ne',nl',Pv,Pt,f6,e7⟩:((fun _ vs v _=>∃(pe pl pp pz:Option Addr) (ne nl np nz:Nat),vs 9=.tuple #[.agg #[iI R2.log.base, .slice pe R2.log.entries.length ne, iS R2.snap, iI R2.state.index, .slice pl R2.state.au.length nl, .slice pp R2.state.pairs.length np, .slice pz R2.state.af.length nz], iI cd]∧v=.agg #[iI R2.log.base, .slice pe R2.log.entries.length ne, iS R2.snap, iI R2.state.index, .slice pl R2.state.au.length nl, .slice pp R2.state.pairs.length np, .slice pz R2.state.af.length nz]):VE) done vs1 (vs1 10) wx:=hall 10 (by omega) (by simp [hn]);rw [e6,e5] at f6;simp [and_assoc] at f6;obtain ⟨rfl,rfl,rfl,rfl,rfl,rfl,rfl,rfl⟩:=f6;obtain ⟨z0,z1,z2,z3,z4,z5,z6,rfl⟩:∃z0 z1 z2 z3 z4 z5 z6,cs=[z0,z1,z2,z3,z4,z5,z6]:=by
    match cs,hcl with
    | [z0,z1,z2,z3,z4,z5,z6],_=>exact ⟨z0,z1,z2,z3,z4,z5,z6,rfl⟩
   simp only [e7] at hK⊢;obtain ⟨y0,y1,y2,y3,y4,y5,y6⟩:=gM hbx;obtain ⟨t0,t1,t2,t3,t4,t5,t6⟩:=sK hbx;go_wp2;exact hK undef (wx.setCells BZ 0 [iI R2.log.base, .slice pe R2.log.entries.length ne, iS R2.snap, iI R2.state.index, .slice pl R2.state.au.length nl, .slice pp R2.state.pairs.length np, .slice pz R2.state.af.length nz]) ⟨fun _=>⟨[iI R2.log.base, .slice pe R2.log.entries.length ne, iS R2.snap, iI R2.state.index, .slice pl R2.state.au.length nl, .slice pp R2.state.pairs.length np, .slice pz R2.state.af.length nz],rfl,rfl⟩,fun h=>absurd rfl h⟩ ⟨pe,pl,pp,pz,ne,nl,np,nz,lo,hi,e5,hbx.storeAll _ rfl,dh.store h3 0 _ (fun q hq=>⟨by have h1:=hq.1;have h2:=hq.2;have h3:=hzs;omega,hq⟩),h4,Nat.le_trans h5 (bG (Nat.zero_le _) _ 0 _ (Below.refl 0 _)).size⟩
 case hend =>
  intro done vs1 wx hJ hdn hv;obtain ⟨hC,-⟩:=hJ;have hJ:=nW hC (Nat.le_of_lt hzs);have PE:=hC.size;obtain ⟨e0,e1,e2,e3,e4,e5,e6,e7,-,-,-,e11,⟨pe,pl,pp,pz,ne,nl,np,nz,lo,hi,eC,hbx,hrl,hlo,hhi⟩,-⟩:=hv;simp only [eP] at e0 e1 e2 e3 e4 e5 e6 e7 e11;simp only [aJ,Act.put,Nat.reduceAdd,Nat.zero_add,pS];rw [e0,e1,e2,e3,e4,e5,e6,e7,e11];clear eC e0 e1 e2 e3 e4 e5 e6 e7 e11;have hj2:=HJ2.out wx hJ;rw [←Dc.out] at hj2
  rcases ZB.out with ⟨q1,-,-,rfl⟩ | ⟨q1,-,q2,rfl⟩
  case inl =>
   have lM:=iH (HM.out.below hj2);have HB2:=iH (ah HB.out hj2);clear hbx hrl hj2;go_wp2;go_ret;rw [←q1];exact ⟨rfl,Z,⟨_,_,_,_,lM.out⟩,fun b hb=>.inl hb,aX.of_below HB2.out⟩
  have HR2:=iH q2;clear q2;have lM:=iH (HM.out.below hj2);have HU:=iH hbx;have EO:=iH hrl;have HB2:=iH (ah HB.out hj2);have c0:=aB dD.out.c0 (hj2.block g dD.out.gl);have c1:=aB dD.out.c1 (hj2.block g dD.out.gl);have c2:=aB dD.out.c2 (hj2.block g dD.out.gl);have c3:=aB dD.out.c3 (hj2.block g dD.out.gl);have c4:=aB dD.out.c4 (hj2.block g dD.out.gl);have c5:=aB dD.out.c5 (hj2.block g dD.out.gl);have c6:=aB dD.out.c6 (hj2.block g dD.out.gl);have y2:=(HX.out.below hj2).cell 2 _ rfl;clear hbx hrl hj2;have x0:=lM.out.box.cell 0 _ rfl;have f0:=lM.out.rep.thaw (r*7);have f1:=lM.out.rep.thaw (r*7+1);have f2:=lM.out.rep.thaw (r*7+2);have f3:=lM.out.rep.thaw (r*7+3);have f4:=lM.out.rep.thaw (r*7+4);have f5:=lM.out.rep.thaw (r*7+5);have f6:=lM.out.rep.thaw (r*7+6);obtain ⟨y0,y1,u2,y3,y4,y5,y6⟩:=gM HU.out;go_upto_region 20 with (fail);go_region;have hset:=lM.out.yf (r:=r) (a:=gZ (aU x r)) (cs:=[iI R2.log.base, .slice pe R2.log.entries.length ne, iS R2.snap, iI R2.state.index, .slice pl R2.state.au.length nl, .slice pp R2.state.pairs.length np, .slice pz R2.state.af.length nz]) (P:=fun q=>lo≤q∧q<hi) (by omega) rfl ⟨_,_,_,_,by rw [HR2.out];rfl,by rw [HR2.out];exact EO.out⟩ (fun b hb hw=>by have h1:=HM.out.lt hw;have h2:=hb.1;have h3:=Dc.out;omega)
  generalize bF:((((((((wx.setCell ⟨g,r*7,none⟩ (iI R2.log.base)).setCell ⟨g,r*7+1,none⟩ (.slice pe R2.log.entries.length ne)).setCell ⟨g,r*7+2,none⟩ (iS R2.snap)).setCell ⟨g,r*7+3,none⟩ (iI R2.state.index)).setCell ⟨g,r*7+4,none⟩ (.slice pl R2.state.au.length nl)).setCell ⟨g,r*7+5,none⟩ (.slice pp R2.state.pairs.length np)).setCell ⟨g,r*7+6,none⟩ (.slice pz R2.state.af.length nz))).drew=wf at *;have HF:Hid (eB 45 73 101 9 wf X _ vc vm vk (jU x r (gZ (aU x r))) _):=bF▸iH (hset.1.below (Below.drew iB));have zF:Hid (aX Z w wf):=bF▸iH (((aX.of_below HB2.out).trans hset.2 fun _ h=>.inl h).step (Below.drew iB));clear hset;clear bF;refine eZ (fun wx=>wf=wx) rfl ?_;rintro _ rfl;go_wp2;go_ret;rw [←q1];exact ⟨rfl,_,⟨_,_,_,_,HF.out⟩,fun b hb=>hb.imp id fun h=>by have h1:=h.1;have h2:=HB.out.size;have h3:=Dc.out;omega,zF.out⟩
theorem Ah (m n:Nat) (x:bS) (X:Nat) (Z:Nat→Prop) (w:World) (h:gW 45 73 101 9 w X x Z) (hok:aT m n x) (a:dK) (ha:fC a) (hr0:0≤a.r) (hr3:a.r<3) (hk:a.kind=7) :
 Calls Tryz.prog 87 #[iP X 0, .agg #[iI a.kind, iI a.c, iI a.r, iI a.k, iI a.op.kind, iS a.op.a, iS a.op.b, iI a.op.n]] w fun e w'=>e=.returned (iI ((jU x a.r.toNat (fV (aU x a.r.toNat)),(0:Int))).2)∧eY 45 73 101 9 w X Z w' ((jU x a.r.toNat (fV (aU x a.r.toNat)),(0:Int))).1:=by
 have HH:=iH h;have gG:=iH hok;obtain ⟨r,hr⟩:∃r:Nat,(r:Int)=a.r:=⟨a.r.toNat,by omega⟩;have hr4:r<3:=by omega
 obtain ⟨kd,c,r',k,op⟩:=a;simp only at hr hr0 hr3 hk⊢;subst hr hk;simp only [Int.toNat_natCast];clear h hok ha;have hd1:decide ((r:Int)<0)=false:=decide_eq_false (by omega);have hd2:decide ((3:Int)≤(r:Int))=false:=decide_eq_false (by omega)
 go_enter Tryz.func87,Tryz.ntmps87
 go_upto_region 1 with (fail);generalize bF:w.alloc (.cells #[iI 7, iI c, iI (r:Int), iI k, iI op.kind, iS op.a, iS op.b, iI op.n] 70)=w1 at *;have hbz:=tQ bF;have HX:=iH (tO bF);have nL:=iH (cB HH.out hbz);have HB:=iH hbz;clear hbz HH;clear bF;obtain ⟨BX,jT⟩:∃BX,w.heap.size=BX:=⟨_,rfl⟩;rw [jT] at HX⊢;have yY:=iH jT;clear jT;have y2:=HX.out.cell 2 _ rfl;go_upto_region 4 with (fail);clear y2;have hbz:Below w1.heap.size w1 (w1.alloc (.cells #[iI 0, iN, .string ⟨#[]⟩, iI 0, iN, iN, iN] 45)):=aj w1 _;have HZ:=iH (aD.new (w:=w1) (cs:=[iI 0, iN, .string ⟨#[]⟩, iI 0, iN, iN, iN]) (E:=45));have HJ2:=iH (fun wx (hJ:Below w1.heap.size (w1.alloc (.cells #[iI 0, iN, .string ⟨#[]⟩, iI 0, iN, iN, iN] 45)) wx)=>show Below w1.heap.size w1 wx from hbz.trans hJ);clear hbz;generalize w1.alloc (.cells #[iI 0, iN, .string ⟨#[]⟩, iI 0, iN, iN, iN] 45)=w2 at *;have hzs:w1.heap.size<w2.heap.size:=HZ.out.lt;obtain ⟨BZ,GH⟩:∃BZ,w1.heap.size=BZ:=⟨_,rfl⟩;rw [GH] at HZ HJ2 hzs⊢;have Dc:=iH GH;clear GH;have hbw:Below w1.heap.size w1 w2:=Dc.out▸HJ2.out w2 iB
 have y0:=(HX.out.below hbw).cell 0 _ rfl;clear hbw;obtain ⟨vr,vc,vm,vk,hm⟩:=nL.out;have hlen:=gG.out.len;obtain ⟨g,cap,-,-,-,-,hv,hcap,hmax,-,-⟩:=hm.oL (r:=0) (by omega);rw [hlen] at hv hcap;subst hv;unfold maxLen at hmax;obtain ⟨be,de,bl,dl,bp,dp,bz,dz,jO⟩:=hm.row hr4 hlen;have wM:=iH ((gG.out.rep r hr4).fine gG.out.tL gG.out.n4);have hidx:=((gG.out.rep r hr4).state gG.out.tL).2;have hi4:(aU x r).i≤400:=by have:=(gG.out.rep r hr4).iK;have:=gG.out.CE;have:=gG.out.n4;omega
 obtain ⟨R1,tJ⟩:∃R1,dw x.K (aU x r)=R1:=⟨_,rfl⟩;have HR1:=iH tJ;have Ci:=iH (show R1.log.base=((aU x r).b:Int) by rw [←tJ];rfl);have Da:=iH (show R1.state.index=((aU x r).i:Int) by rw [←tJ];exact hidx);rw [tJ] at jO wM;have hone:=hm.nV.oneCell;have kL:=hm.jh.oneCell;have qb:=hm.comm.oneCell;have HM:=iH hm;have dD:=iH jO;have hgl:=jO.gl;have uw:g<w2.heap.size:=by have:=Dc.out;omega
 have yO:X<w2.heap.size:=by have:=hm.box.lt;have:=Dc.out;omega
 have U3:(r:Int)<3:=by omega
 clear tJ hm jO nL hidx;obtain ⟨R2,hR2⟩:∃R2,dw x.K (fV (aU x r))=R2:=⟨_,rfl⟩;have HR2:=iH hR2;have Ur:=iH (show (⟨R1.log,R1.snap,dF x.K (aU x r).b⟩:dL)=R2 by rw [←HR1.out,←hR2];rfl);clear hR2;go_upto_region 6 with (fail);clear y0
 refine dO 13 (fun _ wx=>aX (fun q=>q=BZ) w2 wx∧∃cs:List Value,cs.length=7∧aD wx BZ cs) (fun i _ _ wx wy=>(i=12→∃us:List Value,us.length=7∧wy=wx.setCells BZ 0 us)∧(i≠12→Below wx.heap.size wx wy)) [eP (iP X 0),eP (iP X 0),eP (iP X 0),eP (.slice (some ⟨g,0,none⟩) 3 cap),eP (iP BX 2),eP (iI (r:Int)),eP (.pointer (some ⟨g,r*7,none⟩)),eP (.agg #[iI R1.log.base, .slice be R1.log.entries.length de, iS R1.snap, iI R1.state.index, .slice bl R1.state.au.length dl, .slice bp R1.state.pairs.length dp, .slice bz R1.state.af.length dz]),(fun _ _ v wx=>∃(pe pl pp pz:Option Addr) (ne nl np nz:Nat) (lo hi:Nat),v=.tuple #[.agg #[iI R2.log.base, .slice pe R2.log.entries.length ne, iS R2.snap, iI R2.state.index, .slice pl R2.state.au.length nl, .slice pp R2.state.pairs.length np, .slice pz R2.state.af.length nz], iI 0]∧dh wx R2 (.slice pe R2.log.entries.length ne) (.slice pl R2.state.au.length nl) (.slice pp R2.state.pairs.length np) (.slice pz R2.state.af.length nz) (fun q=>lo≤q∧q<hi)∧w2.heap.size≤lo∧hi≤wx.heap.size),(fun _ vs v _=>v=vs 8∧∃(pe pl pp pz:Option Addr) (ne nl np nz:Nat),v=.tuple #[.agg #[iI R2.log.base, .slice pe R2.log.entries.length ne, iS R2.snap, iI R2.state.index, .slice pl R2.state.au.length nl, .slice pp R2.state.pairs.length np, .slice pz R2.state.af.length nz], iI 0]),(fun _ vs v _=>∃(pe pl pp pz:Option Addr) (ne nl np nz:Nat),vs 9=.tuple #[.agg #[iI R2.log.base, .slice pe R2.log.entries.length ne, iS R2.snap, iI R2.state.index, .slice pl R2.state.au.length nl, .slice pp R2.state.pairs.length np, .slice pz R2.state.af.length nz], iI 0]∧v=.agg #[iI R2.log.base, .slice pe R2.log.entries.length ne, iS R2.snap, iI R2.state.index, .slice pl R2.state.au.length nl, .slice pp R2.state.pairs.length np, .slice pz R2.state.af.length nz]),eP (iI 0),(fun _ vs _ wx=>∃(pe pl pp pz:Option Addr) (ne nl np nz:Nat) (lo hi:Nat),vs 8=.tuple #[.agg #[iI R2.log.base, .slice pe R2.log.entries.length ne, iS R2.snap, iI R2.state.index, .slice pl R2.state.au.length nl, .slice pp R2.state.pairs.length np, .slice pz R2.state.af.length nz], iI 0]∧aD wx BZ [iI R2.log.base, .slice pe R2.log.entries.length ne, iS R2.snap, iI R2.state.index, .slice pl R2.state.au.length nl, .slice pp R2.state.pairs.length np, .slice pz R2.state.af.length nz]∧dh wx R2 (.slice pe R2.log.entries.length ne) (.slice pl R2.state.au.length nl) (.slice pp R2.state.pairs.length np) (.slice pz R2.state.af.length nz) (fun q=>lo≤q∧q<hi)∧w2.heap.size≤lo∧hi≤wx.heap.size)] (by kernel_rfl) (by kernel_rfl) rfl ?hJ ?jP ?hst ?hself ?ek ?hend
 case hJ=>exact ⟨aX.of_below (Below.drew iB),_,rfl,HZ.out.drew⟩
 case jP =>
  intro i done vs1 x wx wy hi hdi h1 h2;obtain ⟨h1,cs,hl,hb⟩:=h1
  by_cases h:i=12
  ·obtain ⟨us,hL,rfl⟩:=h2.1 h
   exact ⟨h1.sets (.inl rfl) 0 us,us,hL,hb.storeAll us (hL.trans hl.symm)⟩
  ·exact ⟨h1.step (h2.2 h),cs,hl,hb.below (h2.2 h)⟩
 case hst =>
  intro i j done vs1 x wa wb hi hj hne hdi hdj hwf hJ hS GG hV
  match j,hj with
  | 0,_=>exact hV
  | 1,_=>exact hV
  | 2,_=>exact hV
  | 3,_=>exact hV
  | 4,_=>exact hV
  | 5,_=>exact hV
  | 6,_=>exact hV
  | 7,_=>exact hV
  | 8,_ =>
    obtain ⟨pe,pl,pp,pz,ne,nl,np,nz,lo,hi,e1,h3,h4,h5⟩:=hV
    by_cases h:i=12
    ·obtain ⟨us,hL,rfl⟩:=hS.1 h
     exact ⟨pe,pl,pp,pz,ne,nl,np,nz,lo,hi,e1,dh.store h3 0 us (fun q hq=>⟨by have h1:=hq.1;have h2:=hq.2;have h3:=hzs;omega,hq⟩),h4,Nat.le_trans h5 (bG (Nat.zero_le _) us 0 _ (Below.refl 0 _)).size⟩
    ·have hb:=hS.2 h
     exact ⟨pe,pl,pp,pz,ne,nl,np,nz,lo,hi,e1,h3.below hb,h4,Nat.le_trans h5 hb.size⟩
  | 9,_ =>
    have h2:¬ 8=i:=by
     intro h;subst h;exact absurd (Eq.trans (show false=Region.waitsFor Region.Mode.any _ 9 8 from hwf.symm) (show _=true by kernel_rfl)) (by decide)
    exact ⟨Eq.trans hV.1 (by simp [dm,h2]),hV.2⟩
  | 10,_ =>
    have h2:¬ 9=i:=by
     intro h;subst h;exact absurd (Eq.trans (show false=Region.waitsFor Region.Mode.any _ 10 9 from hwf.symm) (show _=true by kernel_rfl)) (by decide)
    obtain ⟨pe,pl,pp,pz,ne,nl,np,nz,e1,e2⟩:=hV;exact ⟨pe,pl,pp,pz,ne,nl,np,nz,by simp [dm,h2];exact e1,e2⟩
  | 11,_=>exact hV
  | 12,_ =>
    have h2:¬ 8=i:=by
     intro h;subst h;exact absurd (Eq.trans (show false=Region.waitsFor Region.Mode.any _ 12 8 from hwf.symm) (show _=true by kernel_rfl)) (by decide)
    have hb:=hS.2 (fun h=>hne h);obtain ⟨pe,pl,pp,pz,ne,nl,np,nz,lo,hi,e1,g1,g2,g3,g4⟩:=hV;exact ⟨pe,pl,pp,pz,ne,nl,np,nz,lo,hi,by simp [dm,h2];exact e1,g1.below hb,g2.below hb,g3,Nat.le_trans g4 hb.size⟩
  | n+13,hj=>exact absurd hj (by omega)
 case hself =>
  intro i done vs1 v w hi hV
  match i,hi with
  | 0,_=>exact hV
  | 1,_=>exact hV
  | 2,_=>exact hV
  | 3,_=>exact hV
  | 4,_=>exact hV
  | 5,_=>exact hV
  | 6,_=>exact hV
  | 7,_=>exact hV
  | 8,_=>exact hV
  | 9,_=>exact ⟨Eq.trans hV.1 (by simp [dm]),hV.2⟩
  | 10,_ =>
    obtain ⟨pe,pl,pp,pz,ne,nl,np,nz,e1,e2⟩:=hV;exact ⟨pe,pl,pp,pz,ne,nl,np,nz,by simp [dm];exact e1,e2⟩
  | 11,_=>exact hV
  | 12,_ =>
    obtain ⟨pe,pl,pp,pz,ne,nl,np,nz,lo,hi,e1,g⟩:=hV;exact ⟨pe,pl,pp,pz,ne,nl,np,nz,lo,hi,by simp [dm];exact e1,g⟩
  | n+13,hi=>exact absurd hi (by omega)
 case ek =>
  simp only [gm,aJ,Act.put,Nat.reduceAdd,Nat.zero_add,pS];refine ⟨?_,?_,?_,?_,?_,?_,?_,?_,?_,?_,?_,?_,?_,trivial⟩
  all_goals
   intro done vs1 wx hJ hd hall hn K hK;simp [Region.binds] at hn;simp only [mM,eP,Act.put,Nat.reduceAdd,Nat.zero_add,pS] at hK;obtain ⟨hC,cs,hcl,hbx⟩:=hJ;have hJ:=nW hC (Nat.le_of_lt hzs);have PE:=hC.size
  ·go_wp2
   exact hK _ _ ⟨iD rfl,fun _=>iB⟩ rfl
  ·have e0:vs1 0=iP X 0:=hall 0 (by omega) (by simp [hn])
   simp only [e0] at hK⊢;go_wp2;exact hK _ _ ⟨iD rfl,fun _=>iB⟩ rfl
  ·have e1:vs1 1=iP X 0:=hall 1 (by omega) (by simp [hn])
   simp only [e1] at hK⊢;go_wp2;exact hK _ _ ⟨iD rfl,fun _=>iB⟩ rfl
  ·have e2:vs1 2=iP X 0:=hall 2 (by omega) (by simp [hn])
   simp only [e2] at hK⊢;have hj2:=HJ2.out wx hJ;rw [←Dc.out] at hj2;have x0:=(HM.out.below hj2).box.cell 0 _ rfl;go_wp2;exact hK _ _ ⟨iD rfl,fun _=>iB⟩ rfl
  ·go_wp2
   exact hK _ _ ⟨iD rfl,fun _=>iB⟩ rfl
  ·have e4:vs1 4=iP BX 2:=hall 4 (by omega) (by simp [hn])
   simp only [e4] at hK⊢;have hj2:=HJ2.out wx hJ;rw [←Dc.out] at hj2;have y2:=(HX.out.below hj2).cell 2 _ rfl;go_wp2;exact hK _ _ ⟨iD rfl,fun _=>iB⟩ rfl
  ·have e3:vs1 3=.slice (some ⟨g,0,none⟩) 3 cap:=hall 3 (by omega) (by simp [hn])
   have e5:vs1 5=iI (r:Int):=hall 5 (by omega) (by simp [hn]);simp only [e3,e5] at hK⊢;go_wp2;exact hK _ _ ⟨iD rfl,fun _=>iB⟩ rfl
  ·have e6:vs1 6=.pointer (some ⟨g,r*7,none⟩):=hall 6 (by omega) (by simp [hn])
   simp only [e6] at hK⊢;have hj2:=HJ2.out wx hJ;rw [←Dc.out] at hj2;have c0:=aB dD.out.c0 (hj2.block g dD.out.gl);have c1:=aB dD.out.c1 (hj2.block g dD.out.gl);have c2:=aB dD.out.c2 (hj2.block g dD.out.gl);have c3:=aB dD.out.c3 (hj2.block g dD.out.gl);have c4:=aB dD.out.c4 (hj2.block g dD.out.gl);have c5:=aB dD.out.c5 (hj2.block g dD.out.gl);have c6:=aB dD.out.c6 (hj2.block g dD.out.gl);go_wp2;exact hK _ _ ⟨iD rfl,fun _=>iB⟩ rfl
  ·have e7:vs1 7=.agg #[iI R1.log.base, .slice be R1.log.entries.length de, iS R1.snap, iI R1.state.index, .slice bl R1.state.au.length dl, .slice bp R1.state.pairs.length dp, .slice bz R1.state.af.length dz]:=hall 7 (by omega) (by simp [hn])
   simp only [e7] at hK⊢;have hj2:=HJ2.out wx hJ;rw [←Dc.out] at hj2;have hsx:=dD.out.rp.below hj2
   go_wp2_with fail
   refine (AX R1 (dF x.K (aU x r).b) _ _ _ _ _ wx hsx wM.out).mono ?_;rw [Ur.out];rintro e w9 ⟨ve,vl,vp,vz,rfl,jo,gQ⟩;obtain ⟨pe,ne,rfl,-,-,-,-⟩:=id jo.lD;obtain ⟨pl,nl,rfl,-,-,-,-⟩:=id jo.st.lock;obtain ⟨pp,np,rfl,-,-,-,-⟩:=id jo.st.pair;obtain ⟨pz,nz,rfl,-,-,-,-⟩:=id jo.st.dG;have hr:dh w9 R2 (.slice pe R2.log.entries.length ne) (.slice pl R2.state.au.length nl) (.slice pp R2.state.pairs.length np) (.slice pz R2.state.af.length nz) (fun q=>wx.heap.size≤q∧q<w9.heap.size):=jo.sub fun b hb hl=>⟨hb,hl⟩
   go_wp2;exact hK _ _ ⟨iD rfl,fun _=>gQ⟩ ⟨pe,pl,pp,pz,ne,nl,np,nz,wx.heap.size,w9.heap.size,rfl,hr,PE,Nat.le_refl _⟩
  ·obtain ⟨pe,pl,pp,pz,ne,nl,np,nz,lo,hi,e5,-⟩:((fun _ _ v wx=>∃(pe pl pp pz:Option Addr) (ne nl np nz:Nat) (lo hi:Nat),v=.tuple #[.agg #[iI R2.log.base, .slice pe R2.log.entries.length ne, iS R2.snap, iI R2.state.index, .slice pl R2.state.au.length nl, .slice pp R2.state.pairs.length np, .slice pz R2.state.af.length nz], iI 0]∧dh wx R2 (.slice pe R2.log.entries.length ne) (.slice pl R2.state.au.length nl) (.slice pp R2.state.pairs.length np) (.slice pz R2.state.af.length nz) (fun q=>lo≤q∧q<hi)∧w2.heap.size≤lo∧hi≤wx.heap.size):VE) done vs1 (vs1 8) wx:=hall 8 (by omega) (by simp [hn])
   simp only [e5] at hK⊢;go_wp2;exact hK _ _ ⟨iD rfl,fun _=>iB⟩ ⟨rfl,pe,pl,pp,pz,ne,nl,np,nz,rfl⟩
  ·obtain ⟨pe,pl,pp,pz,ne,nl,np,nz,e6⟩:∃(pe pl pp pz:Option Addr) (ne nl np nz:Nat),vs1 9=.tuple #[.agg #[iI R2.log.base, .slice pe R2.log.entries.length ne, iS R2.snap, iI R2.state.index, .slice pl R2.state.au.length nl, .slice pp R2.state.pairs.length np, .slice pz R2.state.af.length nz], iI 0]:=(hall 9 (by omega) (by simp [hn])).2
   simp only [e6] at hK⊢;go_wp2;exact hK _ _ ⟨iD rfl,fun _=>iB⟩ ⟨pe,pl,pp,pz,ne,nl,np,nz,rfl,rfl⟩
  ·obtain ⟨pe,pl,pp,pz,ne,nl,np,nz,e6⟩:∃(pe pl pp pz:Option Addr) (ne nl np nz:Nat),vs1 9=.tuple #[.agg #[iI R2.log.base, .slice pe R2.log.entries.length ne, iS R2.snap, iI R2.state.index, .slice pl R2.state.au.length nl, .slice pp R2.state.pairs.length np, .slice pz R2.state.af.length nz], iI 0]:=(hall 9 (by omega) (by simp [hn])).2
   simp only [e6] at hK⊢;go_wp2;exact hK _ _ ⟨iD rfl,fun _=>iB⟩ rfl
  ·obtain ⟨pe,pl,pp,pz,ne,nl,np,nz,lo,hi,e5,h3,h4,h5⟩:((fun _ _ v wx=>∃(pe pl pp pz:Option Addr) (ne nl np nz:Nat) (lo hi:Nat),v=.tuple #[.agg #[iI R2.log.base, .slice pe R2.log.entries.length ne, iS R2.snap, iI R2.state.index, .slice pl R2.state.au.length nl, .slice pp R2.state.pairs.length np, .slice pz R2.state.af.length nz], iI 0]∧dh wx R2 (.slice pe R2.log.entries.length ne) (.slice pl R2.state.au.length nl) (.slice pp R2.state.pairs.length np) (.slice pz R2.state.af.length nz) (fun q=>lo≤q∧q<hi)∧w2.heap.size≤lo∧hi≤wx.heap.size):VE) done vs1 (vs1 8) wx:=hall 8 (by omega) (by simp [hn])
   have e6:vs1 9=vs1 8:=(hall 9 (by omega) (by simp [hn])).1;obtain ⟨Qj,Pp,Po,Pn,ne',nl',Pv,Pt,f6,e7⟩:((fun _ vs v _=>∃(pe pl pp pz:Option Addr) (ne nl np nz:Nat),vs 9=.tuple #[.agg #[iI R2.log.base, .slice pe R2.log.entries.length ne, iS R2.snap, iI R2.state.index, .slice pl R2.state.au.length nl, .slice pp R2.state.pairs.length np, .slice pz R2.state.af.length nz], iI 0]∧v=.agg #[iI R2.log.base, .slice pe R2.log.entries.length ne, iS R2.snap, iI R2.state.index, .slice pl R2.state.au.length nl, .slice pp R2.state.pairs.length np, .slice pz R2.state.af.length nz]):VE) done vs1 (vs1 10) wx:=hall 10 (by omega) (by simp [hn]);rw [e6,e5] at f6;simp [and_assoc] at f6;obtain ⟨rfl,rfl,rfl,rfl,rfl,rfl,rfl,rfl⟩:=f6;obtain ⟨z0,z1,z2,z3,z4,z5,z6,rfl⟩:∃z0 z1 z2 z3 z4 z5 z6,cs=[z0,z1,z2,z3,z4,z5,z6]:=by
    match cs,hcl with
    | [z0,z1,z2,z3,z4,z5,z6],_=>exact ⟨z0,z1,z2,z3,z4,z5,z6,rfl⟩
   simp only [e7] at hK⊢;obtain ⟨y0,y1,y2,y3,y4,y5,y6⟩:=gM hbx;obtain ⟨t0,t1,t2,t3,t4,t5,t6⟩:=sK hbx;go_wp2;exact hK undef (wx.setCells BZ 0 [iI R2.log.base, .slice pe R2.log.entries.length ne, iS R2.snap, iI R2.state.index, .slice pl R2.state.au.length nl, .slice pp R2.state.pairs.length np, .slice pz R2.state.af.length nz]) ⟨fun _=>⟨[iI R2.log.base, .slice pe R2.log.entries.length ne, iS R2.snap, iI R2.state.index, .slice pl R2.state.au.length nl, .slice pp R2.state.pairs.length np, .slice pz R2.state.af.length nz],rfl,rfl⟩,fun h=>absurd rfl h⟩ ⟨pe,pl,pp,pz,ne,nl,np,nz,lo,hi,e5,hbx.storeAll _ rfl,dh.store h3 0 _ (fun q hq=>⟨by have h1:=hq.1;have h2:=hq.2;have h3:=hzs;omega,hq⟩),h4,Nat.le_trans h5 (bG (Nat.zero_le _) _ 0 _ (Below.refl 0 _)).size⟩
 case hend =>
  intro done vs1 wx hJ hdn hv;obtain ⟨hC,-⟩:=hJ;have hJ:=nW hC (Nat.le_of_lt hzs);have PE:=hC.size;obtain ⟨e0,e1,e2,e3,e4,e5,e6,e7,-,-,-,e11,⟨pe,pl,pp,pz,ne,nl,np,nz,lo,hi,eC,hbx,hrl,hlo,hhi⟩,-⟩:=hv;simp only [eP] at e0 e1 e2 e3 e4 e5 e6 e7 e11;simp only [aJ,Act.put,Nat.reduceAdd,Nat.zero_add,pS];rw [e0,e1,e2,e3,e4,e5,e6,e7,e11];clear eC e0 e1 e2 e3 e4 e5 e6 e7 e11;have hj2:=HJ2.out wx hJ;rw [←Dc.out] at hj2;have lM:=iH (HM.out.below hj2);have HU:=iH hbx;have EO:=iH hrl;have HB2:=iH (ah HB.out hj2);have c0:=aB dD.out.c0 (hj2.block g dD.out.gl);have c1:=aB dD.out.c1 (hj2.block g dD.out.gl);have c2:=aB dD.out.c2 (hj2.block g dD.out.gl);have c3:=aB dD.out.c3 (hj2.block g dD.out.gl);have c4:=aB dD.out.c4 (hj2.block g dD.out.gl);have c5:=aB dD.out.c5 (hj2.block g dD.out.gl);have c6:=aB dD.out.c6 (hj2.block g dD.out.gl);have y2:=(HX.out.below hj2).cell 2 _ rfl;clear hbx hrl hj2;have x0:=lM.out.box.cell 0 _ rfl;have f0:=lM.out.rep.thaw (r*7);have f1:=lM.out.rep.thaw (r*7+1);have f2:=lM.out.rep.thaw (r*7+2);have f3:=lM.out.rep.thaw (r*7+3);have f4:=lM.out.rep.thaw (r*7+4);have f5:=lM.out.rep.thaw (r*7+5);have f6:=lM.out.rep.thaw (r*7+6);obtain ⟨y0,y1,u2,y3,y4,y5,y6⟩:=gM HU.out;go_upto_region 20 with (fail);go_region
  have hset:=lM.out.yf (r:=r) (a:=fV (aU x r)) (cs:=[iI R2.log.base, .slice pe R2.log.entries.length ne, iS R2.snap, iI R2.state.index, .slice pl R2.state.au.length nl, .slice pp R2.state.pairs.length np, .slice pz R2.state.af.length nz]) (P:=fun q=>lo≤q∧q<hi) (by omega) rfl ⟨_,_,_,_,by rw [HR2.out];rfl,by rw [HR2.out];exact EO.out⟩ (fun b hb hw=>by have h1:=HM.out.lt hw;have h2:=hb.1;have h3:=Dc.out;omega);generalize bF:((((((((wx.setCell ⟨g,r*7,none⟩ (iI R2.log.base)).setCell ⟨g,r*7+1,none⟩ (.slice pe R2.log.entries.length ne)).setCell ⟨g,r*7+2,none⟩ (iS R2.snap)).setCell ⟨g,r*7+3,none⟩ (iI R2.state.index)).setCell ⟨g,r*7+4,none⟩ (.slice pl R2.state.au.length nl)).setCell ⟨g,r*7+5,none⟩ (.slice pp R2.state.pairs.length np)).setCell ⟨g,r*7+6,none⟩ (.slice pz R2.state.af.length nz))).drew=wf at *;have HF:Hid (eB 45 73 101 9 wf X _ vc vm vk (jU x r (fV (aU x r))) _):=bF▸iH (hset.1.below (Below.drew iB));have zF:Hid (aX Z w wf):=bF▸iH (((aX.of_below HB2.out).trans hset.2 fun _ h=>.inl h).step (Below.drew iB));clear hset;clear bF;refine eZ (fun wx=>wf=wx) rfl ?_;rintro _ rfl;go_wp2;go_ret;exact ⟨rfl,_,⟨_,_,_,_,HF.out⟩,fun b hb=>hb.imp id fun h=>by have h1:=h.1;have h2:=HB.out.size;have h3:=Dc.out;omega,zF.out⟩
theorem CY (m n:Nat) (x:bS) (X:Nat) (Z:Nat→Prop) (w:World) (h:gW 45 73 101 9 w X x Z) (hok:aT m n x) (a:dK) (ha:fC a) (hr0:a.r<0) :
 Calls Tryz.prog 87 #[iP X 0, .agg #[iI a.kind, iI a.c, iI a.r, iI a.k, iI a.op.kind, iS a.op.a, iS a.op.b, iI a.op.n]] w fun e w'=>e=.returned (iI ((x,(6:Int))).2)∧eY 45 73 101 9 w X Z w' ((x,(6:Int))).1:=by
 have HH:=iH h;obtain ⟨kd,c,r',k,op⟩:=a;simp only at hr0;clear h hok ha;have hd1:decide (r'<0)=true:=decide_eq_true hr0;clear hr0
 go_enter Tryz.func87,Tryz.ntmps87
 go_upto_region 1 with (fail);generalize bF:w.alloc (.cells #[iI kd, iI c, iI r', iI k, iI op.kind, iS op.a, iS op.b, iI op.n] 70)=w1 at *;have hbz:=tQ bF;have HX:=iH (tO bF);have nL:=iH (cB HH.out hbz);have HB:=iH hbz;clear hbz HH;clear bF;obtain ⟨BX,jT⟩:∃BX,w.heap.size=BX:=⟨_,rfl⟩;rw [jT] at HX⊢;have yY:=iH jT;clear jT;have y2:=HX.out.cell 2 _ rfl;go_wp2;go_ret;exact ⟨rfl,Z,nL.out,fun b hb=>.inl hb,aX.of_below HB.out⟩
theorem CX (m n:Nat) (x:bS) (X:Nat) (Z:Nat→Prop) (w:World) (h:gW 45 73 101 9 w X x Z) (hok:aT m n x) (a:dK) (ha:fC a) (hr0:3≤a.r) :
 Calls Tryz.prog 87 #[iP X 0, .agg #[iI a.kind, iI a.c, iI a.r, iI a.k, iI a.op.kind, iS a.op.a, iS a.op.b, iI a.op.n]] w fun e w'=>e=.returned (iI ((x,(6:Int))).2)∧eY 45 73 101 9 w X Z w' ((x,(6:Int))).1:=by
 have HH:=iH h;obtain ⟨kd,c,r',k,op⟩:=a;simp only at hr0;clear h hok ha;have hd1:decide (r'<0)=false:=decide_eq_false (by omega);have hd2:decide ((3:Int)≤r')=true:=decide_eq_true hr0;clear hr0
 go_enter Tryz.func87,Tryz.ntmps87
 go_upto_region 1 with (fail);generalize bF:w.alloc (.cells #[iI kd, iI c, iI r', iI k, iI op.kind, iS op.a, iS op.b, iI op.n] 70)=w1 at *;have hbz:=tQ bF;have HX:=iH (tO bF);have nL:=iH (cB HH.out hbz);have HB:=iH hbz;clear hbz HH;clear bF;obtain ⟨BX,jT⟩:∃BX,w.heap.size=BX:=⟨_,rfl⟩;rw [jT] at HX⊢;have yY:=iH jT;clear jT;have y2:=HX.out.cell 2 _ rfl;go_wp2;go_ret;exact ⟨rfl,Z,nL.out,fun b hb=>.inl hb,aX.of_below HB.out⟩
theorem Na (m n:Nat) (x:bS) (X:Nat) (Z:Nat→Prop) (w:World) (h:gW 45 73 101 9 w X x Z) (hok:aT m n x) (a:dK) (ha:fC a) (hk:4≤a.kind∧a.kind≤8) :
 Calls Tryz.prog 87 #[iP X 0, .agg #[iI a.kind, iI a.c, iI a.r, iI a.k, iI a.op.kind, iS a.op.a, iS a.op.b, iI a.op.n]] w fun e w'=>e=.returned (iI (KP x a).2)∧eY 45 73 101 9 w X Z w' (KP x a).1:=by
 rw [KP]
 by_cases hr:a.r<0∨3≤a.r
 ·rw [if_pos hr]
  rcases hr with hr | hr
  ·exact CY m n x X Z w h hok a ha hr
  ·exact CX m n x X Z w h hok a ha hr
 rw [if_neg hr];have hr0:0≤a.r:=by omega
 have hr3:a.r<3:=by omega
 by_cases h4:a.kind=4
 ·rw [if_pos h4];exact EF m n x X Z w h hok a ha hr0 hr3 h4
 rw [if_neg h4]
 by_cases h5:a.kind=5
 ·rw [if_pos h5];exact CZ m n x X Z w h hok a ha hr0 hr3 h5
 rw [if_neg h5]
 by_cases h8:a.kind=8
 ·rw [if_pos h8];exact EG m n x X Z w h hok a ha hr0 hr3 h8
 rw [if_neg h8]
 by_cases h6:a.kind=6
 ·rw [if_pos h6];exact Ai m n x X Z w h hok a ha hr0 hr3 h6
 rw [if_neg h6];exact Ah m n x X Z w h hok a ha hr0 hr3 (by omega)
end Go.Proofs.YtbngpjdflblffaaGreatDoor
