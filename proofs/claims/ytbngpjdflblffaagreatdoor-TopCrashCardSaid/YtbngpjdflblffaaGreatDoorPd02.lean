/- A part of the proof, laid together from: Crash. -/
import Derived.Test.YtbngpjdflblffaaGreatDoorPa47
import Derived.Test.YtbngpjdflblffaaGreatDoorPd01
set_option linter.all false
set_option maxRecDepth 100000
set_option maxHeartbeats 12800000
namespace Go.Proofs.YtbngpjdflblffaaGreatDoor
open Go.RowKit Go.Tk
theorem AO (w:World) (l:List kX) (v:Value) (S:Nat→Prop) (h:aZ 4 FB w v l S) (hr:∀x∈l,uM x) (n:Int) (hn1:-9223372036854775808≤n) (hn2:n≤9223372036854775807) :
 Calls Tryz.prog 7 #[v, iI n] w fun e w'=>e=.returned (.bool true)∧Below w.heap.size w w':=by
 obtain ⟨la,lc,rfl,-,-,-,-⟩:=id h;have HH:=iH h;have HR:=iH hr;have hsl:=mF l 120;obtain ⟨k,hk⟩:∃k:Nat,(k:Int)=picked n 3:=⟨(picked n 3).toNat,by have:=dB n 3 (by decide);omega⟩;have GL:=iH hk;have hk3:k<3:=by have:=dB n 3 (by decide);omega
 have Ri:=iH (show ∀a∈[(⟨7,0,(k:Int),0,bP⟩:dK),⟨5,0,(k:Int),400,bP⟩],fC a from fun a ha=>by
  simp only [List.mem_cons,List.not_mem_nil,or_false] at ha
  rcases ha with rfl | rfl<;>exact fC.of (by simp) (by simp) (by simp only;omega) (by simp) (by simp))
 have hcr:=IJ (nP l 120) (by omega) hk3;have hok1:=o8 (m:=3) (by omega) (nP l 120) (by omega);have hok2:=o8 (m:=3) (by omega) (l:=gJ l 120++[⟨7,0,(k:Int),0,bP⟩,⟨5,0,(k:Int),400,bP⟩]) (fun a ha=>(List.mem_append.1 ha).elim (nP l 120 a) (Ri.out a)) (by rw [List.length_append];simp only [List.length_cons,List.length_nil];omega);obtain ⟨⟨x,c1⟩,hX⟩:∃X,kT 3 (gJ l 120)=X:=⟨_,rfl⟩;obtain ⟨⟨y,c2⟩,hY⟩:∃Y,kT 3 (gJ l 120++[⟨7,0,(k:Int),0,bP⟩,⟨5,0,(k:Int),400,bP⟩])=Y:=⟨_,rfl⟩;rw [hX] at hok1 hcr;rw [hY] at hok2 hcr;have HX:=iH hX;have HY:=iH hY;have Rh:=iH hok1;have Cj:=iH hok2;have Vv:=iH (show y.K=x.K from hcr.1);have Ux:=iH (show (aU x k).i≤(aU y k).i from hcr.2);have hlx:=hok1.len;have Wo:=hok2.len;clear h hr hk hcr hok1 hok2 hX hY hsl;have HB:=iH (Below.refl w.heap.size w)
 go_enter Tryz.func7,Tryz.ntmps7
 go_wp2_with fail
 refine (vM n 3 (by decide) (by decide) hn1 hn2 w).mono ?_;rw [←GL.out];rintro e wb ⟨rfl,rfl⟩
 go_wp2_with fail
 refine (uS l 120 (by omega) [] (by simp) (by simp) _ _ S (fun _=>True) wb (HH.out.below qI (by decide) HB.out) HR.out (aZ.nil _ _)).mono ?_;rw [List.append_nil,HX.out];rintro e w1 ⟨vr,vc,vm,vk,vo,rfl,hO,hb⟩;obtain ⟨Qf,Ke,rfl,-,-,-,-⟩:=id hO.rep;obtain ⟨TN,TM,rfl,-,-,-,-⟩:=id hO.nV;obtain ⟨Sv,Su,rfl,-,-,-,-⟩:=id hO.jh;obtain ⟨Od,Oc,rfl,-,-,-,-⟩:=id hO.comm;obtain ⟨Ql,Qk,rfl,-,-,-,-⟩:=id hO.codes;rw [hlx] at hO⊢;have vC:=iH hO;replace HB:=iH (ah HB.out hb);clear hO hb;go_upto_region 3 with (fail);generalize bF:w1.alloc (.cells #[.slice Qf 3 Ke, .slice TN x.bu.length TM, .slice Sv x.bD.length Su, .slice Od x.K.length Oc, iI (x.lead:Int), .slice Ql c1.length Qk] 63)=w2 at *;have gQ:=tQ bF;have vB:=iH (tO bF);replace vC:=iH (vC.out.below gQ);replace HB:=iH (ah HB.out gQ);clear gQ;clear bF;obtain ⟨B1,hB1⟩:∃B1,w1.heap.size=B1:=⟨_,rfl⟩;rw [hB1] at vB⊢;clear hB1
 go_wp2_with fail
 have hb3:=aj w2 (.cells (iQ ⟨7,0,(k:Int),0,bP⟩++iQ ⟨5,0,(k:Int),400,bP⟩).toArray 70);refine (uS l 120 (by omega) [⟨7,0,(k:Int),0,bP⟩,⟨5,0,(k:Int),400,bP⟩] Ri.out (by simp) _ _ S (fun _=>True) _ ((HH.out.below qI (by decide) HB.out).below qI (by decide) hb3) HR.out (Jg (E:=70) w2 _ _)).mono ?_;rw [HY.out];rintro e w3 ⟨vr,vc,vm,vk,vo,rfl,hO,hb⟩;obtain ⟨N7,ES,rfl,-,-,-,-⟩:=id hO.rep;obtain ⟨JK,JJ,rfl,-,-,-,-⟩:=id hO.nV;obtain ⟨Ju,Js,rfl,-,-,-,-⟩:=id hO.jh;obtain ⟨Kr,F4,rfl,-,-,-,-⟩:=id hO.comm;obtain ⟨Pq,NB,rfl,-,-,-,-⟩:=id hO.codes;rw [Wo] at hO⊢;have Aj:=iH hO;replace HB:=iH (ah (ah HB.out hb3) hb);replace vB:=iH ((vB.out.below hb3).below hb);replace vC:=iH ((vC.out.below hb3).below hb);clear hO hb hb3;go_upto_region 4 with (fail);generalize bF:w3.alloc (.cells #[.slice N7 3 ES, .slice JK y.bu.length JJ, .slice Ju y.bD.length Js, .slice Kr y.K.length F4, iI (y.lead:Int), .slice Pq c2.length NB] 63)=w4 at *;have gQ:=tQ bF;have wP:=iH (tO bF);replace vB:=iH (vB.out.below gQ);replace vC:=iH (vC.out.below gQ);replace Aj:=iH (Aj.out.below gQ);replace HB:=iH (ah HB.out gQ);clear gQ;clear bF;obtain ⟨B2,hB2⟩:∃B2,w3.heap.size=B2:=⟨_,rfl⟩;rw [hB2] at wP⊢;clear hB2;obtain ⟨g1,o1,cap',row,hv,hSb,hrow,hcells⟩:=vC.out.rep.row k (by omega);simp only [Value.slice.injEq] at hv;obtain ⟨rfl,-,rfl⟩:=hv
 rw [show x.kP[k]=aU x k from (getD_lt (by omega)).symm] at hrow;obtain ⟨ve,vl,vp,vz,rfl,jo⟩:=hrow;have Zg:=iH (hcells 3 _ rfl);clear hcells jo hSb;obtain ⟨g2,o2,cap',row,hv,hSb,hrow,hcells⟩:=Aj.out.rep.row k (by omega);simp only [Value.slice.injEq] at hv;obtain ⟨rfl,-,rfl⟩:=hv;rw [show y.kP[k]=aU y k from (getD_lt (by omega)).symm] at hrow;obtain ⟨ve,vl,vp,vz,rfl,jo⟩:=hrow;have Zf:=iH (hcells 3 _ rfl);obtain ⟨al,cl,rfl,-,-,-,-⟩:=id jo.st.lock;obtain ⟨ap,cp,rfl,-,-,-,-⟩:=id jo.st.pair;obtain ⟨az,cz,rfl,-,-,-,-⟩:=id jo.st.dG;have Ze:=iH (hcells 4 _ rfl);have Zd:=iH (hcells 5 _ rfl);have Zc:=iH (hcells 6 _ rfl);have HST:=iH jo.st;have hix:=((Rh.out.rep k hk3).state Rh.out.tL).2;have Tm:=((Cj.out.rep k hk3).state Cj.out.tL).2;have hty:=((Cj.out.rep k hk3).state Cj.out.tL).1;have hall:=(D8 Cj.out.tL.dec (by have:=Cj.out.tL.len;omega) (Cj.out.rep k hk3).iK).1;obtain ⟨T,hT⟩:∃T,dF y.K (aU y k).i=T:=⟨_,rfl⟩;obtain ⟨i,hi⟩:∃i,(aU y k).i=i:=⟨_,rfl⟩;obtain ⟨j,hj⟩:∃j,(aU x k).i=j:=⟨_,rfl⟩;have HIJ:=iH (show j≤i by rw [←hi,←hj];exact Ux.out);have Zt:=iH (show i≤y.K.length by rw [←hi];exact (Cj.out.rep k hk3).iK);have Ud:=iH (show w4.cell? ⟨g1,o1+k*7+3,none⟩=some (iI (j:Int)) from by have h1:=Zg.out;rw [show (dw x.K (aU x k)).state.index=(j:Int) from hix.trans (by rw [hj])] at h1;exact h1)
 have O1:=iH (show w4.cell? ⟨g2,o2+k*7+3,none⟩=some (iI (i:Int)) from by have h1:=Zf.out;rw [show (dw y.K (aU y k)).state.index=(i:Int) from Tm.trans (by rw [hi])] at h1;exact h1);rw [hT] at Tm hty hall;rw [hi] at Tm hall;have Xm:=iH (show T.index=(i:Int) from Tm);have OX:=iH (show fT w4 T (.slice al T.au.length cl) (.slice ap T.pairs.length cp) (.slice az T.af.length cz) _ from by have h1:=HST.out;rw [show (dw y.K (aU y k)).state=T from hT] at h1;exact h1);have Xw:=iH (show w4.cell? ⟨g2,o2+k*7+4,none⟩=some (.slice al T.au.length cl) from by have h1:=Ze.out;rw [show (dw y.K (aU y k)).state=T from hT] at h1;exact h1);have Xv:=iH (show w4.cell? ⟨g2,o2+k*7+5,none⟩=some (.slice ap T.pairs.length cp) from by have h1:=Zd.out;rw [show (dw y.K (aU y k)).state=T from hT] at h1;exact h1);have Xu:=iH (show w4.cell? ⟨g2,o2+k*7+6,none⟩=some (.slice az T.af.length cz) from by have h1:=Zc.out;rw [show (dw y.K (aU y k)).state=T from hT] at h1;exact h1);have HTY:=iH hty;have Ry:=iH hall;have Kz:=World.block_lt_of_cell? w4 _ O1.out;have Wx:=World.block_lt_of_cell? w4 _ Ud.out;have hKc:y.K.length≤F4∧F4≤9223372036854775807:=by obtain ⟨_,_,e,h1,h2,-,-⟩:=Aj.out.comm;simp only [Value.slice.injEq] at e;obtain ⟨-,-,rfl⟩:=e;unfold maxLen at h2;exact ⟨h1,by omega⟩
 have hiK:i≤y.K.length:=Zt.out;have hk3i:(k:Int)<3:=by omega
 clear hix Tm hty hall hT hi hj jo hSb hcells Zg Zf Ze Zd Zc HST;go_upto_region 6 with (fail)
 refine dO 17 (fun _ wx=>Below w4.heap.size w4 wx) (fun i vs x wx wy=>(i=15→∃(b:Nat) (us:List Value),vs 14=iP b 0∧us.length=4∧w4.heap.size≤b∧wy=wx.setCells b 0 us)∧(i=14→x=iP (wx.heap.size) 0∧wy=wx.alloc (.cells #[iI 0, iN, iN, iN] 27))∧(i≠15→Below wx.heap.size wx wy)) [eP (iP B2 3),eP (.slice Kr y.K.length F4),eP (iP B2 0),eP (.slice (some ⟨g2,o2,none⟩) 3 ES),eP (iI (k)),eP (.pointer (some ⟨g2,o2+k*7,none⟩)),eP (.pointer (some ⟨g2,o2+k*7+3,none⟩)),eP (.pointer (some ⟨g2,o2+k*7+3,none⟩)),eP (iI (i)),eP (.slice Kr i F4),(fun done vs v wx=>∃(pl pp pz:Option Addr) (nl np nz:Nat) (lo hi:Nat),v=.tuple #[.agg #[iI T.index, .slice pl T.au.length nl, .slice pp T.pairs.length np, .slice pz T.af.length nz], .bool true]∧fT wx T (.slice pl T.au.length nl) (.slice pp T.pairs.length np) (.slice pz T.af.length nz) (fun q=>lo≤q∧q<hi)∧w4.heap.size≤lo∧hi≤wx.heap.size∧(done 14=true→∀b,vs 14=iP b 0→b<lo∨hi≤b)),(fun _ vs v _=>v=vs 10∧∃(pl pp pz:Option Addr) (nl np nz:Nat),v=.tuple #[.agg #[iI T.index, .slice pl T.au.length nl, .slice pp T.pairs.length np, .slice pz T.af.length nz], .bool true]),(fun _ vs v _=>∃(pl pp pz:Option Addr) (nl np nz:Nat),vs 11=.tuple #[.agg #[iI T.index, .slice pl T.au.length nl, .slice pp T.pairs.length np, .slice pz T.af.length nz], .bool true]∧v=.agg #[iI T.index, .slice pl T.au.length nl, .slice pp T.pairs.length np, .slice pz T.af.length nz]),eP (.bool true),(fun _ _ v wx=>l6 w4.heap.size 4 v wx),(fun done vs _ wx=>done 10=true∧∃(pl pp pz:Option Addr) (nl np nz:Nat) (lo hi b:Nat),vs 10=.tuple #[.agg #[iI T.index, .slice pl T.au.length nl, .slice pp T.pairs.length np, .slice pz T.af.length nz], .bool true]∧vs 14=iP b 0∧aD wx b [iI T.index, .slice pl T.au.length nl, .slice pp T.pairs.length np, .slice pz T.af.length nz]∧fT wx T (.slice pl T.au.length nl) (.slice pp T.pairs.length np) (.slice pz T.af.length nz) (fun q=>lo≤q∧q<hi)∧w4.heap.size≤lo∧hi≤wx.heap.size∧(b<lo∨hi≤b)∧w4.heap.size≤b),eP (.bool true)] (by kernel_rfl) (by kernel_rfl) rfl ?hJ ?jP ?hst ?hself ?ek ?hend
 case hJ=>exact Below.drew iB
 case jP =>
  intro i done vs1 x wx wy hi hdi h1 h2
  by_cases h:i=15
  ·obtain ⟨b,us,-,-,hL,rfl⟩:=h2.1 h
   exact bG hL us 0 _ h1
  ·exact ah h1 (h2.2.2 h)
 case hst =>
  intro i j done vs1 x wa wb hi hj hne hdi hdj hwf hJ hS GG hV
  match j,hj with
  | 0,_=>exact hV
  | 1,_=>exact hV
  | 2,_=>exact hV
  | 3,_=>exact hV
  | 4,_=>exact hV
  | 5,_=>exact hV
  | 6,_=>exact hV
  | 7,_=>exact hV
  | 8,_=>exact hV
  | 9,_=>exact hV
  | 10,_ =>
    by_cases hs:i=15
    ·subst hs
     obtain ⟨-,pl,pp,pz,nl,np,nz,lo,hi,b,e1,e2,-,h3,h4,h5,h6,-⟩:=GG;refine ⟨pl,pp,pz,nl,np,nz,lo,hi,e1,h3,h4,h5,fun hd b2 hb2=>?_⟩;have hb3:vs1 14=iP b2 0:=hb2;rw [e2] at hb3;simp only [Value.pointer.injEq,Option.some.injEq,Addr.mk.injEq,and_true] at hb3;subst hb3;exact h6
    ·obtain ⟨pl,pp,pz,nl,np,nz,lo,hi,e1,h3,h4,h5,h6⟩:=hV
     have hb:=hS.2.2 hs;refine ⟨pl,pp,pz,nl,np,nz,lo,hi,e1,h3.below hb,h4,Nat.le_trans h5 hb.size,fun hd b2 hb2=>?_⟩
     by_cases ha:i=14
     ·subst ha
      have hx:=(hS.2.1 rfl).1;have hb3:x=iP b2 0:=hb2;rw [hx] at hb3;simp only [Value.pointer.injEq,Option.some.injEq,Addr.mk.injEq,and_true] at hb3;exact .inr (by omega)
     ·have hd2:done 14=true:=by simpa [bJ,Ne.symm ha] using hd
      have hb3:vs1 14=iP b2 0:=by simpa [dm,Ne.symm ha] using hb2
      exact h6 hd2 b2 hb3
  | 11,_ =>
    have h2:¬ 10=i:=by
     intro h;subst h;exact absurd (Eq.trans (show false=Region.waitsFor Region.Mode.any _ 11 10 from hwf.symm) (show _=true by kernel_rfl)) (by decide)
    exact ⟨Eq.trans hV.1 (by simp [dm,h2]),hV.2⟩
  | 12,_ =>
    have h2:¬ 11=i:=by
     intro h;subst h;exact absurd (Eq.trans (show false=Region.waitsFor Region.Mode.any _ 12 11 from hwf.symm) (show _=true by kernel_rfl)) (by decide)
    obtain ⟨pl,pp,pz,nl,np,nz,e1,e2⟩:=hV;exact ⟨pl,pp,pz,nl,np,nz,by simp [dm,h2];exact e1,e2⟩
  | 13,_=>exact hV
  | 14,_ =>
    by_cases h:i=15
    ·obtain ⟨b,us,-,hl,hL,e⟩:=hS.1 h
     exact l6.store hV ⟨b,us,hl,hL,e⟩
    ·exact l6.below hV (hS.2.2 h)
  | 15,_ =>
    have h1:i≠15:=fun h=>hne h
    have h2:¬ 10=i:=by
     intro h;subst h;exact absurd (Eq.trans (show false=Region.waitsFor Region.Mode.any _ 15 10 from hwf.symm) (show _=true by kernel_rfl)) (by decide)
    have h3:¬ 14=i:=by
     intro h;subst h;exact absurd (Eq.trans (show false=Region.waitsFor Region.Mode.any _ 15 14 from hwf.symm) (show _=true by kernel_rfl)) (by decide)
    have hb:=hS.2.2 h1;obtain ⟨hdc,pl,pp,pz,nl,np,nz,lo,hi,b,e1,e2,g1,g2,g3,g4,g5,g6⟩:=hV;exact ⟨by simp [bJ,hdc],pl,pp,pz,nl,np,nz,lo,hi,b,by simp [dm,h2];exact e1,by simp [dm,h3];exact e2,g1.below hb,g2.below hb,g3,Nat.le_trans g4 hb.size,g5,g6⟩
  | 16,_=>exact hV
  | n+17,hj=>exact absurd hj (by omega)
 case hself =>
  intro i done vs1 v w hi hV
  match i,hi with
  | 0,_=>exact hV
  | 1,_=>exact hV
  | 2,_=>exact hV
  | 3,_=>exact hV
  | 4,_=>exact hV
  | 5,_=>exact hV
  | 6,_=>exact hV
  | 7,_=>exact hV
  | 8,_=>exact hV
  | 9,_=>exact hV
  | 10,_ =>
    obtain ⟨pl,pp,pz,nl,np,nz,lo,hi,e1,h3,h4,h5,h6⟩:=hV;exact ⟨pl,pp,pz,nl,np,nz,lo,hi,e1,h3,h4,h5,fun hd b hb=>h6 (by simpa [bJ] using hd) b (by simpa [dm] using hb)⟩
  | 11,_=>exact ⟨Eq.trans hV.1 (by simp [dm]),hV.2⟩
  | 12,_ =>
    obtain ⟨pl,pp,pz,nl,np,nz,e1,e2⟩:=hV;exact ⟨pl,pp,pz,nl,np,nz,by simp [dm];exact e1,e2⟩
  | 13,_=>exact hV
  | 14,_=>exact hV
  | 15,_ =>
    obtain ⟨hdc,pl,pp,pz,nl,np,nz,lo,hi,b,e1,e2,g⟩:=hV;exact ⟨by simp [bJ,hdc],pl,pp,pz,nl,np,nz,lo,hi,b,by simp [dm];exact e1,by simp [dm];exact e2,g⟩
  | 16,_=>exact hV
  | n+17,hi=>exact absurd hi (by omega)
 case ek =>
  simp only [gm,aJ,Act.put,Nat.reduceAdd,Nat.zero_add,pS];refine ⟨?_,?_,?_,?_,?_,?_,?_,?_,?_,?_,?_,?_,?_,?_,?_,?_,?_,trivial⟩
  all_goals
   intro done vs1 wx hJ hd hall hn K hK;simp [Region.binds] at hn;simp only [mM,eP,Act.put,Nat.reduceAdd,Nat.zero_add,pS] at hK
  ·go_wp2
   exact hK _ _ ⟨iD rfl,iD rfl,fun _=>iB⟩ rfl
  ·have e0:vs1 0=iP B2 3:=hall 0 (by omega) (by simp [hn])
   simp only [e0] at hK⊢;have y3:=(wP.out.below hJ).cell 3 _ rfl;go_wp2;exact hK _ _ ⟨iD rfl,iD rfl,fun _=>iB⟩ rfl
  ·go_wp2
   exact hK _ _ ⟨iD rfl,iD rfl,fun _=>iB⟩ rfl
  ·have e2:vs1 2=iP B2 0:=hall 2 (by omega) (by simp [hn])
   simp only [e2] at hK⊢;have y0:=(wP.out.below hJ).cell 0 _ rfl;go_wp2;exact hK _ _ ⟨iD rfl,iD rfl,fun _=>iB⟩ rfl
  ·go_wp2
   exact hK _ _ ⟨iD rfl,iD rfl,fun _=>iB⟩ rfl
  ·have e3:vs1 3=.slice (some ⟨g2,o2,none⟩) 3 ES:=hall 3 (by omega) (by simp [hn])
   have e4:vs1 4=iI (k):=hall 4 (by omega) (by simp [hn]);simp only [e3,e4] at hK⊢;go_wp2;exact hK _ _ ⟨iD rfl,iD rfl,fun _=>iB⟩ rfl
  ·have e5:vs1 5=.pointer (some ⟨g2,o2+k*7,none⟩):=hall 5 (by omega) (by simp [hn])
   simp only [e5] at hK⊢;go_wp2;exact hK _ _ ⟨iD rfl,iD rfl,fun _=>iB⟩ rfl
  ·have e6:vs1 6=.pointer (some ⟨g2,o2+k*7+3,none⟩):=hall 6 (by omega) (by simp [hn])
   simp only [e6] at hK⊢;go_wp2;exact hK _ _ ⟨iD rfl,iD rfl,fun _=>iB⟩ rfl
  ·have e7:vs1 7=.pointer (some ⟨g2,o2+k*7+3,none⟩):=hall 7 (by omega) (by simp [hn])
   simp only [e7] at hK⊢;have q3:=aB O1.out (hJ.block g2 Kz);go_wp2;exact hK _ _ ⟨iD rfl,iD rfl,fun _=>iB⟩ rfl
  ·have e1:vs1 1=.slice Kr y.K.length F4:=hall 1 (by omega) (by simp [hn])
   have e8:vs1 8=iI (i):=hall 8 (by omega) (by simp [hn]);simp only [e1,e8] at hK⊢;go_wp2;exact hK _ _ ⟨iD rfl,iD rfl,fun _=>iB⟩ rfl
  ·have e9:vs1 9=.slice Kr i F4:=hall 9 (by omega) (by simp [hn])
   simp only [e9] at hK⊢;have hs1:=(Aj.out.comm.take i Zt.out).below aK (by decide) hJ
   go_wp2_with fail
   refine (C8 (y.K.take i) _ _ wx hs1 (fun s hs=>Cj.out.dec s (List.mem_of_mem_take hs)) (by rw [List.length_take];have:=Cj.out.tL.len;omega)).mono ?_;rintro e w9 ⟨T9,vl9,vp9,vz9,PD,rfl,Oo,gQ⟩;have hTT:T=T9:=by rw [Ry.out] at PD;cases PD;rfl
   subst hTT;obtain ⟨pl,nl,rfl,-,-,-,-⟩:=id Oo.lock;obtain ⟨pp,np,rfl,-,-,-,-⟩:=id Oo.pair;obtain ⟨pz,nz,rfl,-,-,-,-⟩:=id Oo.dG;have hr:fT w9 T (.slice pl T.au.length nl) (.slice pp T.pairs.length np) (.slice pz T.af.length nz) (fun q=>wx.heap.size≤q∧q<w9.heap.size):=Oo.sub fun b hb hl=>⟨hb,hl⟩
   go_wp2;refine hK _ _ ⟨iD rfl,iD rfl,fun _=>gQ⟩ ⟨pl,pp,pz,nl,np,nz,wx.heap.size,w9.heap.size,rfl,hr,hJ.size,Nat.le_refl _,fun hd b hb=>?_⟩;obtain ⟨b2,cs2,-,e2,-,hbx⟩:l6 w4.heap.size 4 (vs1 14) wx:=hall 14 (by omega) hd;rw [hb] at e2;simp only [Value.pointer.injEq,Option.some.injEq,Addr.mk.injEq,and_true] at e2;subst e2;exact .inl hbx.lt
  ·obtain ⟨pl,pp,pz,nl,np,nz,lo,hi,e5,-⟩:((fun done vs v wx=>∃(pl pp pz:Option Addr) (nl np nz:Nat) (lo hi:Nat),v=.tuple #[.agg #[iI T.index, .slice pl T.au.length nl, .slice pp T.pairs.length np, .slice pz T.af.length nz], .bool true]∧fT wx T (.slice pl T.au.length nl) (.slice pp T.pairs.length np) (.slice pz T.af.length nz) (fun q=>lo≤q∧q<hi)∧w4.heap.size≤lo∧hi≤wx.heap.size∧(done 14=true→∀b,vs 14=iP b 0→b<lo∨hi≤b)):VE) done vs1 (vs1 10) wx:=hall 10 (by omega) (by simp [hn])
   simp only [e5] at hK⊢;go_wp2;exact hK _ _ ⟨iD rfl,iD rfl,fun _=>iB⟩ ⟨rfl,pl,pp,pz,nl,np,nz,rfl⟩
  ·obtain ⟨pl,pp,pz,nl,np,nz,e6⟩:∃(pl pp pz:Option Addr) (nl np nz:Nat),vs1 11=.tuple #[.agg #[iI T.index, .slice pl T.au.length nl, .slice pp T.pairs.length np, .slice pz T.af.length nz], .bool true]:=(hall 11 (by omega) (by simp [hn])).2
   simp only [e6] at hK⊢;go_wp2;exact hK _ _ ⟨iD rfl,iD rfl,fun _=>iB⟩ ⟨pl,pp,pz,nl,np,nz,rfl,rfl⟩
  ·obtain ⟨pl,pp,pz,nl,np,nz,e6⟩:∃(pl pp pz:Option Addr) (nl np nz:Nat),vs1 11=.tuple #[.agg #[iI T.index, .slice pl T.au.length nl, .slice pp T.pairs.length np, .slice pz T.af.length nz], .bool true]:=(hall 11 (by omega) (by simp [hn])).2
   simp only [e6] at hK⊢;go_wp2;exact hK _ _ ⟨iD rfl,iD rfl,fun _=>iB⟩ rfl
  ·go_wp2
   exact hK _ _ ⟨iD rfl,fun _=>⟨rfl,rfl⟩,fun _=>aj wx _⟩ (l6.new _ [iI 0, iN, iN, iN] _ hJ.size)
  ·obtain ⟨pl,pp,pz,nl,np,nz,lo,hi,e5,h3,h4,h5,h6⟩:((fun done vs v wx=>∃(pl pp pz:Option Addr) (nl np nz:Nat) (lo hi:Nat),v=.tuple #[.agg #[iI T.index, .slice pl T.au.length nl, .slice pp T.pairs.length np, .slice pz T.af.length nz], .bool true]∧fT wx T (.slice pl T.au.length nl) (.slice pp T.pairs.length np) (.slice pz T.af.length nz) (fun q=>lo≤q∧q<hi)∧w4.heap.size≤lo∧hi≤wx.heap.size∧(done 14=true→∀b,vs 14=iP b 0→b<lo∨hi≤b)):VE) done vs1 (vs1 10) wx:=hall 10 (by omega) (by simp [hn])
   have e6:vs1 11=vs1 10:=(hall 11 (by omega) (by simp [hn])).1;obtain ⟨Pp,Po,Pn,nl',Pv,Pt,f6,e7⟩:((fun _ vs v _=>∃(pl pp pz:Option Addr) (nl np nz:Nat),vs 11=.tuple #[.agg #[iI T.index, .slice pl T.au.length nl, .slice pp T.pairs.length np, .slice pz T.af.length nz], .bool true]∧v=.agg #[iI T.index, .slice pl T.au.length nl, .slice pp T.pairs.length np, .slice pz T.af.length nz]):VE) done vs1 (vs1 12) wx:=hall 12 (by omega) (by simp [hn]);rw [e6,e5] at f6;simp [and_assoc] at f6;obtain ⟨rfl,rfl,rfl,rfl,rfl,rfl⟩:=f6;obtain ⟨b,cs,hcl,e9,hL,hbx⟩:l6 w4.heap.size 4 (vs1 14) wx:=hall 14 (by omega) (by simp [hn]);obtain ⟨z0,z1,z2,z3,rfl⟩:∃z0 z1 z2 z3,cs=[z0,z1,z2,z3]:=by
    match cs,hcl with
    | [z0,z1,z2,z3],_=>exact ⟨z0,z1,z2,z3,rfl⟩
   have hap:=h6 (by simp [hn]) b e9;simp only [e7,e9] at hK⊢;obtain ⟨y0,y1,y2,y3⟩:=dJ hbx;obtain ⟨t0,t1,t2,t3⟩:=nH hbx;have E5:=iH e5;clear e5 e6;go_wp2;exact hK undef (wx.setCells b 0 [iI T.index, .slice pl T.au.length nl, .slice pp T.pairs.length np, .slice pz T.af.length nz]) ⟨fun _=>⟨b,[iI T.index, .slice pl T.au.length nl, .slice pp T.pairs.length np, .slice pz T.af.length nz],rfl,rfl,hL,rfl⟩,iD rfl,fun h=>absurd rfl h⟩ ⟨by simp [hn],pl,pp,pz,nl,np,nz,lo,hi,b,E5.out,rfl,hbx.storeAll _ rfl,fT.store h3 0 _ (fun q hq=>⟨by have h1:=hq.1;have h2:=hq.2;omega,hq⟩),h4,Nat.le_trans h5 (bG (Nat.zero_le _) _ 0 _ (Below.refl 0 _)).size,hap,hL⟩
  ·have e13:vs1 13=.bool true:=hall 13 (by omega) (by simp [hn])
   simp only [e13] at hK⊢;go_wp2;exact hK _ _ ⟨iD rfl,iD rfl,fun _=>iB⟩ rfl
 case hend =>
  intro done vs1 wx hJ hdn hv;obtain ⟨e0,e1,e2,e3,e4,e5,e6,e7,e8,e9,e10,-,-,e13,-,⟨-,pl,pp,pz,nl,np,nz,lo,hi,b,eC,eA,hbx,hrl,hlo,hhi,hap,hbL⟩,e16,-⟩:=hv;simp only [eP] at e0 e1 e2 e3 e4 e5 e6 e7 e8 e9 e13 e16;simp only [aJ,Act.put,Nat.reduceAdd,Nat.zero_add,pS];rw [eA,e0,e1,e2,e3,e4,e5,e6,e7,e8,e9,e13,e16];clear eA eC e0 e1 e2 e3 e4 e5 e6 e7 e8 e9 e13 e16;have yY:=iH hbx;have EO:=iH hrl;have I1:=iH hJ;clear hbx hrl hJ
  rename World=>w6
  go_upto_region 7 with (fail);refine bH 36 (fun wx=>Below w6.heap.size w6 wx) (fun wx wy=>Below wx.heap.size wx wy) [aW (.bool true),aW (.bool true),aW (.agg #[iI T.index, .slice pl T.au.length nl, .slice pp T.pairs.length np, .slice pz T.af.length nz]),aW (iP B2 0),aW (.slice (some ⟨g2,o2,none⟩) 3 ES),aW (iI (k)),aW (.pointer (some ⟨g2,o2+k*7,none⟩)),aW (.pointer (some ⟨g2,o2+k*7+3,none⟩)),aW (.agg #[iI T.index, .slice al T.au.length cl, .slice ap T.pairs.length cp, .slice az T.af.length cz]),aW (.bool true),aW (.bool true),aW (.bool true),aW (iP B2 0),aW (.slice (some ⟨g2,o2,none⟩) 3 ES),aW (iI (k)),aW (.pointer (some ⟨g2,o2+k*7,none⟩)),aW (.pointer (some ⟨g2,o2+k*7+3,none⟩)),aW (.pointer (some ⟨g2,o2+k*7+3,none⟩)),aW (iI (i)),aW (iP B1 0),aW (.slice (some ⟨g1,o1,none⟩) 3 Ke),aW (iI (k)),aW (.pointer (some ⟨g1,o1+k*7,none⟩)),aW (.pointer (some ⟨g1,o1+k*7+3,none⟩)),aW (.pointer (some ⟨g1,o1+k*7+3,none⟩)),aW (iI (j)),aW (.bool true),aW (.bool true),aW (.bool true),aW (iP B1 3),aW (.slice Od x.K.length Oc),aW (iP B2 3),aW (.slice Kr y.K.length F4),aW (.bool true),aW (.bool true),aW (.bool true)] (by kernel_rfl) (by kernel_rfl) rfl ?hJ ?jP ?hst ?ek ?hend
  case hJ=>exact Below.drew iB
  case jP =>
   exact fun wx wy h1 h2=>ah h1 h2
  case hst=>exact bX _ ⟨ax _,ax _,ax _,ax _,ax _,ax _,ax _,ax _,ax _,ax _,ax _,ax _,ax _,ax _,ax _,ax _,ax _,ax _,ax _,ax _,ax _,ax _,ax _,ax _,ax _,ax _,ax _,ax _,ax _,ax _,ax _,ax _,ax _,ax _,ax _,ax _,trivial⟩
  case ek =>
   simp only [dY,aJ,Act.put,Nat.reduceAdd,Nat.zero_add,pS];refine ⟨?_,?_,?_,?_,?_,?_,?_,?_,?_,?_,?_,?_,?_,?_,?_,?_,?_,?_,?_,?_,?_,?_,?_,?_,?_,?_,?_,?_,?_,?_,?_,?_,?_,?_,?_,?_,trivial⟩
   all_goals
    intro vs wx hJ hn K hK;simp [dA,mJ,aW,Region.binds] at hn;simp only [mJ,aW,Act.put,Nat.reduceAdd,Nat.zero_add,pS] at hK
   ·go_wp2
    exact hK _ _ iB rfl
   ·simp only [hn] at hK⊢
    go_wp2;exact hK _ _ iB rfl
   ·simp only [hn] at hK⊢
    obtain ⟨z0,z1,z2,z3⟩:=dJ (yY.out.below hJ);go_wp2;exact hK _ _ iB rfl
   ·simp only [hn] at hK⊢
    go_wp2;exact hK _ _ iB rfl
   ·simp only [hn] at hK⊢
    have y0:=(wP.out.below (ah I1.out hJ)).cell 0 _ rfl;go_wp2;exact hK _ _ iB rfl
   ·simp only [hn] at hK⊢
    go_wp2;exact hK _ _ iB rfl
   ·simp only [hn] at hK⊢
    go_wp2;exact hK _ _ iB rfl
   ·simp only [hn] at hK⊢
    go_wp2;exact hK _ _ iB rfl
   ·simp only [hn] at hK⊢
    have q3:=aB O1.out ((ah I1.out hJ).block g2 Kz);have q4:=aB Xw.out ((ah I1.out hJ).block g2 Kz);have q5:=aB Xv.out ((ah I1.out hJ).block g2 Kz);have q6:=aB Xu.out ((ah I1.out hJ).block g2 Kz);rw [←Xm.out] at q3;go_wp2;exact hK _ _ iB rfl
   ·simp only [hn] at hK⊢
    have hs1:=EO.out.below hJ;have hs2:=OX.out.below (ah I1.out hJ)
    go_wp2_with fail
    refine (EY T HTY.out _ _ _ _ _ _ _ _ wx hs1 hs2).mono ?_;rintro e w9 ⟨rfl,gQ⟩;go_wp2;exact hK _ _ gQ rfl
   ·simp only [hn] at hK⊢
    go_wp2;exact hK _ _ iB rfl
   ·simp only [hn] at hK⊢
    go_wp2;exact hK _ _ iB rfl
   ·simp only [hn] at hK⊢
    go_wp2;exact hK _ _ iB rfl
   ·simp only [hn] at hK⊢
    have y0:=(wP.out.below (ah I1.out hJ)).cell 0 _ rfl;go_wp2;exact hK _ _ iB rfl
   ·simp only [hn] at hK⊢
    go_wp2;exact hK _ _ iB rfl
   ·simp only [hn] at hK⊢
    go_wp2;exact hK _ _ iB rfl
   ·simp only [hn] at hK⊢
    go_wp2;exact hK _ _ iB rfl
   ·simp only [hn] at hK⊢
    go_wp2;exact hK _ _ iB rfl
   ·simp only [hn] at hK⊢
    have q3:=aB O1.out ((ah I1.out hJ).block g2 Kz);go_wp2;exact hK _ _ iB rfl
   ·simp only [hn] at hK⊢
    go_wp2;exact hK _ _ iB rfl
   ·simp only [hn] at hK⊢
    have u0:=(vB.out.below (ah I1.out hJ)).cell 0 _ rfl;go_wp2;exact hK _ _ iB rfl
   ·simp only [hn] at hK⊢
    go_wp2;exact hK _ _ iB rfl
   ·simp only [hn] at hK⊢
    go_wp2;exact hK _ _ iB rfl
   ·simp only [hn] at hK⊢
    go_wp2;exact hK _ _ iB rfl
   ·simp only [hn] at hK⊢
    go_wp2;exact hK _ _ iB rfl
   ·simp only [hn] at hK⊢
    have q3:=aB Ud.out ((ah I1.out hJ).block g1 Wx);go_wp2;exact hK _ _ iB rfl
   ·simp only [hn] at hK⊢
    have hq:decide (j≤i)=true:=decide_eq_true HIJ.out;go_wp2;exact hK _ _ iB rfl
   ·simp only [hn] at hK⊢
    go_wp2;exact hK _ _ iB rfl
   ·simp only [hn] at hK⊢
    go_wp2;exact hK _ _ iB rfl
   ·simp only [hn] at hK⊢
    go_wp2;exact hK _ _ iB rfl
   ·simp only [hn] at hK⊢
    have u3:=(vB.out.below (ah I1.out hJ)).cell 3 _ rfl;go_wp2;exact hK _ _ iB rfl
   ·simp only [hn] at hK⊢
    go_wp2;exact hK _ _ iB rfl
   ·simp only [hn] at hK⊢
    have y3:=(wP.out.below (ah I1.out hJ)).cell 3 _ rfl;go_wp2;exact hK _ _ iB rfl
   ·simp only [hn] at hK⊢
    have hs1:=vC.out.comm.below aK (by decide) (ah I1.out hJ);have hs2:=Aj.out.comm.below aK (by decide) (ah I1.out hJ)
    go_wp2_with fail
    refine (qf x.K y.K _ _ _ _ wx hs1 hs2 (by have:=Rh.out.tL.len;omega) (by have:=Cj.out.tL.len;omega)).mono ?_;rw [decide_eq_true Vv.out.symm];rintro e w9 ⟨rfl,gQ⟩;go_wp2;exact hK _ _ gQ rfl
   ·simp only [hn] at hK⊢
    go_wp2;exact hK _ _ iB rfl
   ·simp only [hn] at hK⊢
    go_wp2;exact hK _ _ iB rfl
  case hend =>
   intro vs wx hJ hv;simp [eF,aW] at hv;obtain ⟨e0,e1,e2,e3,e4,e5,e6,e7,e8,e9,e10,e11,e12,e13,e14,e15,e16,e17,e18,e19,e20,e21,e22,e23,e24,e25,e26,e27,e28,e29,e30,e31,e32,e33,e34,e35⟩:=hv;simp only [aJ,Act.put,Nat.reduceAdd,Nat.zero_add,pS];rw [e0,e1,e2,e3,e4,e5,e6,e7,e8,e9,e10,e11,e12,e13,e14,e15,e16,e17,e18,e19,e20,e21,e22,e23,e24,e25,e26,e27,e28,e29,e30,e31,e32,e33,e34,e35];clear e0 e1 e2 e3 e4 e5 e6 e7 e8 e9 e10 e11 e12 e13 e14 e15 e16 e17 e18 e19 e20 e21 e22 e23 e24 e25 e26 e27 e28 e29 e30 e31 e32 e33 e34 e35;go_wp2;go_ret;exact ⟨rfl,ah (ah HB.out I1.out) hJ⟩
end Go.Proofs.YtbngpjdflblffaaGreatDoor
