/- A part of the proof, laid together from: Stays. -/
import Derived.Test.YtbngpjdflblffaaGreatDoorPa47
set_option linter.all false
set_option maxRecDepth 100000
set_option maxHeartbeats 12800000
namespace Go.Proofs.YtbngpjdflblffaaGreatDoor
open Go.RowKit Go.Tk
theorem AJ (w:World) (l:List kX) (v:Value) (S:Nat→Prop) (h:aZ 4 FB w v l S) (hr:∀x∈l,uM x) (n:Int) (hn1:-9223372036854775808≤n) (hn2:n≤9223372036854775807) :
 Calls Tryz.prog 8 #[v, iI n] w fun e w'=>e=.returned (.bool true)∧Below w.heap.size w w':=by
 obtain ⟨la,lc,rfl,-,-,-,-⟩:=id h;have HH:=iH h;have HR:=iH hr;have hok:∀a∈gJ l 150,fC a:=nP l 150;have hlen:=mF l 150;have Rq:=iH (show [sM 3,vU l 150 3].flatten=gJ l 150 by simp [gJ]);have GJ:=iH (show (gJ l 150).length≤158∧0<(gJ l 150).length by omega);have Ry:=iH hok;have HST:=iH (fun k=>II hok (by omega:(gJ l 150).length≤400) k);clear h hr hok hlen;generalize gJ l 150=SC at *;have RV:=iH (show 0<((SC.length:Int)+1)∧((SC.length:Int)+1)≤159 by have:=GJ.out;omega);obtain ⟨k,hk⟩:∃k:Nat,(k:Int)=picked n ((SC.length:Int)+1):=⟨(picked n ((SC.length:Int)+1)).toNat,by have:=dB n _ RV.out.1;omega⟩;have GL:=iH hk;have Uq:=iH (show k≤SC.length by have:=dB n _ RV.out.1;omega);clear hk;have HB:=iH (Below.refl w.heap.size w);have hscl:SC.length≤158:=GJ.out.1
 go_enter Tryz.func8,Tryz.ntmps8
 go_wp2_with fail
 refine (rV 3 (by omega) w).mono ?_;rintro e w1 ⟨v1,rfl,hg1⟩;obtain ⟨ba,bc,hba⟩:=hg1.own.shape;rw [show (sM 3).length=8 from rfl] at hba;subst hba;have I6:=iH hg1;replace HB:=iH (ah HB.out hg1.below);clear hg1
 go_wp2_with fail
 refine (Ca l 150 (by omega) _ S w1 (HH.out.below qI (by decide) HB.out) HR.out).mono ?_;rintro e w2 ⟨v2,rfl,hg2⟩;have HG2:=iH hg2;obtain ⟨aa,ac,TB⟩:=hg2.own.shape;obtain ⟨AN,TJ⟩:∃AN,(vU l 150 3).length=AN:=⟨_,rfl⟩;rw [TJ] at TB;subst TB;replace I6:=iH (I6.out.step hg2.below);replace HB:=iH (ah HB.out hg2.below);clear hg2 TJ
 go_wp2_with fail
 have hb3:=aj w2 (.cells #[.slice ba 8 bc, .slice aa AN ac] 56);refine (xO _ _ _ _ (Hf (E:=56) I6.out.read HG2.out.read) (by simp) (by rw [Rq.out];exact GJ.out.2) (by rw [Rq.out];have:=GJ.out;omega)).mono ?_;rw [Rq.out];rintro e w4 ⟨v4,rfl,hs4,hb4⟩;have HS:=iH hs4;replace HB:=iH (ah (ah HB.out hb3) hb4);obtain ⟨sa,sc,rfl,hsl,hsm,-,-⟩:=id hs4;unfold maxLen at hsm;clear hs4 hb3 hb4 I6 HG2;go_upto_region 2 with (fail)
 go_wp2_with fail
 refine (vM n ((SC.length:Int)+1) RV.out.1 (by have:=RV.out.2;omega) hn1 hn2 w4).mono ?_;rw [←GL.out];rintro e Z4 ⟨rfl,rfl⟩;go_upto_region 3 with (fail);have hkc:k≤SC.length:=Uq.out
 go_wp2_with fail
 refine (ym 3 ⟨by omega,by omega⟩ (SC.take k) (fun a h=>Ry.out a (List.mem_of_mem_take h)) (by rw [List.length_take];have:=GJ.out;omega) _ _ Z4 (HS.out.take k Uq.out)).mono ?_;obtain ⟨⟨x,c1⟩,hX⟩:∃X,kT 3 (SC.take k)=X:=⟨_,rfl⟩;have HX:=iH hX;rw [hX];clear hX;rintro e w5 ⟨vr,vc,vm,vk,vo,rfl,hO,hb⟩;obtain ⟨Qf,Ke,rfl,-,-,-,-⟩:=id hO.rep;obtain ⟨TN,TM,rfl,-,-,-,-⟩:=id hO.nV;obtain ⟨Sv,Su,rfl,-,-,-,-⟩:=id hO.jh;obtain ⟨Od,Oc,rfl,-,-,-,-⟩:=id hO.comm;obtain ⟨Ql,Qk,rfl,-,-,-,-⟩:=id hO.codes;have vC:=iH hO;replace HB:=iH (ah HB.out hb);have RX:=iH (HS.out.below fo (by decide) hb);clear hO hb HS;go_upto_region 4 with (fail);generalize bF:w5.alloc (.cells #[.slice Qf x.kP.length Ke, .slice TN x.bu.length TM, .slice Sv x.bD.length Su, .slice Od x.K.length Oc, iI (x.lead:Int), .slice Ql c1.length Qk] 63)=w6 at *;have gQ:=tQ bF;have vB:=iH (tO bF);replace vC:=iH (vC.out.below gQ);replace RX:=iH (RX.out.below fo (by decide) gQ);replace HB:=iH (ah HB.out gQ);clear gQ;clear bF;obtain ⟨B1,hB1⟩:∃B1,w5.heap.size=B1:=⟨_,rfl⟩;rw [hB1] at vB⊢;clear hB1
 go_wp2_with fail
 refine (ym 3 ⟨by omega,by omega⟩ SC Ry.out (by have:=GJ.out;omega) _ _ w6 RX.out).mono ?_;obtain ⟨⟨y,c2⟩,hY⟩:∃Y,kT 3 SC=Y:=⟨_,rfl⟩;have HY:=iH hY;rw [hY];clear hY;rintro e w7 ⟨vr,vc,vm,vk,vo,rfl,hO,hb⟩;obtain ⟨N7,ES,rfl,-,-,-,-⟩:=id hO.rep;obtain ⟨JK,JJ,rfl,-,-,-,-⟩:=id hO.nV;obtain ⟨Ju,Js,rfl,-,-,-,-⟩:=id hO.jh;obtain ⟨Kr,F4,rfl,-,-,-,-⟩:=id hO.comm;obtain ⟨Pq,NB,rfl,-,-,-,-⟩:=id hO.codes;have Aj:=iH hO;replace HB:=iH (ah HB.out hb);replace vB:=iH (vB.out.below hb);replace vC:=iH (vC.out.below hb);clear hO hb;go_upto_region 5 with (fail);generalize bF:w7.alloc (.cells #[.slice N7 y.kP.length ES, .slice JK y.bu.length JJ, .slice Ju y.bD.length Js, .slice Kr y.K.length F4, iI (y.lead:Int), .slice Pq c2.length NB] 63)=w8 at *;have gQ:=tQ bF;have wP:=iH (tO bF);replace vB:=iH (vB.out.below gQ);replace vC:=iH (vC.out.below gQ);replace Aj:=iH (Aj.out.below gQ);replace HB:=iH (ah HB.out gQ);clear gQ;clear bF;obtain ⟨B2,hB2⟩:∃B2,w7.heap.size=B2:=⟨_,rfl⟩;rw [hB2] at wP⊢;clear hB2;have hst:=HST.out k;rw [HX.out,HY.out] at hst;have R8:=iH (show c1.length=k from by have h1:=qo 3 (SC.take k);rw [HX.out,List.length_take] at h1;have h2:=Uq.out;have h3:c1.length=min k SC.length:=h1;omega);have ZC:=iH (show c2.length=SC.length from by have h1:=qo 3 SC;rw [HY.out] at h1;exact h1)
 have Ak:=iH (show x.K.length≤y.K.length from Kj hst.1);have HKP:=iH (show y.K.take x.K.length=x.K from zi hst.1);have I8:=iH (show k≤c2.length by have:=ZC.out;have:=Uq.out;omega);have Vu:=iH (show c2.take k=c1 from by have h1:=zi hst.2;have h2:c2.take c1.length=c1:=h1;rwa [R8.out] at h2);have JS:=iH (show x.K.length≤400 from by have h1:=o8 (m:=3) (by omega) (l:=SC.take k) (fun a h=>Ry.out a (List.mem_of_mem_take h)) (by rw [List.length_take];have:=GJ.out;omega);rw [HX.out] at h1;have h2:=h1.CE;have h3:=h1.n4;exact Nat.le_trans h2 h3);have HKC:=iH (show y.K.length≤F4∧F4≤9223372036854775807 from by obtain ⟨_,_,e,h1,h2,-,-⟩:=Aj.out.comm;simp only [Value.slice.injEq] at e;obtain ⟨-,-,rfl⟩:=e;unfold maxLen at h2;exact ⟨h1,by omega⟩);have PT:=iH (show c2.length≤NB∧NB≤9223372036854775807 from by obtain ⟨_,_,e,h1,h2,-,-⟩:=Aj.out.codes;simp only [Value.slice.injEq] at e;obtain ⟨-,-,rfl⟩:=e;unfold maxLen at h2;exact ⟨h1,by omega⟩);clear hst
 try simp only [List.append_eq,List.cons_append,List.nil_append]
 refine bH 44 (fun wx=>Below w8.heap.size w8 wx) (fun wx wy=>Below wx.heap.size wx wy) [aW (iI (0)),aW (.bool true),aW (.bool true),aW (iI (0)),aW (.bool true),aW (.bool true),aW (.bool true),aW (iP B2 5),aW (.slice Pq c2.length NB),aW (iI (c2.length)),aW (.slice sa SC.length sc),aW (iI (SC.length)),aW (.bool true),aW (.bool true),aW (.bool true),aW (iP B1 3),aW (.slice Od x.K.length Oc),aW (iI (x.K.length)),aW (iP B2 3),aW (.slice Kr y.K.length F4),aW (iI (y.K.length)),aW (.bool true),aW (.bool true),aW (.bool true),aW (iP B1 3),aW (.slice Od x.K.length Oc),aW (iP B2 3),aW (.slice Kr y.K.length F4),aW (iP B1 3),aW (.slice Od x.K.length Oc),aW (iI (x.K.length)),aW (.slice Kr x.K.length F4),aW (.bool true),aW (.bool true),aW (.bool true),aW (iP B1 5),aW (.slice Ql c1.length Qk),aW (iP B2 5),aW (.slice Pq c2.length NB),aW (iI (k)),aW (.slice Pq k NB),aW (.bool true),aW (.bool true),aW (.bool true)] (by kernel_rfl) (by kernel_rfl) rfl ?hJ ?jP ?hst ?ek ?hend
 case hJ=>exact Below.drew iB
 case jP =>
  exact fun wx wy h1 h2=>ah h1 h2
 case hst=>exact bX _ ⟨ax _,ax _,ax _,ax _,ax _,ax _,ax _,ax _,ax _,ax _,ax _,ax _,ax _,ax _,ax _,ax _,ax _,ax _,ax _,ax _,ax _,ax _,ax _,ax _,ax _,ax _,ax _,ax _,ax _,ax _,ax _,ax _,ax _,ax _,ax _,ax _,ax _,ax _,ax _,ax _,ax _,ax _,ax _,ax _,trivial⟩
 case ek =>
  simp only [dY,aJ,Act.put,Nat.reduceAdd,Nat.zero_add,pS];refine ⟨?_,?_,?_,?_,?_,?_,?_,?_,?_,?_,?_,?_,?_,?_,?_,?_,?_,?_,?_,?_,?_,?_,?_,?_,?_,?_,?_,?_,?_,?_,?_,?_,?_,?_,?_,?_,?_,?_,?_,?_,?_,?_,?_,?_,trivial⟩
  all_goals
   intro vs wx hJ hn K hK;simp [dA,mJ,aW,Region.binds] at hn;simp only [mJ,aW,Act.put,Nat.reduceAdd,Nat.zero_add,pS] at hK
  ·go_wp2
   exact hK _ _ iB rfl
  ·simp only [hn] at hK⊢
   go_wp2;exact hK _ _ iB rfl
  ·simp only [hn] at hK⊢
   go_wp2;exact hK _ _ iB rfl
  ·simp only [hn] at hK⊢
   go_wp2;exact hK _ _ iB rfl
  ·simp only [hn] at hK⊢
   go_wp2;exact hK _ _ iB rfl
  ·simp only [hn] at hK⊢
   go_wp2;exact hK _ _ iB rfl
  ·simp only [hn] at hK⊢
   go_wp2;exact hK _ _ iB rfl
  ·simp only [hn] at hK⊢
   go_wp2;exact hK _ _ iB rfl
  ·simp only [hn] at hK⊢
   have y5:=(wP.out.below hJ).cell 5 _ rfl;go_wp2;exact hK _ _ iB rfl
  ·simp only [hn] at hK⊢
   go_wp2;exact hK _ _ iB rfl
  ·simp only [hn] at hK⊢
   go_wp2;exact hK _ _ iB rfl
  ·simp only [hn] at hK⊢
   go_wp2;exact hK _ _ iB rfl
  ·simp only [hn] at hK⊢
   have hq:((c2.length:Int) == (SC.length:Int))=true:=by have:=ZC.out;simp;omega
   go_wp2;exact hK _ _ iB rfl
  ·simp only [hn] at hK⊢
   go_wp2;exact hK _ _ iB rfl
  ·simp only [hn] at hK⊢
   go_wp2;exact hK _ _ iB rfl
  ·simp only [hn] at hK⊢
   go_wp2;exact hK _ _ iB rfl
  ·simp only [hn] at hK⊢
   have u3:=(vB.out.below hJ).cell 3 _ rfl;go_wp2;exact hK _ _ iB rfl
  ·simp only [hn] at hK⊢
   go_wp2;exact hK _ _ iB rfl
  ·simp only [hn] at hK⊢
   go_wp2;exact hK _ _ iB rfl
  ·simp only [hn] at hK⊢
   have y3:=(wP.out.below hJ).cell 3 _ rfl;go_wp2;exact hK _ _ iB rfl
  ·simp only [hn] at hK⊢
   go_wp2;exact hK _ _ iB rfl
  ·simp only [hn] at hK⊢
   have hq:decide (x.K.length≤y.K.length)=true:=decide_eq_true Ak.out;go_wp2;exact hK _ _ iB rfl
  ·simp only [hn] at hK⊢
   go_wp2;exact hK _ _ iB rfl
  ·simp only [hn] at hK⊢
   go_wp2;exact hK _ _ iB rfl
  ·simp only [hn] at hK⊢
   go_wp2;exact hK _ _ iB rfl
  ·simp only [hn] at hK⊢
   have u3:=(vB.out.below hJ).cell 3 _ rfl;go_wp2;exact hK _ _ iB rfl
  ·simp only [hn] at hK⊢
   go_wp2;exact hK _ _ iB rfl
  ·simp only [hn] at hK⊢
   have y3:=(wP.out.below hJ).cell 3 _ rfl;go_wp2;exact hK _ _ iB rfl
  ·simp only [hn] at hK⊢
   go_wp2;exact hK _ _ iB rfl
  ·simp only [hn] at hK⊢
   have u3:=(vB.out.below hJ).cell 3 _ rfl;go_wp2;exact hK _ _ iB rfl
  ·simp only [hn] at hK⊢
   go_wp2;exact hK _ _ iB rfl
  ·simp only [hn] at hK⊢
   have hq:=Ak.out;have hq2:=HKC.out;go_wp2;exact hK _ _ iB rfl
  ·simp only [hn] at hK⊢
   have hs1:=vC.out.comm.below aK (by decide) hJ;have hs2:=(Aj.out.comm.take x.K.length Ak.out).below aK (by decide) hJ;rw [HKP.out] at hs2
   go_wp2_with fail
   refine (qf x.K x.K _ _ _ _ wx hs1 hs2 (by have:=JS.out;omega) (by have:=JS.out;omega)).mono ?_;rw [decide_eq_true (rfl:x.K=x.K)];rintro e w9 ⟨rfl,gQ⟩;go_wp2;exact hK _ _ gQ rfl
  ·simp only [hn] at hK⊢
   go_wp2;exact hK _ _ iB rfl
  ·simp only [hn] at hK⊢
   go_wp2;exact hK _ _ iB rfl
  ·simp only [hn] at hK⊢
   go_wp2;exact hK _ _ iB rfl
  ·simp only [hn] at hK⊢
   have u5:=(vB.out.below hJ).cell 5 _ rfl;go_wp2;exact hK _ _ iB rfl
  ·simp only [hn] at hK⊢
   go_wp2;exact hK _ _ iB rfl
  ·simp only [hn] at hK⊢
   have y5:=(wP.out.below hJ).cell 5 _ rfl;go_wp2;exact hK _ _ iB rfl
  ·simp only [hn] at hK⊢
   go_wp2;exact hK _ _ iB rfl
  ·simp only [hn] at hK⊢
   have hq:=I8.out;have hq2:=PT.out;go_wp2;exact hK _ _ iB rfl
  ·simp only [hn] at hK⊢
   have hs1:=vC.out.codes.below bB (by decide) hJ;have hs2:=(Aj.out.codes.take k I8.out).below bB (by decide) hJ;rw [Vu.out] at hs2;have hs3:aZ 1 jE wx (.slice Ql c1.length Qk) c1 _:=hs1
   go_wp2_with fail
   refine (uB c1 _ _ _ _ wx hs1 hs2 (by have:=R8.out;have:=GJ.out;have:=Uq.out;omega)).mono ?_;rintro e w9 ⟨rfl,gQ⟩;go_wp2;exact hK _ _ gQ rfl
  ·simp only [hn] at hK⊢
   go_wp2;exact hK _ _ iB rfl
  ·simp only [hn] at hK⊢
   go_wp2;exact hK _ _ iB rfl
 case hend =>
  intro vs wx hJ hv;simp [eF,aW] at hv;obtain ⟨e0,e1,e2,e3,e4,e5,e6,e7,e8,e9,e10,e11,e12,e13,e14,e15,e16,e17,e18,e19,e20,e21,e22,e23,e24,e25,e26,e27,e28,e29,e30,e31,e32,e33,e34,e35,e36,e37,e38,e39,e40,e41,e42,e43⟩:=hv;simp only [aJ,Act.put,Nat.reduceAdd,Nat.zero_add,pS];rw [e0,e1,e2,e3,e4,e5,e6,e7,e8,e9,e10,e11,e12,e13,e14,e15,e16,e17,e18,e19,e20,e21,e22,e23,e24,e25,e26,e27,e28,e29,e30,e31,e32,e33,e34,e35,e36,e37,e38,e39,e40,e41,e42,e43];clear e0 e1 e2 e3 e4 e5 e6 e7 e8 e9 e10 e11 e12 e13 e14 e15 e16 e17 e18 e19 e20 e21 e22 e23 e24 e25 e26 e27 e28 e29 e30 e31 e32 e33 e34 e35 e36 e37 e38 e39 e40 e41 e42 e43;go_wp2;go_ret;exact ⟨rfl,ah HB.out hJ⟩
end Go.Proofs.YtbngpjdflblffaaGreatDoor
