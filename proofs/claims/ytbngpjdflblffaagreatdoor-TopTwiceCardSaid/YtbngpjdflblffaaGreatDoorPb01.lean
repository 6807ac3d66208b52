/- A part of the proof, laid together from: EqMail, Twice. -/
import Derived.Test.YtbngpjdflblffaaGreatDoorPa47
set_option linter.all false
set_option maxRecDepth 100000
set_option maxHeartbeats 12800000
namespace Go.Proofs.YtbngpjdflblffaaGreatDoor
open Go.RowKit Go.Tk
theorem Ab (l:List kM) (v vm:Value) (S Sm:Nat→Prop) (w:World) (h:aZ 5 jV w v l S) (hm:aZ 5 jV w vm l Sm) (hl1:l.length≤1000000) :
 Calls Tryz.prog 40 #[v,vm] w fun e w'=>e=.returned (.bool true)∧Below w.heap.size w w':=by
 obtain ⟨a,cap,hv,hl,hc,-,-⟩:=id h;subst hv;obtain ⟨am,QV,hv,hlm,hcm,-,-⟩:=id hm;subst hv;unfold maxLen at hc hcm;have HL:=iH h;have HM:=iH hm;clear h hm
 go_enter Tryz.func40,Tryz.ntmps40
 go_wp2
 go_loopw [5,13] (fun _ i wr=>∃n:Nat,n≤l.length∧i=iI n∧Hid (Below w.heap.size w wr))
  (fun _ i _=>l.length - (intOf i).toNat)
 case atStart=>exact ⟨0,by omega,rfl,iB⟩
 case round =>
  obtain ⟨n,hn,rfl,hb⟩:=hrel
  by_cases hlt:n<l.length
  case neg =>
   go_wp2;go_ret;exact ⟨rfl,hb.out⟩
  obtain ⟨b,off,cap',row,hv,hSb,hrow,hcells⟩:=(HL.out.below bT (by decide) hb.out).row n hlt;simp only [Value.slice.injEq] at hv;obtain ⟨rfl,-,rfl⟩:=hv;obtain rfl:=hrow;have q0:=hcells 0 _ rfl;have q1:=hcells 1 _ rfl;have q2:=hcells 2 _ rfl;have q3:=hcells 3 _ rfl;have q4:=hcells 4 _ rfl;obtain ⟨b2,off2,cap2,NV,hv2,TC,hrow2,je⟩:=(HM.out.below bT (by decide) hb.out).row n hlt;simp only [Value.slice.injEq] at hv2;obtain ⟨rfl,-,rfl⟩:=hv2;obtain rfl:=hrow2;have r0:=je 0 _ rfl;have r1:=je 1 _ rfl;have r2:=je 2 _ rfl;have r3:=je 3 _ rfl;have r4:=je 4 _ rfl;simp only [Nat.add_zero] at q0 r0;clear hcells je;generalize l[n]=s at *;go_wp2;go_region;go_wp2
  go_roundw
  case rel=>exact ⟨n+1,by omega,by go_num,iH (Below.drew hb.out)⟩
  case measure=>simp [intOf];omega
theorem AB (w:World) (l:List kX) (v:Value) (S:Nat→Prop) (h:aZ 4 FB w v l S) (hr:∀x∈l,uM x) :
 Calls Tryz.prog 9 #[v] w fun e w'=>e=.returned (.bool true)∧Below w.heap.size w w':=by
 obtain ⟨la,lc,rfl,-,-,-,-⟩:=id h;have HH:=iH h;have HR:=iH hr;have hok:=o8 (m:=3) (by omega) (nP l 120) (by rw [mF];omega);have hcl:=qo 3 (gJ l 120);rw [mF] at hcl;obtain ⟨⟨x,codes⟩,hX⟩:∃X,kT 3 (gJ l 120)=X:=⟨_,rfl⟩;rw [hX] at hok hcl;have HX:=iH hX;have hlen:=hok.len;have Zl:=iH hok.bD;have Ak:=iH hok.CE;have I8:=iH (show codes.length≤1000 from by have:codes.length=_:=hcl;omega);have JS:=iH hok.n4;clear h hr hX hcl hok;have HB:=iH (Below.refl w.heap.size w)
 go_enter Tryz.func9,Tryz.ntmps9
 go_wp2_with fail
 refine (uS l 120 (by omega) [] (by simp) (by simp) _ _ S (fun _=>True) w (HH.out.below qI (by decide) HB.out) HR.out (aZ.nil _ _)).mono ?_;rw [List.append_nil,HX.out];rintro e w1 ⟨vr,vc,vm,vk,vo,rfl,hO,hb⟩;obtain ⟨Qf,Ke,rfl,-,-,-,-⟩:=id hO.rep;obtain ⟨TN,TM,rfl,-,-,-,-⟩:=id hO.nV;obtain ⟨Sv,Su,rfl,-,-,-,-⟩:=id hO.jh;obtain ⟨Od,Oc,rfl,-,-,-,-⟩:=id hO.comm;obtain ⟨Ql,Qk,rfl,-,-,-,-⟩:=id hO.codes;have hO2:=hO;rw [hlen] at hO2⊢;have vC:=iH hO2;replace HB:=iH (ah HB.out hb);clear hO hO2 hb;go_upto_region 2 with (fail);generalize bF:w1.alloc (.cells #[.slice Qf 3 Ke, .slice TN x.bu.length TM, .slice Sv x.bD.length Su, .slice Od x.K.length Oc, iI (x.lead:Int), .slice Ql codes.length Qk] 63)=w2 at *;have gQ:=tQ bF;have vB:=iH (tO bF);replace vC:=iH (vC.out.below gQ);replace HB:=iH (ah HB.out gQ);clear gQ;clear bF;obtain ⟨B1,hB1⟩:∃B1,w1.heap.size=B1:=⟨_,rfl⟩;rw [hB1] at vB⊢;clear hB1
 go_wp2_with fail
 refine (uS l 120 (by omega) [] (by simp) (by simp) _ _ S (fun _=>True) w2 (HH.out.below qI (by decide) HB.out) HR.out (aZ.nil _ _)).mono ?_;rw [List.append_nil,HX.out];rintro e w3 ⟨vr,vc,vm,vk,vo,rfl,hO,hb⟩;obtain ⟨N7,ES,rfl,-,-,-,-⟩:=id hO.rep;obtain ⟨JK,JJ,rfl,-,-,-,-⟩:=id hO.nV;obtain ⟨Ju,Js,rfl,-,-,-,-⟩:=id hO.jh;obtain ⟨Kr,F4,rfl,-,-,-,-⟩:=id hO.comm;obtain ⟨Pq,NB,rfl,-,-,-,-⟩:=id hO.codes;have hO2:=hO;rw [hlen] at hO2⊢;have Aj:=iH hO2;replace HB:=iH (ah HB.out hb);replace vB:=iH (vB.out.below hb);replace vC:=iH (vC.out.below hb);clear hO hO2 hb;go_upto_region 3 with (fail);generalize bF:w3.alloc (.cells #[.slice N7 3 ES, .slice JK x.bu.length JJ, .slice Ju x.bD.length Js, .slice Kr x.K.length F4, iI (x.lead:Int), .slice Pq codes.length NB] 63)=w4 at *;have gQ:=tQ bF;have wP:=iH (tO bF);replace vB:=iH (vB.out.below gQ);replace vC:=iH (vC.out.below gQ);replace Aj:=iH (Aj.out.below gQ);replace HB:=iH (ah HB.out gQ);clear gQ;clear bF;obtain ⟨B2,hB2⟩:∃B2,w3.heap.size=B2:=⟨_,rfl⟩;rw [hB2] at wP⊢;clear hB2;have u5:=vB.out.cell 5 _ rfl;have y5:=wP.out.cell 5 _ rfl
 go_wp2_with fail
 refine (uB codes _ _ _ _ w4 vC.out.codes Aj.out.codes (by have:=I8.out;omega)).mono ?_;rintro e w5 ⟨rfl,hb⟩;replace vB:=iH (vB.out.below hb);replace wP:=iH (wP.out.below hb);replace vC:=iH (vC.out.below hb);replace Aj:=iH (Aj.out.below hb);replace HB:=iH (ah HB.out hb);clear hb;clear u5 y5;have u2:=vB.out.cell 2 _ rfl;have y2:=wP.out.cell 2 _ rfl
 go_wp2_with fail
 refine (Ab x.bD _ _ _ _ w5 vC.out.jh Aj.out.jh (by have:=Zl.out;omega)).mono ?_;rintro e w6 ⟨rfl,hb⟩;replace vB:=iH (vB.out.below hb);replace wP:=iH (wP.out.below hb);replace vC:=iH (vC.out.below hb);replace Aj:=iH (Aj.out.below hb);replace HB:=iH (ah HB.out hb);clear hb;clear u2 y2;have u3:=vB.out.cell 3 _ rfl;have y3:=wP.out.cell 3 _ rfl
 go_wp2_with fail
 refine (qf x.K x.K _ _ _ _ w6 vC.out.comm Aj.out.comm (by have:=Ak.out;have:=JS.out;omega) (by have:=Ak.out;have:=JS.out;omega)).mono ?_;rw [decide_eq_true (rfl:x.K=x.K)];rintro e w7 ⟨rfl,hb⟩;replace vB:=iH (vB.out.below hb);replace wP:=iH (wP.out.below hb);replace vC:=iH (vC.out.below hb);replace Aj:=iH (Aj.out.below hb);replace HB:=iH (ah HB.out hb);clear hb;clear u3 y3;have u4:=vB.out.cell 4 _ rfl;have y4:=wP.out.cell 4 _ rfl;go_wp2;go_ret;exact ⟨rfl,HB.out⟩
end Go.Proofs.YtbngpjdflblffaaGreatDoor
