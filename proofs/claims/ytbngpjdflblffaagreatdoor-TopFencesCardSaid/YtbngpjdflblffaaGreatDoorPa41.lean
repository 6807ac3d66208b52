/- A part of the proof, laid together from: CustS, CustR, CluN. -/
import Derived.Test.YtbngpjdflblffaaGreatDoorPa40
set_option linter.all false
set_option maxRecDepth 100000
set_option maxHeartbeats 12800000
namespace Go.Tk
open Go Go.RowKit
theorem TQ {w w':World} {c1 c2 c3:List Value} {E1 E2 E3:Nat} (h:Below (w.heap.size+3) (((w.alloc (.cells c1.toArray E1)).alloc (.cells c2.toArray E2)).alloc (.cells c3.toArray E3)) w') :
 aD w' w.heap.size c1∧aD w' (w.heap.size+1) c2∧aD w' (w.heap.size+1+1) c3∧Below w.heap.size w w':=by
 have s1:(w.alloc (.cells c1.toArray E1)).heap.size=w.heap.size+1:=World.size_alloc _ _;have s2:((w.alloc (.cells c1.toArray E1)).alloc (.cells c2.toArray E2)).heap.size=w.heap.size+2:=by rw [World.size_alloc,s1]
 have h1:=((aD.new (w:=w) (cs:=c1) (E:=E1)).below (aj _ (.cells c2.toArray E2))).below (aj _ (.cells c3.toArray E3));have h2:=(aD.new (w:=w.alloc (.cells c1.toArray E1)) (cs:=c2) (E:=E2)).below (aj _ (.cells c3.toArray E3));have h3:=aD.new (w:=(w.alloc (.cells c1.toArray E1)).alloc (.cells c2.toArray E2)) (cs:=c3) (E:=E3);rw [s1] at h2;rw [s2] at h3;exact ⟨h1.keep (h.block _ (by omega)),h2.keep (h.block _ (by omega)),h3.keep (h.block _ (by omega)),(ah (ah (aj w _) (aj _ _)) (aj _ _)).trans (h.mono (by omega))⟩
end Go.Tk
namespace Go.Proofs.YtbngpjdflblffaaGreatDoor
open Go.RowKit Go.Tk
theorem Tryz.NQ:dM Tryz.prog 71 138 5 56:=⟨Tryz.underlying71,by kernel_rfl,by decide⟩
theorem Ac (c:bA) (op:zC) (v:Value) (S:Nat→Prop) (w:World) (h:aZ 5 fI w v c.waits S) (hok:gB c) (hop:wJ op) (hnx:c.next≤1048576) :
 Calls Tryz.prog 123 #[.agg #[iI c.id, iI c.session, iI c.next,v], .agg #[iI op.kind, iS op.a, iS op.b, iI op.n]] w (Nk 138 w (iX c op)):=by
 have HV:=iH (show iX c op=if c.session=0 then (fu,11) else if gq c+4<c.next then (fu,8) else (⟨c.id,c.session,c.next+1,c.waits++[⟨c.next,op⟩]⟩,0) by
  rw [iX,if_neg (by simp [lF.2 hok])]
  by_cases h0:c.session=0
  ·rw [if_pos h0,if_pos h0]
  ·rw [if_neg h0,if_neg h0,if_neg (by simp [mq.2 hop])]
   by_cases h1:gq c+4<c.next
   ·rw [if_pos (.inr h1),if_pos h1]
   ·rw [if_neg (by omega),if_neg h1])
 obtain ⟨n0,n1⟩:=hok.next;have hlen:=hok.len;have HK:=iH hok;have Ug:=iH (mq.2 hop);have hak:-1000000000000≤gq c∧gq c≤1000000000000:=by
  rw [gq]
  split
  ·rename_i h0
   have:=(hok.all 0 h0).1;unfold o7 at this;omega
  ·omega
 have hone:=h.oneCell;obtain ⟨a,cap,hv,hl,hm,-,-⟩:=id h;subst hv;unfold maxLen at hm;have HS:=iH h;clear h hok hop hm
 go_enter Tryz.func123,Tryz.ntmps123
 go_wp2_with fail
 refine (l8 c _ S _ (HS.out.below aV (by decide) (ah (ah (aj w _) (aj _ _)) (aj _ _))) HK.out).mono ?_;rintro e w1 ⟨rfl,hb1⟩;simp only [World.size_alloc] at hb1;obtain ⟨hX,hP,hR,hB⟩:=TQ (c1:=[iI c.id, iI c.session, iI c.next, .slice a c.waits.length cap]) (c2:=[iI op.kind, iS op.a, iS op.b, iI op.n]) (c3:=[iI 0, iI 0, iI 0, iN]) hb1;have HX:=iH hX;have HP:=iH hP;have HR:=iH hR;have HB:=iH hB;replace HS:=iH (HS.out.below aV (by decide) hB);clear hX hP hR hB hb1;obtain ⟨x0,x1,x2,x3⟩:=dJ HX.out;obtain ⟨o0,o1,o2,o3⟩:=dJ HP.out;obtain ⟨r0,r1,r2,r3⟩:=dJ HR.out;obtain ⟨f0,f1,f2,f3⟩:=nH HR.out
 by_cases h0:c.session=0
 case pos =>
  have HF:=iH (HV.out.trans (if_pos h0));have W9:(c.session == 0)=true:=by simpa using h0
  clear h0;go_wp2;have hp:=((((HR.out).set 0 (by simp) (iI 0)).set 1 (by simp) (iI 0)).set 2 (by simp) (iI 0)).set 3 (by simp) (iN);have hbf:=ay (b:=w.heap.size+1+1) (ay (b:=w.heap.size+1+1) (ay (b:=w.heap.size+1+1) (ay (b:=w.heap.size+1+1) (Below.refl (w.heap.size) w1) (by omega) 0 (iI 0)) (by omega) 1 (iI 0)) (by omega) 2 (iI 0)) (by omega) 3 (iN);generalize (((w1.setCell ⟨w.heap.size+1+1,0,none⟩ (iI 0)).setCell ⟨w.heap.size+1+1,1,none⟩ (iI 0)).setCell ⟨w.heap.size+1+1,2,none⟩ (iI 0)).setCell ⟨w.heap.size+1+1,3,none⟩ (iN)=wf at *;obtain ⟨p0,p1,p2,p3⟩:=dJ hp;refine bodyPost_ret (v:=.tuple #[.agg #[iI 0, iI 0, iI 0, iN], iI 11]) (by simp [results,Tryz.results123,go_sem,p0,p1,p2,p3]) rfl ?_;rw [HF.out];exact ⟨_,rfl,bZ.nil _ _,(fun g hg=>by cases hg),HB.out.trans hbf⟩
 have W9:(c.session == 0)=false:=by simpa using h0
 have wO:=iH (HV.out.trans (if_neg h0));clear h0 HV
 go_wp2_with fail
 refine (ou op _).mono ?_;rw [Ug.out];rintro e w2 ⟨rfl,hb2⟩;clear x0 x1 x2 x3 o0 o1 o2 o3 r0 r1 r2 r3 f0 f1 f2 f3;replace HX:=iH (HX.out.below hb2);replace HP:=iH (HP.out.below hb2);replace HR:=iH (HR.out.below hb2);replace HB:=iH (ah HB.out hb2);replace HS:=iH (HS.out.below aV (by decide) hb2);clear hb2;have hmx:decide (1048576<c.next)=false:=by simp;omega
 obtain ⟨ak,QN⟩:∃ak,gq c=ak:=⟨_,rfl⟩;rw [QN] at hak wO;have XQ:=iH QN;clear QN;go_upto_region 9 with (fail);refine bH 10 (fun wx=>Below w2.heap.size w2 wx) (fun wx wy=>Below wx.heap.size wx wy) [aW (iP (w.heap.size) 2),aW (iI c.next),aW (.bool false),aW (.bool false),aW (iP (w.heap.size) 2),aW (iI c.next),aW (.agg #[iI c.id, iI c.session, iI c.next, .slice a c.waits.length cap]),aW (iI ak),aW (iI (ak+4)),aW (.bool (decide (ak+4<c.next)))] (by kernel_rfl) (by kernel_rfl) rfl ?hJ ?jP ?hst ?ek ?hend
 case hJ=>exact Below.drew iB
 case jP =>
  exact fun wx wy h1 h2=>ah h1 h2
 case hst=>exact bX _ ⟨ax _,ax _,ax _,ax _,ax _,ax _,ax _,ax _,ax _,ax _,trivial⟩
 case ek =>
  simp only [dY,aJ,Act.put,Nat.reduceAdd,Nat.zero_add,pS];refine ⟨?_,?_,?_,?_,?_,?_,?_,?_,?_,?_,trivial⟩
  all_goals
   intro vs wx hJ hn K hK;simp [dA,mJ,aW,Region.binds] at hn;simp only [mJ,aW,Act.put,Nat.reduceAdd,Nat.zero_add,pS] at hK
  ·go_wp2
   exact hK _ _ iB rfl
  ·simp only [hn] at hK⊢
   have x2:=(HX.out.below hJ).cell 2 _ rfl;go_wp2;exact hK _ _ iB rfl
  ·simp only [hn] at hK⊢
   go_wp2;exact hK _ _ iB rfl
  ·simp only [hn] at hK⊢
   go_wp2;exact hK _ _ iB rfl
  ·simp only [hn] at hK⊢
   go_wp2;exact hK _ _ iB rfl
  ·obtain ⟨e4,e3⟩:=hn
   simp only [e4,e3] at hK⊢;have x2:=(HX.out.below hJ).cell 2 _ rfl;go_wp2;exact hK _ _ iB rfl
  ·simp only [hn] at hK⊢
   have hx:=HX.out.below hJ;obtain ⟨x0,x1,x2,x3⟩:=dJ hx;go_wp2;exact hK _ _ iB rfl
  ·obtain ⟨e6,e3⟩:=hn
   simp only [e6,e3] at hK⊢;have hsx:=HS.out.below aV (by decide) hJ
   go_wp2_with fail
   refine (sW c _ _ _ hsx HK.out).mono ?_;rw [XQ.out];rintro e w5 ⟨rfl,hb5⟩;go_wp2;exact hK _ _ hb5 rfl
  ·obtain ⟨e7,e3⟩:=hn
   simp only [e7,e3] at hK⊢;go_wp2;exact hK _ _ iB rfl
  ·obtain ⟨e5,e8,e3⟩:=hn
   simp only [e5,e8,e3] at hK⊢;go_wp2;exact hK _ _ iB rfl
 case hend =>
  intro vs wx hJ hv;simp [eF,aW] at hv;obtain ⟨e0,e1,e2,e3,e4,e5,e6,e7,e8,e9⟩:=hv;simp only [aJ,Act.put,Nat.reduceAdd,Nat.zero_add,pS];rw [e0,e1,e2,e3,e4,e5,e6,e7,e8,e9];clear e0 e1 e2 e3 e4 e5 e6 e7 e8 e9;replace HX:=iH (HX.out.below hJ);replace HP:=iH (HP.out.below hJ);replace HR:=iH (HR.out.below hJ);replace HB:=iH (ah HB.out hJ);replace HS:=iH (HS.out.below aV (by decide) hJ);clear hJ
  by_cases hfl:ak+4<c.next
  case pos =>
   have QE:decide (ak+4<c.next)=true:=by simpa using hfl
   obtain ⟨r0,r1,r2,r3⟩:=dJ HR.out;obtain ⟨f0,f1,f2,f3⟩:=nH HR.out;have HF:=iH (wO.out.trans (if_pos hfl));rw [QE];clear QE;go_wp2;have hp:=((((HR.out).set 0 (by simp) (iI 0)).set 1 (by simp) (iI 0)).set 2 (by simp) (iI 0)).set 3 (by simp) (iN);have hbf:=ay (b:=w.heap.size+1+1) (ay (b:=w.heap.size+1+1) (ay (b:=w.heap.size+1+1) (ay (b:=w.heap.size+1+1) (Below.refl (w.heap.size) wx) (by omega) 0 (iI 0)) (by omega) 1 (iI 0)) (by omega) 2 (iI 0)) (by omega) 3 (iN);generalize (((wx.setCell ⟨w.heap.size+1+1,0,none⟩ (iI 0)).setCell ⟨w.heap.size+1+1,1,none⟩ (iI 0)).setCell ⟨w.heap.size+1+1,2,none⟩ (iI 0)).setCell ⟨w.heap.size+1+1,3,none⟩ (iN)=wf at *;obtain ⟨p0,p1,p2,p3⟩:=dJ hp;refine bodyPost_ret (v:=.tuple #[.agg #[iI 0, iI 0, iI 0, iN], iI 8]) (by simp [results,Tryz.results123,go_sem,p0,p1,p2,p3]) rfl ?_;rw [HF.out];exact ⟨_,rfl,bZ.nil _ _,(fun g hg=>by cases hg),HB.out.trans hbf⟩
  have QE:decide (ak+4<c.next)=false:=by simpa using hfl
  rw [QE];clear QE;have HF:=iH (wO.out.trans (if_neg hfl));obtain ⟨x0,x1,x2,x3⟩:=dJ HX.out;obtain ⟨t0,t1,t2,t3⟩:=nH HX.out
  go_wp2_with fail
  refine (qh c _ _ _ HS.out (by omega)).mono ?_;rintro e w6 ⟨v6,rfl,yN,tF,hb6⟩;obtain ⟨ra,rc,rfl⟩:=yN.shape;clear x0 x1 x2 x3 t0 t1 t2 t3;have Qx:w.heap.size+1+1<wx.heap.size:=HR.out.lt;replace HX:=iH (HX.out.below hb6);replace HP:=iH (HP.out.below hb6);replace HR:=iH (HR.out.below hb6);replace HB:=iH (ah HB.out hb6);replace HS:=iH (HS.out.below aV (by decide) hb6);clear hb6;obtain ⟨x0,x1,x2,x3⟩:=dJ HX.out;obtain ⟨t0,t1,t2,t3⟩:=nH HX.out;obtain ⟨o0,o1,o2,o3⟩:=dJ HP.out;have vW:=iH (show ∀g,(Value.slice ra c.waits.length rc).ownBlock=some g→w.heap.size+1+1<g from fun g hg=>Nat.lt_of_lt_of_le Qx (tF g hg));have hx7:=((((HX.out).set 0 (by simp) (iI c.id)).set 1 (by simp) (iI c.session)).set 2 (by simp) (iI c.next)).set 3 (by simp) (.slice ra c.waits.length rc);have NF:=iH hx7;have HP7:=iH (HP.out.keep (w':=(((w6.setCell ⟨w.heap.size,0,none⟩ (iI c.id)).setCell ⟨w.heap.size,1,none⟩ (iI c.session)).setCell ⟨w.heap.size,2,none⟩ (iI c.next)).setCell ⟨w.heap.size,3,none⟩ (.slice ra c.waits.length rc)) ((aC (by omega)).trans ((aC (by omega)).trans ((aC (by omega)).trans (aC (by omega))))))
  have JQ:=iH (HR.out.keep (w':=(((w6.setCell ⟨w.heap.size,0,none⟩ (iI c.id)).setCell ⟨w.heap.size,1,none⟩ (iI c.session)).setCell ⟨w.heap.size,2,none⟩ (iI c.next)).setCell ⟨w.heap.size,3,none⟩ (.slice ra c.waits.length rc)) ((aC (by omega)).trans ((aC (by omega)).trans ((aC (by omega)).trans (aC (by omega))))));have qZ:=iH (HB.out.trans (ay (ay (ay (ay (Below.refl (w.heap.size) w6) (Nat.le_refl _) 0 (iI c.id)) (Nat.le_refl _) 1 (iI c.session)) (Nat.le_refl _) 2 (iI c.next)) (Nat.le_refl _) 3 (.slice ra c.waits.length rc)));have O4:=iH (show bZ 138 5 fI ((((w6.setCell ⟨w.heap.size,0,none⟩ (iI c.id)).setCell ⟨w.heap.size,1,none⟩ (iI c.session)).setCell ⟨w.heap.size,2,none⟩ (iI c.next)).setCell ⟨w.heap.size,3,none⟩ (.slice ra c.waits.length rc)) (.slice ra c.waits.length rc) c.waits (fun _=>False) from yN.move aV (fun g hg=>(aC (by have:=vW.out g hg;omega)).trans ((aC (by have:=vW.out g hg;omega)).trans ((aC (by have:=vW.out g hg;omega)).trans (aC (by have:=vW.out g hg;omega))))) (fun b hb=>hb.elim));clear hx7 yN tF;go_upto_region 12 with (fail);generalize (((w6.setCell ⟨w.heap.size,0,none⟩ (iI c.id)).setCell ⟨w.heap.size,1,none⟩ (iI c.session)).setCell ⟨w.heap.size,2,none⟩ (iI c.next)).setCell ⟨w.heap.size,3,none⟩ (.slice ra c.waits.length rc)=w7 at *
  have e1:IntKind.i64.wrap (c.next+1)=c.next+1:=IntWalk.i64_in _ (by omega);clear x0 x1 x2 x3 t0 t1 t2 t3 o0 o1 o2 o3 HX HP HR HB HS;have x2:=NF.out.cell 2 _ rfl;have x3:=NF.out.cell 3 _ rfl;obtain ⟨o0,o1,o2,o3⟩:=dJ HP7.out
  go_wp2_with (at_builtin;refine dW Tryz.NQ (.tmp 39) (.tmp 44) rfl rfl aV ⟨c.next,op⟩ rfl rfl rfl O4.out rfl (by omega) ?_;intro v8 w8 nu kN qM;have Pw:=NF.out.grown kN (fun e=>by have:=vW.out _ e.symm;omega);have Ov:=JQ.out.grown kN (fun e=>by have:=vW.out _ e.symm;omega);have y0:=Pw.cell 0 _ rfl;have y1:=Pw.cell 1 _ rfl;have y2:=Pw.cell 2 _ rfl;have y3:=Pw.cell 3 _ rfl;have s2:=Pw.thaw 2;have s3:=Pw.thaw 3;have r0:=Ov.cell 0 _ rfl;have r1:=Ov.cell 1 _ rfl;have r2:=Ov.cell 2 _ rfl;have r3:=Ov.cell 3 _ rfl;have f0:=Ov.thaw 0;have f1:=Ov.thaw 1;have f2:=Ov.thaw 2;have f3:=Ov.thaw 3;have ET:=qZ.out.grown kN qZ.out.size (fun k hk=>by have:=vW.out k hk;omega);have Il:=FM (v:=.slice ra c.waits.length rc) vW.out JQ.out.lt qM;obtain ⟨LW,LV,e8⟩:∃a c8,v8=.slice a (c.waits.length+1) c8:=(by obtain ⟨a,c8,e⟩:=nu.shape;exact ⟨a,c8,by rw [e];congr 1;simp⟩);subst e8)
  have Py:=(Ov.far (c:=w.heap.size) (by omega) 3 (.slice LW (c.waits.length+1) LV)).far (c:=w.heap.size) (by omega) 2 (iI (c.next+1));have hp:=((((Py).set 0 (by simp) (iI c.id)).set 1 (by simp) (iI c.session)).set 2 (by simp) (iI (c.next+1))).set 3 (by simp) (.slice LW (c.waits.length+1) LV);have hbf:=ay (b:=w.heap.size+1+1) (ay (b:=w.heap.size+1+1) (ay (b:=w.heap.size+1+1) (ay (b:=w.heap.size+1+1) (Below.refl (w.heap.size) ((w8.setCell ⟨w.heap.size,3,none⟩ (.slice LW (c.waits.length+1) LV)).setCell ⟨w.heap.size,2,none⟩ (iI (c.next+1)))) (by omega) 0 (iI c.id)) (by omega) 1 (iI c.session)) (by omega) 2 (iI (c.next+1))) (by omega) 3 (.slice LW (c.waits.length+1) LV);have gQ:Below w.heap.size w8 ((w8.setCell ⟨w.heap.size,3,none⟩ (.slice LW (c.waits.length+1) LV)).setCell ⟨w.heap.size,2,none⟩ (iI (c.next+1))):=ay (b:=w.heap.size) (ay (b:=w.heap.size) iB (Nat.le_refl _) 3 _) (Nat.le_refl _) 2 _
  have wu:bZ 138 5 fI ((((((w8.setCell ⟨w.heap.size,3,none⟩ (.slice LW (c.waits.length+1) LV)).setCell ⟨w.heap.size,2,none⟩ (iI (c.next+1))).setCell ⟨w.heap.size+1+1,0,none⟩ (iI c.id)).setCell ⟨w.heap.size+1+1,1,none⟩ (iI c.session)).setCell ⟨w.heap.size+1+1,2,none⟩ (iI (c.next+1))).setCell ⟨w.heap.size+1+1,3,none⟩ (.slice LW (c.waits.length+1) LV)) (.slice LW (c.waits.length+1) LV) (c.waits++[⟨c.next,op⟩]) (fun _=>False):=nu.move aV (fun g hg=>(aC (by have:=Il g hg;omega)).trans ((aC (by have:=Il g hg;omega)).trans ((aC (by have:=Il g hg;omega)).trans ((aC (by have:=Il g hg;omega)).trans ((aC (by have:=Il g hg;omega)).trans (aC (by have:=Il g hg;omega))))))) (fun b hb=>hb.elim);generalize (((((w8.setCell ⟨w.heap.size,3,none⟩ (.slice LW (c.waits.length+1) LV)).setCell ⟨w.heap.size,2,none⟩ (iI (c.next+1))).setCell ⟨w.heap.size+1+1,0,none⟩ (iI c.id)).setCell ⟨w.heap.size+1+1,1,none⟩ (iI c.session)).setCell ⟨w.heap.size+1+1,2,none⟩ (iI (c.next+1))).setCell ⟨w.heap.size+1+1,3,none⟩ (.slice LW (c.waits.length+1) LV)=wf at *;obtain ⟨p0,p1,p2,p3⟩:=dJ hp;refine bodyPost_ret (v:=.tuple #[.agg #[iI c.id, iI c.session, iI (c.next+1), .slice LW (c.waits.length+1) LV], iI 0]) (by simp [results,Tryz.results123,go_sem,p0,p1,p2,p3]) rfl ?_;rw [HF.out];exact ⟨_,rfl,wu,(fun g hg=>by have:=Il g hg;omega),ET.trans (gQ.trans hbf)⟩
theorem Ad (c:bA) (v:Value) (S:Nat→Prop) (w:World) (h:aZ 5 fI w v c.waits S) (hok:gB c) :
 Calls Tryz.prog 121 #[.agg #[iI c.id, iI c.session, iI c.next,v]] w fun e w'=>e=.returned (.tuple #[.string ⟨(iY c).1.toArray⟩, iI (iY c).2])∧Below w.heap.size w w':=by
 have HV:=iH (show iY c=ig ⟨1,c.id,0,0,0,bP⟩ by rw [iY,if_neg (by simp [lF.2 hok])]);have HK:=iH hok;have hone:=h.oneCell;obtain ⟨a,cap,hv,hl,hm,-,-⟩:=id h;subst hv;have HS:=iH h;clear h hok hm
 go_enter Tryz.func121,Tryz.ntmps121
 go_wp2_with fail
 refine (l8 c _ S _ (HS.out.below aV (by decide) (aj w _)) HK.out).mono ?_;rintro e w1 ⟨rfl,hb1⟩;rw [World.size_alloc] at hb1;obtain ⟨hz,-,hzs⟩:=Tk.fresh hb1;have z0:=hz 0;have HB:=iH ((aj w _).trans (hb1.mono (by omega)));clear hz hb1;have hw:∀s∈words ⟨1,c.id,0,0,0,bP⟩,s.length≤1000000:=by
  intro s hs;simp only [words,bP,List.mem_cons,List.not_mem_nil,or_false] at hs
  rcases hs with rfl | rfl<;>decide
 go_wp2_with fail
 refine (xK ⟨1,c.id,0,0,0,bP⟩ _ hw).mono ?_;obtain ⟨r1,r2,hr⟩:∃r1 r2,iY c=(r1,r2):=⟨_,_,rfl⟩;rw [←HV.out,hr];have HR:=iH hr;clear hr;rintro e w2 ⟨rfl,hb2⟩;go_wp2
 go_ret2
 exact ⟨by rw [HR.out];rfl,ah HB.out hb2⟩
theorem xN (c:bA) (k:Int) (v:Value) (S:Nat→Prop) (w:World) (h:aZ 5 fI w v c.waits S) (hok:gB c) (hk:-9223372036854775808≤k∧k≤9223372036854775807) :
 Calls Tryz.prog 122 #[.agg #[iI c.id, iI c.session, iI c.next,v], iI k] w fun e w'=>e=.returned (.tuple #[.string ⟨(gp c k).1.toArray⟩, iI (gp c k).2])∧Below w.heap.size w w':=by
 have HV:=iH (show gp c k=if k<0∨c.waits.length≤k then ([],6) else ig ⟨2,c.id,c.session,(c.waits.getD k.toNat gP).seq,gq c,(c.waits.getD k.toNat gP).op⟩ by rw [gp,if_neg (by simp [lF.2 hok])]);have hlen:=hok.len;have HK:=iH hok;obtain ⟨k0,k1⟩:=hk;have hone:=h.oneCell;obtain ⟨a,cap,hv,hl,hm,-,-⟩:=id h;subst hv;unfold maxLen at hm;have HS:=iH h;clear h hok
 go_enter Tryz.func122,Tryz.ntmps122
 go_wp2_with fail
 refine (l8 c _ S _ (HS.out.below aV (by decide) (aj w _)) HK.out).mono ?_;rintro e w1 ⟨rfl,hb1⟩;rw [World.size_alloc] at hb1;have HX:=iH ((aD.new (w:=w) (cs:=[iI c.id, iI c.session, iI c.next, .slice a c.waits.length cap]) (E:=73)).keep (hb1.block w.heap.size (by omega)));have HB:=iH ((aj w _).trans (hb1.mono (by omega)));replace HS:=iH (HS.out.below aV (by decide) HB.out);clear hb1;have x3:=HX.out.cell 3 _ rfl
 by_cases h1:k<0
 ·have HF:=iH (HV.out.trans (if_pos (.inl h1)))
  go_wp2
  go_ret2
  exact ⟨by rw [HF.out];rfl,HB.out⟩
 by_cases h2:(c.waits.length:Int)≤k
 ·have HF:=iH (HV.out.trans (if_pos (.inr h2)))
  go_wp2
  go_ret2
  exact ⟨by rw [HF.out];rfl,HB.out⟩
 obtain ⟨i,rfl⟩:∃i:Nat,k=i:=⟨k.toNat,by omega⟩;have hi:i<c.waits.length:=by omega
 obtain ⟨b,off,cap',row,hv,hSb,hrow,hcells⟩:=HS.out.row i hi;simp only [Value.slice.injEq] at hv;obtain ⟨rfl,_,rfl⟩:=hv;obtain rfl:=hrow;have q0:=hcells 0 _ rfl;have q1:=hcells 1 _ rfl;have q2:=hcells 2 _ rfl;have q3:=hcells 3 _ rfl;have q4:=hcells 4 _ rfl;simp only [Nat.add_zero] at q0;clear hcells;have hgd:c.waits.getD i gP=c.waits[i]:=by simp [List.getD,hi]
 have hop:=(HK.out.all i hi).2;have wO:=iH (HV.out.trans (if_neg (by omega)));rw [Int.toNat_natCast,hgd] at wO;rw [hgd] at hop;have NG:=iH (show ∀s∈words ⟨2,c.id,c.session,c.waits[i].seq,gq c,c.waits[i].op⟩,s.length≤1000000 from by
  intro s hs;simp only [words,List.mem_cons,List.not_mem_nil,or_false] at hs;have:=(jA hop.name).2;have:=hop.size
  rcases hs with rfl | rfl<;>omega)
 clear HV hop hgd h1 h2;generalize c.waits[i]=x at *;obtain ⟨ak,hak⟩:∃ak,gq c=ak:=⟨_,rfl⟩;rw [hak] at wO NG;have XQ:=iH hak;obtain ⟨r1,r2,hr⟩:∃r1 r2,gp c i=(r1,r2):=⟨_,_,rfl⟩;have HR:=iH hr;rw [hr] at wO;clear hak hr;go_upto_region 7 with (fail);clear q0 q1 q2 q3 q4 x3;have hdi:decide (c.waits.length≤i)=false:=by simp;omega
 simp only [hdi,Bool.or_false];clear hdi;have HW:=iH (aD.new (w:=w1) (cs:=[iI x.seq, iI x.op.kind, iS x.op.a, iS x.op.b, iI x.op.n]) (E:=138));have hba:=aj w1 (.cells #[iI x.seq, iI x.op.kind, iS x.op.a, iS x.op.b, iI x.op.n] 138);replace HX:=iH (HX.out.below hba);replace HB:=iH (ah HB.out hba);replace HS:=iH (HS.out.below aV (by decide) hba);clear hba;generalize w1.alloc (.cells #[iI x.seq, iI x.op.kind, iS x.op.a, iS x.op.b, iI x.op.n] 138)=w2 at *;generalize w1.heap.size=B7 at *
 refine bH 16 (fun wx=>Below w2.heap.size w2 wx) (fun wx wy=>Below wx.heap.size wx wy) [aW (iP (w.heap.size) 0),aW (iI c.id),aW (iP (w.heap.size) 1),aW (iI c.session),aW (iP B7 0),aW (iI x.seq),aW (.agg #[iI c.id, iI c.session, iI c.next, .slice (some ⟨b,off,none⟩) c.waits.length cap]),aW (iI ak),aW (iP B7 1),aW (.agg #[iI x.op.kind, iS x.op.a, iS x.op.b, iI x.op.n]),aW (.agg #[iI 2, iI c.id, iI c.session, iI x.seq, iI ak, iI x.op.kind, iS x.op.a, iS x.op.b, iI x.op.n]),aW (.tuple #[iS r1, iI r2]),aW (iS r1),aW (iI r2),aW (iS r1),aW (iI r2)] (by kernel_rfl) (by kernel_rfl) rfl ?hJ ?jP ?hst ?ek ?hend
 case hJ=>exact Below.drew iB
 case jP =>
  exact fun wx wy h1 h2=>ah h1 h2
 case hst=>exact bX _ ⟨ax _,ax _,ax _,ax _,ax _,ax _,ax _,ax _,ax _,ax _,ax _,ax _,ax _,ax _,ax _,ax _,trivial⟩
 case ek =>
  simp only [dY,aJ,Act.put,Nat.reduceAdd,Nat.zero_add,pS];refine ⟨?_,?_,?_,?_,?_,?_,?_,?_,?_,?_,?_,?_,?_,?_,?_,?_,trivial⟩
  all_goals
   intro vs wx hJ hn K hK;simp [dA,mJ,aW,Region.binds] at hn;simp only [mJ,aW,Act.put,Nat.reduceAdd,Nat.zero_add,pS] at hK
  ·go_wp2
   exact hK _ _ iB rfl
  ·simp only [hn] at hK⊢
   have x0:=(HX.out.below hJ).cell 0 _ rfl;go_wp2;exact hK _ _ iB rfl
  ·go_wp2
   exact hK _ _ iB rfl
  ·simp only [hn] at hK⊢
   have x1:=(HX.out.below hJ).cell 1 _ rfl;go_wp2;exact hK _ _ iB rfl
  ·go_wp2
   exact hK _ _ iB rfl
  ·simp only [hn] at hK⊢
   have y0:=(HW.out.below hJ).cell 0 _ rfl;go_wp2;exact hK _ _ iB rfl
  ·have hx:=HX.out.below hJ
   obtain ⟨x0,x1,x2,x3⟩:=dJ hx;go_wp2;exact hK _ _ iB rfl
  ·simp only [hn] at hK⊢
   have hsx:=HS.out.below aV (by decide) hJ
   go_wp2_with fail
   refine (sW c _ _ _ hsx HK.out).mono ?_;rw [XQ.out];rintro e w5 ⟨rfl,hb5⟩;go_wp2;exact hK _ _ hb5 rfl
  ·go_wp2
   exact hK _ _ iB rfl
  ·simp only [hn] at hK⊢
   have hy:=HW.out.below hJ;have y1:=hy.cell 1 _ rfl;have y2:=hy.cell 2 _ rfl;have y3:=hy.cell 3 _ rfl;have y4:=hy.cell 4 _ rfl;go_wp2;exact hK _ _ iB rfl
  ·simp only [hn] at hK⊢
   go_wp2;exact hK _ _ iB rfl
  ·simp only [hn] at hK⊢
   go_wp2_with fail
   refine (xK ⟨2,c.id,c.session,x.seq,ak,x.op⟩ _ NG.out).mono ?_;rw [←wO.out];rintro e w6 ⟨rfl,hb6⟩;go_wp2;exact hK _ _ hb6 rfl
  ·simp only [hn] at hK⊢
   go_wp2;exact hK _ _ iB rfl
  ·simp only [hn] at hK⊢
   go_wp2;exact hK _ _ iB rfl
  ·simp only [hn] at hK⊢
   go_wp2;exact hK _ _ iB rfl
  ·simp only [hn] at hK⊢
   go_wp2;exact hK _ _ iB rfl
 case hend =>
  intro vs wx hJ hv;simp [eF,aW] at hv;obtain ⟨e0,e1,e2,e3,e4,e5,e6,e7,e8,e9,e10,e11,e12,e13,e14,e15⟩:=hv;simp only [aJ,Act.put,Nat.reduceAdd,Nat.zero_add,pS];rw [e0,e1,e2,e3,e4,e5,e6,e7,e8,e9,e10,e11,e12,e13,e14,e15];clear e0 e1 e2 e3 e4 e5 e6 e7 e8 e9 e10 e11 e12 e13 e14 e15;replace HX:=iH (HX.out.below hJ);replace HB:=iH (ah HB.out hJ);replace HS:=iH (HS.out.below aV (by decide) hJ);replace HW:=iH (HW.out.below hJ);clear hJ;go_wp2
  go_ret2
  exact ⟨by rw [HR.out];rfl,HB.out⟩
theorem CW (m n:Nat) (x:bS) (X:Nat) (Z:Nat→Prop) (w:World) (h:gW 45 73 101 9 w X x Z) (hok:aT m n x) (a:dK) (ha:fC a) (hr0:0≤a.c) (hr3:a.c<x.bu.length) (hn:n<400) (hk:a.kind=1) :
 Calls Tryz.prog 86 #[iP X 0, .agg #[iI a.kind, iI a.c, iI a.r, iI a.k, iI a.op.kind, iS a.op.a, iS a.op.b, iI a.op.n]] w fun e w'=>e=.returned (iI (lH x (iY (iq x a.c.toNat))).2)∧eY 45 73 101 9 w X Z w' (lH x (iY (iq x a.c.toNat))).1:=by
 have HH:=iH h;have gG:=iH hok;obtain ⟨i,hi⟩:∃i:Nat,(i:Int)=a.c:=⟨a.c.toNat,by omega⟩;have him:i<x.bu.length:=by omega
 obtain ⟨hk0,hk1⟩:=ha.k;obtain ⟨kd,c,r',k,op⟩:=a;simp only at hi hr0 hr3 hk hk0 hk1⊢;subst hi hk;simp only [Int.toNat_natCast];have BB:=(hok.bu i (by have:=hok.tK;omega)).1;clear h hok ha hr0 hr3;have hd1:decide ((i:Int)<0)=false:=decide_eq_false (by omega);have hd2:decide (x.bu.length≤i)=false:=decide_eq_false (by omega)
 go_enter Tryz.func86,Tryz.ntmps86
 go_upto_region 1 with (fail);generalize bF:w.alloc (.cells #[iI 1, iI (i:Int), iI r', iI k, iI op.kind, iS op.a, iS op.b, iI op.n] 70)=w1 at *;have hbz:=tQ bF;have HX:=iH (tO bF);have nL:=iH (cB HH.out hbz);have HB:=iH hbz;clear hbz HH;clear bF;obtain ⟨BX,jT⟩:∃BX,w.heap.size=BX:=⟨_,rfl⟩;rw [jT] at HX⊢;have yY:=iH jT;clear jT;obtain ⟨vr,vc,vm,vk,hm⟩:=nL.out;obtain ⟨g,cap,cv,hv,hcap,hmax,hcells,hwt⟩:=hm.uE him;subst hv;unfold maxLen at hmax;obtain ⟨C,hC⟩:∃C,iq x i=C:=⟨_,rfl⟩;have GR:=iH hC;rw [hC] at hcells hwt BB;clear hC;obtain ⟨wa,wc,rfl,-,-,-,-⟩:=id hwt;have c0:=hcells 0 _ rfl;have c1:=hcells 1 _ rfl;have c2:=hcells 2 _ rfl;have c3:=hcells 3 _ rfl;simp only [Nat.add_zero] at c0;have hgl:=World.block_lt_of_cell? w1 _ c0;have xY:=hm.box.lt;have Gc:=HX.out.lt;have hone:=hm.rep.oneCell;have kL:=hm.jh.oneCell;have qb:=hm.comm.oneCell;have Wu:(i:Int)<(x.bu.length:Int):=by omega
 have HM:=iH hm;have Ch:=iH hwt;have O9:=iH BB;have x1:=hm.box.cell 1 _ rfl;have y1:=HX.out.cell 1 _ rfl;clear hm hcells hwt nL BB
 go_quiet (fail)
 have hbd:Below w1.heap.size w1 (w1.drewN nq):=below_drewN iB _;replace HM:=iH (HM.out.below hbd);replace HX:=iH (HX.out.below hbd);replace Ch:=iH (Ch.out.below aV (by decide) hbd);replace HB:=iH (ah HB.out hbd);have d0:=aB c0 (hbd.block g hgl);have d1:=aB c1 (hbd.block g hgl);have d2:=aB c2 (hbd.block g hgl);have d3:=aB c3 (hbd.block g hgl);have uw:g<(w1.drewN nq).heap.size:=Nat.lt_of_lt_of_le hgl hbd.size;have yO:X<(w1.drewN nq).heap.size:=Nat.lt_of_lt_of_le xY hbd.size;have BF:BX<(w1.drewN nq).heap.size:=Nat.lt_of_lt_of_le Gc hbd.size;clear hd1 hd2 c0 c1 c2 c3 x1 y1 hbd hgl xY Gc;generalize w1.drewN nq=w2 at *;have x1:=HM.out.box.cell 1 _ rfl;have y1:=HX.out.cell 1 _ rfl;go_upto_region 3 with (fail);go_region;have hbe:Below w2.heap.size w2 (w2.alloc (.cells #[iI C.id, iI C.session, iI C.next, .slice wa C.waits.length wc] 73)).drew:=Below.drew (aj w2 _);have H5:=iH (aD.drew (aD.new (w:=w2) (cs:=[iI C.id, iI C.session, iI C.next, .slice wa C.waits.length wc]) (E:=73)));clear d0 d1 d2 d3 x1 y1;replace HM:=iH (HM.out.below hbe);replace HX:=iH (HX.out.below hbe);replace Ch:=iH (Ch.out.below aV (by decide) hbe);replace HB:=iH (ah HB.out hbe);clear hbe uw yO BF
 generalize (w2.alloc (.cells #[iI C.id, iI C.session, iI C.next, .slice wa C.waits.length wc] 73)).drew=w3 at *;obtain ⟨B5,Ld⟩:∃B5,w2.heap.size=B5:=⟨_,rfl⟩;rw [Ld] at H5⊢;clear Ld;refine eZ (fun wx=>w3=wx) rfl ?_;rintro _ rfl;have y0:=HX.out.cell 0 _ rfl;obtain ⟨z0,z1,z2,z3⟩:=dJ H5.out;go_upto_region 6 with (fail)
 go_wp2_with fail
 refine (Ad C _ _ w3 Ch.out O9.out).mono ?_;rintro e w4 ⟨rfl,hb4⟩;clear y0 z0 z1 z2 z3;have Li:=iH (HM.out.below hb4);have GV:=iH (ah HB.out hb4);clear hb4
 go_wp2_with fail
 refine (xV m n x X Z w4 ⟨_,_,_,_,Li.out⟩ gG.out hn (iY C).1 (iY C).2 Dx).mono ?_;rintro e w5 ⟨rfl,hcd⟩;rw [←GR.out] at hcd;have vX:=iH (hcd.after GV.out);clear hcd;go_wp2;go_ret;rw [GR.out] at vX;rw [GR.out];exact ⟨rfl,vX.out⟩
theorem Ag (m n:Nat) (x:bS) (X:Nat) (Z:Nat→Prop) (w:World) (h:gW 45 73 101 9 w X x Z) (hok:aT m n x) (a:dK) (ha:fC a) (hr0:0≤a.c) (hr3:a.c<x.bu.length) (hn:n<400) (hk:a.kind=3) :
 Calls Tryz.prog 86 #[iP X 0, .agg #[iI a.kind, iI a.c, iI a.r, iI a.k, iI a.op.kind, iS a.op.a, iS a.op.b, iI a.op.n]] w fun e w'=>e=.returned (iI (lH x (gp (iq x a.c.toNat) a.k)).2)∧eY 45 73 101 9 w X Z w' (lH x (gp (iq x a.c.toNat) a.k)).1:=by
 have HH:=iH h;have gG:=iH hok;obtain ⟨i,hi⟩:∃i:Nat,(i:Int)=a.c:=⟨a.c.toNat,by omega⟩;have him:i<x.bu.length:=by omega
 obtain ⟨hk0,hk1⟩:=ha.k;obtain ⟨kd,c,r',k,op⟩:=a;simp only at hi hr0 hr3 hk hk0 hk1⊢;subst hi hk;simp only [Int.toNat_natCast];have BB:=(hok.bu i (by have:=hok.tK;omega)).1;clear h hok ha hr0 hr3;have hd1:decide ((i:Int)<0)=false:=decide_eq_false (by omega);have hd2:decide (x.bu.length≤i)=false:=decide_eq_false (by omega)
 go_enter Tryz.func86,Tryz.ntmps86
 go_upto_region 1 with (fail);generalize bF:w.alloc (.cells #[iI 3, iI (i:Int), iI r', iI k, iI op.kind, iS op.a, iS op.b, iI op.n] 70)=w1 at *;have hbz:=tQ bF;have HX:=iH (tO bF);have nL:=iH (cB HH.out hbz);have HB:=iH hbz;clear hbz HH;clear bF;obtain ⟨BX,jT⟩:∃BX,w.heap.size=BX:=⟨_,rfl⟩;rw [jT] at HX⊢;have yY:=iH jT;clear jT;obtain ⟨vr,vc,vm,vk,hm⟩:=nL.out;obtain ⟨g,cap,cv,hv,hcap,hmax,hcells,hwt⟩:=hm.uE him;subst hv;unfold maxLen at hmax;obtain ⟨C,hC⟩:∃C,iq x i=C:=⟨_,rfl⟩;have GR:=iH hC;rw [hC] at hcells hwt BB;clear hC;obtain ⟨wa,wc,rfl,-,-,-,-⟩:=id hwt;have c0:=hcells 0 _ rfl;have c1:=hcells 1 _ rfl;have c2:=hcells 2 _ rfl;have c3:=hcells 3 _ rfl;simp only [Nat.add_zero] at c0;have hgl:=World.block_lt_of_cell? w1 _ c0;have xY:=hm.box.lt;have Gc:=HX.out.lt;have hone:=hm.rep.oneCell;have kL:=hm.jh.oneCell;have qb:=hm.comm.oneCell;have Wu:(i:Int)<(x.bu.length:Int):=by omega
 have HM:=iH hm;have Ch:=iH hwt;have O9:=iH BB;have x1:=hm.box.cell 1 _ rfl;have y1:=HX.out.cell 1 _ rfl;clear hm hcells hwt nL BB
 go_quiet (fail)
 have hbd:Below w1.heap.size w1 (w1.drewN nq):=below_drewN iB _;replace HM:=iH (HM.out.below hbd);replace HX:=iH (HX.out.below hbd);replace Ch:=iH (Ch.out.below aV (by decide) hbd);replace HB:=iH (ah HB.out hbd);have d0:=aB c0 (hbd.block g hgl);have d1:=aB c1 (hbd.block g hgl);have d2:=aB c2 (hbd.block g hgl);have d3:=aB c3 (hbd.block g hgl);have uw:g<(w1.drewN nq).heap.size:=Nat.lt_of_lt_of_le hgl hbd.size;have yO:X<(w1.drewN nq).heap.size:=Nat.lt_of_lt_of_le xY hbd.size;have BF:BX<(w1.drewN nq).heap.size:=Nat.lt_of_lt_of_le Gc hbd.size;clear hd1 hd2 c0 c1 c2 c3 x1 y1 hbd hgl xY Gc;generalize w1.drewN nq=w2 at *;have x1:=HM.out.box.cell 1 _ rfl;have y1:=HX.out.cell 1 _ rfl;go_upto_region 3 with (fail);go_region;have hbe:Below w2.heap.size w2 (w2.alloc (.cells #[iI C.id, iI C.session, iI C.next, .slice wa C.waits.length wc] 73)).drew:=Below.drew (aj w2 _);have H5:=iH (aD.drew (aD.new (w:=w2) (cs:=[iI C.id, iI C.session, iI C.next, .slice wa C.waits.length wc]) (E:=73)));clear d0 d1 d2 d3 x1 y1;replace HM:=iH (HM.out.below hbe);replace HX:=iH (HX.out.below hbe);replace Ch:=iH (Ch.out.below aV (by decide) hbe);replace HB:=iH (ah HB.out hbe);clear hbe uw yO BF
 generalize (w2.alloc (.cells #[iI C.id, iI C.session, iI C.next, .slice wa C.waits.length wc] 73)).drew=w3 at *;obtain ⟨B5,Ld⟩:∃B5,w2.heap.size=B5:=⟨_,rfl⟩;rw [Ld] at H5⊢;clear Ld;refine eZ (fun wx=>w3=wx) rfl ?_;rintro _ rfl;have y0:=HX.out.cell 0 _ rfl;obtain ⟨z0,z1,z2,z3⟩:=dJ H5.out;have y3:=HX.out.cell 3 _ rfl;go_upto_region 8 with (fail)
 go_wp2_with fail
 refine (xN C k _ _ w3 Ch.out O9.out ⟨hk0,hk1⟩).mono ?_;rintro e w4 ⟨rfl,hb4⟩;clear y3;clear y0 z0 z1 z2 z3;have Li:=iH (HM.out.below hb4);have GV:=iH (ah HB.out hb4);clear hb4
 go_wp2_with fail
 refine (xV m n x X Z w4 ⟨_,_,_,_,Li.out⟩ gG.out hn (gp C k).1 (gp C k).2 ze).mono ?_;rintro e w5 ⟨rfl,hcd⟩;rw [←GR.out] at hcd;have vX:=iH (hcd.after GV.out);clear hcd;go_wp2;go_ret;rw [GR.out] at vX;rw [GR.out];exact ⟨rfl,vX.out⟩
end Go.Proofs.YtbngpjdflblffaaGreatDoor
