/- A part of the proof, laid together from: RepC, LogE. -/
import Derived.Test.YtbngpjdflblffaaGreatDoorPa23
set_option linter.all false
set_option maxRecDepth 100000
set_option maxHeartbeats 3200000
namespace Go.Tk
open Go Go.RowKit
structure zB (E:Nat) (w0 wc w:World) (B:Nat) (base:Int) (v:Value) (out:List Bytes):Prop where
 box:aD w B [iI base,v]
 own:bZ E 1 iw w v out (fun _=>False)
 apart:∀g,v.ownBlock=some g→w0.heap.size+2≤g∧g≠B
 from_:w0.heap.size+2≤B
 below:Below (w0.heap.size+2) wc w
theorem zB.go {E:Nat} {w0 wc w w':World} {B:Nat} {base:Int} {v:Value} {out:List Bytes} (h:zB E w0 wc w B base v out) (hs:wc.heap.size=w0.heap.size+2) (hb:Below w.heap.size w w'):zB E w0 wc w' B base v out :=
 ⟨h.box.below hb,h.own.below aK hb,h.apart,h.from_,h.below.trans (hb.mono (by have:=h.below.size;omega))⟩
theorem zB.app {E:Nat} {w0 wc w w':World} {B:Nat} {base:Int} {v v1 v':Value} {out o1:List Bytes} (h:zB E w0 wc w B base v out) (hs:wc.heap.size=w0.heap.size+2) (ho:bZ E 1 iw w' v' o1 (fun _=>False)) (hg:w.grownBy w' v1.ownBlock)
 (h1:∀g,v1.ownBlock=some g→v.ownBlock=some g) (hv:v'.ownBlock=v1.ownBlock∨∃x,v'.ownBlock=some x∧w.heap.size≤x):zB E w0 wc (w'.setCell ⟨B,1,none⟩ v') B base v' o1:=by
 have hap:∀g,v'.ownBlock=some g→w0.heap.size+2≤g∧g≠B:=fun g hgg=>by
  rcases hv with e | ⟨y,e,hy⟩
  ·exact h.apart g (h1 g (by rw [←e];exact hgg))
  ·rw [e] at hgg;cases hgg
   have h2:=h.below.size;have h3:=h.box.lt;exact ⟨by omega,by omega⟩
 have hne:some B≠v1.ownBlock:=fun e=>(h.apart B (h1 B e.symm)).2 rfl
 refine ⟨((h.box.grown hg hne).set 1 (by simp) v'),ho.move aK (fun g hgg=>aC (hap g hgg).2) (fun b hb=>hb.elim),hap,h.from_,?_⟩;exact ay (h.below.grown hg (by have:=h.below.size;omega) fun k hk=>(h.apart k (h1 k hk)).1) (by exact h.from_) 1 _
end Go.Tk
namespace Go.Proofs.YtbngpjdflblffaaGreatDoor
open Go.RowKit Go.Tk
theorem AY (r:dL) (ks:bf) (ve vl vp vz:Value) (S:Nat→Prop) (w:World) (h:dh w r ve vl vp vz S) (hr:qY r ks) (t:bf) (ht:mO t) (h1:r.state.index<t.index) (h2:t.index≤1073741424) :
 Calls Tryz.prog 20 #[.agg #[iI r.log.base,ve, iS r.snap, iI r.state.index,vl,vp,vz], .string ⟨(eD t).toArray⟩] w (yV w ⟨⟨t.index,if t.index≤dH r.log then r.log.entries.drop (t.index - r.log.base).toNat else []⟩,eD t,t⟩ 0):=by
 obtain ⟨o1,o2,o3,o4⟩:=h.ones;have HR:=iH (h.sub (S':=fun b=>b<w.heap.size) fun b _ hlt=>hlt);have HF:=iH hr;obtain ⟨hb0,hb1⟩:=hr.log.base;have hln:=hr.log.len;obtain ⟨hi0,hi1⟩:=hr.at_;unfold dH at hi1;clear h hr;have HT:=iH ht;have Rt:=iH (fun w=>sV t ht w);rw [show bn t++jI (bn t)=eD t from rfl] at Rt;clear ht;obtain ⟨LL,WW⟩:∃LL,(if t.index≤dH r.log then r.log.entries.drop (t.index - r.log.base).toNat else [])=LL:=⟨_,rfl⟩;rw [WW];have Rm:=iH WW;clear WW
 go_enter Tryz.func20,Tryz.ntmps20
 go_upto_region 1 with (fail);have HX:=iH ((aD.new (w:=w) (cs:=[iI r.log.base,ve, iS r.snap, iI r.state.index,vl,vp,vz]) (E:=45)).below (aj _ (.cells #[iI 0, iN, .string ⟨#[]⟩, iI 0, iN, iN, iN] 45)));have hz:=aD.new (w:=w.alloc (.cells #[iI r.log.base,ve, iS r.snap, iI r.state.index,vl,vp,vz] 45)) (cs:=[iI 0, iN, .string ⟨#[]⟩, iI 0, iN, iN, iN]) (E:=45);rw [World.size_alloc] at hz;have HZ:=iH hz;clear hz;have HB:=iH (below_alloc2 w (.cells #[iI r.log.base,ve, iS r.snap, iI r.state.index,vl,vp,vz] 45) (.cells #[iI 0, iN, .string ⟨#[]⟩, iI 0, iN, iN, iN] 45));replace HR:=iH (HR.out.below HB.out);generalize (w.alloc (.cells #[iI r.log.base,ve, iS r.snap, iI r.state.index,vl,vp,vz] 45)).alloc (.cells #[iI 0, iN, .string ⟨#[]⟩, iI 0, iN, iN, iN] 45)=w0 at *;obtain ⟨x0,x1,x2,x3,x4,x5,x6⟩:=gM HX.out
 go_wp2_with fail
 refine (lq r ks _ _ _ _ _ w0 HR.out HF.out).mono ?_;rintro e w1 ⟨rfl,hb1⟩;clear x0 x1 x2 x3 x4 x5 x6;replace HR:=iH (HR.out.below hb1);replace HX:=iH (HX.out.below hb1);replace HZ:=iH (HZ.out.below hb1);replace HB:=iH (ah HB.out hb1);clear hb1
 go_wp2_with fail
 refine (Rt.out w1).mono ?_;rintro e w2 ⟨ul,up,uz,rfl,hst,hb2⟩;obtain ⟨a5,c5,rfl,-,-,-,-⟩:=id hst.lock;obtain ⟨a6,c6,rfl,-,-,-,-⟩:=id hst.pair;obtain ⟨a7,c7,rfl,-,-,-,-⟩:=id hst.dG;have HS:=iH (hst.sub (S':=fun b=>w.heap.size+2≤b) fun b hb _=>by show _≤_;have:w1.heap.size≤b:=hb;have:=HZ.out.lt;omega);clear hst Rt;replace HR:=iH (HR.out.below hb2);replace HX:=iH (HX.out.below hb2);replace HZ:=iH (HZ.out.below hb2);replace HB:=iH (ah HB.out hb2);clear hb2;go_upto_region 5 with (fail);have Jw:=HZ.out.lt;have hby:w.heap.size+1<w2.heap.size:=Jw;clear Jw;have HY:=iH (aD.new (w:=w2) (cs:=[iI t.index, .slice a5 t.au.length c5, .slice a6 t.pairs.length c6, .slice a7 t.af.length c7]) (E:=27));have hba:=aj w2 (.cells #[iI t.index, .slice a5 t.au.length c5, .slice a6 t.pairs.length c6, .slice a7 t.af.length c7] 27);replace HR:=iH (HR.out.below hba);replace HX:=iH (HX.out.below hba);replace HZ:=iH (HZ.out.below hba);replace HB:=iH (ah HB.out hba);replace HS:=iH (HS.out.below hba);clear hba;generalize w2.alloc (.cells #[iI t.index, .slice a5 t.au.length c5, .slice a6 t.pairs.length c6, .slice a7 t.af.length c7] 27)=w3 at *;generalize w2.heap.size=BY at *;have y0:=HY.out.cell 0 _ rfl;have x3:=HX.out.cell 3 _ rfl;have hd1:decide (t.index≤r.state.index)=false:=decide_eq_false (by omega)
 have hd2:decide (1073741424<t.index)=false:=decide_eq_false (by omega);go_upto_region 12 with (fail);clear hd1 hd2 y0 x3;have Jw:=HZ.out.lt;have hyq:=HY.out.lt;have hbl:w.heap.size+1<w3.heap.size:=Jw;have hbyl:BY<w3.heap.size:=hyq;clear Jw hyq;replace HS:=iH (HS.out.sub (S':=fun b=>w.heap.size+2≤b∧b≠w3.heap.size) fun b hb hl=>⟨hb,by omega⟩);have HL:=iH (aD.new (w:=w3) (cs:=[iI t.index, iN]) (E:=43));have hba:=aj w3 (.cells #[iI t.index, iN] 43);replace HR:=iH (HR.out.below hba);replace HX:=iH (HX.out.below hba);replace HZ:=iH (HZ.out.below hba);replace HB:=iH (ah HB.out hba);replace HS:=iH (HS.out.below hba);replace HY:=iH (HY.out.below hba);clear hba;generalize w3.alloc (.cells #[iI t.index, iN] 43)=w4 at *;generalize w3.heap.size=BL at *
 by_cases hc:t.index≤dH r.log
 ·refine bH 6 (fun wx=>Below w4.heap.size w4 wx) (fun wx wy=>Below wx.heap.size wx wy) [aW (iP BY 0),aW (iI t.index),aW (iP (w.heap.size) 0),aW (.agg #[iI r.log.base,ve]),aW (iI (dH r.log)),aW (.bool true)] (by kernel_rfl) (by kernel_rfl) rfl ?hJ ?jP ?hst ?ek ?hend
  case hJ=>exact Below.drew iB
  case jP =>
   exact fun wx wy h1 h2=>ah h1 h2
  case hst=>exact bX _ ⟨ax _,ax _,ax _,ax _,ax _,ax _,trivial⟩
  case ek =>
   simp only [dY,aJ,Act.put,Nat.reduceAdd,Nat.zero_add,pS];refine ⟨?_,?_,?_,?_,?_,?_,trivial⟩
   all_goals
    intro vs1 wx hJ hn K hK;simp [dA,mJ,aW,Region.binds] at hn;simp only [mJ,aW,Act.put,Nat.reduceAdd,Nat.zero_add,pS] at hK
   ·go_wp2
    exact hK _ _ iB rfl
   ·simp only [hn] at hK⊢
    have hy:=HY.out.below hJ;have y0:=hy.cell 0 _ rfl;go_wp2;exact hK _ _ iB rfl
   ·go_wp2
    exact hK _ _ iB rfl
   ·simp only [hn] at hK⊢
    have hx:=HX.out.below hJ;obtain ⟨x0,x1⟩:=qw hx;go_wp2;exact hK _ _ iB rfl
   ·simp only [hn] at hK⊢
    have hsx:=HR.out.below hJ
    go_wp2_with fail
    refine (gF r.log _ _ wx hsx.lD (by omega) (by omega)).mono ?_;rintro e w5 ⟨rfl,hb5⟩;go_wp2;exact hK _ _ hb5 rfl
   ·simp only [hn] at hK⊢
    have hd:decide (t.index≤dH r.log)=true:=decide_eq_true hc;generalize dH r.log=la at *;go_wp2;exact hK _ _ iB rfl
  case hend =>
   intro vs1 wx hJ hv;simp [eF,aW] at hv;obtain ⟨e0,e1,e2,e3,e4,e5⟩:=hv;simp only [aJ,Act.put,Nat.reduceAdd,Nat.zero_add,pS];rw [e0,e1,e2,e3,e4,e5];clear e0 e1 e2 e3 e4 e5;replace HR:=iH (HR.out.below hJ);replace HX:=iH (HX.out.below hJ);replace HZ:=iH (HZ.out.below hJ);replace HB:=iH (ah HB.out hJ);replace HS:=iH (HS.out.below hJ);replace HY:=iH (HY.out.below hJ);replace HL:=iH (HL.out.below hJ);clear hJ
   rename World=>w5
   have HV:=iH (show p8 r.log t.index=(⟨t.index,r.log.entries.drop (t.index - r.log.base).toNat⟩,0) by
    rw [p8,if_neg (by simp [jX.2 HF.out.log]),if_neg (by omega),if_neg (by omega)])
   have Vr:=iH (show LL=r.log.entries.drop (t.index - r.log.base).toNat from Rm.out.symm.trans (if_pos hc));obtain ⟨d,hd⟩:∃d,r.log.entries.drop (t.index - r.log.base).toNat=d:=⟨_,rfl⟩;rw [hd] at HV Vr;clear hd hc Rm;have y0:=HY.out.cell 0 _ rfl;obtain ⟨x0,x1,x2,x3,x4,x5,x6⟩:=gM HX.out
   go_wp2_with fail
   refine (xB r.log _ _ w5 HR.out.lD HF.out.log HF.out.log.small t.index ⟨by omega,by omega⟩).mono ?_;rw [HV.out];rintro e w6 ⟨RJ,rfl,hs2,hb6⟩;obtain ⟨b5,d5,rfl,-,-,-,-⟩:=id hs2;have HE:=iH (aZ.sub aK (by decide) hs2 (S':=fun b=>w.heap.size+2≤b∧b≠BL) fun b hb _=>by have h1:w5.heap.size≤b:=hb;have h2:=HZ.out.lt;have h3:=HL.out.lt;exact ⟨by omega,by omega⟩);clear hs2 y0;clear x0 x1 x2 x3 x4 x5 x6;replace HR:=iH (HR.out.below hb6);replace HX:=iH (HX.out.below hb6);replace HZ:=iH (HZ.out.below hb6);replace HB:=iH (ah HB.out hb6);replace HS:=iH (HS.out.below hb6);replace HY:=iH (HY.out.below hb6);replace HL:=iH (HL.out.below hb6);clear hb6;replace HE:=iH (show aZ 1 iw w6 (.slice b5 d.length d5) d (fun b=>w.heap.size+2≤b∧b≠BL) from HE.out);clear HR;obtain ⟨l0,l1⟩:=qw HL.out;obtain ⟨lt0,lt1⟩:=OO HL.out;have hzl:=HZ.out.lt;have hyl:=HY.out.lt;go_upto_region 14 with (fail);generalize bF:((w6.setCell ⟨BL,0,none⟩ (iI t.index)).setCell ⟨BL,1,none⟩ (.slice b5 d.length d5))=w7 at *;have oI:Hid (aD w7 (w.heap.size) [iI r.log.base,ve, iS r.snap, iI r.state.index,vl,vp,vz]):=bF▸iH (aD.fK (by omega) [iI t.index, .slice b5 d.length d5] 0 HX.out)
   have mg:Hid (aD w7 (w.heap.size+1) [iI 0, iN, .string ⟨#[]⟩, iI 0, iN, iN, iN]):=bF▸iH (aD.fK (by omega) [iI t.index, .slice b5 d.length d5] 0 HZ.out);have lS:Hid (Below w.heap.size w w7):=bF▸iH (bG (by omega) [iI t.index, .slice b5 d.length d5] 0 _ HB.out);have Gw:Hid (fT w7 t (.slice a5 t.au.length c5) (.slice a6 t.pairs.length c6) (.slice a7 t.af.length c7) (fun b=>w.heap.size+2≤b∧b≠BL)):=bF▸iH (fT.store HS.out 0 [iI t.index, .slice b5 d.length d5] fun k hk=>⟨hk.2,hk⟩);have zD:Hid (aD w7 (BY) [iI t.index, .slice a5 t.au.length c5, .slice a6 t.pairs.length c6, .slice a7 t.af.length c7]):=bF▸iH (aD.fK (by omega) [iI t.index, .slice b5 d.length d5] 0 HY.out);have tT:Hid (aD w7 (BL) [iI t.index, .slice b5 d.length d5]):=bF▸iH (aD.store (w:=w6) [iI t.index, .slice b5 d.length d5] [iI t.index, iN] 0 HL.out (by simp));have K6:Hid (aZ 1 iw w7 (.slice b5 d.length d5) d (fun b=>w.heap.size+2≤b∧b≠BL)):=bF▸iH (aZ.store aK (by decide) HE.out 0 [iI t.index, .slice b5 d.length d5] fun k hk=>⟨hk.2,hk⟩);clear hzl hyl;clear bF;replace HX:=oI;clear oI;replace HZ:=mg;clear mg;replace HB:=lS;clear lS;replace HS:=Gw;clear Gw;replace HY:=zD;clear zD;replace HL:=tT;clear tT;replace HE:=K6;clear K6;clear l0 lt0 l1 lt1
   obtain ⟨l0,l1⟩:=qw HL.out;obtain ⟨y0,y1,y2,y3⟩:=dJ HY.out;obtain ⟨z0,z1,z2,z3,z4,z5,z6⟩:=gM HZ.out;obtain ⟨NL,NK,NJ,NI,P5,PZ,PY⟩:=sK HZ.out;have hzl:=HZ.out.lt;go_wp2;generalize bF:(((((((w7.setCell ⟨w.heap.size+1,0,none⟩ (iI t.index)).setCell ⟨w.heap.size+1,1,none⟩ (.slice b5 d.length d5)).setCell ⟨w.heap.size+1,2,none⟩ (.string ⟨(eD t).toArray⟩)).setCell ⟨w.heap.size+1,3,none⟩ (iI t.index)).setCell ⟨w.heap.size+1,4,none⟩ (.slice a5 t.au.length c5)).setCell ⟨w.heap.size+1,5,none⟩ (.slice a6 t.pairs.length c6)).setCell ⟨w.heap.size+1,6,none⟩ (.slice a7 t.af.length c7))=wf at *;have oI:Hid (aD wf (w.heap.size) [iI r.log.base,ve, iS r.snap, iI r.state.index,vl,vp,vz]):=bF▸iH (aD.fK (by omega) [iI t.index, .slice b5 d.length d5, .string ⟨(eD t).toArray⟩, iI t.index, .slice a5 t.au.length c5, .slice a6 t.pairs.length c6, .slice a7 t.af.length c7] 0 HX.out)
   have mg:Hid (aD wf (w.heap.size+1) [iI t.index, .slice b5 d.length d5, .string ⟨(eD t).toArray⟩, iI t.index, .slice a5 t.au.length c5, .slice a6 t.pairs.length c6, .slice a7 t.af.length c7]):=bF▸iH (aD.store (w:=w7) [iI t.index, .slice b5 d.length d5, .string ⟨(eD t).toArray⟩, iI t.index, .slice a5 t.au.length c5, .slice a6 t.pairs.length c6, .slice a7 t.af.length c7] [iI 0, iN, .string ⟨#[]⟩, iI 0, iN, iN, iN] 0 HZ.out (by simp));have lS:Hid (Below w.heap.size w wf):=bF▸iH (bG (by omega) [iI t.index, .slice b5 d.length d5, .string ⟨(eD t).toArray⟩, iI t.index, .slice a5 t.au.length c5, .slice a6 t.pairs.length c6, .slice a7 t.af.length c7] 0 _ HB.out);have Gw:Hid (fT wf t (.slice a5 t.au.length c5) (.slice a6 t.pairs.length c6) (.slice a7 t.af.length c7) (fun b=>w.heap.size+2≤b∧b≠BL)):=bF▸iH (fT.store HS.out 0 [iI t.index, .slice b5 d.length d5, .string ⟨(eD t).toArray⟩, iI t.index, .slice a5 t.au.length c5, .slice a6 t.pairs.length c6, .slice a7 t.af.length c7] fun k hk=>⟨by have:=hk.1;omega,hk⟩)
   have zD:Hid (aD wf (BY) [iI t.index, .slice a5 t.au.length c5, .slice a6 t.pairs.length c6, .slice a7 t.af.length c7]):=bF▸iH (aD.fK (by omega) [iI t.index, .slice b5 d.length d5, .string ⟨(eD t).toArray⟩, iI t.index, .slice a5 t.au.length c5, .slice a6 t.pairs.length c6, .slice a7 t.af.length c7] 0 HY.out);have tT:Hid (aD wf (BL) [iI t.index, .slice b5 d.length d5]):=bF▸iH (aD.fK (by omega) [iI t.index, .slice b5 d.length d5, .string ⟨(eD t).toArray⟩, iI t.index, .slice a5 t.au.length c5, .slice a6 t.pairs.length c6, .slice a7 t.af.length c7] 0 HL.out);have K6:Hid (aZ 1 iw wf (.slice b5 d.length d5) d (fun b=>w.heap.size+2≤b∧b≠BL)):=bF▸iH (aZ.store aK (by decide) HE.out 0 [iI t.index, .slice b5 d.length d5, .string ⟨(eD t).toArray⟩, iI t.index, .slice a5 t.au.length c5, .slice a6 t.pairs.length c6, .slice a7 t.af.length c7] fun k hk=>⟨by have:=hk.1;omega,hk⟩);clear bF;replace HX:=oI;clear oI;replace HZ:=mg;clear mg;replace HB:=lS;clear lS;replace HS:=Gw;clear Gw;replace HY:=zD;clear zD;replace HL:=tT;clear tT;replace HE:=K6;clear K6;obtain ⟨g0,g1,g2,g3,g4,g5,g6⟩:=gM HZ.out
   refine bodyPost_ret (v:=.tuple #[.agg #[iI t.index, .slice b5 d.length d5, .string ⟨(eD t).toArray⟩, iI t.index, .slice a5 t.au.length c5, .slice a6 t.pairs.length c6, .slice a7 t.af.length c7], iI 0]) (by simp [results,Tryz.results20,go_sem,g0,g1,g2,g3,g4,g5,g6]) rfl ⟨_,_,_,_,rfl,⟨by rw [Vr.out];exact HE.out.sub aK (by decide) fun b hb _=>by show _≤_;have:=hb.1;omega,HS.out.sub fun b hb _=>by show _≤_;have:=hb.1;omega⟩,HB.out⟩
 ·refine bH 6 (fun wx=>Below w4.heap.size w4 wx) (fun wx wy=>Below wx.heap.size wx wy) [aW (iP BY 0),aW (iI t.index),aW (iP (w.heap.size) 0),aW (.agg #[iI r.log.base,ve]),aW (iI (dH r.log)),aW (.bool false)] (by kernel_rfl) (by kernel_rfl) rfl ?hJ ?jP ?hst ?ek ?hend
  case hJ=>exact Below.drew iB
  case jP =>
   exact fun wx wy h1 h2=>ah h1 h2
  case hst=>exact bX _ ⟨ax _,ax _,ax _,ax _,ax _,ax _,trivial⟩
  case ek =>
   simp only [dY,aJ,Act.put,Nat.reduceAdd,Nat.zero_add,pS];refine ⟨?_,?_,?_,?_,?_,?_,trivial⟩
   all_goals
    intro vs1 wx hJ hn K hK;simp [dA,mJ,aW,Region.binds] at hn;simp only [mJ,aW,Act.put,Nat.reduceAdd,Nat.zero_add,pS] at hK
   ·go_wp2
    exact hK _ _ iB rfl
   ·simp only [hn] at hK⊢
    have hy:=HY.out.below hJ;have y0:=hy.cell 0 _ rfl;go_wp2;exact hK _ _ iB rfl
   ·go_wp2
    exact hK _ _ iB rfl
   ·simp only [hn] at hK⊢
    have hx:=HX.out.below hJ;obtain ⟨x0,x1⟩:=qw hx;go_wp2;exact hK _ _ iB rfl
   ·simp only [hn] at hK⊢
    have hsx:=HR.out.below hJ
    go_wp2_with fail
    refine (gF r.log _ _ wx hsx.lD (by omega) (by omega)).mono ?_;rintro e w5 ⟨rfl,hb5⟩;go_wp2;exact hK _ _ hb5 rfl
   ·simp only [hn] at hK⊢
    have hd:decide (t.index≤dH r.log)=false:=decide_eq_false hc;generalize dH r.log=la at *;go_wp2;exact hK _ _ iB rfl
  case hend =>
   intro vs1 wx hJ hv;simp [eF,aW] at hv;obtain ⟨e0,e1,e2,e3,e4,e5⟩:=hv;simp only [aJ,Act.put,Nat.reduceAdd,Nat.zero_add,pS];rw [e0,e1,e2,e3,e4,e5];clear e0 e1 e2 e3 e4 e5;replace HR:=iH (HR.out.below hJ);replace HX:=iH (HX.out.below hJ);replace HZ:=iH (HZ.out.below hJ);replace HB:=iH (ah HB.out hJ);replace HS:=iH (HS.out.below hJ);replace HY:=iH (HY.out.below hJ);replace HL:=iH (HL.out.below hJ);clear hJ
   rename World=>w5
   have Vr:=iH (show LL=[] from Rm.out.symm.trans (if_neg hc));clear hc Rm;clear HR;obtain ⟨l0,l1⟩:=qw HL.out;obtain ⟨y0,y1,y2,y3⟩:=dJ HY.out;obtain ⟨z0,z1,z2,z3,z4,z5,z6⟩:=gM HZ.out;obtain ⟨NL,NK,NJ,NI,P5,PZ,PY⟩:=sK HZ.out;have hzl:=HZ.out.lt;go_wp2;generalize bF:(((((((w5.setCell ⟨w.heap.size+1,0,none⟩ (iI t.index)).setCell ⟨w.heap.size+1,1,none⟩ (iN)).setCell ⟨w.heap.size+1,2,none⟩ (.string ⟨(eD t).toArray⟩)).setCell ⟨w.heap.size+1,3,none⟩ (iI t.index)).setCell ⟨w.heap.size+1,4,none⟩ (.slice a5 t.au.length c5)).setCell ⟨w.heap.size+1,5,none⟩ (.slice a6 t.pairs.length c6)).setCell ⟨w.heap.size+1,6,none⟩ (.slice a7 t.af.length c7))=wf at *;have oI:Hid (aD wf (w.heap.size) [iI r.log.base,ve, iS r.snap, iI r.state.index,vl,vp,vz]):=bF▸iH (aD.fK (by omega) [iI t.index, iN, .string ⟨(eD t).toArray⟩, iI t.index, .slice a5 t.au.length c5, .slice a6 t.pairs.length c6, .slice a7 t.af.length c7] 0 HX.out)
   have mg:Hid (aD wf (w.heap.size+1) [iI t.index, iN, .string ⟨(eD t).toArray⟩, iI t.index, .slice a5 t.au.length c5, .slice a6 t.pairs.length c6, .slice a7 t.af.length c7]):=bF▸iH (aD.store (w:=w5) [iI t.index, iN, .string ⟨(eD t).toArray⟩, iI t.index, .slice a5 t.au.length c5, .slice a6 t.pairs.length c6, .slice a7 t.af.length c7] [iI 0, iN, .string ⟨#[]⟩, iI 0, iN, iN, iN] 0 HZ.out (by simp));have lS:Hid (Below w.heap.size w wf):=bF▸iH (bG (by omega) [iI t.index, iN, .string ⟨(eD t).toArray⟩, iI t.index, .slice a5 t.au.length c5, .slice a6 t.pairs.length c6, .slice a7 t.af.length c7] 0 _ HB.out);have Gw:Hid (fT wf t (.slice a5 t.au.length c5) (.slice a6 t.pairs.length c6) (.slice a7 t.af.length c7) (fun b=>w.heap.size+2≤b∧b≠BL)):=bF▸iH (fT.store HS.out 0 [iI t.index, iN, .string ⟨(eD t).toArray⟩, iI t.index, .slice a5 t.au.length c5, .slice a6 t.pairs.length c6, .slice a7 t.af.length c7] fun k hk=>⟨by have:=hk.1;omega,hk⟩)
   have zD:Hid (aD wf (BY) [iI t.index, .slice a5 t.au.length c5, .slice a6 t.pairs.length c6, .slice a7 t.af.length c7]):=bF▸iH (aD.fK (by omega) [iI t.index, iN, .string ⟨(eD t).toArray⟩, iI t.index, .slice a5 t.au.length c5, .slice a6 t.pairs.length c6, .slice a7 t.af.length c7] 0 HY.out);have tT:Hid (aD wf (BL) [iI t.index, iN]):=bF▸iH (aD.fK (by omega) [iI t.index, iN, .string ⟨(eD t).toArray⟩, iI t.index, .slice a5 t.au.length c5, .slice a6 t.pairs.length c6, .slice a7 t.af.length c7] 0 HL.out);clear bF;replace HX:=oI;clear oI;replace HZ:=mg;clear mg;replace HB:=lS;clear lS;replace HS:=Gw;clear Gw;replace HY:=zD;clear zD;replace HL:=tT;clear tT;obtain ⟨g0,g1,g2,g3,g4,g5,g6⟩:=gM HZ.out;refine bodyPost_ret (v:=.tuple #[.agg #[iI t.index, iN, .string ⟨(eD t).toArray⟩, iI t.index, .slice a5 t.au.length c5, .slice a6 t.pairs.length c6, .slice a7 t.af.length c7], iI 0]) (by simp [results,Tryz.results20,go_sem,g0,g1,g2,g3,g4,g5,g6]) rfl ⟨_,_,_,_,rfl,⟨by rw [Vr.out];exact aZ.nil _ _,HS.out.sub fun b hb _=>by show _≤_;have:=hb.1;omega⟩,HB.out⟩
theorem Tryz.LB:dM Tryz.prog 30 9 1 16:=⟨Tryz.underlying30,by kernel_rfl,by decide⟩
theorem Em (l:pq) (more:List Bytes) (v vm:Value) (S Sm:Nat→Prop) (w:World) (h:aZ 1 iw w v l.entries S) (hmr:aZ 1 iw w vm more Sm) (hok:uO l) (hs:∀s∈l.entries,s.length≤1000000) (hmd:∀s∈more,dI s=0) (hms:∀s∈more,s.length≤1000000)
 (x:Int) (hx:-9223372036854775808≤x∧x≤9223372036854775807) (hsk:¬ x<l.base) :
 Calls Tryz.prog 48 #[.agg #[iI l.base,v], iI x,vm] w (Nj w (oM l x more)):=by
 have HC:=iH (jX.2 hok);obtain ⟨hb0,hb1⟩:=hok.base;have hlen:=hok.len;obtain ⟨hx0,hx1⟩:=hx;have HV:=iH (show oM l x more=if x<0∨1073741824<x then (ku,2) else if 400<more.length then (ku,1) else if dH l<x then (ku,13)
  else if (jD (more.drop (jH l x more)) (x+jH l x more - l.base).toNat l.entries).2≠0 then (ku,(jD (more.drop (jH l x more)) (x+jH l x more - l.base).toNat l.entries).2)
  else if 400<(jD (more.drop (jH l x more)) (x+jH l x more - l.base).toNat l.entries).1.length then (ku,8)
  else (⟨l.base,(jD (more.drop (jH l x more)) (x+jH l x more - l.base).toNat l.entries).1⟩,0) by rw [oM,if_neg (by rw [HC.out];simp)])
 obtain ⟨la,hla⟩:∃la,dH l=la:=⟨_,rfl⟩;have hlv:la=l.base+l.entries.length:=hla.symm;have Un:=iH hla;rw [hla] at HV;clear hla hok;obtain ⟨a,cap,hv,hl,hm,hnl,-⟩:=id h;subst hv;obtain ⟨am,QV,hvm,hlm,hcm,hnlm,-⟩:=id hmr;subst hvm;unfold maxLen at hm hcm;have HS:=iH h;have HM:=iH hmr;have HZ:=iH hs;have R6:=iH hmd;have O7:=iH hms;clear h hs hmr hmd hms
 go_enter Tryz.func48,Tryz.ntmps48
 go_wp2_with fail
 refine (ni l _ S _ (HS.out.below aK (by decide) (below_alloc2 w _ _)) HZ.out).mono ?_;rw [HC.out];rintro e w1 ⟨rfl,hb⟩;rw [fq] at hb;obtain ⟨hz,-,hr,hrf,hzs⟩:=ic hb;have z0:=hz 0;have z1:=hz 1;have r0:=hr 0;have r1:=hr 1;have f0:=hrf 0;have f1:=hrf 1;have GU:=iH hb;clear hz hr hrf hb;have hx00:0≤x:=by omega
 by_cases h1:1073741824<x
 ·have HF:=iH (show oM l x more=(ku,2) by rw [HV.out,if_pos (.inr h1)])
  go_wp2;obtain ⟨p0,p1,gQ,-⟩:=mR (B:=w.heap.size+1) (u0:=iI 0) (u1:=iN) r0 r1;generalize (w1.setCell ⟨w.heap.size+1,0,none⟩ (iI 0)).setCell ⟨w.heap.size+1,1,none⟩ (iN)=wf at *;refine bodyPost_ret (v:=.tuple #[.agg #[iI 0, iN], iI 2]) (by simp [results,Tryz.results48,go_sem,p0,p1]) rfl ?_;rw [HF.out];exact ⟨_,rfl,aZ.nil _ _,((below_alloc2 w _ _).trans (GU.out.mono (by omega))).trans (gQ.mono (by omega))⟩
 by_cases h2:400<more.length
 ·have HF:=iH (show oM l x more=(ku,1) by rw [HV.out,if_neg (by omega),if_pos h2])
  go_wp2;obtain ⟨p0,p1,gQ,-⟩:=mR (B:=w.heap.size+1) (u0:=iI 0) (u1:=iN) r0 r1;generalize (w1.setCell ⟨w.heap.size+1,0,none⟩ (iI 0)).setCell ⟨w.heap.size+1,1,none⟩ (iN)=wf at *;refine bodyPost_ret (v:=.tuple #[.agg #[iI 0, iN], iI 1]) (by simp [results,Tryz.results48,go_sem,p0,p1]) rfl ?_;rw [HF.out];exact ⟨_,rfl,aZ.nil _ _,((below_alloc2 w _ _).trans (GU.out.mono (by omega))).trans (gQ.mono (by omega))⟩
 go_wp2_with fail
 refine (gF l _ S _ (HS.out.below aK (by decide) ((below_alloc2 w _ _).trans (GU.out.mono (by omega)))) (by omega) (by omega)).mono ?_;rw [Un.out];rintro e w2 ⟨rfl,hb2⟩;have vD:=iH (GU.out.trans (hb2.mono (by omega)));clear z0 z1 r0 r1 f0 f1 hb2;obtain ⟨hz,-,hr,hrf,Qn⟩:=ic vD.out;have z0:=hz 0;have z1:=hz 1;have r0:=hr 0;have r1:=hr 1;have f0:=hrf 0;have f1:=hrf 1;clear hz hr hrf
 by_cases h3:la<x
 ·have HF:=iH (show oM l x more=(ku,13) by rw [HV.out,if_neg (by omega),if_neg h2,if_pos h3])
  go_wp2;obtain ⟨p0,p1,gQ,-⟩:=mR (B:=w.heap.size+1) (u0:=iI 0) (u1:=iN) r0 r1;generalize (w2.setCell ⟨w.heap.size+1,0,none⟩ (iI 0)).setCell ⟨w.heap.size+1,1,none⟩ (iN)=wf at *;refine bodyPost_ret (v:=.tuple #[.agg #[iI 0, iN], iI 13]) (by simp [results,Tryz.results48,go_sem,p0,p1]) rfl ?_;rw [HF.out];exact ⟨_,rfl,aZ.nil _ _,((below_alloc2 w _ _).trans (vD.out.mono (by omega))).trans (gQ.mono (by omega))⟩
 have wO:=iH (HV.out.trans ((if_neg (by omega)).trans ((if_neg h2).trans (if_neg h3))));clear HV;obtain ⟨k,hk⟩:∃k:Nat,x - l.base=k:=⟨(x - l.base).toNat,by omega⟩;obtain rfl:x=l.base+k:=by omega
 have hkl:k≤l.entries.length:=by omega
 have SN:jH l (l.base+k) more=0:=by rw [jH,if_neg (by omega)]
 have Lh:=wO.out;rw [SN,List.drop_zero,show (l.base+(k:Int)+((0:Nat):Int) - l.base).toNat=k by omega] at Lh;have JP:=iH Lh;clear Lh wO SN
 go_wp2_with fail
 refine (vO l _ S _ (HS.out.below aK (by decide) ((below_alloc2 w _ _).trans (vD.out.mono (by omega)))) (by omega)).mono ?_;rintro e w3 ⟨v3,rfl,ho3,hg3,hb3⟩;obtain ⟨ra,rc,rfl⟩:=ho3.shape;obtain ⟨o,hpo,hol0,SY,hot,hom⟩:=pW more k l.entries R6.out hkl;have HB3:=iH (vD.out.trans (hb3.mono (by omega)));have HP0:=iH (show zB 9 w ((w.alloc (.cells #[iI l.base, .slice a l.entries.length cap] 43)).alloc (.cells #[iI 0, iN] 43)) (w3.alloc (.cells #[iI l.base, .slice ra l.entries.length rc] 43)) w3.heap.size l.base (.slice ra l.entries.length rc) l.entries from
  ⟨aD.new (cs:=[iI l.base, .slice ra l.entries.length rc]),ho3.below aK (aj w3 _),fun g hg=>⟨by have:=hg3 g hg;omega,fun e=>by have:=ho3.lt g hg;omega⟩,by have:=hb3.size;omega,HB3.out.trans ((aj w3 _).mono (by have:=hb3.size;omega))⟩)
 have HPG:=iH hpo;rw [hpo] at JP;have EO:=iH SY;clear hpo hot hom hb3 hg3 ho3 SY;clear z0 z1 r0 r1 f0 f1;go_wp2
 go_loopw [11,12,13,14,15,59] (fun _ _ _ _ _ i wr=>∃(n:Nat) (vo:Value) (out:List Bytes),n≤more.length∧i=iI n∧Hid (zB 9 w ((w.alloc (.cells #[iI l.base, .slice a l.entries.length cap] 43)).alloc (.cells #[iI 0, iN] 43)) wr w3.heap.size l.base vo out)∧Hid (jD (more.drop n) (k+n) out=(o,0))∧k+n≤out.length∧out.length≤1000+n)
  (fun _ _ _ _ _ i _=>more.length - (intOf i).toNat)
 case atStart=>exact ⟨0,_,l.entries,by omega,rfl,HP0,iH (by rw [List.drop_zero,Nat.add_zero];exact HPG.out),by omega,by omega⟩
 case round =>
  obtain ⟨n,vo,out,hn,rfl,hp,U0,hkn,hol⟩:=hrel;obtain ⟨oa,oc,e⟩:=hp.out.own.shape;subst e;have b0:=hp.out.box.cell 0 _ rfl;have b1:=hp.out.box.cell 1 _ rfl;obtain ⟨hz,-,hr,hrf,Et⟩:=ic hp.out.below;have z0:=hz 0;have z1:=hz 1;have r0:=hr 0;have r1:=hr 1;have f0:=hrf 0;have f1:=hrf 1;clear hz hr hrf
  by_cases hlt:n<more.length
  case neg =>
   have hoo:out=o:=by
    have h:=U0.out;rw [List.drop_eq_nil_of_le (by omega),jD] at h;exact (Prod.mk.inj h).1
   subst hoo;have hos:=hp.out.own;have PO:=iH hp.out.below;have ZF:=iH hp.out.apart;clear hp U0
   by_cases h8:400<out.length
   ·have HF:=iH (JP.out.trans ((if_neg (by simp)).trans (if_pos h8)))
    clear JP;go_wp2;obtain ⟨p0,p1,gQ,-⟩:=mR (B:=w.heap.size+1) (u0:=iI 0) (u1:=iN) r0 r1;generalize (wr.setCell ⟨w.heap.size+1,0,none⟩ (iI 0)).setCell ⟨w.heap.size+1,1,none⟩ (iN)=wf at *;refine bodyPost_ret (v:=.tuple #[.agg #[iI 0, iN], iI 8]) (by simp [results,Tryz.results48,go_sem,p0,p1]) rfl ?_;rw [HF.out];exact ⟨_,rfl,aZ.nil _ _,((below_alloc2 w _ _).trans (PO.out.mono (by omega))).trans (gQ.mono (by omega))⟩
   ·have HF:=iH (JP.out.trans ((if_neg (by simp)).trans (if_neg h8)))
    clear JP;go_wp2;obtain ⟨p0,p1,gQ,QA⟩:=mR (B:=w.heap.size+1) (u0:=iI l.base) (u1:=.slice oa out.length oc) r0 r1;have wu:aZ 1 iw ((wr.setCell ⟨w.heap.size+1,0,none⟩ (iI l.base)).setCell ⟨w.heap.size+1,1,none⟩ (.slice oa out.length oc)) (.slice oa out.length oc) out (fun b=>w.heap.size≤b):=((hos.forget (S':=fun _=>False) pF).move (S':=fun _=>False) aK (fun g hg=>QA g (by have:=(ZF.out g hg).1;omega)) (fun b hb=>hb.elim)).sj (fun g hg=>by have:=(ZF.out g hg).1;show w.heap.size≤g;omega);generalize (wr.setCell ⟨w.heap.size+1,0,none⟩ (iI l.base)).setCell ⟨w.heap.size+1,1,none⟩ (.slice oa out.length oc)=wf at *;refine bodyPost_ret (v:=.tuple #[.agg #[iI l.base, .slice oa out.length oc], iI 0]) (by simp [results,Tryz.results48,go_sem,p0,p1]) rfl ?_;rw [HF.out];exact ⟨_,rfl,wu,((below_alloc2 w _ _).trans (PO.out.mono (by omega))).trans (gQ.mono (by omega))⟩
  obtain ⟨b,off,cap',row,hv,hSb,hrow,hcells⟩:=(HM.out.below aK (by decide) ((below_alloc2 w _ _).trans (hp.out.below.mono (by omega)))).row n hlt;simp only [Value.slice.injEq] at hv;obtain ⟨rfl,_,rfl⟩:=hv;obtain rfl:=hrow;have q0:=hcells 0 _ rfl;simp only [Nat.add_zero,Nat.mul_one] at q0;clear hcells;have hsd:=R6.out more[n] (List.getElem_mem hlt);have hsl:=O7.out more[n] (List.getElem_mem hlt);have Zh:=iH (show jD (more.drop n) (k+n) out=if dI more[n]≠0 then ([],dI more[n]) else if k+n<out.length∧out.getD (k+n) []=more[n] then jD (more.drop (n+1)) (k+n+1) out else jD (more.drop (n+1)) (k+n+1) (out.take (k+n)++[more[n]]) by rw [List.drop_eq_getElem_cons hlt,jD]);generalize more[n]=s at *;obtain ⟨d,hd⟩:∃d,bM s=(d,0):=⟨(bM s).1,by rw [←hsd];rfl⟩;have HDD:=iH hd;have Gx:=iH (Zh.out.symm.trans U0.out);rw [hsd,if_neg (by simp)] at Gx;clear hd hsd Zh U0;have e1:IntKind.i64.wrap ((l.base+(k:Int))+(n:Int))=(l.base+(k:Int))+(n:Int):=IntWalk.i64_in _ (by omega);have e2:IntKind.i64.wrap ((l.base+(k:Int))+(n:Int) - l.base)=((k+n:Nat):Int):=(IntWalk.i64_in _ (by omega)).trans (by omega)
  go_wp2_with fail
  refine (o6 s _ hsl).mono ?_;rw [HDD.out,dR];rintro e w4 ⟨rfl,hb4⟩;have PR:=iH (hp.out.go (by rw [fq]) hb4);clear hp b0 b1 z0 z1 r0 r1 f0 f1;obtain ⟨hz,-,hr,hrf,Og⟩:=ic PR.out.below;have z0:=hz 0;have z1:=hz 1;have b0:=PR.out.box.cell 0 _ rfl;have b1:=PR.out.box.cell 1 _ rfl;have hbl:=PR.out.box.lt;obtain ⟨hoc,We⟩:=PR.out.own.room;unfold maxLen at We;have VN:w.heap.size<w4.heap.size:=by omega
  clear hz hr hrf;have O3:=iH (PR.out.go (by rw [fq]) (aj w4 (.cells #[iI d.kind, iI d.client, iI d.session, iI d.seq, iI d.aH, iI d.op.kind, iS d.op.a, iS d.op.b, iI d.op.n] 84)))
  by_cases hko:k+n<out.length
  case pos =>
   obtain ⟨g,e⟩:=PR.out.own.inBlock (by omega);subst e;have Ru:=iH (O3.out.own.cut aK (i:=k+n) (by omega) (bW.refl _ _) (fun _ _=>rfl) (fun _ _ _ _=>rfl));obtain ⟨row,hrow,hcells⟩:=PR.out.own.at aK hko;obtain rfl:=hrow;have g0:=hcells 0 _ rfl;simp only [Nat.add_zero,Nat.mul_one] at g0;have hgl:g<w4.heap.size:=World.block_lt_of_cell? w4 _ g0;clear hcells;have hgd:out.getD (k+n) []=out[k+n]:=by simp [List.getD,hko]
   rw [hgd] at Gx;clear hgd;generalize out[k+n]=t at *
   by_cases hts:t=s
   ·subst hts
    have Ny:=iH ((if_pos (⟨hko,rfl⟩:k+n<out.length∧t=t)).symm.trans Gx.out);clear Gx;go_wp2
    go_roundw
    case rel=>exact ⟨n+1,_,out,by omega,by go_num,O3,iH (by rw [←Nat.add_assoc];exact Ny.out),by omega,by omega⟩
    case measure=>simp [intOf];omega
   ·have VX:(t == s)=false:=by simpa using hts
    have Ny:=iH ((if_neg (fun h:k+n<out.length∧t=s=>hts h.2)).symm.trans Gx.out);clear Gx
    go_wp2_with (at_builtin;refine dW Tryz.LB (.tmp 100) (.tmp 102) rfl rfl aK s rfl rfl (World.size_alloc _ _).symm Ru.out rfl (by rw [List.length_take];omega) ?_;intro v5 w5 vQ hg5 hv5;have V9:=O3.out.app (by rw [fq]) vQ hg5 (fun g hg=>hg) hv5;have hbx:=O3.out.box.grown hg5 (fun e=>(O3.out.apart w3.heap.size e.symm).2 rfl);have c1:=hbx.cell 1 _ rfl;have t1:=hbx.thaw 1;clear hbx;obtain ⟨ra5,rc5,e5⟩:∃a c,v5=.slice a (k+n+1) c:=(by obtain ⟨a,c,e⟩:=vQ.shape;exact ⟨a,c,by rw [e];congr 1;simp;omega⟩);subst e5)
    go_roundw
    case rel=>exact ⟨n+1,_,out.take (k+n)++[s],by omega,by go_num,iH V9,iH (by rw [←Nat.add_assoc];exact Ny.out),by simp;omega,by simp;omega⟩
    case measure=>simp [intOf];omega
  case neg =>
   have Ny:=iH ((if_neg (fun h:k+n<out.length∧out.getD (k+n) []=s=>hko h.1)).symm.trans Gx.out);have hke:k+n=out.length:=by omega
   have Ru:=iH (show bZ 9 1 iw (w4.alloc (.cells #[iI d.kind, iI d.client, iI d.session, iI d.seq, iI d.aH, iI d.op.kind, iS d.op.a, iS d.op.b, iI d.op.n] 84)) (.slice oa out.length oc) (out.take (k+n)) (fun _=>False) by rw [hke,List.take_length];exact O3.out.own);clear Gx
   go_wp2_with (at_builtin;refine dW Tryz.LB (.tmp 100) (.tmp 102) rfl rfl aK s rfl rfl (World.size_alloc _ _).symm Ru.out rfl (by rw [List.length_take];omega) ?_;intro v5 w5 vQ hg5 hv5;have V9:=O3.out.app (by rw [fq]) vQ hg5 (fun g hg=>hg) hv5;have hbx:=O3.out.box.grown hg5 (fun e=>(O3.out.apart w3.heap.size e.symm).2 rfl);have c1:=hbx.cell 1 _ rfl;have t1:=hbx.thaw 1;clear hbx;obtain ⟨ra5,rc5,e5⟩:∃a c,v5=.slice a (out.length+1) c:=(by obtain ⟨a,c,e⟩:=vQ.shape;exact ⟨a,c,by rw [e];congr 1;simp;omega⟩);subst e5)
   go_roundw
   case rel=>exact ⟨n+1,_,out.take (k+n)++[s],by omega,by go_num,iH V9,iH (by rw [←Nat.add_assoc];exact Ny.out),by simp;omega,by simp;omega⟩
   case measure=>simp [intOf];omega
end Go.Proofs.YtbngpjdflblffaaGreatDoor
