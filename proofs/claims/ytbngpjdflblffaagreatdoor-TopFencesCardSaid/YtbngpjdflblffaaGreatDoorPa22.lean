/- A part of the proof, laid together from: RepA, CluA. -/
import Derived.Test.YtbngpjdflblffaaGreatDoorPa21
set_option linter.all false
set_option maxRecDepth 100000
set_option maxHeartbeats 6400000
namespace Go.Tk
open Go Go.RowKit
theorem wI.long {b:Int} {s:Bytes} {ks:bf} (h:wI b s ks) (hb:b≠0):mO ks∧ks.index=b∧s=eD ks:=by
 rcases h with ⟨h,-⟩ | ⟨-,h⟩
 ·exact absurd h hb
 ·exact h
theorem wI.short {b:Int} {s:Bytes} {ks:bf} (h:wI b s ks) (hb:b=0):s=[]∧ks=gu:=by
 rcases h with ⟨-,h⟩ | ⟨h,-⟩
 ·exact h
 ·exact absurd hb h
end Go.Tk
namespace Go.Proofs.YtbngpjdflblffaaGreatDoor
open Go.RowKit Go.Tk
theorem Bo (r:dL) (ks:bf) (ve vl vp vz:Value) (h1:ve.oneCell'=true) (h2:vl.oneCell'=true) (h3:vp.oneCell'=true) (h4:vz.oneCell'=true) (hk:wI r.log.base r.snap ks) (w:World) :
 Calls Tryz.prog 52 #[.agg #[iI r.log.base,ve, iS r.snap, iI r.state.index,vl,vp,vz]] w fun e w'=>∃ul up us,e=.returned (.tuple #[.agg #[iI ks.index,ul,up,us], iI 0])∧fT w' ks ul up us (fun b=>w.heap.size≤b)∧Below w.heap.size w w':=by
 go_enter Tryz.func52,Tryz.ntmps52
 go_upto_region 1 with (fail);have HX:=iH ((aD.new (w:=w) (cs:=[iI r.log.base,ve, iS r.snap, iI r.state.index,vl,vp,vz]) (E:=45)).below (aj _ (.cells #[iI 0, iN, iN, iN] 27)));have hz:=aD.new (w:=w.alloc (.cells #[iI r.log.base,ve, iS r.snap, iI r.state.index,vl,vp,vz] 45)) (cs:=[iI 0, iN, iN, iN]) (E:=27);rw [World.size_alloc] at hz;have HZ:=iH hz;clear hz;have HB:=iH (below_alloc2 w (.cells #[iI r.log.base,ve, iS r.snap, iI r.state.index,vl,vp,vz] 45) (.cells #[iI 0, iN, iN, iN] 27));generalize (w.alloc (.cells #[iI r.log.base,ve, iS r.snap, iI r.state.index,vl,vp,vz] 45)).alloc (.cells #[iI 0, iN, iN, iN] 27)=w0 at *;have x0:=HX.out.cell 0 _ rfl;have x2:=HX.out.cell 2 _ rfl
 by_cases hb:r.log.base=0
 ·obtain ⟨hs,rfl⟩:=hk.short hb
  rw [hs] at x2;rw [hb] at x0;obtain ⟨z0,z1,z2,z3⟩:=dJ HZ.out;obtain ⟨NL,NK,NJ,NI⟩:=nH HZ.out;go_wp2;generalize bF:((((w0.setCell ⟨w.heap.size+1,0,none⟩ (iI 0)).setCell ⟨w.heap.size+1,1,none⟩ (iN)).setCell ⟨w.heap.size+1,2,none⟩ (iN)).setCell ⟨w.heap.size+1,3,none⟩ (iN))=wf at *;have HF:Hid (aD wf (w.heap.size+1) [iI 0, iN, iN, iN]):=bF▸iH (HZ.out.storeAll [iI 0, iN, iN, iN] rfl);have mP:Hid (Below w.heap.size w wf):=bF▸iH (bG (by omega) [iI 0, iN, iN, iN] 0 _ HB.out);clear bF;obtain ⟨g0,g1,g2,g3⟩:=dJ HF.out;refine bodyPost_ret (v:=.tuple #[.agg #[iI 0, iN, iN, iN], iI 0]) (by simp [results,Tryz.results52,go_sem,g0,g1,g2,g3]) rfl ⟨_,_,_,rfl,⟨aZ.nil _ _,aZ.nil _ _,aZ.nil _ _⟩,mP.out⟩
 ·obtain ⟨hko,hki,hks⟩:=hk.long hb
  have Zr:=iH (show (ks.index != r.log.base)=false by simpa using hki);clear hki;have hD:=sV ks hko w0;rw [show bn ks++jI (bn ks)=r.snap from hks.symm] at hD;have HD:=iH hD;clear hD hks hk;have hb0:(r.log.base == 0)=false:=by simpa using hb
  go_wp2_with fail
  refine HD.out.mono ?_;clear HD;rintro e w1 ⟨ul,up,us,rfl,hst,hb1⟩;obtain ⟨a1,c1,rfl,-,-,-,-⟩:=id hst.lock;obtain ⟨a2,c2,rfl,-,-,-,-⟩:=id hst.pair;obtain ⟨a3,c3,rfl,-,-,-,-⟩:=id hst.dG;have HS:=iH (hst.sub (S':=fun b=>w.heap.size+2≤b) fun b hb _=>by show _≤_;have:w0.heap.size≤b:=hb;have:=HZ.out.lt;omega);clear hst;clear x0 x2;replace HX:=iH (HX.out.below hb1);replace HZ:=iH (HZ.out.below hb1);replace HB:=iH (ah HB.out hb1);clear hb1;go_upto_region 6 with (fail);have hwz:=HZ.out.lt;have HY:=iH (aD.new (w:=w1) (cs:=[iI ks.index, .slice a1 ks.au.length c1, .slice a2 ks.pairs.length c2, .slice a3 ks.af.length c3]) (E:=27));have hba:=aj w1 (.cells #[iI ks.index, .slice a1 ks.au.length c1, .slice a2 ks.pairs.length c2, .slice a3 ks.af.length c3] 27);replace HX:=iH (HX.out.below hba);replace HZ:=iH (HZ.out.below hba);replace HB:=iH (ah HB.out hba);replace HS:=iH (HS.out.below hba);clear hba;generalize w1.alloc (.cells #[iI ks.index, .slice a1 ks.au.length c1, .slice a2 ks.pairs.length c2, .slice a3 ks.af.length c3] 27)=w2 at *;generalize w1.heap.size=B at *;have x0:=HX.out.cell 0 _ rfl;obtain ⟨y0,y1,y2,y3⟩:=dJ HY.out;obtain ⟨z0,z1,z2,z3⟩:=dJ HZ.out;obtain ⟨NL,NK,NJ,NI⟩:=nH HZ.out;have hki2:=Zr.out;go_wp2
  generalize bF:((((w2.setCell ⟨w.heap.size+1,0,none⟩ (iI ks.index)).setCell ⟨w.heap.size+1,1,none⟩ (.slice a1 ks.au.length c1)).setCell ⟨w.heap.size+1,2,none⟩ (.slice a2 ks.pairs.length c2)).setCell ⟨w.heap.size+1,3,none⟩ (.slice a3 ks.af.length c3))=wf at *;have HF:Hid (aD wf (w.heap.size+1) [iI ks.index, .slice a1 ks.au.length c1, .slice a2 ks.pairs.length c2, .slice a3 ks.af.length c3]):=bF▸iH (HZ.out.storeAll [iI ks.index, .slice a1 ks.au.length c1, .slice a2 ks.pairs.length c2, .slice a3 ks.af.length c3] rfl);have mP:Hid (Below w.heap.size w wf):=bF▸iH (bG (by omega) [iI ks.index, .slice a1 ks.au.length c1, .slice a2 ks.pairs.length c2, .slice a3 ks.af.length c3] 0 _ HB.out);have OY:Hid (fT wf ks (.slice a1 ks.au.length c1) (.slice a2 ks.pairs.length c2) (.slice a3 ks.af.length c3) (fun b=>w.heap.size≤b)):=bF▸iH (HS.out.store 0 [iI ks.index, .slice a1 ks.au.length c1, .slice a2 ks.pairs.length c2, .slice a3 ks.af.length c3] fun k hk=>⟨by have:w.heap.size+2≤k:=hk;omega,by show _≤_;have:w.heap.size+2≤k:=hk;omega⟩);clear bF;obtain ⟨g0,g1,g2,g3⟩:=dJ HF.out;refine bodyPost_ret (v:=.tuple #[.agg #[iI ks.index, .slice a1 ks.au.length c1, .slice a2 ks.pairs.length c2, .slice a3 ks.af.length c3], iI 0]) (by simp [results,Tryz.results52,go_sem,g0,g1,g2,g3]) rfl ⟨_,_,_,rfl,OY.out,mP.out⟩
theorem lq (r:dL) (ks:bf) (ve vl vp vz:Value) (S:Nat→Prop) (w:World) (h:dh w r ve vl vp vz S) (hr:qY r ks) :
 Calls Tryz.prog 22 #[.agg #[iI r.log.base,ve, iS r.snap, iI r.state.index,vl,vp,vz]] w fun e w'=>e=.returned (iI 0)∧Below w.heap.size w w':=by
 obtain ⟨o1,o2,o3,o4⟩:=h.ones;have HR:=iH h;have HF:=iH hr;obtain ⟨hb0,hb1⟩:=hr.log.base;have hln:=hr.log.len;obtain ⟨hi0,hi1⟩:=hr.at_;unfold dH at hi1;clear h hr
 go_enter Tryz.func22,Tryz.ntmps22
 go_upto_region 1 with (fail);have HB:=iH (Below.refl w.heap.size w);have HX:=iH (aD.new (w:=w) (cs:=[iI r.log.base,ve, iS r.snap, iI r.state.index,vl,vp,vz]) (E:=45));have hba:=aj w (.cells #[iI r.log.base,ve, iS r.snap, iI r.state.index,vl,vp,vz] 45);replace HR:=iH (HR.out.below hba);replace HB:=iH (ah HB.out hba);clear hba;generalize w.alloc (.cells #[iI r.log.base,ve, iS r.snap, iI r.state.index,vl,vp,vz] 45)=w0 at *;obtain ⟨B,hB⟩:∃B,w.heap.size=B:=⟨_,rfl⟩;rw [hB] at HX⊢;obtain ⟨x0,x1,x2,x3,x4,x5,x6⟩:=gM HX.out
 go_wp2_with fail
 refine (ni r.log _ S _ HR.out.lD HF.out.log.small).mono ?_;rw [jX.2 HF.out.log];rintro e w1 ⟨rfl,hb1⟩;clear x0 x1 x2 x3 x4 x5 x6;replace HR:=iH (HR.out.below hb1);replace HB:=iH (ah HB.out hb1);replace HX:=iH (HX.out.below hb1);clear hb1;obtain ⟨x0,x1,x2,x3,x4,x5,x6⟩:=gM HX.out
 go_wp2_with fail
 refine (oh r.state _ _ _ _ _ HR.out.st HF.out.st.fits).mono ?_;rw [pY.2 HF.out.st];rintro e w2 ⟨rfl,hb2⟩;clear x0 x1 x2 x3 x4 x5 x6;replace HR:=iH (HR.out.below hb2);replace HB:=iH (ah HB.out hb2);replace HX:=iH (HX.out.below hb2);clear hb2;obtain ⟨x0,x1,x2,x3,x4,x5,x6⟩:=gM HX.out;clear x0 x1 x2 x3 x4 x5 x6;go_upto_region 7 with (fail);refine bH 16 (fun wx=>Below w2.heap.size w2 wx) (fun wx wy=>Below wx.heap.size wx wy) [aW (iP B 3),aW (iP B 3),aW (iI r.state.index),aW (iP B 0),aW (iP B 0),aW (iI r.log.base),aW (.bool false),aW (.bool false),aW (iP B 3),aW (iP B 3),aW (iI r.state.index),aW (iP B 0),aW (.agg #[iI r.log.base,ve]),aW (iI (r.log.base+(r.log.entries.length:Int))),aW (.bool false),aW (.bool false)] (by kernel_rfl) (by kernel_rfl) rfl ?hJ ?jP ?hst ?ek ?hend
 case hJ=>exact Below.drew iB
 case jP =>
  exact fun wx wy h1 h2=>ah h1 h2
 case hst=>exact bX _ ⟨ax _,ax _,ax _,ax _,ax _,ax _,ax _,ax _,ax _,ax _,ax _,ax _,ax _,ax _,ax _,ax _,trivial⟩
 case ek =>
  simp only [dY,aJ,Act.put,Nat.reduceAdd,Nat.zero_add,pS];refine ⟨?_,?_,?_,?_,?_,?_,?_,?_,?_,?_,?_,?_,?_,?_,?_,?_,trivial⟩
  all_goals
   intro vs1 wx hJ hn K hK;simp [dA,mJ,aW,Region.binds] at hn;simp only [mJ,aW,Act.put,Nat.reduceAdd,Nat.zero_add,pS] at hK
  ·go_wp2
   exact hK _ _ iB rfl
  ·simp only [hn] at hK⊢
   go_wp2;exact hK _ _ iB rfl
  ·simp only [hn] at hK⊢
   have hx:=HX.out.below hJ;have x3:=hx.cell 3 _ rfl;go_wp2;exact hK _ _ iB rfl
  ·go_wp2
   exact hK _ _ iB rfl
  ·simp only [hn] at hK⊢
   go_wp2;exact hK _ _ iB rfl
  ·simp only [hn] at hK⊢
   have hx:=HX.out.below hJ;have x0:=hx.cell 0 _ rfl;go_wp2;exact hK _ _ iB rfl
  ·simp only [hn] at hK⊢
   have hd1:decide (r.state.index<r.log.base)=false:=decide_eq_false (by omega);go_wp2;exact hK _ _ iB rfl
  ·simp only [hn] at hK⊢
   go_wp2;exact hK _ _ iB rfl
  ·simp only [hn] at hK⊢
   go_wp2;exact hK _ _ iB rfl
  ·simp only [hn] at hK⊢
   go_wp2;exact hK _ _ iB rfl
  ·simp only [hn] at hK⊢
   have hx:=HX.out.below hJ;have x3:=hx.cell 3 _ rfl;go_wp2;exact hK _ _ iB rfl
  ·simp only [hn] at hK⊢
   go_wp2;exact hK _ _ iB rfl
  ·simp only [hn] at hK⊢
   have hx:=HX.out.below hJ;obtain ⟨x0,x1⟩:=qw hx;go_wp2;exact hK _ _ iB rfl
  ·simp only [hn] at hK⊢
   have hsx:=HR.out.below hJ
   go_wp2_with fail
   refine (gF r.log _ S wx hsx.lD (by omega) (by omega)).mono ?_;rintro e w5 ⟨rfl,hb5⟩;go_wp2;exact hK _ _ hb5 rfl
  ·simp only [hn] at hK⊢
   have hd2:decide (r.log.base+(r.log.entries.length:Int)<r.state.index)=false:=decide_eq_false (by omega);go_wp2;exact hK _ _ iB rfl
  ·simp only [hn] at hK⊢
   go_wp2;exact hK _ _ iB rfl
 case hend =>
  intro vs1 wx hJ hv;simp [eF,aW] at hv;obtain ⟨e0,e1,e2,e3,e4,e5,e6,e7,e8,e9,e10,e11,e12,e13,e14,e15⟩:=hv;simp only [aJ,Act.put,Nat.reduceAdd,Nat.zero_add,pS];rw [e0,e1,e2,e3,e4,e5,e6,e7,e8,e9,e10,e11,e12,e13,e14,e15];clear e0 e1 e2 e3 e4 e5 e6 e7 e8 e9 e10 e11 e12 e13 e14 e15;replace HR:=iH (HR.out.below hJ);replace HB:=iH (ah HB.out hJ);replace HX:=iH (HX.out.below hJ);clear hJ
  rename World=>w3
  obtain ⟨x0,x1,x2,x3,x4,x5,x6⟩:=gM HX.out
  go_wp2_with fail
  refine (Bo r ks _ _ _ _ o1 o2 o3 o4 HF.out.kept w3).mono ?_;rintro e w4 ⟨ul,up,uz,rfl,hst,hb4⟩;obtain ⟨a1,c1,rfl,-,-,-,-⟩:=id hst.lock;obtain ⟨a2,c2,rfl,-,-,-,-⟩:=id hst.pair;obtain ⟨a3,c3,rfl,-,-,-,-⟩:=id hst.dG;clear x0 x1 x2 x3 x4 x5 x6;replace HR:=iH (HR.out.below hb4);replace HB:=iH (ah HB.out hb4);replace HX:=iH (HX.out.below hb4);clear hb4;have hba:=aj w4 (.cells #[iI ks.index, .slice a1 ks.au.length c1, .slice a2 ks.pairs.length c2, .slice a3 ks.af.length c3] 27);replace HR:=iH (HR.out.below hba);replace HB:=iH (ah HB.out hba);replace HX:=iH (HX.out.below hba);clear hba;go_wp2;go_ret;exact ⟨rfl,HB.out⟩
theorem oC (r:dL) (ve vl vp vz:Value) (S:Nat→Prop) (w:World) (h:dh w r ve vl vp vz S) (hl:uO r.log) (hst:mO r.state) :
 Calls Tryz.prog 50 #[.agg #[iI r.log.base,ve, iS r.snap, iI r.state.index,vl,vp,vz]] w fun e w'=>∃ue ul up uz,e=.returned (.agg #[iI r.log.base,ue, iS r.snap, iI r.state.index,ul,up,uz])∧dh w' r ue ul up uz (fun b=>w.heap.size≤b)∧Below w.heap.size w w':=by
 obtain ⟨o1,o2,o3,o4⟩:=h.ones;have HR:=iH h;have Xp:=iH hst;have hln:=hl.len;clear h hl hst
 go_enter Tryz.func50,Tryz.ntmps50
 go_upto_region 1 with (fail);have HX:=iH ((aD.new (w:=w) (cs:=[iI r.log.base,ve, iS r.snap, iI r.state.index,vl,vp,vz]) (E:=45)).below (aj _ (.cells #[iI 0, iN, .string ⟨#[]⟩, iI 0, iN, iN, iN] 45)));have hz:=aD.new (w:=w.alloc (.cells #[iI r.log.base,ve, iS r.snap, iI r.state.index,vl,vp,vz] 45)) (cs:=[iI 0, iN, .string ⟨#[]⟩, iI 0, iN, iN, iN]) (E:=45);rw [World.size_alloc] at hz;have HZ:=iH hz;clear hz;have HB:=iH (below_alloc2 w (.cells #[iI r.log.base,ve, iS r.snap, iI r.state.index,vl,vp,vz] 45) (.cells #[iI 0, iN, .string ⟨#[]⟩, iI 0, iN, iN, iN] 45));replace HR:=iH (HR.out.below HB.out);generalize (w.alloc (.cells #[iI r.log.base,ve, iS r.snap, iI r.state.index,vl,vp,vz] 45)).alloc (.cells #[iI 0, iN, .string ⟨#[]⟩, iI 0, iN, iN, iN] 45)=w0 at *;have hzl:=HZ.out.lt
 refine bH 8 (fun wx=>Below w0.heap.size w0 wx) (fun wx wy=>Below wx.heap.size wx wy) [aW (iP (w.heap.size) 0),aW (.agg #[iI r.log.base,ve]),fun v wx=>∃ue,v=.agg #[iI r.log.base,ue]∧aZ 1 iw wx ue r.log.entries (fun b=>w0.heap.size≤b),aW (iP (w.heap.size) 2),aW (iS r.snap),aW (iP (w.heap.size) 3),aW (.agg #[iI r.state.index,vl,vp,vz]),fun v wx=>∃ul up uz,v=.agg #[iI r.state.index,ul,up,uz]∧fT wx r.state ul up uz (fun b=>w0.heap.size≤b)] (by kernel_rfl) (by kernel_rfl) rfl ?hJ ?jP ?hst ?ek ?hend
 case hJ=>exact Below.drew iB
 case jP =>
  exact fun wx wy h1 h2=>ah h1 h2
 case hst=>exact bX _ ⟨ax _,ax _,(by rintro v wx wy - h2 ⟨ue,e,h3⟩;exact ⟨ue,e,h3.below aK (by decide) h2⟩),ax _,ax _,ax _,ax _,(by rintro v wx wy - h2 ⟨ul,up,uz,e,h3⟩;exact ⟨ul,up,uz,e,h3.below h2⟩),trivial⟩
 case ek =>
  simp only [dY,aJ,Act.put,Nat.reduceAdd,Nat.zero_add,pS];refine ⟨?_,?_,?_,?_,?_,?_,?_,?_,trivial⟩
  all_goals
   intro vs1 wx hJ hn K hK;simp [dA,mJ,aW,Region.binds] at hn;simp only [mJ,aW,Act.put,Nat.reduceAdd,Nat.zero_add,pS] at hK
  ·go_wp2
   exact hK _ _ iB rfl
  ·simp only [hn] at hK⊢
   have hx:=HX.out.below hJ;obtain ⟨x0,x1⟩:=qw hx;go_wp2;exact hK _ _ iB rfl
  ·simp only [hn] at hK⊢
   have hsx:=HR.out.below hJ
   go_wp2_with fail
   refine (vO r.log _ S wx hsx.lD (by omega)).mono ?_;rintro e w5 ⟨ue,rfl,vQ,hg5,hb5⟩;have Yf:=vQ.oneCell;go_wp2;exact hK _ _ hb5 ⟨ue,rfl,vQ.sj fun g hg=>Nat.le_trans hJ.size (hg5 g hg)⟩
  ·go_wp2
   exact hK _ _ iB rfl
  ·simp only [hn] at hK⊢
   have hx:=HX.out.below hJ;have x2:=hx.cell 2 _ rfl;go_wp2;exact hK _ _ iB rfl
  ·go_wp2
   exact hK _ _ iB rfl
  ·simp only [hn] at hK⊢
   have hx:=HX.out.below hJ;have x3:=hx.cell 3 _ rfl;have x4:=hx.cell 4 _ rfl;have x5:=hx.cell 5 _ rfl;have x6:=hx.cell 6 _ rfl;go_wp2;exact hK _ _ iB rfl
  ·simp only [hn] at hK⊢
   have hsx:=HR.out.below hJ
   go_wp2_with fail
   refine (xz r.state _ _ _ S wx hsx.st Xp.out.fits).mono ?_;rintro e w5 ⟨ul,up,uz,rfl,VY,hb5⟩;go_wp2;exact hK _ _ hb5 ⟨ul,up,uz,rfl,VY.sub fun b hb _=>Nat.le_trans hJ.size hb⟩
 case hend =>
  intro vs1 wx hJ hv;simp [eF,aW] at hv;obtain ⟨e0,e1,h2,e3,e4,e5,e6,h7⟩:=hv;simp only [aJ,Act.put,Nat.reduceAdd,Nat.zero_add,pS];rw [e0,e1,e3,e4,e5,e6];clear e0 e1 e3 e4 e5 e6;obtain ⟨ue,e2,h2⟩:=h2;obtain ⟨ul,up,uz,e7,h7⟩:=h7;rw [e2,e7];clear e2 e7;have HE:=iH h2;have HS:=iH h7;clear h2 h7;replace HX:=iH (HX.out.below hJ);replace HZ:=iH (HZ.out.below hJ);replace HB:=iH (ah HB.out hJ);clear hJ
  rename World=>w1
  obtain ⟨a1,c1,rfl,-,-,-,-⟩:=id HE.out;obtain ⟨a2,c2,rfl,-,-,-,-⟩:=id HS.out.lock;obtain ⟨a3,c3,rfl,-,-,-,-⟩:=id HS.out.pair;obtain ⟨a4,c4,rfl,-,-,-,-⟩:=id HS.out.dG;obtain ⟨z0,z1,z2,z3,z4,z5,z6⟩:=gM HZ.out;obtain ⟨NL,NK,NJ,NI,P5,PZ,PY⟩:=sK HZ.out;go_wp2;generalize bF:(((((((w1.setCell ⟨w.heap.size+1,0,none⟩ (iI r.log.base)).setCell ⟨w.heap.size+1,1,none⟩ (.slice a1 r.log.entries.length c1)).setCell ⟨w.heap.size+1,2,none⟩ (iS r.snap)).setCell ⟨w.heap.size+1,3,none⟩ (iI r.state.index)).setCell ⟨w.heap.size+1,4,none⟩ (.slice a2 r.state.au.length c2)).setCell ⟨w.heap.size+1,5,none⟩ (.slice a3 r.state.pairs.length c3)).setCell ⟨w.heap.size+1,6,none⟩ (.slice a4 r.state.af.length c4))=wf at *;have HF:Hid (aD wf (w.heap.size+1) [iI r.log.base, .slice a1 r.log.entries.length c1, iS r.snap, iI r.state.index, .slice a2 r.state.au.length c2, .slice a3 r.state.pairs.length c3, .slice a4 r.state.af.length c4]):=bF▸iH (HZ.out.storeAll [iI r.log.base, .slice a1 r.log.entries.length c1, iS r.snap, iI r.state.index, .slice a2 r.state.au.length c2, .slice a3 r.state.pairs.length c3, .slice a4 r.state.af.length c4] rfl)
  have mP:Hid (Below w.heap.size w wf):=bF▸iH (bG (by omega) [iI r.log.base, .slice a1 r.log.entries.length c1, iS r.snap, iI r.state.index, .slice a2 r.state.au.length c2, .slice a3 r.state.pairs.length c3, .slice a4 r.state.af.length c4] 0 _ HB.out);have Nv:Hid (dh wf r (.slice a1 r.log.entries.length c1) (.slice a2 r.state.au.length c2) (.slice a3 r.state.pairs.length c3) (.slice a4 r.state.af.length c4) (fun b=>w.heap.size≤b)):=bF▸iH (dh.store (S:=fun b=>w0.heap.size≤b) ⟨HE.out,HS.out⟩ 0 [iI r.log.base, .slice a1 r.log.entries.length c1, iS r.snap, iI r.state.index, .slice a2 r.state.au.length c2, .slice a3 r.state.pairs.length c3, .slice a4 r.state.af.length c4] fun k hk=>⟨by have:w0.heap.size≤k:=hk;omega,by show _≤_;have:w0.heap.size≤k:=hk;omega⟩);clear bF;obtain ⟨g0,g1,g2,g3,g4,g5,g6⟩:=gM HF.out;refine bodyPost_ret (v:=.agg #[iI r.log.base, .slice a1 r.log.entries.length c1, iS r.snap, iI r.state.index, .slice a2 r.state.au.length c2, .slice a3 r.state.pairs.length c3, .slice a4 r.state.af.length c4]) (by simp [results,Tryz.results50,go_sem,g0,g1,g2,g3,g4,g5,g6]) rfl ⟨_,_,_,_,rfl,Nv.out,mP.out⟩
theorem lI (m n:Nat) (x:bS) (X:Nat) (Z:Nat→Prop) (w:World) (h:gW 45 73 101 9 w X x Z) (hok:aT m n x) (r:Nat) (hr:r<3) :
 Calls Tryz.prog 126 #[iP X 0, iI (r:Int)] w fun e w'=>e=.returned (iI (bN x r:Int))∧Below w.heap.size w w':=by
 obtain ⟨vr,vc,vm,vk,hm⟩:=h;have hlen:=hok.len;have hlead:=hok.lead;obtain ⟨g,cap,ve,vl,vp,vz,hv,hcap,hmax,hcell,jo⟩:=hm.oL (r:=r) (by omega);obtain ⟨g2,cap2,RJ,VG,VF,Z8,hv2,-,-,hcell2,Mr⟩:=hm.oL (r:=x.lead) (by omega);rw [hlen] at hv hv2 hcap;subst hv;simp only [Value.slice.injEq,Option.some.injEq,Addr.mk.injEq,true_and,and_true] at hv2;obtain ⟨rfl,rfl⟩:=hv2;unfold maxLen at hmax;have hes:aZ 1 iw w ve (aU x r).es _:=jo.lD;have Io:aZ 1 iw w RJ (aP x).es _:=Mr.lD;have hks:aZ 1 iw w vk x.K (fun _=>True):=(bZ.forget (S':=fun _=>True) (fun _ _ _ _ _ h=>h) hm.comm).read aK (by decide) (fun _ _=>trivial);obtain ⟨ae,ce,rfl,-,hme,-,-⟩:=id hes;obtain ⟨al,cl,rfl,-,hml,-,-⟩:=id Io;obtain ⟨ak,ck,rfl,-,hmk,-,-⟩:=id hks;unfold maxLen at hme hml hmk;have c0:w.cell? ⟨g,r*7,none⟩=some (iI ((aU x r).b:Int)):=hcell 0 _ rfl;have c1:w.cell? ⟨g,r*7+1,none⟩=some (.slice ae (aU x r).es.length ce):=hcell 1 _ rfl;have d0:w.cell? ⟨g,x.lead*7,none⟩=some (iI ((aP x).b:Int)):=hcell2 0 _ rfl;have d1:w.cell? ⟨g,x.lead*7+1,none⟩=some (.slice al (aP x).es.length cl):=hcell2 1 _ rfl;have o1:=hok.rep r hr;have o2:=hok.kQ;have Yg:=hok.n4;have hlb:=hok.oN;have hKl:=hok.CE;have h1:=o1.ln;have h2:=o2.ln;unfold bQ at h1 h2;have hx:=hm.box;have hone:=hm.nV.oneCell;have kL:=hm.jh.oneCell;clear hcell hcell2 jo Mr hm hok o1 o2;obtain ⟨A,hA⟩:∃A,bN x r=A:=⟨_,rfl⟩
 have HA:=iH (show jf x.K (aP x) ((aU x r).es.drop 0) ((aU x r).b+0)=A from hA);rw [hA];clear hA;generalize aU x r=a at *;generalize aP x=l at *;generalize x.K=K at *;generalize x.lead=L at *;obtain ⟨ab,PI,ai⟩:=a;obtain ⟨lb,Mh,li⟩:=l;simp only at *;have HX:=iH hx;have HE:=iH hes;have HL:=iH Io;have HK:=iH hks;clear hes Io hks hx;have x0:=HX.out.cell 0 _ rfl;have x3:=HX.out.cell 3 _ rfl;have x4:=HX.out.cell 4 _ rfl
 go_enter Tryz.func126,Tryz.ntmps126
 go_upto_region 2 with (fail);clear x0 x3 x4;have HY:=iH (aD.new (w:=w) (cs:=[iI (ab:Int), .slice ae PI.length ce]) (E:=43));have hba:=aj w (.cells #[iI (ab:Int), .slice ae PI.length ce] 43);replace HX:=iH (HX.out.below hba);replace HE:=iH (HE.out.below aK (by decide) hba);replace HL:=iH (HL.out.below aK (by decide) hba);replace HK:=iH (HK.out.below aK (by decide) hba);have d0':=aB d0 (hba.block g (World.block_lt_of_cell? w _ d0));have d1':=aB d1 (hba.block g (World.block_lt_of_cell? w _ d1));have HB:=iH hba;clear c0 c1 d0 d1 hba;generalize w.alloc (.cells #[iI (ab:Int), .slice ae PI.length ce] 43)=w1 at *;obtain ⟨B5,Ld⟩:∃B5,w.heap.size=B5:=⟨_,rfl⟩;rw [Ld] at HY⊢;have Pe:=iH Ld;clear Ld;have x0:=HX.out.cell 0 _ rfl;have x4:=HX.out.cell 4 _ rfl;have xY:=HX.out.lt;have hgl:=World.block_lt_of_cell? w1 _ d0';simp only at hgl;have hL3:(L:Int)<3:=by omega
 go_region;have HY2:=iH (aD.drew (aD.new (w:=w1) (cs:=[iI (lb:Int), .slice al Mh.length cl]) (E:=43)));have hba:Below w1.heap.size w1 (w1.alloc (.cells #[iI (lb:Int), .slice al Mh.length cl] 43)).drew:=Below.drew (aj w1 _);have hBl:=HY.out.lt;clear x0 x4 d0' d1' xY hgl;replace HX:=iH (HX.out.below hba);replace HE:=iH (HE.out.below aK (by decide) hba);replace HL:=iH (HL.out.below aK (by decide) hba);replace HK:=iH (HK.out.below aK (by decide) hba);replace HY:=iH (HY.out.below hba);replace HB:=iH (HB.out.trans (hba.mono (by have:=Pe.out;omega)));clear hba;generalize (w1.alloc (.cells #[iI (lb:Int), .slice al Mh.length cl] 43)).drew=w2 at *;generalize w1.heap.size=B6 at *;refine eZ (fun wx=>w2=wx) rfl ?_;rintro _ rfl;obtain ⟨y0,y1⟩:=qw HY.out;go_wp2;clear y0 y1;have x3:=HX.out.cell 3 _ rfl;obtain ⟨z0,z1⟩:=qw HY2.out
 go_loopw [7,9,10,11,36] (fun at_ _ _ _ i wr=>∃q p:Nat,q≤PI.length∧i=iI (q:Int)∧Hid (p=ab+q)∧at_=iI (p:Int)∧Hid (jf K ⟨lb,Mh,li⟩ (PI.drop q) p=A)∧w2=wr)
  (fun _ _ _ _ i _=>PI.length - (intOf i).toNat)
 case atStart=>exact ⟨0,ab,by omega,rfl,iH rfl,rfl,HA,rfl⟩
 case round =>
 clear HA;obtain ⟨q,p,hq,rfl,HP,rfl,HG,rfl⟩:=hrel
 by_cases hlt:q<PI.length
 case neg =>
  have HF:=iH (show (p:Int)=A from by have:=HG.out;rw [List.drop_of_length_le (by omega),jf] at this;omega);go_wp2;go_ret;exact ⟨congrArg (fun z:Int=>Ending.returned (iI z)) HF.out,HB.out⟩
 have hpl:p≤1000000:=by have:=HP.out;omega
 have hg:=HG.out;rw [List.drop_eq_getElem_cons hlt,jf] at hg;replace HG:=iH hg;clear hg;obtain ⟨b1,RL,Yz,Sn,hv1,-,jO,l7⟩:=HE.out.row q hlt;simp only [Value.slice.injEq] at hv1;obtain ⟨rfl,-,rfl⟩:=hv1;generalize PI[q]=s at *;obtain rfl:=jO;have q0:=l7 0 _ rfl;simp only [Nat.mul_one,Nat.add_zero] at q0;clear l7;have e1:IntKind.i64.wrap ((p:Int)+1)=((p+1:Nat):Int):=(IntWalk.i64_in _ (by omega)).trans (by omega);have e2:IntKind.i64.wrap ((q:Int)+1)=((q+1:Nat):Int):=(IntWalk.i64_in _ (by omega)).trans (by omega)
 by_cases hK:p<K.length
 ·obtain ⟨b2,of2,cp2,NV,hv2,-,hrow2,je⟩:=HK.out.row p hK
  simp only [Value.slice.injEq] at hv2;obtain ⟨rfl,-,rfl⟩:=hv2;have HW:=iH (show oJ K ⟨lb,Mh,li⟩ p=K[p] from by rw [oJ,if_pos hK,getD_lt hK]);generalize K[p]=t at *;obtain rfl:=hrow2;have k0:=je 0 _ rfl;simp only [Nat.mul_one,Nat.add_zero] at k0;clear je
  by_cases hs:s=t
  ·subst hs
   have HG2:=iH (HG.out.symm.trans (if_pos HW.out.symm) |>.symm);go_wp2
   go_roundw
   case rel=>exact ⟨q+1,p+1,by omega,by first | rfl | simp,iH (by have:=HP.out;omega),by first | rfl | simp,HG2,by first | rfl | trivial⟩
   case measure=>simp [intOf];omega
  ·have HF:=iH (show (p:Int)=A from by have h1:=HG.out;rw [if_neg (by rw [HW.out];exact hs)] at h1;omega)
   have hsb:(s == t)=false:=by simpa using hs
   go_wp2;go_ret;exact ⟨congrArg (fun z:Int=>Ending.returned (iI z)) HF.out,HB.out⟩
 have e3:IntKind.i64.wrap ((p:Int) - (lb:Int))=((p - lb:Nat):Int):=(IntWalk.i64_in _ (by omega)).trans (by omega)
 by_cases hL:p - lb<Mh.length
 ·obtain ⟨b2,of2,cp2,NV,hv2,-,hrow2,je⟩:=HL.out.row (p - lb) hL
  simp only [Value.slice.injEq] at hv2;obtain ⟨rfl,-,rfl⟩:=hv2;have HW:=iH (show oJ K ⟨lb,Mh,li⟩ p=Mh[p - lb] from by rw [oJ,if_neg hK,getD_lt hL]);generalize Mh[p - lb]=t at *;obtain rfl:=hrow2;have k0:=je 0 _ rfl;simp only [Nat.mul_one,Nat.add_zero] at k0;clear je;generalize p - lb=pl at *
  by_cases hs:s=t
  ·subst hs
   have HG2:=iH (HG.out.symm.trans (if_pos HW.out.symm) |>.symm);go_wp2
   go_roundw
   case rel=>exact ⟨q+1,p+1,by omega,by first | rfl | simp,iH (by have:=HP.out;omega),by first | rfl | simp,HG2,by first | rfl | trivial⟩
   case measure=>simp [intOf];omega
  ·have HF:=iH (show (p:Int)=A from by have h1:=HG.out;rw [if_neg (by rw [HW.out];exact hs)] at h1;omega)
   have hsb:(s == t)=false:=by simpa using hs
   go_wp2;go_ret;exact ⟨congrArg (fun z:Int=>Ending.returned (iI z)) HF.out,HB.out⟩
 ·have HW:=iH (show oJ K ⟨lb,Mh,li⟩ p=[] from by rw [oJ,if_neg hK,Gg (l:=Mh) (i:=p - lb) (by omega)])
  generalize p - lb=pl at *
  by_cases hs:s=([]:Bytes)
  ·subst hs
   have HG2:=iH (HG.out.symm.trans (if_pos HW.out.symm) |>.symm);go_wp2
   go_roundw
   case rel=>exact ⟨q+1,p+1,by omega,by first | rfl | simp,iH (by have:=HP.out;omega),by first | rfl | simp,HG2,by first | rfl | trivial⟩
   case measure=>simp [intOf];omega
  ·have HF:=iH (show (p:Int)=A from by have h1:=HG.out;rw [if_neg (by rw [HW.out];exact hs)] at h1;omega)
   have hsb:(s == ([]:Bytes))=false:=by simpa using hs
   go_wp2;go_ret;exact ⟨congrArg (fun z:Int=>Ending.returned (iI z)) HF.out,HB.out⟩
end Go.Proofs.YtbngpjdflblffaaGreatDoor
