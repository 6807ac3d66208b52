/- A part of the proof, laid together from: RepD, BSearchLock, BSearchLockW. -/
import Derived.Test.YtbngpjdflblffaaGreatDoorPa24
set_option linter.all false
set_option maxRecDepth 100000
set_option maxHeartbeats 3200000
namespace Go.Proofs.YtbngpjdflblffaaGreatDoor
open Go.RowKit Go.Tk
theorem zb (r:dL) (ks:bf) (ve vl vp vz:Value) (S:Nat→Prop) (w:World) (h:dh w r ve vl vp vz S) (hr:qY r ks) (f:Int) (more o:List Bytes) (vm:Value) (Sm:Nat→Prop) (hm:aZ 1 iw w vm more Sm) (hmd:∀s∈more,dI s=0) (hf:r.log.base≤f∧f≤1073741824)
 (hput:oM r.log f more=(⟨r.log.base,o⟩,0)) (hol:o.length≤400) (hi:r.state.index≤r.log.base+o.length) (hsame:∀j:Nat,r.log.base+j<r.state.index→o[j]?=r.log.entries[j]?) :
 Calls Tryz.prog 16 #[.agg #[iI r.log.base,ve, iS r.snap, iI r.state.index,vl,vp,vz], iI f,vm] w (yV w ⟨⟨r.log.base,o⟩,r.snap,r.state⟩ 0):=by
 obtain ⟨o1,o2,o3,o4⟩:=h.ones;have HR:=iH (h.sub (S':=fun b=>b<w.heap.size) fun b _ hlt=>hlt);have HF:=iH hr;obtain ⟨hb0,hb1⟩:=hr.log.base;have hln:=hr.log.len;obtain ⟨hi0,hi1⟩:=hr.at_;unfold dH at hi1;clear h hr;have hmo:=hm.oneCell;have HM:=iH (aZ.sub (S':=fun b=>b<w.heap.size) aK (by decide) hm fun b _ hlt=>hlt);have HV:=iH hput;have R6:=iH hmd;have HSM:=iH hsame;clear hm hput hmd hsame
 go_enter Tryz.func16,Tryz.ntmps16
 go_upto_region 1 with (fail);have HX:=iH ((aD.new (w:=w) (cs:=[iI r.log.base,ve, iS r.snap, iI r.state.index,vl,vp,vz]) (E:=45)).below (aj _ (.cells #[iI 0, iN, .string ⟨#[]⟩, iI 0, iN, iN, iN] 45)));have hz:=aD.new (w:=w.alloc (.cells #[iI r.log.base,ve, iS r.snap, iI r.state.index,vl,vp,vz] 45)) (cs:=[iI 0, iN, .string ⟨#[]⟩, iI 0, iN, iN, iN]) (E:=45);rw [World.size_alloc] at hz;have HZ:=iH hz;clear hz;have HB:=iH (below_alloc2 w (.cells #[iI r.log.base,ve, iS r.snap, iI r.state.index,vl,vp,vz] 45) (.cells #[iI 0, iN, .string ⟨#[]⟩, iI 0, iN, iN, iN] 45));replace HR:=iH (HR.out.below HB.out);replace HM:=iH (HM.out.below aK (by decide) HB.out);generalize (w.alloc (.cells #[iI r.log.base,ve, iS r.snap, iI r.state.index,vl,vp,vz] 45)).alloc (.cells #[iI 0, iN, .string ⟨#[]⟩, iI 0, iN, iN, iN] 45)=w0 at *;obtain ⟨x0,x1,x2,x3,x4,x5,x6⟩:=gM HX.out
 go_wp2_with fail
 refine (lq r ks _ _ _ _ _ w0 HR.out HF.out).mono ?_;rintro e w1 ⟨rfl,hb1⟩;clear x0 x1 x2 x3 x4 x5 x6;replace HR:=iH (HR.out.below hb1);replace HM:=iH (HM.out.below aK (by decide) hb1);replace HX:=iH (HX.out.below hb1);replace HZ:=iH (HZ.out.below hb1);replace HB:=iH (ah HB.out hb1);clear hb1;obtain ⟨x0,x1,x2,x3,x4,x5,x6⟩:=gM HX.out
 go_wp2_with fail
 refine (Em r.log more _ _ _ _ w1 HR.out.lD HM.out HF.out.log HF.out.log.small R6.out (fun s hs=>by have:=Ez (R6.out s hs);omega) f ⟨by omega,by omega⟩ (by omega)).mono ?_;rw [HV.out];rintro e w2 ⟨RJ,rfl,hs2,hb2⟩;obtain ⟨b5,d5,rfl,-,Wm,-,-⟩:=id hs2;unfold maxLen at Wm;have HL:=iH (show aZ 1 iw w2 (.slice b5 o.length d5) o (fun b=>w.heap.size+2≤b) from aZ.sub aK (by decide) hs2 fun b hb _=>by show _≤_;have:w1.heap.size≤b:=hb;have:=HZ.out.lt;omega);clear hs2;clear x0 x1 x2 x3 x4 x5 x6;replace HR:=iH (HR.out.below hb2);replace HM:=iH (HM.out.below aK (by decide) hb2);replace HX:=iH (HX.out.below hb2);replace HZ:=iH (HZ.out.below hb2);replace HB:=iH (ah HB.out hb2);clear hb2;clear HM R6 HV hmo;go_upto_region 5 with (fail);have Jw:=HZ.out.lt;have hby:w.heap.size+1<w2.heap.size:=Jw;clear Jw;have HY:=iH (aD.new (w:=w2) (cs:=[iI r.log.base, .slice b5 o.length d5]) (E:=43));have hba:=aj w2 (.cells #[iI r.log.base, .slice b5 o.length d5] 43);replace HR:=iH (HR.out.below hba);replace HX:=iH (HX.out.below hba);replace HZ:=iH (HZ.out.below hba);replace HB:=iH (ah HB.out hba);replace HL:=iH (HL.out.below aK (by decide) hba);clear hba;generalize w2.alloc (.cells #[iI r.log.base, .slice b5 o.length d5] 43)=w3 at *;generalize w2.heap.size=BY at *;have x0:=HX.out.cell 0 _ rfl
 have e0:IntKind.i64.wrap (r.log.base+1)=r.log.base+1:=IntWalk.i64_in _ (by omega);go_wp2;clear x0 e0
 go_loopw [11] (fun i wr=>∃(n:Nat) (I:Int),r.log.base+n≤r.state.index∧Hid (I=r.log.base+1+n)∧i=iI I∧Hid (Below w3.heap.size w3 wr))
  (fun i _=>(r.state.index+1 - intOf i).toNat)
 case atStart=>exact ⟨0,r.log.base+1,by omega,iH (by omega),rfl,iH iB⟩
 case round =>
 obtain ⟨n,I,hn,HI,rfl,Pb⟩:=hrel;replace HR:=iH (HR.out.below Pb.out);replace HX:=iH (HX.out.below Pb.out);replace HZ:=iH (HZ.out.below Pb.out);replace HB:=iH (ah HB.out Pb.out);replace HL:=iH (HL.out.below aK (by decide) Pb.out);replace HY:=iH (HY.out.below Pb.out)
 by_cases hlt:r.log.base+n<r.state.index
 ·have x3:=HX.out.cell 3 _ rfl
  have hle:I≤r.state.index:=by have:=HI.out;omega
  obtain ⟨b,off,Xa,row,hv,-,hrow,hcells⟩:=HL.out.row n (by omega);simp only [Value.slice.injEq] at hv;obtain ⟨rfl,-,rfl⟩:=hv;obtain ⟨b6,Sr,cap6,row6,hv6,-,SQ,JA⟩:=HR.out.lD.row n (by omega);subst hv6;have hxe:=HSM.out n hlt;rw [List.getElem?_eq_getElem (by omega),List.getElem?_eq_getElem (by omega)] at hxe;have hxe2:=Option.some.inj hxe;rw [hxe2] at hrow;clear hxe hxe2;generalize r.log.entries[n]=x at *;obtain rfl:=hrow;obtain rfl:=SQ;have q0:=hcells 0 _ rfl;have q6:=JA 0 _ rfl;simp only [Nat.mul_one,Nat.add_zero] at q0 q6;have hq0:=World.block_lt_of_cell? wr _ q0;have hq6:=World.block_lt_of_cell? wr _ q6;have Q0:=iH q0;have Q6:=iH q6;clear hcells JA q0 q6;obtain ⟨a6,c6,VT,-,hm6,-,-⟩:=id HR.out.lD;simp only [Value.slice.injEq] at VT;obtain ⟨-,-,rfl⟩:=VT;unfold maxLen at hm6;go_upto_region 10 with (fail);clear x3
  refine bH 27 (fun wx=>Below wr.heap.size wr wx) (fun wx wy=>Below wx.heap.size wx wy) [aW (iI I),aW (.agg #[iI r.log.base, .slice (some ⟨b,off,none⟩) o.length d5]),aW (iI (r.log.base+(o.length:Int))),aW (.bool false),aW (.bool false),aW (iP BY 1),aW (.slice (some ⟨b,off,none⟩) o.length d5),aW (iI I),aW (iP BY 0),aW (iI r.log.base),aW (iI ((n:Int)+1)),aW (iI (n:Int)),aW (.pointer (some ⟨b,off+n,none⟩)),aW (iS x),aW (iP (w.heap.size) 0),aW (iP (w.heap.size) 1),aW (.slice (some ⟨b6,Sr,none⟩) r.log.entries.length cap6),aW (iI I),aW (iP (w.heap.size) 0),aW (iP (w.heap.size) 0),aW (iI r.log.base),aW (iI ((n:Int)+1)),aW (iI (n:Int)),aW (.pointer (some ⟨b6,Sr+n,none⟩)),aW (iS x),aW (.bool false),aW (.bool false)] (by kernel_rfl) (by kernel_rfl) rfl ?hJ ?jP ?hst ?ek ?hend
  case hJ=>exact Below.drew iB
  case jP =>
   exact fun wx wy h1 h2=>ah h1 h2
  case hst=>exact bX _ ⟨ax _,ax _,ax _,ax _,ax _,ax _,ax _,ax _,ax _,ax _,ax _,ax _,ax _,ax _,ax _,ax _,ax _,ax _,ax _,ax _,ax _,ax _,ax _,ax _,ax _,ax _,ax _,trivial⟩
  case ek =>
   simp only [dY,aJ,Act.put,Nat.reduceAdd,Nat.zero_add,pS];refine ⟨?_,?_,?_,?_,?_,?_,?_,?_,?_,?_,?_,?_,?_,?_,?_,?_,?_,?_,?_,?_,?_,?_,?_,?_,?_,?_,?_,trivial⟩
   all_goals
    intro vs1 wx hJ hn K hK;simp [dA,mJ,aW,Region.binds] at hn;simp only [mJ,aW,Act.put,Nat.reduceAdd,Nat.zero_add,pS] at hK
   ·go_wp2
    exact hK _ _ iB rfl
   ·have hy:=HY.out.below hJ
    obtain ⟨y0,y1⟩:=qw hy;go_wp2;exact hK _ _ iB rfl
   ·simp only [hn] at hK⊢
    have hsx:=HL.out.below aK (by decide) hJ
    go_wp2_with fail
    refine (gF ⟨r.log.base,o⟩ _ _ wx hsx (by simp only;omega) (by simp only;omega)).mono ?_;rintro e w5 ⟨rfl,hb5⟩;go_wp2;exact hK _ _ hb5 rfl
   ·simp only [hn] at hK⊢
    have hd:decide (r.log.base+(o.length:Int)<I)=false:=decide_eq_false (by have:=HI.out;omega);go_wp2;exact hK _ _ iB rfl
   ·simp only [hn] at hK⊢
    go_wp2;exact hK _ _ iB rfl
   ·simp only [hn] at hK⊢
    go_wp2;exact hK _ _ iB rfl
   ·simp only [hn] at hK⊢
    have hy:=HY.out.below hJ;have y1:=hy.cell 1 _ rfl;go_wp2;exact hK _ _ iB rfl
   ·simp only [hn] at hK⊢
    go_wp2;exact hK _ _ iB rfl
   ·simp only [hn] at hK⊢
    go_wp2;exact hK _ _ iB rfl
   ·simp only [hn] at hK⊢
    have hy:=HY.out.below hJ;have y0:=hy.cell 0 _ rfl;go_wp2;exact hK _ _ iB rfl
   ·simp only [hn] at hK⊢
    have e1:IntKind.i64.wrap (I - r.log.base)=(n:Int)+1:=(IntWalk.i64_in _ (by have:=HI.out;omega)).trans (by have:=HI.out;omega);go_wp2;exact hK _ _ iB rfl
   ·simp only [hn] at hK⊢
    have e2:IntKind.i64.wrap ((n:Int)+1 - 1)=(n:Int):=(IntWalk.i64_in _ (by omega)).trans (by omega);go_wp2;exact hK _ _ iB rfl
   ·simp only [hn] at hK⊢
    go_wp2;exact hK _ _ iB rfl
   ·simp only [hn] at hK⊢
    have q0:=aB Q0.out (hJ.block _ hq0);go_wp2;exact hK _ _ iB rfl
   ·simp only [hn] at hK⊢
    go_wp2;exact hK _ _ iB rfl
   ·simp only [hn] at hK⊢
    go_wp2;exact hK _ _ iB rfl
   ·simp only [hn] at hK⊢
    have hx:=HX.out.below hJ;have x1:=hx.cell 1 _ rfl;go_wp2;exact hK _ _ iB rfl
   ·simp only [hn] at hK⊢
    go_wp2;exact hK _ _ iB rfl
   ·simp only [hn] at hK⊢
    go_wp2;exact hK _ _ iB rfl
   ·simp only [hn] at hK⊢
    go_wp2;exact hK _ _ iB rfl
   ·simp only [hn] at hK⊢
    have hx:=HX.out.below hJ;have x0:=hx.cell 0 _ rfl;go_wp2;exact hK _ _ iB rfl
   ·simp only [hn] at hK⊢
    have e1:IntKind.i64.wrap (I - r.log.base)=(n:Int)+1:=(IntWalk.i64_in _ (by have:=HI.out;omega)).trans (by have:=HI.out;omega);go_wp2;exact hK _ _ iB rfl
   ·simp only [hn] at hK⊢
    have e2:IntKind.i64.wrap ((n:Int)+1 - 1)=(n:Int):=(IntWalk.i64_in _ (by omega)).trans (by omega);go_wp2;exact hK _ _ iB rfl
   ·simp only [hn] at hK⊢
    go_wp2;exact hK _ _ iB rfl
   ·simp only [hn] at hK⊢
    have q6:=aB Q6.out (hJ.block _ hq6);go_wp2;exact hK _ _ iB rfl
   ·simp only [hn] at hK⊢
    go_wp2;exact hK _ _ iB rfl
   ·simp only [hn] at hK⊢
    go_wp2;exact hK _ _ iB rfl
  case hend =>
   intro vs1 wx hJ hv;simp [eF,aW] at hv;obtain ⟨e0,e1,e2,e3,e4,e5,e6,e7,e8,e9,e10,e11,e12,e13,e14,e15,e16,e17,e18,e19,e20,e21,e22,e23,e24,e25,e26⟩:=hv;simp only [aJ,Act.put,Nat.reduceAdd,Nat.zero_add,pS];rw [e0,e1,e2,e3,e4,e5,e6,e7,e8,e9,e10,e11,e12,e13,e14,e15,e16,e17,e18,e19,e20,e21,e22,e23,e24,e25,e26];clear e0 e1 e2 e3 e4 e5 e6 e7 e8 e9 e10 e11 e12 e13 e14 e15 e16 e17 e18 e19 e20 e21 e22 e23 e24 e25 e26;have mP:=iH (ah Pb.out hJ)
   rename World=>w5
   have e5:IntKind.i64.wrap (I+1)=I+1:=IntWalk.i64_in _ (by have:=HI.out;omega);go_wp2
   go_roundw
   case rel=>exact ⟨n+1,I+1,by omega,iH (by have:=HI.out;omega),rfl,mP⟩
   case measure=>simp [intOf];omega
 ·have hgt:r.state.index<I:=by have:=HI.out;omega
  have x3:=HX.out.cell 3 _ rfl;go_upto_region 12 with (fail);clear x3;obtain ⟨x0,x1,x2,x3,x4,x5,x6⟩:=gM HX.out
  go_wp2_with fail
  refine (oC r _ _ _ _ _ wr HR.out HF.out.log HF.out.st).mono ?_;rintro e w5 ⟨ue,ul,up,uz,rfl,jo,hb5⟩;obtain ⟨a1,c1,rfl,-,-,-,-⟩:=id jo.lD;obtain ⟨a2,c2,rfl,-,-,-,-⟩:=id jo.st.lock;obtain ⟨a3,c3,rfl,-,-,-,-⟩:=id jo.st.pair;obtain ⟨a4,c4,rfl,-,-,-,-⟩:=id jo.st.dG;have HC:=iH (jo.sub (S':=fun b=>w.heap.size+2≤b) fun b hb _=>by show _≤_;have:wr.heap.size≤b:=hb;have:=HZ.out.lt;omega);clear jo;clear x0 x1 x2 x3 x4 x5 x6;replace HR:=iH (HR.out.below hb5);replace HX:=iH (HX.out.below hb5);replace HZ:=iH (HZ.out.below hb5);replace HB:=iH (ah HB.out hb5);replace HL:=iH (HL.out.below aK (by decide) hb5);replace HY:=iH (HY.out.below hb5);clear hb5;clear HR;obtain ⟨x0,x1,x2,x3,x4,x5,x6⟩:=gM HX.out;obtain ⟨UM,UL,UK,RF,RD,RB,Rz⟩:=sK HX.out;have hzl:=HZ.out.lt;go_upto_region 13 with (fail);generalize bF:(((((((w5.setCell ⟨w.heap.size,0,none⟩ (iI r.log.base)).setCell ⟨w.heap.size,1,none⟩ (.slice a1 r.log.entries.length c1)).setCell ⟨w.heap.size,2,none⟩ (iS r.snap)).setCell ⟨w.heap.size,3,none⟩ (iI r.state.index)).setCell ⟨w.heap.size,4,none⟩ (.slice a2 r.state.au.length c2)).setCell ⟨w.heap.size,5,none⟩ (.slice a3 r.state.pairs.length c3)).setCell ⟨w.heap.size,6,none⟩ (.slice a4 r.state.af.length c4))=w6 at *
  have oI:Hid (aD w6 (w.heap.size) [iI r.log.base, .slice a1 r.log.entries.length c1, iS r.snap, iI r.state.index, .slice a2 r.state.au.length c2, .slice a3 r.state.pairs.length c3, .slice a4 r.state.af.length c4]):=bF▸iH (aD.store (w:=w5) [iI r.log.base, .slice a1 r.log.entries.length c1, iS r.snap, iI r.state.index, .slice a2 r.state.au.length c2, .slice a3 r.state.pairs.length c3, .slice a4 r.state.af.length c4] [iI r.log.base,ve, iS r.snap, iI r.state.index,vl,vp,vz] 0 HX.out (by simp));have mg:Hid (aD w6 (w.heap.size+1) [iI 0, iN, .string ⟨#[]⟩, iI 0, iN, iN, iN]):=bF▸iH (aD.fK (by omega) [iI r.log.base, .slice a1 r.log.entries.length c1, iS r.snap, iI r.state.index, .slice a2 r.state.au.length c2, .slice a3 r.state.pairs.length c3, .slice a4 r.state.af.length c4] 0 HZ.out);have lS:Hid (Below w.heap.size w w6):=bF▸iH (bG (by omega) [iI r.log.base, .slice a1 r.log.entries.length c1, iS r.snap, iI r.state.index, .slice a2 r.state.au.length c2, .slice a3 r.state.pairs.length c3, .slice a4 r.state.af.length c4] 0 _ HB.out)
  have tT:Hid (aZ 1 iw w6 (.slice b5 o.length d5) o (fun b=>w.heap.size+2≤b)):=bF▸iH (aZ.store aK (by decide) HL.out 0 [iI r.log.base, .slice a1 r.log.entries.length c1, iS r.snap, iI r.state.index, .slice a2 r.state.au.length c2, .slice a3 r.state.pairs.length c3, .slice a4 r.state.af.length c4] fun k hk=>⟨by have:w.heap.size+2≤k:=hk;omega,hk⟩);have zD:Hid (aD w6 (BY) [iI r.log.base, .slice b5 o.length d5]):=bF▸iH (aD.fK (by omega) [iI r.log.base, .slice a1 r.log.entries.length c1, iS r.snap, iI r.state.index, .slice a2 r.state.au.length c2, .slice a3 r.state.pairs.length c3, .slice a4 r.state.af.length c4] 0 HY.out);have wN:Hid (dh w6 r (.slice a1 r.log.entries.length c1) (.slice a2 r.state.au.length c2) (.slice a3 r.state.pairs.length c3) (.slice a4 r.state.af.length c4) (fun b=>w.heap.size+2≤b)):=bF▸iH (dh.store HC.out 0 [iI r.log.base, .slice a1 r.log.entries.length c1, iS r.snap, iI r.state.index, .slice a2 r.state.au.length c2, .slice a3 r.state.pairs.length c3, .slice a4 r.state.af.length c4] fun k hk=>⟨by have:w.heap.size+2≤k:=hk;omega,hk⟩);clear hzl;clear bF;replace HX:=oI;clear oI;replace HZ:=mg;clear mg;replace HB:=lS;clear lS;replace HL:=tT;clear tT;replace HY:=zD;clear zD;replace HC:=wN;clear wN;obtain ⟨y0,y1⟩:=qw HY.out
  obtain ⟨q0,q1⟩:=qw HX.out;obtain ⟨qt0,qt1⟩:=OO HX.out;have hzl:=HZ.out.lt;go_upto_region 14 with (fail);generalize bF:((w6.setCell ⟨w.heap.size,0,none⟩ (iI r.log.base)).setCell ⟨w.heap.size,1,none⟩ (.slice b5 o.length d5))=w7 at *;have oI:Hid (aD w7 (w.heap.size) [iI r.log.base, .slice b5 o.length d5, iS r.snap, iI r.state.index, .slice a2 r.state.au.length c2, .slice a3 r.state.pairs.length c3, .slice a4 r.state.af.length c4]):=bF▸iH (aD.store (w:=w6) [iI r.log.base, .slice b5 o.length d5] [iI r.log.base, .slice a1 r.log.entries.length c1, iS r.snap, iI r.state.index, .slice a2 r.state.au.length c2, .slice a3 r.state.pairs.length c3, .slice a4 r.state.af.length c4] 0 HX.out (by simp));have mg:Hid (aD w7 (w.heap.size+1) [iI 0, iN, .string ⟨#[]⟩, iI 0, iN, iN, iN]):=bF▸iH (aD.fK (by omega) [iI r.log.base, .slice b5 o.length d5] 0 HZ.out);have lS:Hid (Below w.heap.size w w7):=bF▸iH (bG (by omega) [iI r.log.base, .slice b5 o.length d5] 0 _ HB.out);have tT:Hid (aZ 1 iw w7 (.slice b5 o.length d5) o (fun b=>w.heap.size+2≤b)):=bF▸iH (aZ.store aK (by decide) HL.out 0 [iI r.log.base, .slice b5 o.length d5] fun k hk=>⟨by have:w.heap.size+2≤k:=hk;omega,hk⟩)
  have zD:Hid (aD w7 (BY) [iI r.log.base, .slice b5 o.length d5]):=bF▸iH (aD.fK (by omega) [iI r.log.base, .slice b5 o.length d5] 0 HY.out);have wN:Hid (dh w7 r (.slice a1 r.log.entries.length c1) (.slice a2 r.state.au.length c2) (.slice a3 r.state.pairs.length c3) (.slice a4 r.state.af.length c4) (fun b=>w.heap.size+2≤b)):=bF▸iH (dh.store HC.out 0 [iI r.log.base, .slice b5 o.length d5] fun k hk=>⟨by have:w.heap.size+2≤k:=hk;omega,hk⟩);clear hzl;clear bF;replace HX:=oI;clear oI;replace HZ:=mg;clear mg;replace HB:=lS;clear lS;replace HL:=tT;clear tT;replace HY:=zD;clear zD;replace HC:=wN;clear wN;obtain ⟨x0,x1,x2,x3,x4,x5,x6⟩:=gM HX.out;obtain ⟨z0,z1,z2,z3,z4,z5,z6⟩:=gM HZ.out;obtain ⟨NL,NK,NJ,NI,P5,PZ,PY⟩:=sK HZ.out;have hzl:=HZ.out.lt;go_wp2;generalize bF:(((((((w7.setCell ⟨w.heap.size+1,0,none⟩ (iI r.log.base)).setCell ⟨w.heap.size+1,1,none⟩ (.slice b5 o.length d5)).setCell ⟨w.heap.size+1,2,none⟩ (iS r.snap)).setCell ⟨w.heap.size+1,3,none⟩ (iI r.state.index)).setCell ⟨w.heap.size+1,4,none⟩ (.slice a2 r.state.au.length c2)).setCell ⟨w.heap.size+1,5,none⟩ (.slice a3 r.state.pairs.length c3)).setCell ⟨w.heap.size+1,6,none⟩ (.slice a4 r.state.af.length c4))=wf at *
  have oI:Hid (aD wf (w.heap.size) [iI r.log.base, .slice b5 o.length d5, iS r.snap, iI r.state.index, .slice a2 r.state.au.length c2, .slice a3 r.state.pairs.length c3, .slice a4 r.state.af.length c4]):=bF▸iH (aD.fK (by omega) [iI r.log.base, .slice b5 o.length d5, iS r.snap, iI r.state.index, .slice a2 r.state.au.length c2, .slice a3 r.state.pairs.length c3, .slice a4 r.state.af.length c4] 0 HX.out);have mg:Hid (aD wf (w.heap.size+1) [iI r.log.base, .slice b5 o.length d5, iS r.snap, iI r.state.index, .slice a2 r.state.au.length c2, .slice a3 r.state.pairs.length c3, .slice a4 r.state.af.length c4]):=bF▸iH (aD.store (w:=w7) [iI r.log.base, .slice b5 o.length d5, iS r.snap, iI r.state.index, .slice a2 r.state.au.length c2, .slice a3 r.state.pairs.length c3, .slice a4 r.state.af.length c4] [iI 0, iN, .string ⟨#[]⟩, iI 0, iN, iN, iN] 0 HZ.out (by simp));have lS:Hid (Below w.heap.size w wf):=bF▸iH (bG (by omega) [iI r.log.base, .slice b5 o.length d5, iS r.snap, iI r.state.index, .slice a2 r.state.au.length c2, .slice a3 r.state.pairs.length c3, .slice a4 r.state.af.length c4] 0 _ HB.out)
  have tT:Hid (aZ 1 iw wf (.slice b5 o.length d5) o (fun b=>w.heap.size+2≤b)):=bF▸iH (aZ.store aK (by decide) HL.out 0 [iI r.log.base, .slice b5 o.length d5, iS r.snap, iI r.state.index, .slice a2 r.state.au.length c2, .slice a3 r.state.pairs.length c3, .slice a4 r.state.af.length c4] fun k hk=>⟨by have:w.heap.size+2≤k:=hk;omega,hk⟩);have zD:Hid (aD wf (BY) [iI r.log.base, .slice b5 o.length d5]):=bF▸iH (aD.fK (by omega) [iI r.log.base, .slice b5 o.length d5, iS r.snap, iI r.state.index, .slice a2 r.state.au.length c2, .slice a3 r.state.pairs.length c3, .slice a4 r.state.af.length c4] 0 HY.out);have wN:Hid (dh wf r (.slice a1 r.log.entries.length c1) (.slice a2 r.state.au.length c2) (.slice a3 r.state.pairs.length c3) (.slice a4 r.state.af.length c4) (fun b=>w.heap.size+2≤b)):=bF▸iH (dh.store HC.out 0 [iI r.log.base, .slice b5 o.length d5, iS r.snap, iI r.state.index, .slice a2 r.state.au.length c2, .slice a3 r.state.pairs.length c3, .slice a4 r.state.af.length c4] fun k hk=>⟨by have:w.heap.size+2≤k:=hk;omega,hk⟩);clear bF;replace HX:=oI;clear oI;replace HZ:=mg;clear mg;replace HB:=lS;clear lS;replace HL:=tT;clear tT;replace HY:=zD;clear zD;replace HC:=wN;clear wN;obtain ⟨g0,g1,g2,g3,g4,g5,g6⟩:=gM HZ.out
  refine bodyPost_ret (v:=.tuple #[.agg #[iI r.log.base, .slice b5 o.length d5, iS r.snap, iI r.state.index, .slice a2 r.state.au.length c2, .slice a3 r.state.pairs.length c3, .slice a4 r.state.af.length c4], iI 0]) (by simp [results,Tryz.results16,go_sem,g0,g1,g2,g3,g4,g5,g6]) rfl ⟨_,_,_,_,rfl,⟨HL.out.sub aK (by decide) fun b hb _=>by show _≤_;have:w.heap.size+2≤b:=hb;omega,HC.out.st.sub fun b hb _=>by show _≤_;have:w.heap.size+2≤b:=hb;omega⟩,HB.out⟩
theorem rE (w:World) (x:aN) (t:List UInt8) (rv:Value) (jd:rv.oneCell'=true) :
 Calls Tryz.prog 161 #[.agg #[iS x.name, iI x.holder, iI x.fence,rv], iS t] w fun e w'=>e=.returned (iI (bV x t))∧Below w.heap.size w w':=by
 go_enter Tryz.func161,Tryz.ntmps161
 go_wp2_with fail
 refine (rA x.name t _).mono ?_;rintro e w' ⟨rfl,rfl⟩;go_wp2;go_ret;exact ⟨rfl,iB.alloc (Nat.le_refl _) _⟩
theorem yj (w:World) (v:Value) (l:List aN) (S:Nat→Prop) (h:aZ 4 fZ w v l S) (hn:l.length≤1000000) (t:List UInt8) :
 Calls Tryz.prog 69 #[v, iS t, .func (.func 161) #[] #[]] w fun e w' =>
  e=.returned (.tuple #[iI (bs (fun i=>bV (l.getD i aO) t) l.length:Nat), .bool (di (fun i=>bV (l.getD i aO) t) l.length)])∧Below w.heap.size w w':=by
 obtain ⟨a,cap,hv,hl,hm,hnil,-⟩:=id h;subst hv;unfold maxLen at hm
 go_enter Tryz.func69,Tryz.ntmps69
 go_wp2
 go_loopw [9,10,11] (fun i j _ wr=>∃p q:Nat,p≤q∧q≤l.length∧i=iI p∧j=iI q∧Hid (bsGo (fun i=>bV (l.getD i aO) t) (q - p) p q=bs (fun i=>bV (l.getD i aO) t) l.length)∧Below w.heap.size w wr)
  (fun i j _ _=>(intOf j).toNat - (intOf i).toNat)
 case atStart=>exact ⟨0,l.length,by omega,by omega,rfl,rfl,rfl,iB⟩
 case round =>
  obtain ⟨p,q,hpq,zY,rfl,rfl,hgo,hb⟩:=hrel
  by_cases hlt:p<q
  ·have hml:(p+q) / 2<l.length:=by omega
   obtain ⟨b,off,cap',row,hv,hS,hrow,hcells⟩:=(h.below aM (by decide) hb).row ((p+q) / 2) hml;simp only [Value.slice.injEq] at hv;obtain ⟨rfl,_,rfl⟩:=hv;have hg:l.getD ((p+q) / 2) aO=l[(p+q) / 2]:=by simp [List.getD,hml]
   have HL:Hid (bV l[(p+q) / 2] t<0→bsGo (fun i=>bV (l.getD i aO) t) (q - ((p+q) / 2+1)) ((p+q) / 2+1) q=bs (fun i=>bV (l.getD i aO) t) l.length):=fun hf=>by
    rw [←rU _ hlt (by show bV (l.getD ((p+q) / 2) aO) t<0;rw [hg];exact hf)];exact hgo.out
   have HM:Hid (¬ bV l[(p+q) / 2] t<0→bsGo (fun i=>bV (l.getD i aO) t) ((p+q) / 2 - p) p ((p+q) / 2)=bs (fun i=>bV (l.getD i aO) t) l.length):=fun hf=>by
    rw [←rT _ hlt (by show ¬ bV (l.getD ((p+q) / 2) aO) t<0;rw [hg];exact hf)];exact hgo.out
   clear hgo hg;generalize l[(p+q) / 2]=x at *;obtain ⟨rv,rfl,jd⟩:=hrow;obtain ⟨ra,wZ,rfl,-⟩:=id jd;have q0:=hcells 0 _ rfl;have q1:=hcells 1 _ rfl;have q2:=hcells 2 _ rfl;have q3:=hcells 3 _ rfl;simp only [Nat.add_zero] at q0;clear hcells;have hws:=hb.size
   by_cases hf:bV x t<0
   all_goals (have HF:=iH hf)
   ·go_wp2_with (go_at_call 161;refine (rE _ x t _ rfl).mono ?_;rintro e w2 ⟨rfl,hb2⟩)
    go_roundw
    case rel=>exact ⟨(p+q) / 2+1,q,by omega,zY,by go_num,rfl,HL.out HF.out,hb.trans (hb2.mono hws)⟩
    case measure=>simp [intOf];omega
   ·go_wp2_with (go_at_call 161;refine (rE _ x t _ rfl).mono ?_;rintro e w2 ⟨rfl,hb2⟩)
    go_roundw
    case rel=>exact ⟨p,(p+q) / 2,by omega,by omega,rfl,by go_num,HM.out HF.out,hb.trans (hb2.mono hws)⟩
    case measure=>simp [intOf];omega
  ·obtain rfl:p=q:=by omega
   have HP:Hid (bs (fun i=>bV (l.getD i aO) t) l.length=p):=by have:=hgo.out;rw [Nat.sub_self] at this;exact this.symm
   clear hgo;have hws:=hb.size
   by_cases hml:p<l.length
   ·obtain ⟨b,off,cap',row,hv,hS,hrow,hcells⟩:=(h.below aM (by decide) hb).row p hml
    simp only [Value.slice.injEq] at hv;obtain ⟨rfl,_,rfl⟩:=hv;have HG:Hid (di (fun i=>bV (l.getD i aO) t) l.length=(bV l[p] t == 0)):=by
     show _=_
     rw [di,HP.out,decide_eq_true hml,show l.getD p aO=l[p] by simp [List.getD,hml]];rfl
    skip
    clear h;generalize l[p]=x at *;obtain ⟨rv,rfl,jd⟩:=hrow;obtain ⟨ra,wZ,rfl,-⟩:=id jd;have q0:=hcells 0 _ rfl;have q1:=hcells 1 _ rfl;have q2:=hcells 2 _ rfl;have q3:=hcells 3 _ rfl;simp only [Nat.add_zero] at q0;clear hcells
    go_wp2_with (go_at_call 161;refine (rE _ x t _ rfl).mono ?_;rintro e w2 ⟨rfl,hb2⟩)
    go_ret2
    exact ⟨qg (by rw [HP.out];rfl) (by rw [HG.out];rfl),hb.trans (hb2.mono hws)⟩
   ·have HG:Hid (di (fun i=>bV (l.getD i aO) t) l.length=false):=by
     show _=_
     rw [di,HP.out,decide_eq_false hml];rfl
    clear h;go_wp2
    go_ret2
    exact ⟨qg (by rw [HP.out];rfl) (by rw [HG.out];rfl),hb⟩
theorem qj (w:World) (x:aN) (t:List UInt8) (rv:Value) (jd:rv.oneCell'=true) :
 Calls Tryz.prog 70 #[.agg #[iS x.name, iI x.holder, iI x.fence,rv], iS t] w fun e w'=>e=.returned (iI (bV x t))∧Below w.heap.size w w':=by
 go_enter Tryz.func70,Tryz.ntmps70
 go_wp2_with fail
 refine (rA x.name t _).mono ?_;rintro e w' ⟨rfl,rfl⟩;go_wp2;go_ret;exact ⟨rfl,iB.alloc (Nat.le_refl _) _⟩
theorem wV (w:World) (v:Value) (l:List aN) (S:Nat→Prop) (h:aZ 4 fZ w v l S) (hn:l.length≤1000000) (t:List UInt8) :
 Calls Tryz.prog 69 #[v, iS t, .func (.func 70) #[] #[]] w fun e w' =>
  e=.returned (.tuple #[iI (bs (fun i=>bV (l.getD i aO) t) l.length:Nat), .bool (di (fun i=>bV (l.getD i aO) t) l.length)])∧Below w.heap.size w w':=by
 obtain ⟨a,cap,hv,hl,hm,hnil,-⟩:=id h;subst hv;unfold maxLen at hm
 go_enter Tryz.func69,Tryz.ntmps69
 go_wp2
 go_loopw [9,10,11] (fun i j _ wr=>∃p q:Nat,p≤q∧q≤l.length∧i=iI p∧j=iI q∧Hid (bsGo (fun i=>bV (l.getD i aO) t) (q - p) p q=bs (fun i=>bV (l.getD i aO) t) l.length)∧Below w.heap.size w wr)
  (fun i j _ _=>(intOf j).toNat - (intOf i).toNat)
 case atStart=>exact ⟨0,l.length,by omega,by omega,rfl,rfl,rfl,iB⟩
 case round =>
  obtain ⟨p,q,hpq,zY,rfl,rfl,hgo,hb⟩:=hrel
  by_cases hlt:p<q
  ·have hml:(p+q) / 2<l.length:=by omega
   obtain ⟨b,off,cap',row,hv,hS,hrow,hcells⟩:=(h.below aM (by decide) hb).row ((p+q) / 2) hml;simp only [Value.slice.injEq] at hv;obtain ⟨rfl,_,rfl⟩:=hv;have hg:l.getD ((p+q) / 2) aO=l[(p+q) / 2]:=by simp [List.getD,hml]
   have HL:Hid (bV l[(p+q) / 2] t<0→bsGo (fun i=>bV (l.getD i aO) t) (q - ((p+q) / 2+1)) ((p+q) / 2+1) q=bs (fun i=>bV (l.getD i aO) t) l.length):=fun hf=>by
    rw [←rU _ hlt (by show bV (l.getD ((p+q) / 2) aO) t<0;rw [hg];exact hf)];exact hgo.out
   have HM:Hid (¬ bV l[(p+q) / 2] t<0→bsGo (fun i=>bV (l.getD i aO) t) ((p+q) / 2 - p) p ((p+q) / 2)=bs (fun i=>bV (l.getD i aO) t) l.length):=fun hf=>by
    rw [←rT _ hlt (by show ¬ bV (l.getD ((p+q) / 2) aO) t<0;rw [hg];exact hf)];exact hgo.out
   clear hgo hg;generalize l[(p+q) / 2]=x at *;obtain ⟨rv,rfl,jd⟩:=hrow;obtain ⟨ra,wZ,rfl,-⟩:=id jd;have q0:=hcells 0 _ rfl;have q1:=hcells 1 _ rfl;have q2:=hcells 2 _ rfl;have q3:=hcells 3 _ rfl;simp only [Nat.add_zero] at q0;clear hcells;have hws:=hb.size
   by_cases hf:bV x t<0
   all_goals (have HF:=iH hf)
   ·go_wp2_with (go_at_call 70;refine (qj _ x t _ rfl).mono ?_;rintro e w2 ⟨rfl,hb2⟩)
    go_roundw
    case rel=>exact ⟨(p+q) / 2+1,q,by omega,zY,by go_num,rfl,HL.out HF.out,hb.trans (hb2.mono hws)⟩
    case measure=>simp [intOf];omega
   ·go_wp2_with (go_at_call 70;refine (qj _ x t _ rfl).mono ?_;rintro e w2 ⟨rfl,hb2⟩)
    go_roundw
    case rel=>exact ⟨p,(p+q) / 2,by omega,by omega,rfl,by go_num,HM.out HF.out,hb.trans (hb2.mono hws)⟩
    case measure=>simp [intOf];omega
  ·obtain rfl:p=q:=by omega
   have HP:Hid (bs (fun i=>bV (l.getD i aO) t) l.length=p):=by have:=hgo.out;rw [Nat.sub_self] at this;exact this.symm
   clear hgo;have hws:=hb.size
   by_cases hml:p<l.length
   ·obtain ⟨b,off,cap',row,hv,hS,hrow,hcells⟩:=(h.below aM (by decide) hb).row p hml
    simp only [Value.slice.injEq] at hv;obtain ⟨rfl,_,rfl⟩:=hv;have HG:Hid (di (fun i=>bV (l.getD i aO) t) l.length=(bV l[p] t == 0)):=by
     show _=_
     rw [di,HP.out,decide_eq_true hml,show l.getD p aO=l[p] by simp [List.getD,hml]];rfl
    skip
    clear h;generalize l[p]=x at *;obtain ⟨rv,rfl,jd⟩:=hrow;obtain ⟨ra,wZ,rfl,-⟩:=id jd;have q0:=hcells 0 _ rfl;have q1:=hcells 1 _ rfl;have q2:=hcells 2 _ rfl;have q3:=hcells 3 _ rfl;simp only [Nat.add_zero] at q0;clear hcells
    go_wp2_with (go_at_call 70;refine (qj _ x t _ rfl).mono ?_;rintro e w2 ⟨rfl,hb2⟩)
    go_ret2
    exact ⟨qg (by rw [HP.out];rfl) (by rw [HG.out];rfl),hb.trans (hb2.mono hws)⟩
   ·have HG:Hid (di (fun i=>bV (l.getD i aO) t) l.length=false):=by
     show _=_
     rw [di,HP.out,decide_eq_false hml];rfl
    clear h;go_wp2
    go_ret2
    exact ⟨qg (by rw [HP.out];rfl) (by rw [HG.out];rfl),hb⟩
end Go.Proofs.YtbngpjdflblffaaGreatDoor
