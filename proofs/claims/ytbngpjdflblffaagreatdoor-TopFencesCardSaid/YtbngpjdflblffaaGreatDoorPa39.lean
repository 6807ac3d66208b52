/- A part of the proof, laid together from: CluI. -/
import Derived.Test.YtbngpjdflblffaaGreatDoorPa38
set_option linter.all false
set_option maxRecDepth 100000
set_option maxHeartbeats 12800000
namespace Go.Tk
open Go Go.RowKit
theorem cB {ER EC EM EK:Nat} {w w':World} {X:Nat} {x:bS} {Z:Nat→Prop} (h:gW ER EC EM EK w X x Z) (hb:Below w.heap.size w w'):gW ER EC EM EK w' X x Z:=by
 obtain ⟨v1,v2,v3,v4,h⟩:=h;exact ⟨v1,v2,v3,v4,h.below hb⟩
theorem eY.after {ER EC EM EK:Nat} {w w1 w':World} {X:Nat} {Z:Nat→Prop} {x:bS} (h:eY ER EC EM EK w1 X Z w' x) (hb:Below w.heap.size w w1):eY ER EC EM EK w X Z w' x:=h.step (aX.of_below hb) fun _ h=>.inl h
end Go.Tk
namespace Go.Proofs.YtbngpjdflblffaaGreatDoor
open Go.RowKit Go.Tk
theorem EF (m n:Nat) (x:bS) (X:Nat) (Z:Nat→Prop) (w:World) (h:gW 45 73 101 9 w X x Z) (hok:aT m n x) (a:dK) (ha:fC a) (hr0:0≤a.r) (hr3:a.r<3) (hk:a.kind=4) :
 Calls Tryz.prog 87 #[iP X 0, .agg #[iI a.kind, iI a.c, iI a.r, iI a.k, iI a.op.kind, iS a.op.a, iS a.op.b, iI a.op.n]] w fun e w'=>e=.returned (iI (xQ x a.r.toNat a.k).2)∧eY 45 73 101 9 w X Z w' (xQ x a.r.toNat a.k).1:=by
 have HH:=iH h;have gG:=iH hok;obtain ⟨r,hr⟩:∃r:Nat,(r:Int)=a.r:=⟨a.r.toNat,by omega⟩;have hr4:r<3:=by omega
 obtain ⟨hk0,hk1⟩:=ha.k;obtain ⟨kd,c,r',k,op⟩:=a;simp only at hr hr0 hr3 hk hk0 hk1⊢;subst hr hk;simp only [Int.toNat_natCast];clear h hok ha;have hd1:decide ((r:Int)<0)=false:=decide_eq_false (by omega);have hd2:decide ((3:Int)≤(r:Int))=false:=decide_eq_false (by omega)
 go_enter Tryz.func87,Tryz.ntmps87
 go_upto_region 1 with (fail);generalize bF:w.alloc (.cells #[iI 4, iI c, iI (r:Int), iI k, iI op.kind, iS op.a, iS op.b, iI op.n] 70)=w1 at *;have hbz:=tQ bF;have HX:=iH (tO bF);have nL:=iH (cB HH.out hbz);have HB:=iH hbz;clear hbz HH;clear bF;obtain ⟨BX,jT⟩:∃BX,w.heap.size=BX:=⟨_,rfl⟩;rw [jT] at HX⊢;have yY:=iH jT;clear jT;have y2:=HX.out.cell 2 _ rfl;go_upto_region 4 with (fail);clear y2;generalize bF:w1.alloc (.cells #[iI 0, iN, .string ⟨#[]⟩, iI 0, iN, iN, iN] 45)=w2 at *;have hbz:=tQ bF;have HZ:=iH (tO bF);replace HX:=iH (HX.out.below hbz);replace nL:=iH (cB nL.out hbz);replace HB:=iH (ah HB.out hbz);clear hbz;clear bF;obtain ⟨BZ,GH⟩:∃BZ,w1.heap.size=BZ:=⟨_,rfl⟩;rw [GH] at HZ⊢;clear GH;have y0:=HX.out.cell 0 _ rfl;have y2:=HX.out.cell 2 _ rfl;have y3:=HX.out.cell 3 _ rfl;go_upto_region 8 with (fail)
 go_wp2_with fail
 refine (Hg m n x X Z w2 nL.out gG.out r hr4 k ⟨hk0,hk1⟩).mono ?_;rintro e w3 ⟨rfl,hcd⟩;have vX:=iH (hcd.after HB.out);clear hcd y0 y2 y3;go_wp2;go_ret;exact ⟨rfl,vX.out⟩
theorem CZ (m n:Nat) (x:bS) (X:Nat) (Z:Nat→Prop) (w:World) (h:gW 45 73 101 9 w X x Z) (hok:aT m n x) (a:dK) (ha:fC a) (hr0:0≤a.r) (hr3:a.r<3) (hk:a.kind=5) :
 Calls Tryz.prog 87 #[iP X 0, .agg #[iI a.kind, iI a.c, iI a.r, iI a.k, iI a.op.kind, iS a.op.a, iS a.op.b, iI a.op.n]] w fun e w'=>e=.returned (iI (nY x a.r.toNat a.k).2)∧eY 45 73 101 9 w X Z w' (nY x a.r.toNat a.k).1:=by
 have HH:=iH h;have gG:=iH hok;obtain ⟨r,hr⟩:∃r:Nat,(r:Int)=a.r:=⟨a.r.toNat,by omega⟩;have hr4:r<3:=by omega
 obtain ⟨hk0,hk1⟩:=ha.k;obtain ⟨kd,c,r',k,op⟩:=a;simp only at hr hr0 hr3 hk hk0 hk1⊢;subst hr hk;simp only [Int.toNat_natCast];clear h hok ha;have hd1:decide ((r:Int)<0)=false:=decide_eq_false (by omega);have hd2:decide ((3:Int)≤(r:Int))=false:=decide_eq_false (by omega)
 go_enter Tryz.func87,Tryz.ntmps87
 go_upto_region 1 with (fail);generalize bF:w.alloc (.cells #[iI 5, iI c, iI (r:Int), iI k, iI op.kind, iS op.a, iS op.b, iI op.n] 70)=w1 at *;have hbz:=tQ bF;have HX:=iH (tO bF);have nL:=iH (cB HH.out hbz);have HB:=iH hbz;clear hbz HH;clear bF;obtain ⟨BX,jT⟩:∃BX,w.heap.size=BX:=⟨_,rfl⟩;rw [jT] at HX⊢;have yY:=iH jT;clear jT;have y2:=HX.out.cell 2 _ rfl;go_upto_region 4 with (fail);clear y2;generalize bF:w1.alloc (.cells #[iI 0, iN, .string ⟨#[]⟩, iI 0, iN, iN, iN] 45)=w2 at *;have hbz:=tQ bF;have HZ:=iH (tO bF);replace HX:=iH (HX.out.below hbz);replace nL:=iH (cB nL.out hbz);replace HB:=iH (ah HB.out hbz);clear hbz;clear bF;obtain ⟨BZ,GH⟩:∃BZ,w1.heap.size=BZ:=⟨_,rfl⟩;rw [GH] at HZ⊢;clear GH;have y0:=HX.out.cell 0 _ rfl;have y2:=HX.out.cell 2 _ rfl;have y3:=HX.out.cell 3 _ rfl;go_upto_region 10 with (fail)
 go_wp2_with fail
 refine (Gt m n x X Z w2 nL.out gG.out r hr4 k ⟨hk0,hk1⟩).mono ?_;rintro e w3 ⟨rfl,hcd⟩;have vX:=iH (hcd.after HB.out);clear hcd y0 y2 y3;go_wp2;go_ret;exact ⟨rfl,vX.out⟩
theorem EG (m n:Nat) (x:bS) (X:Nat) (Z:Nat→Prop) (w:World) (h:gW 45 73 101 9 w X x Z) (hok:aT m n x) (a:dK) (ha:fC a) (hr0:0≤a.r) (hr3:a.r<3) (hk:a.kind=8) :
 Calls Tryz.prog 87 #[iP X 0, .agg #[iI a.kind, iI a.c, iI a.r, iI a.k, iI a.op.kind, iS a.op.a, iS a.op.b, iI a.op.n]] w fun e w'=>e=.returned (iI (uG x a.r.toNat).2)∧eY 45 73 101 9 w X Z w' (uG x a.r.toNat).1:=by
 have HH:=iH h;have gG:=iH hok;obtain ⟨r,hr⟩:∃r:Nat,(r:Int)=a.r:=⟨a.r.toNat,by omega⟩;have hr4:r<3:=by omega
 obtain ⟨kd,c,r',k,op⟩:=a;simp only at hr hr0 hr3 hk⊢;subst hr hk;simp only [Int.toNat_natCast];clear h hok ha;have hd1:decide ((r:Int)<0)=false:=decide_eq_false (by omega);have hd2:decide ((3:Int)≤(r:Int))=false:=decide_eq_false (by omega);obtain ⟨ag,hag⟩:∃ag,bN x r=ag:=⟨_,rfl⟩;obtain ⟨RES,uA⟩:∃RES,uG x r=RES:=⟨_,rfl⟩;rw [uA];have yX:=iH (show (if ag<x.K.length then (x,(9:Int)) else (nE { x with lead:=r },0))=RES by rw [←uA,uG,hag]);have K7:=iH hag;clear hag uA
 go_enter Tryz.func87,Tryz.ntmps87
 go_upto_region 1 with (fail);generalize bF:w.alloc (.cells #[iI 8, iI c, iI (r:Int), iI k, iI op.kind, iS op.a, iS op.b, iI op.n] 70)=w1 at *;have hbz:=tQ bF;have HX:=iH (tO bF);have nL:=iH (cB HH.out hbz);have HB:=iH hbz;clear hbz HH;clear bF;obtain ⟨BX,jT⟩:∃BX,w.heap.size=BX:=⟨_,rfl⟩;rw [jT] at HX⊢;have yY:=iH jT;clear jT;have y2:=HX.out.cell 2 _ rfl;go_upto_region 4 with (fail);clear y2;generalize bF:w1.alloc (.cells #[iI 0, iN, .string ⟨#[]⟩, iI 0, iN, iN, iN] 45)=w2 at *;have hbz:=tQ bF;have HZ:=iH (tO bF);replace HX:=iH (HX.out.below hbz);replace nL:=iH (cB nL.out hbz);replace HB:=iH (ah HB.out hbz);clear hbz;clear bF;obtain ⟨BZ,GH⟩:∃BZ,w1.heap.size=BZ:=⟨_,rfl⟩;rw [GH] at HZ⊢;clear GH;have y0:=HX.out.cell 0 _ rfl;have y2:=HX.out.cell 2 _ rfl;have y3:=HX.out.cell 3 _ rfl;obtain ⟨vr,vc,vm,vk,hm⟩:=nL.out;obtain ⟨ak,ck,hvk⟩:=hm.comm.shape;subst hvk;have hone:=hm.rep.oneCell;have kL:=hm.nV.oneCell;have qb:=hm.jh.oneCell;have HM:=iH hm;clear nL hm;go_upto_region 12 with (fail);clear y0 y2 y3
 by_cases hc:ag<x.K.length
 ·have uX:=iH (yX.out.symm.trans (if_pos hc))
  have HC:=iH (decide_eq_true hc);clear hc;refine bH 10 (fun wx=>Below w2.heap.size w2 wx) (fun wx wy=>Below wx.heap.size wx wy) [aW (iP X 0),aW (iP BX 2),aW (iI (r:Int)),aW (iI (ag:Int)),aW (iP X 0),aW (iP X 0),aW (iP X 3),aW (.slice ak x.K.length ck),aW (iI (x.K.length:Int)),aW (.bool true)] (by kernel_rfl) (by kernel_rfl) rfl ?hJ ?jP ?hst ?ek ?hend
  case hJ=>exact Below.drew iB
  case jP =>
   exact fun wx wy h1 h2=>ah h1 h2
  case hst=>exact bX _ ⟨ax _,ax _,ax _,ax _,ax _,ax _,ax _,ax _,ax _,ax _,trivial⟩
  case ek =>
   simp only [dY,aJ,Act.put,Nat.reduceAdd,Nat.zero_add,pS];refine ⟨?_,?_,?_,?_,?_,?_,?_,?_,?_,?_,trivial⟩
   all_goals
    intro vs1 wx hJ hn K hK;simp [dA,mJ,aW,Region.binds] at hn;simp only [mJ,aW,Act.put,Nat.reduceAdd,Nat.zero_add,pS] at hK
   ·go_wp2
    exact hK _ _ iB rfl
   ·go_wp2
    exact hK _ _ iB rfl
   ·simp only [hn] at hK⊢
    have y2:=(HX.out.below hJ).cell 2 _ rfl;go_wp2;exact hK _ _ iB rfl
   ·simp only [hn] at hK⊢
    have hm2:=HM.out.below hJ
    go_wp2_with fail
    refine (lI m n x X Z wx ⟨_,_,_,_,hm2⟩ gG.out r hr4).mono ?_;rw [K7.out];rintro e w5 ⟨rfl,hb5⟩;go_wp2;exact hK _ _ hb5 rfl
   ·go_wp2
    exact hK _ _ iB rfl
   ·simp only [hn] at hK⊢
    go_wp2;exact hK _ _ iB rfl
   ·simp only [hn] at hK⊢
    go_wp2;exact hK _ _ iB rfl
   ·simp only [hn] at hK⊢
    have x3:=(HM.out.below hJ).box.cell 3 _ rfl;go_wp2;exact hK _ _ iB rfl
   ·simp only [hn] at hK⊢
    go_wp2;exact hK _ _ iB rfl
   ·simp only [hn] at hK⊢
    have hd:decide (ag<x.K.length)=true:=HC.out;go_wp2;exact hK _ _ iB rfl
  case hend =>
   intro vs1 wx hJ hv;simp [eF,aW] at hv;obtain ⟨e0,e1,e2,e3,e4,e5,e6,e7,e8,e9⟩:=hv;simp only [aJ,Act.put,Nat.reduceAdd,Nat.zero_add,pS];rw [e0,e1,e2,e3,e4,e5,e6,e7,e8,e9];clear e0 e1 e2 e3 e4 e5 e6 e7 e8 e9;have DT:=iH (HM.out.below hJ);have HB3:=iH (ah HB.out hJ);clear hJ;go_wp2;go_ret;rw [uX.out];exact ⟨rfl,Z,⟨_,_,_,_,DT.out⟩,fun b hb=>.inl hb,aX.of_below HB3.out⟩
 ·have uX:=iH (yX.out.symm.trans (if_neg hc))
  have HC:=iH (decide_eq_false hc);have Ak:=iH (show x.K.length≤bN x r by have:=K7.out;omega);clear hc;refine bH 10 (fun wx=>Below w2.heap.size w2 wx) (fun wx wy=>Below wx.heap.size wx wy) [aW (iP X 0),aW (iP BX 2),aW (iI (r:Int)),aW (iI (ag:Int)),aW (iP X 0),aW (iP X 0),aW (iP X 3),aW (.slice ak x.K.length ck),aW (iI (x.K.length:Int)),aW (.bool false)] (by kernel_rfl) (by kernel_rfl) rfl ?hJ ?jP ?hst ?ek ?hend
  case hJ=>exact Below.drew iB
  case jP =>
   exact fun wx wy h1 h2=>ah h1 h2
  case hst=>exact bX _ ⟨ax _,ax _,ax _,ax _,ax _,ax _,ax _,ax _,ax _,ax _,trivial⟩
  case ek =>
   simp only [dY,aJ,Act.put,Nat.reduceAdd,Nat.zero_add,pS];refine ⟨?_,?_,?_,?_,?_,?_,?_,?_,?_,?_,trivial⟩
   all_goals
    intro vs1 wx hJ hn K hK;simp [dA,mJ,aW,Region.binds] at hn;simp only [mJ,aW,Act.put,Nat.reduceAdd,Nat.zero_add,pS] at hK
   ·go_wp2
    exact hK _ _ iB rfl
   ·go_wp2
    exact hK _ _ iB rfl
   ·simp only [hn] at hK⊢
    have y2:=(HX.out.below hJ).cell 2 _ rfl;go_wp2;exact hK _ _ iB rfl
   ·simp only [hn] at hK⊢
    have hm2:=HM.out.below hJ
    go_wp2_with fail
    refine (lI m n x X Z wx ⟨_,_,_,_,hm2⟩ gG.out r hr4).mono ?_;rw [K7.out];rintro e w5 ⟨rfl,hb5⟩;go_wp2;exact hK _ _ hb5 rfl
   ·go_wp2
    exact hK _ _ iB rfl
   ·simp only [hn] at hK⊢
    go_wp2;exact hK _ _ iB rfl
   ·simp only [hn] at hK⊢
    go_wp2;exact hK _ _ iB rfl
   ·simp only [hn] at hK⊢
    have x3:=(HM.out.below hJ).box.cell 3 _ rfl;go_wp2;exact hK _ _ iB rfl
   ·simp only [hn] at hK⊢
    go_wp2;exact hK _ _ iB rfl
   ·simp only [hn] at hK⊢
    have hd:decide (ag<x.K.length)=false:=HC.out;go_wp2;exact hK _ _ iB rfl
  case hend =>
   intro vs1 wx hJ hv;simp [eF,aW] at hv;obtain ⟨e0,e1,e2,e3,e4,e5,e6,e7,e8,e9⟩:=hv;simp only [aJ,Act.put,Nat.reduceAdd,Nat.zero_add,pS];rw [e0,e1,e2,e3,e4,e5,e6,e7,e8,e9];clear e0 e1 e2 e3 e4 e5 e6 e7 e8 e9;have DT:=iH (HM.out.below hJ);have RS:=iH (HX.out.below hJ);have HB3:=iH (ah HB.out hJ);clear hJ;have y2:=RS.out.cell 2 _ rfl;have x4:=DT.out.box.cell 4 _ rfl;have t4:=DT.out.box.thaw 4;go_upto_region 15 with (fail);have hset:=DT.out.NU r;have HF:=iH hset.1;have zF:=iH ((aX.of_below HB3.out).trans hset.2 fun _ h=>.inl h);clear hset x4 t4 y2 RS DT;generalize wx.setCell ⟨X,4,none⟩ (iI (r:Int))=wf at *
   go_wp2_with fail
   refine (sJ m n { x with lead:=r } X _ wf ⟨_,_,_,_,HF.out⟩ (gG.out.leads hr4 Ak.out)).mono ?_;rintro e w8 ⟨rfl,hcd⟩;have vX:=iH (hcd.step zF.out fun b hb=>.inl hb);clear hcd;go_wp2;go_ret;rw [uX.out];exact ⟨rfl,vX.out⟩
end Go.Proofs.YtbngpjdflblffaaGreatDoor
