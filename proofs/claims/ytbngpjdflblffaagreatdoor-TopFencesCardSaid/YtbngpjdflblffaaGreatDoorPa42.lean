/- A part of the proof, laid together from: CluO, IdxWait, DelWait. -/
import Derived.Test.YtbngpjdflblffaaGreatDoorPa41
set_option linter.all false
set_option maxRecDepth 100000
set_option maxHeartbeats 12800000
namespace Go.Proofs.YtbngpjdflblffaaGreatDoor
open Go.RowKit Go.Tk
theorem CS (m n:Nat) (x:bS) (X:Nat) (Z:Nat→Prop) (w:World) (h:gW 45 73 101 9 w X x Z) (hok:aT m n x) (a:dK) (ha:fC a) (hr0:0≤a.c) (hr3:a.c<x.bu.length) (hn:n<400) (hk:a.kind=2) :
 Calls Tryz.prog 86 #[iP X 0, .agg #[iI a.kind, iI a.c, iI a.r, iI a.k, iI a.op.kind, iS a.op.a, iS a.op.b, iI a.op.n]] w fun e w'=>e=.returned (iI (qV x a.c.toNat (iX (iq x a.c.toNat) a.op)).2)∧eY 45 73 101 9 w X Z w' (qV x a.c.toNat (iX (iq x a.c.toNat) a.op)).1:=by
 have HH:=iH h;have gG:=iH hok;obtain ⟨i,hi⟩:∃i:Nat,(i:Int)=a.c:=⟨a.c.toNat,by omega⟩;have him:i<x.bu.length:=by omega
 obtain ⟨hk0,hk1⟩:=ha.k;have hop:=ha.op hk;have hnx1:=(hok.bu a.c.toNat (by have:=hok.tK;omega)).2.2;obtain ⟨kd,c,r',k,op⟩:=a;simp only at hop hnx1 hi hr0 hr3 hk hk0 hk1⊢;subst hi hk;simp only [Int.toNat_natCast] at hnx1⊢;have BB:=(hok.bu i (by have:=hok.tK;omega)).1;clear h hok ha hr0 hr3;have hd1:decide ((i:Int)<0)=false:=decide_eq_false (by omega);have hd2:decide (x.bu.length≤i)=false:=decide_eq_false (by omega);obtain ⟨RES,uA⟩:∃RES,qV x i (iX (iq x i) op)=RES:=⟨_,rfl⟩;rw [uA];have yX:=iH uA;have Rb:=iH hop;clear uA hop
 go_enter Tryz.func86,Tryz.ntmps86
 go_upto_region 1 with (fail);generalize bF:w.alloc (.cells #[iI 2, iI (i:Int), iI r', iI k, iI op.kind, iS op.a, iS op.b, iI op.n] 70)=w1 at *;have hbz:=tQ bF;have HX:=iH (tO bF);have nL:=iH (cB HH.out hbz);have HB:=iH hbz;clear hbz HH;clear bF;obtain ⟨BX,jT⟩:∃BX,w.heap.size=BX:=⟨_,rfl⟩;rw [jT] at HX⊢;have yY:=iH jT;clear jT;obtain ⟨vr,vc,vm,vk,hm⟩:=nL.out;obtain ⟨g,cap,cv,hv,hcap,hmax,hcells,hwt⟩:=hm.uE him;subst hv;unfold maxLen at hmax;obtain ⟨C,hC⟩:∃C,iq x i=C:=⟨_,rfl⟩;have GR:=iH hC;rw [hC] at hcells hwt BB hnx1;clear hC;obtain ⟨wa,wc,rfl,-,-,-,-⟩:=id hwt;have c0:=hcells 0 _ rfl;have c1:=hcells 1 _ rfl;have c2:=hcells 2 _ rfl;have c3:=hcells 3 _ rfl;simp only [Nat.add_zero] at c0;have hgl:=World.block_lt_of_cell? w1 _ c0;have xY:=hm.box.lt;have Gc:=HX.out.lt;have hone:=hm.rep.oneCell;have kL:=hm.jh.oneCell;have qb:=hm.comm.oneCell;have Wu:(i:Int)<(x.bu.length:Int):=by omega
 have HM:=iH hm;have Ch:=iH hwt;have O9:=iH BB;have x1:=hm.box.cell 1 _ rfl;have y1:=HX.out.cell 1 _ rfl;clear hm hcells hwt nL BB
 go_quiet (fail)
 have hbd:Below w1.heap.size w1 (w1.drewN nq):=below_drewN iB _;replace HM:=iH (HM.out.below hbd);replace HX:=iH (HX.out.below hbd);replace Ch:=iH (Ch.out.below aV (by decide) hbd);replace HB:=iH (ah HB.out hbd);have d0:=aB c0 (hbd.block g hgl);have d1:=aB c1 (hbd.block g hgl);have d2:=aB c2 (hbd.block g hgl);have d3:=aB c3 (hbd.block g hgl);have uw:g<(w1.drewN nq).heap.size:=Nat.lt_of_lt_of_le hgl hbd.size;have yO:X<(w1.drewN nq).heap.size:=Nat.lt_of_lt_of_le xY hbd.size;have BF:BX<(w1.drewN nq).heap.size:=Nat.lt_of_lt_of_le Gc hbd.size;clear hd1 hd2 c0 c1 c2 c3 x1 y1 hbd hgl xY Gc;generalize w1.drewN nq=w2 at *;have x1:=HM.out.box.cell 1 _ rfl;have y1:=HX.out.cell 1 _ rfl;go_upto_region 3 with (fail);go_region;have hbe:Below w2.heap.size w2 (w2.alloc (.cells #[iI C.id, iI C.session, iI C.next, .slice wa C.waits.length wc] 73)).drew:=Below.drew (aj w2 _);have H5:=iH (aD.drew (aD.new (w:=w2) (cs:=[iI C.id, iI C.session, iI C.next, .slice wa C.waits.length wc]) (E:=73)));clear d0 d1 d2 d3 x1 y1;replace HM:=iH (HM.out.below hbe);replace HX:=iH (HX.out.below hbe);replace Ch:=iH (Ch.out.below aV (by decide) hbe);replace HB:=iH (ah HB.out hbe);clear hbe uw yO BF
 generalize (w2.alloc (.cells #[iI C.id, iI C.session, iI C.next, .slice wa C.waits.length wc] 73)).drew=w3 at *;obtain ⟨B5,Ld⟩:∃B5,w2.heap.size=B5:=⟨_,rfl⟩;rw [Ld] at H5⊢;clear Ld;refine eZ (fun wx=>w3=wx) rfl ?_;rintro _ rfl;have y0:=HX.out.cell 0 _ rfl;obtain ⟨z0,z1,z2,z3⟩:=dJ H5.out;have y4:=HX.out.cell 4 _ rfl;have y5:=HX.out.cell 5 _ rfl;have y6:=HX.out.cell 6 _ rfl;have y7:=HX.out.cell 7 _ rfl;go_upto_region 9 with (fail)
 go_wp2_with fail
 obtain ⟨P,hP⟩:∃P,iX C op=P:=⟨_,rfl⟩;have HP:=iH hP;refine (Ac C op _ _ w3 Ch.out O9.out Rb.out (by omega)).mono ?_;rw [hP];clear hP;rintro e w4 ⟨v4,he,ho,hown,hb4⟩;obtain ⟨a4,c4,rfl⟩:=ho.shape;obtain ⟨cd,hcd⟩:∃cd,P.2=cd:=⟨_,rfl⟩;simp only [Al,hcd] at he;subst he;clear y0 y4 y5 y6 y7 z0 z1 z2 z3;go_upto_region 10 with (fail);generalize bF:w4.alloc (.cells #[iI P.1.id, iI P.1.session, iI P.1.next, .slice a4 P.1.waits.length c4] 73)=wz at *;have hzb:=tQ bF;have HU:=iH (tO bF);have hs4:aZ 5 fI w4 (.slice a4 P.1.waits.length c4) P.1.waits (fun b=>w3.heap.size≤b∧b<w4.heap.size):=(ho.tV (S':=fun b=>w3.heap.size≤b) hown).sub aV (by decide) fun b hb hl=>⟨hb,hl⟩
 have RY:=iH (hs4.below aV (by decide) hzb);have Li:=iH ((HM.out.below hb4).below hzb);have Nq:=iH ((HX.out.below hb4).below hzb);have GV:=iH (ah (ah HB.out hb4) hzb);clear hs4 ho hown;have HL3:=iH (show w.heap.size≤w3.heap.size from HB.out.size);clear hb4 hzb HB HX;clear bF;obtain ⟨B6,Yv⟩:∃B6,w4.heap.size=B6:=⟨_,rfl⟩;rw [Yv] at HU RY⊢;clear Yv
 by_cases hc:cd=0
 ·have uX:=iH (show RES=({ x with bu:=x.bu.set i P.1 },0) by rw [←yX.out,GR.out,HP.out,qV,if_pos (hcd.trans hc)])
  clear hcd;subst hc;go_upto_region 11 with (fail);have x1:=Li.out.box.cell 1 _ rfl;have y1:=Nq.out.cell 1 _ rfl;obtain ⟨u0,u1,u2,u3⟩:=dJ HU.out;have f0:=Li.out.nV.thaw (i*4);have f1:=Li.out.nV.thaw (i*4+1);have f2:=Li.out.nV.thaw (i*4+2);have f3:=Li.out.nV.thaw (i*4+3);obtain ⟨g',cap',cv',hv',-,-,BD,-⟩:=Li.out.uE him;simp only [Value.slice.injEq,Option.some.injEq,Addr.mk.injEq,and_true,true_and] at hv';obtain ⟨rfl,rfl⟩:=hv';have e0:=BD 0 _ rfl;have e1:=BD 1 _ rfl;have e2:=BD 2 _ rfl;have e3:=BD 3 _ rfl;simp only [Nat.add_zero] at e0;clear BD;go_region;have hset:=Li.out.LK (i:=i) (c:=P.1) (cs:=[iI P.1.id, iI P.1.session, iI P.1.next, .slice a4 P.1.waits.length c4]) (P:=fun b=>w3.heap.size≤b∧b<B6) him rfl ⟨_,rfl,RY.out⟩ (fun b hb hw=>by have h1:=HM.out.lt hw;have h2:=hb.1;omega);have HF:=iH (hset.1.below (Below.drew iB));have zF:=iH (((aX.of_below GV.out).trans hset.2 fun _ h=>.inl h).step (Below.drew iB));clear hset x1 y1 u0 u1 u2 u3 f0 f1 f2 f3 e0 e1 e2 e3;refine eZ (fun wx=>(wz.setCells g (i*4) [iI P.1.id, iI P.1.session, iI P.1.next, .slice a4 P.1.waits.length c4]).drew=wx) rfl ?_;rintro wf bF;rw [bF] at HF zF;clear bF;go_wp2;go_ret;rw [uX.out];exact ⟨rfl,_,⟨_,_,_,_,HF.out⟩,fun b hb=>hb.imp id fun h=>Nat.le_trans HL3.out h.1,zF.out⟩
 ·have uX:=iH (show RES=(x,cd) by rw [←yX.out,GR.out,HP.out,qV,if_neg (by rw [hcd];exact hc),hcd])
  have hcb:(cd == 0)=false:=by simpa using hc
  clear hcd;go_wp2;go_ret;rw [uX.out];exact ⟨rfl,Z,⟨_,_,_,_,Li.out⟩,fun b hb=>.inl hb,aX.of_below GV.out⟩
theorem CV (m n:Nat) (x:bS) (X:Nat) (Z:Nat→Prop) (w:World) (h:gW 45 73 101 9 w X x Z) (hok:aT m n x) (a:dK) (ha:fC a) (hc0:a.c<0) :
 Calls Tryz.prog 86 #[iP X 0, .agg #[iI a.kind, iI a.c, iI a.r, iI a.k, iI a.op.kind, iS a.op.a, iS a.op.b, iI a.op.n]] w fun e w'=>e=.returned (iI ((x,(6:Int))).2)∧eY 45 73 101 9 w X Z w' ((x,(6:Int))).1:=by
 have HH:=iH h;obtain ⟨kd,c,r',k,op⟩:=a;simp only at hc0;clear h hok ha;have hd1:decide (c<0)=true:=decide_eq_true hc0;clear hc0
 go_enter Tryz.func86,Tryz.ntmps86
 go_upto_region 1 with (fail);generalize bF:w.alloc (.cells #[iI kd, iI c, iI r', iI k, iI op.kind, iS op.a, iS op.b, iI op.n] 70)=w1 at *;have hbz:=tQ bF;have HX:=iH (tO bF);have nL:=iH (cB HH.out hbz);have HB:=iH hbz;clear hbz HH;clear bF;obtain ⟨BX,jT⟩:∃BX,w.heap.size=BX:=⟨_,rfl⟩;rw [jT] at HX⊢;have yY:=iH jT;clear jT;have y1:=HX.out.cell 1 _ rfl
 go_quiet (fail)
 have hbd:Below w1.heap.size w1 (w1.drewN nq):=below_drewN iB _;replace nL:=iH (cB nL.out hbd);replace HB:=iH (ah HB.out hbd);clear y1 hbd;generalize w1.drewN nq=w2 at *;go_wp2;go_ret;exact ⟨rfl,Z,nL.out,fun b hb=>.inl hb,aX.of_below HB.out⟩
theorem CU (m n:Nat) (x:bS) (X:Nat) (Z:Nat→Prop) (w:World) (h:gW 45 73 101 9 w X x Z) (hok:aT m n x) (a:dK) (ha:fC a) (hc0:0≤a.c) (hc1:(x.bu.length:Int)≤a.c) :
 Calls Tryz.prog 86 #[iP X 0, .agg #[iI a.kind, iI a.c, iI a.r, iI a.k, iI a.op.kind, iS a.op.a, iS a.op.b, iI a.op.n]] w fun e w'=>e=.returned (iI ((x,(6:Int))).2)∧eY 45 73 101 9 w X Z w' ((x,(6:Int))).1:=by
 have HH:=iH h;obtain ⟨kd,c,r',k,op⟩:=a;simp only at hc0 hc1;clear h hok ha;have hd1:decide (c<0)=false:=decide_eq_false (by omega);have hd2:decide ((x.bu.length:Int)≤c)=true:=decide_eq_true hc1;clear hc0 hc1
 go_enter Tryz.func86,Tryz.ntmps86
 go_upto_region 1 with (fail);generalize bF:w.alloc (.cells #[iI kd, iI c, iI r', iI k, iI op.kind, iS op.a, iS op.b, iI op.n] 70)=w1 at *;have hbz:=tQ bF;have HX:=iH (tO bF);have nL:=iH (cB HH.out hbz);have HB:=iH hbz;clear hbz HH;clear bF;obtain ⟨BX,jT⟩:∃BX,w.heap.size=BX:=⟨_,rfl⟩;rw [jT] at HX⊢;have yY:=iH jT;clear jT;obtain ⟨vr,vc,vm,vk,hm⟩:=nL.out;obtain ⟨ca,cc,hv⟩:=hm.nV.shape;subst hv;have hone:=hm.rep.oneCell;have kL:=hm.jh.oneCell;have qb:=hm.comm.oneCell;have x1:=hm.box.cell 1 _ rfl;clear hm;have y1:=HX.out.cell 1 _ rfl
 go_quiet (fail)
 have hbd:Below w1.heap.size w1 (w1.drewN nq):=below_drewN iB _;replace nL:=iH (cB nL.out hbd);replace HB:=iH (ah HB.out hbd);clear y1 hbd;generalize w1.drewN nq=w2 at *;go_wp2;go_ret;exact ⟨rfl,Z,nL.out,fun b hb=>.inl hb,aX.of_below HB.out⟩
theorem M3 (m n:Nat) (x:bS) (X:Nat) (Z:Nat→Prop) (w:World) (h:gW 45 73 101 9 w X x Z) (hok:aT m n x) (a:dK) (ha:fC a) (hn:n<400) (hk:1≤a.kind∧a.kind≤3) :
 Calls Tryz.prog 86 #[iP X 0, .agg #[iI a.kind, iI a.c, iI a.r, iI a.k, iI a.op.kind, iS a.op.a, iS a.op.b, iI a.op.n]] w fun e w'=>e=.returned (iI (ND x a).2)∧eY 45 73 101 9 w X Z w' (ND x a).1:=by
 rw [ND]
 by_cases hc:a.c<0∨(x.bu.length:Int)≤a.c
 ·rw [if_pos hc]
  by_cases hc0:a.c<0
  ·exact CV m n x X Z w h hok a ha hc0
  ·exact CU m n x X Z w h hok a ha (by omega) (by omega)
 rw [if_neg hc];have hc0:0≤a.c:=by omega
 have hc1:a.c<x.bu.length:=by omega
 by_cases h1:a.kind=1
 ·rw [if_pos h1];exact CW m n x X Z w h hok a ha hc0 hc1 hn h1
 rw [if_neg h1]
 by_cases h3:a.kind=3
 ·rw [if_pos h3];exact Ag m n x X Z w h hok a ha hc0 hc1 hn h3
 rw [if_neg h3];exact CS m n x X Z w h hok a ha hc0 hc1 hn (by omega)
def DL (w:World) (r:Option Nat) (S:Nat→Prop) (c:Nat) (cap:Value) (p:oH→Bool):Prop :=
 ∀(w':World) (x:oH),w.grownBy w' r→fI w' [iI x.seq, iI x.op.kind, iS x.op.a, iS x.op.b, iI x.op.n] x S→Calls Tryz.prog c #[.agg #[iI x.seq, iI x.op.kind, iS x.op.a, iS x.op.b, iI x.op.n],cap] w' fun e w''=>e=.returned (.bool (p x))∧Below w'.heap.size w' w''
theorem zV (w:World) (v:Value) (l:List oH) (S:Nat→Prop) (h:aZ 5 fI w v l S) (hn:l.length≤1000000) (c:Nat) (cap:Value) (p:oH→Bool) (r:Option Nat) (hin:∀args w,(callFunc c args).run Tryz.prog w=.ok (.enter c args) w) (hp:DL w r S c cap p) :
 Calls Tryz.prog 156 #[v, .func (.func c) #[] #[cap]] w fun e w' =>
  e=.returned (iI (kD p l))∧Below w.heap.size w w':=by
 obtain ⟨a,vc,hv,hl,hm,hnil,-⟩:=id h;subst hv;unfold maxLen at hm;have hlen:(l.length:Int)≤1000000:=by omega
 go_enter Tryz.func156,Tryz.ntmps156
 go_wp2
 go_loopw [8] (fun i wr=>∃n:Nat,n≤l.length∧i=iI n∧Hid (∀(j:Nat) (hj:j<l.length),j<n→p l[j]=false)∧Below w.heap.size w wr)
  (fun i _=>l.length - (intOf i).toNat)
 case atStart=>exact ⟨0,by omega,rfl,fun j _ hj=>by omega,iB⟩
 case round =>
  obtain ⟨n,hnl,rfl,hall,hb⟩:=hrel;have hws:=hb.size
  by_cases hlt:n<l.length
  ·obtain ⟨b,off,NN,row,hv,hS,hrow,hcells⟩:=(h.below aV (by decide) hb).row n hlt
   simp only [Value.slice.injEq] at hv;obtain ⟨rfl,_,rfl⟩:=hv;have HY:Hid (p l[n]=true→kD p l=n):=fun ht=>qO hlt ht hall.out
   have HN:Hid (p l[n]=false→∀(j:Nat) (hj:j<l.length),j<n+1→p l[j]=false):=fun ht j hj hj1=>by
    rcases Nat.lt_or_ge j n with h | h
    ·exact hall.out j hj h
    ·obtain rfl:j=n:=by omega
     exact ht
   clear hall;generalize xX:l[n]=x at *;clear xX;have hrow':=hrow;obtain rfl:=hrow;have q0:=hcells 0 _ rfl;have q1:=hcells 1 _ rfl;have q2:=hcells 2 _ rfl;have q3:=hcells 3 _ rfl;have q4:=hcells 4 _ rfl;simp only [Nat.add_zero] at q0;clear hcells;have HC:=iH (hp _ _ (aY hb r) hrow');clear hrow' hp h
   by_cases hf:p x=true
   ·have HF:=iH (HY.out hf)
    go_wp2_with fail
    refine HC.out.mono ?_;rw [hf];rintro e w2 ⟨rfl,hb2⟩;go_wp2;go_ret;exact ⟨by rw [HF.out];rfl,hb.trans (hb2.mono hws)⟩
   ·have hf':p x=false:=by simpa using hf
    go_wp2_with fail
    refine HC.out.mono ?_;rw [hf'];rintro e w2 ⟨rfl,hb2⟩;go_wp2
    go_roundw
    case rel=>exact ⟨n+1,by omega,by go_num,HN.out hf',hb.trans (hb2.mono hws)⟩
    case measure=>simp [intOf];omega
  ·obtain rfl:n=l.length:=by omega
   have HF:Hid (kD p l=-1):=mH fun j hj=>hall.out j hj hj
   clear hall hp h;go_wp2;go_ret;exact ⟨by rw [HF.out];rfl,hb⟩
theorem Tryz.Lp:∀i z,Tryz.prog.info? 138=some i→i.zero=some z→∀v∈z.cells.toList,v.oneCell'=true:=by
 intro i z hi hz;have h:(Tryz.prog.info? 138).map (fun i=>i.zero)=some (some (.agg #[iI 0, iI 0, .string ⟨#[]⟩, .string ⟨#[]⟩, iI 0])):=by kernel_rfl
 rw [hi] at h;simp only [Option.map_some,Option.some.injEq] at h;rw [h] at hz;cases hz;intro v hv;simp [Value.cells] at hv
 first | (rcases hv with rfl | rfl | rfl | rfl | rfl<;>rfl) | (rcases hv with rfl | rfl | rfl<;>rfl) | (rcases hv with rfl | rfl<;>rfl)
theorem CJ (w:World) (v:Value) (l:List oH) (S:Nat→Prop) (h:nJ 138 5 fI w v l S) (hn:l.length≤1000000) (i:Nat) (hi:i<l.length) :
 Calls Tryz.prog 158 #[v, iI i, iI ((i:Int)+1)] w fun e w'=>∃v',e=.returned v'∧nJ 138 5 fI w' v' (l.eraseIdx i) S∧w.grownBy w' v.ownBlock∧v'.ownBlock=v.ownBlock:=by
 obtain ⟨g,off,n,cap,rfl⟩:∃g off n cap,v=.slice (some ⟨g,off,none⟩) n cap:=by
  rcases h with ⟨_,h⟩ | ⟨g,off,cap,cur,rows,hv,_⟩
  ·subst h;simp at hi
  ·exact ⟨g,off,_,cap,hv⟩
 obtain ⟨cur,news,hg,hnl,hnc,hcm,hfit,hnews,hone,hcell,cur',hg',hsz,hfin⟩:=nJ.erase (w:=w.drew) aV (h.move aV (fun _ _=>rfl) (fun _ h _ _=>⟨rfl,h⟩)) hi;subst hnl;have hin:(l.length - (i+1))+i=l.length - 1:=by omega
 obtain ⟨p,hp⟩:∃p,l.length=p+1:=⟨l.length - 1,by omega⟩;obtain ⟨zs,hzl,hr2⟩:=lg (P:=Tryz.prog) (ty:=0) (w.drew.setCells g (off+i*5) news) Tryz.DX g (off+p*5) 1 (cap - p) cur' hg' (by omega) Tryz.Lp;have hgb:w.grownBy ((w.drew.setCells g (off+i*5) news).setRow g (splice cur'.toList (off+p*5) zs).toArray) (some g) :=
  grownBy_trans (grownBy_trans (grownBy_drew (grownBy_refl w _)) (j5 (.inl rfl) _ _ _ (grownBy_refl w.drew _))) (jQ _ g _)
 have hfz:=hfin zs (hzl.trans (by omega));rw [show l.length - 1=p by omega] at hfz;have hfz':nJ 138 5 fI ((w.drew.setCells g (off+i*5) news).setRow g (splice cur'.toList (off+p*5) zs).toArray) (.slice (some ⟨g,off,none⟩) p cap) (l.eraseIdx i) S:=hfz.move aV (fun _ _=>rfl) (fun _ h _ _=>⟨rfl,h⟩);have HF:=iH (And.intro hfz' hgb);clear hfz hfz' hfin hgb;obtain ⟨wf,hwf⟩:∃wf,wf=(w.drew.setCells g (off+i*5) news).setRow g (splice cur'.toList (off+p*5) zs).toArray:=⟨_,rfl⟩;rw [←hwf] at hr2 HF;clear hwf hg' hzl hsz;obtain ⟨inf,z,hi1,hz1,hs1,hb1,Ik⟩:=(Tryz.DX).parts;have hi':i≤p:=by omega
 have hr1:∀ad:Addr,(∀(j:Nat) (u:Value),news[j]?=some u→w.cell? (ad.add j)=some u) →
  (Builtin.append_ #[71,71] 71 #[.slice (some ⟨g,off,none⟩) i cap, .slice (some ad) (p - i) (cap - (i+1))]).run Tryz.prog w.drew=.ok (.slice (some ⟨g,off,none⟩) p cap) (w.drew.setCells g (off+i*5) news):=fun ad had=>by
  have:=run_append_room_cells (P:=Tryz.prog) w.drew 71 71 138 inf Tryz.underlying71 hi1 g off i cap ad (p - i) (cap - (i+1)) news (by rw [hs1];omega) had hone (by omega)
   (fun j hj=>by rw [hs1];show (w.drew.cell? _).isSome=true;rw [dN hg,Array.getElem?_eq_getElem (by omega)];rfl) (fun j hj=>frozen_of_row w g _ cur _ hg)
  rw [hs1,show i+(p - i)=p by omega] at this;exact this
 have HR1:=iH hr1;have HC:=iH hcell;have HN:=iH hnews;clear hr1 hcell hnews hin hi1 hz1 hs1 hb1 Ik hg h hone;have hlp:(l.length:Int)≤1000000:=by omega
 generalize l.length=n at *;subst hp;unfold maxLen at hcm;have q1:¬ cap=i:=by omega
 have q2:¬ cap=p:=by omega
 have q3:p+1 - (i+1)=p - i:=by omega
 have q4:((i:Int) == (i:Int)+1)=false:=by rw [beq_eq_false_iff_ne];omega
 have q5:i≤cap:=by omega
 have q6:i+1≤cap:=by omega
 have q7:p+1≤cap:=by omega
 have q8:(i:Int)+1≤(p:Int)+1:=by omega
 have q9:((i:Int)+1).toNat=i+1:=by omega
 have VJ:(0:Int)≤(i:Int)+1:=by omega
 by_cases hci:cap=i+1
 ·obtain rfl:p=i:=by omega
  subst hci;have hr1:=HR1.out ⟨g,off,none⟩ (fun j u hu=>by have h:=HN.out;rw [List.getElem?_eq_none (by omega)] at hu;cases hu);clear HR1 HC HN q1 q2 q3;have VI:(p:Int)≤(p:Int)+1:=by omega
  simp only [Nat.sub_self] at hr1;simp only [Nat.add_sub_cancel_left] at hr2
  go_enter Tryz.func158,Tryz.ntmps158
  go_wp2_with fail
  go_region_law (refine gN rfl _ _ 71 71 rfl _ _ (by simp [Act.eval,Act.put]) (by simp [Act.eval,Act.put]) hr1 ?_)
  clear hr1
  go_wp2_with (at_builtin;refine eU rfl (.tmp 31) _ rfl _ rfl hr2 ?_)
  go_ret;exact ⟨_,rfl,HF.out.1,HF.out.2,rfl⟩
 ·have hr1:=HR1.out ⟨g,off+(i+1)*5,none⟩ (fun j u hu=>by rw [Addr.add_lit];exact HC.out j u hu)
  clear HR1 HC HN
  go_enter Tryz.func158,Tryz.ntmps158
  go_wp2_with fail
  go_region_law (refine gN rfl _ _ 71 71 rfl _ _ (by simp [Act.eval,Act.put]) (by simp [Act.eval,Act.put]) hr1 ?_)
  clear hr1
  go_wp2_with (at_builtin;refine eU rfl (.tmp 31) _ rfl _ rfl hr2 ?_)
  go_ret;exact ⟨_,rfl,HF.out.1,HF.out.2,rfl⟩
end Go.Proofs.YtbngpjdflblffaaGreatDoor
