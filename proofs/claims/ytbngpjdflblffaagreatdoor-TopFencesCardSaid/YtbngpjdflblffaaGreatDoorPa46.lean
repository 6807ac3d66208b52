/- A part of the proof, laid together from: RunA. -/
import Derived.Test.YtbngpjdflblffaaGreatDoorPa45
set_option linter.all false
set_option maxRecDepth 100000
set_option maxHeartbeats 12800000
namespace Go.Proofs.YtbngpjdflblffaaGreatDoor
open Go.RowKit Go.Tk
theorem Tryz.Jd:dM Tryz.prog 60 73 4 48:=⟨Tryz.underlying60,by kernel_rfl,by decide⟩
theorem Tryz.P9:dM Tryz.prog 59 45 7 128:=⟨Tryz.underlying59,by kernel_rfl,by decide⟩
theorem Tryz.Qa:dM Tryz.prog 61 34 1 8:=⟨Tryz.underlying61,by kernel_rfl,by decide⟩
theorem Tryz.Me:∀w:World,(Instr.makeSlice 59 (iI 3) (iI 3)).run Tryz.prog w=.ok (.slice (some ⟨w.heap.size,0,none⟩) 3 3) (w.alloc (.cells #[iI 0, iN, .string ⟨#[]⟩, iI 0, iN, iN, iN, iI 0, iN, .string ⟨#[]⟩, iI 0, iN, iN, iN, iI 0, iN, .string ⟨#[]⟩, iI 0, iN, iN, iN] 45)):=fun _=>by kernel_rfl
theorem ym (n:Nat) (hn:1≤n∧n≤9) (l:List dK) (ha:∀a∈l,fC a) (hl4:l.length≤400) (v:Value) (S:Nat→Prop) (w:World) (h:aZ 8 qA w v l S) :
 Calls Tryz.prog 25 #[iI (n:Int),v] w (QZ w (kT n l).1 (kT n l).2):=by
 obtain ⟨la,lc,rfl,hlc,hlm,-,-⟩:=id h;unfold maxLen at hlm;have HS:=iH h;have HA:=iH ha;obtain ⟨hn1,hn9⟩:=hn;clear h ha;have hmk:=Tryz.Me;have hd1:decide ((n:Int)<1)=false:=decide_eq_false (by omega);have hd2:decide (9<(n:Int))=false:=decide_eq_false (by omega);have ZH:=iH (tq.start (ER:=45) (EC:=73) w 63 132)
 go_enter Tryz.func25,Tryz.ntmps25
 go_upto_region 7 with (fail);clear hmk hd1 hd2
 go_loopw [7,8,32] (fun _ _ i wr=>∃(j:Nat) (vc:Value),j≤n∧i=iI j∧Hid (tq 45 73 w wr vc j)) (fun _ _ i _=>n - (intOf i).toNat)
 case atStart=>exact ⟨0,_,by omega,rfl,ZH⟩
 case round =>
  clear ZH;obtain ⟨j,vc,hj,rfl,hA⟩:=hrel
  by_cases hlt:j<n
  case neg =>
   obtain rfl:j=n:=by omega
   obtain ⟨Z0,hB0⟩:=hA.out.toB 101 9 34 63;have HB0:=iH hB0;clear hA hB0 hlt;go_upto_region 14 with (fail);generalize wr.alloc (.cells #[iN, iN, iN, iN, iI 0, iN] 63)=w1 at *;obtain ⟨B1,hB1⟩:∃B1,wr.heap.size=B1:=⟨_,rfl⟩;rw [hB1] at HB0⊢;clear hB1
   go_loopw [12,55] (fun _ i wr=>∃(k:Nat) (Z:Nat→Prop) (vo:Value),k≤l.length∧i=iI k∧B1<wr.heap.size∧Hid (rZ 45 73 101 9 34 w wr B1 (w.heap.size+1+1) (kT j (l.take k)).1 (kT j (l.take k)).2 Z vo)) (fun _ i _=>l.length - (intOf i).toNat)
   case atStart=>exact ⟨0,Z0,_,by omega,rfl,HB0.out.out.lt,HB0⟩
   case round =>
    clear HB0;obtain ⟨k,Zo,vo,hk,rfl,hBl,hB⟩:=hrel
    by_cases hlt2:k<l.length
    case neg =>
     have hkl:l.take k=l:=List.take_of_length_le (by omega);rw [hkl] at hB;have gG:=iH (o8 (m:=j) (by omega) (l:=l) HA.out hl4);have hck:=qo j l;obtain ⟨RU,WT⟩:∃RU,kT j l=RU:=⟨_,rfl⟩;rw [WT] at hB gG hck;obtain ⟨x,codes⟩:=RU;have HRU:=iH WT;simp only at hB gG hck;have Vv:=iH hck;clear hck WT hkl;have JF:=hB;clear hB;obtain ⟨oa,oc,rfl⟩:=JF.out.codes.shape;obtain ⟨vr,vc,vm,vk,hm0⟩:=id JF.out.U6;have hlen:=gG.out.len;obtain ⟨g,cap,-,-,-,-,hv,hcap,hmax,-,-⟩:=hm0.oL (r:=0) (by omega);rw [hlen] at hv hcap;subst hv;unfold maxLen at hmax;have hcl:=gG.out.tK;obtain ⟨gc,KN,-,Qq,JC,Mw,-,-⟩:=hm0.uE (i:=0) (by omega);rw [hcl] at Qq JC;subst Qq;unfold maxLen at Mw;obtain ⟨am,cm,rfl⟩:=hm0.jh.shape;obtain ⟨ak,ck,rfl⟩:=hm0.comm.shape;have hone:=hm0.rep.oneCell;have kL:=hm0.nV.oneCell;have qb:=hm0.jh.oneCell;have SX:=hm0.comm.oneCell;have hm:=iH hm0;clear hm0;have x0:=hm.out.box.cell 0 _ rfl;have ZE:=iH (oV.start (E:=45) (k:=7) (R:=LX x.K) (cs:=fun u=>[u, iN, iN, iN, iI 0, .slice oa codes.length oc]) JF.out.out);have hB2:B1<wr.heap.size:=hBl;go_upto_region 19 with (fail);clear x0 hlt2 hk;have Lj:=iH hB2;clear hB2 hBl
     rename World=>w2
     go_loopw [14,73] (fun _ i wr=>∃(r:Nat) (v:Value),r≤3∧i=iI r∧Hid (oV 45 7 (LX x.K) w2 wr B1 (fun u=>[u, iN, iN, iN, iI 0, .slice oa codes.length oc]) v (x.kP.take r))) (fun _ i _=>3 - (intOf i).toNat)
     case atStart=>exact ⟨0,_,by omega,rfl,ZE⟩
     case round =>
      clear ZE;obtain ⟨r,v3,hr3,rfl,hC⟩:=hrel
      by_cases hrr:r<3
      case neg =>
       have Kv:x.kP.take r=x.kP:=List.take_of_length_le (by omega);rw [Kv] at hC;obtain ⟨va,vn,hvv⟩:=hC.out.own.shape;rw [hlen] at hvv;subst hvv;have Rv:=hC;clear Kv hC;have x1:=(hm.out.box.nK Rv.out.frame (fun e=>(JF.out.rq _ (hm.out.own _ (.inl rfl))).2 e)).cell 1 _ rfl;have R8:=iH (oV.start (E:=73) (k:=4) (R:=nN) (cs:=fun u=>[.slice va 3 vn,u, iN, iN, iI 0, .slice oa codes.length oc]) Rv.out.out);have XH:=Lj;have Um:=iH (Nat.lt_of_lt_of_le Lj.out Rv.out.frame.size);go_upto_region 24 with (fail);clear x1 hrr hr3
       rename World=>w3
       clear Lj;have Lj:=Um;clear Um
       go_loopw [16,90] (fun _ i wr=>∃(q:Nat) (v:Value),q≤j∧i=iI q∧Hid (oV 73 4 nN w3 wr B1 (fun u=>[.slice va 3 vn,u, iN, iN, iI 0, .slice oa codes.length oc]) v (x.bu.take q))) (fun _ i _=>j - (intOf i).toNat)
       case atStart=>exact ⟨0,_,by omega,rfl,R8⟩
       case round =>
        clear R8;obtain ⟨ci,v4,hi4,rfl,hC⟩:=hrel
        by_cases hii:ci<j
        case neg =>
         have Tn:x.bu.take ci=x.bu:=List.take_of_length_le (by omega);rw [Tn] at hC;obtain ⟨ua,un,hvv⟩:=hC.out.own.shape;rw [hcl] at hvv;subst hvv;have HO:=iH (uN.make JF.out hm.out XH.out Rv.out hC.out);have HF:=iH (JF.out.frame (Rv.out.frame.trans hC.out.frame fun q hq=>.inl hq));have hX:=hm.out.box.nK (Rv.out.frame.trans hC.out.frame fun q hq=>.inl hq) (fun e=>(JF.out.rq _ (hm.out.own _ (.inl rfl))).2 e);have hB4:=hC.out.out;have x2:=hX.cell 2 _ rfl;have x3:=hX.cell 3 _ rfl;have x4:=hX.cell 4 _ rfl;have xY:=hX.lt;obtain ⟨b0,b1,b2,b3,b4,b5⟩:=IM hB4;have t2:=hB4.thaw 2;have t3:=hB4.thaw 3;have t4:=hB4.thaw 4;have GV:=iH hB4;clear Tn hX hB4 hC;go_upto_region 28 with (fail);clear hii hi4;go_region;have ME:∀b,b≠B1→(((wr.setCell ⟨B1,2,none⟩ (.slice am x.bD.length cm)).setCell ⟨B1,3,none⟩ (.slice ak x.K.length ck)).setCell ⟨B1,4,none⟩ (iI (x.lead:Int))).heap[b]?=wr.heap[b]?:=fun b hb=>(aC hb).trans ((aC hb).trans (aC hb))
         have H5:=iH (aD.drew (((GV.out.set 2 (by simp) (.slice am x.bD.length cm)).set 3 (by simp) (.slice ak x.K.length ck)).set 4 (by simp) (iI (x.lead:Int))));have Re:=iH (HO.out.move (w':=(((wr.setCell ⟨B1,2,none⟩ (.slice am x.bD.length cm)).setCell ⟨B1,3,none⟩ (.slice ak x.K.length ck)).setCell ⟨B1,4,none⟩ (iI (x.lead:Int))).drew) (S':=fun b=>w.heap.size<b∧b≠B1) fun b hb _=>⟨ME b hb.2,hb⟩);have hlow:=JF.out.low;have H0:=iH (HF.out.2.keep (w':=(((wr.setCell ⟨B1,2,none⟩ (.slice am x.bD.length cm)).setCell ⟨B1,3,none⟩ (.slice ak x.K.length ck)).setCell ⟨B1,4,none⟩ (iI (x.lead:Int))).drew) (ME _ (by omega)));have R9:=iH (show Below w.heap.size w (((wr.setCell ⟨B1,2,none⟩ (.slice am x.bD.length cm)).setCell ⟨B1,3,none⟩ (.slice ak x.K.length ck)).setCell ⟨B1,4,none⟩ (iI (x.lead:Int))).drew from Below.drew (ay (ay (ay HF.out.1 (by omega) _ _) (by omega) _ _) (by omega) _ _));clear ME x2 x3 x4 b0 b1 b2 b3 b4 b5 t2 t3 t4 hlow;generalize (((wr.setCell ⟨B1,2,none⟩ (.slice am x.bD.length cm)).setCell ⟨B1,3,none⟩ (.slice ak x.K.length ck)).setCell ⟨B1,4,none⟩ (iI (x.lead:Int))).drew=w6 at *;refine eZ (fun wx=>w6=wx) rfl ?_;rintro _ rfl;obtain ⟨b0,b1,b2,b3,b4,b5⟩:=IM H5.out;obtain ⟨y0,y1,y2,y3,y4,y5⟩:=IM H0.out;obtain ⟨t0,t1,t2,t3,t4,t5⟩:=TP H0.out;go_wp2
         have hp:=(((((H0.out.set 0 (by simp) (.slice va 3 vn)).set 1 (by simp) (.slice ua j un)).set 2 (by simp) (.slice am x.bD.length cm)).set 3 (by simp) (.slice ak x.K.length ck)).set 4 (by simp) (iI (x.lead:Int))).set 5 (by simp) (.slice oa codes.length oc);have XC:=iH (Re.out.move (w':=(((((w6.setCell ⟨w.heap.size,0,none⟩ (.slice va 3 vn)).setCell ⟨w.heap.size,1,none⟩ (.slice ua j un)).setCell ⟨w.heap.size,2,none⟩ (.slice am x.bD.length cm)).setCell ⟨w.heap.size,3,none⟩ (.slice ak x.K.length ck)).setCell ⟨w.heap.size,4,none⟩ (iI (x.lead:Int))).setCell ⟨w.heap.size,5,none⟩ (.slice oa codes.length oc)) (S':=fun b=>w.heap.size≤b) fun b hb _=>⟨((aC (by omega)).trans ((aC (by omega)).trans ((aC (by omega)).trans ((aC (by omega)).trans ((aC (by omega)).trans (aC (by omega))))))),Nat.le_of_lt hb.1⟩);have XP:=iH (show Below w.heap.size w ((((((w6.setCell ⟨w.heap.size,0,none⟩ (.slice va 3 vn)).setCell ⟨w.heap.size,1,none⟩ (.slice ua j un)).setCell ⟨w.heap.size,2,none⟩ (.slice am x.bD.length cm)).setCell ⟨w.heap.size,3,none⟩ (.slice ak x.K.length ck)).setCell ⟨w.heap.size,4,none⟩ (iI (x.lead:Int))).setCell ⟨w.heap.size,5,none⟩ (.slice oa codes.length oc)) from (ay (ay (ay (ay (ay (ay R9.out (Nat.le_refl _) _ _) (Nat.le_refl _) _ _) (Nat.le_refl _) _ _) (Nat.le_refl _) _ _) (Nat.le_refl _) _ _) (Nat.le_refl _) _ _))
         clear b0 b1 b2 b3 b4 b5 y0 y1 y2 y3 y4 y5 t0 t1 t2 t3 t4 t5;generalize (((((w6.setCell ⟨w.heap.size,0,none⟩ (.slice va 3 vn)).setCell ⟨w.heap.size,1,none⟩ (.slice ua j un)).setCell ⟨w.heap.size,2,none⟩ (.slice am x.bD.length cm)).setCell ⟨w.heap.size,3,none⟩ (.slice ak x.K.length ck)).setCell ⟨w.heap.size,4,none⟩ (iI (x.lead:Int))).setCell ⟨w.heap.size,5,none⟩ (.slice oa codes.length oc)=wf at *;obtain ⟨p0,p1,p2,p3,p4,p5⟩:=IM hp;refine bodyPost_ret (v:=.tuple #[.agg #[.slice va 3 vn, .slice ua j un, .slice am x.bD.length cm, .slice ak x.K.length ck, iI (x.lead:Int), .slice oa codes.length oc], iI 0]) (by simp [results,Tryz.results25,go_sem,p0,p1,p2,p3,p4,p5]) rfl ?_;rw [HRU.out];exact ⟨_,_,_,_,_,rfl,XC.out,XP.out⟩
        have hdi:decide ((ci:Int)<(j:Int))=true:=decide_eq_true (by omega);have hF:=iH (Rv.out.frame.trans hC.out.frame fun q hq=>.inl hq);have hgB:gc≠B1:=fun e=>(JF.out.rq gc (hm.out.own gc (.inr (.inr (.inl rfl))))).2 e
        obtain ⟨g',cap',cv,hv',-,-,hcc,hwt⟩:=hm.out.uE (i:=ci) (by omega);rw [hcl] at hv';simp only [Value.slice.injEq,Option.some.injEq,Addr.mk.injEq,and_true,true_and] at hv';obtain ⟨rfl,rfl⟩:=hv';have O9:=iH (gG.out.bu ci (by omega)).1;have GI:=iH (show x.bu.take (ci+1)=x.bu.take ci++[iq x ci] by rw [List.take_succ_eq_append_getElem (by omega),←getD_lt (d:=fu) (by omega)];rfl);have Rk:=iH (show (x.bu.take ci).length=ci by rw [List.length_take];omega);generalize iq x ci=C at *;obtain ⟨UO,UN,rfl,-,-,-,-⟩:=id hwt;have hgl:=World.block_lt_of_cell? w2 _ (hcc 0 _ rfl);have q0:=aB (hcc 0 _ rfl) (hF.out.block gc hgl hgB);have q1:=aB (hcc 1 _ rfl) (hF.out.block gc hgl hgB);have q2:=aB (hcc 2 _ rfl) (hF.out.block gc hgl hgB);have q3:=aB (hcc 3 _ rfl) (hF.out.block gc hgl hgB);simp only [Nat.add_zero] at q0;have Ch:=iH (show aZ 5 fI wr (.slice UO C.waits.length UN) C.waits (fun b=>b≠B1) from hwt.move aV (by decide) fun b hb hl=>⟨hF.out.block b hl (JF.out.rq b hb.1).2,(JF.out.rq b hb.1).2⟩);clear hcc hwt hgB hgl;obtain ⟨ua,un,hvv⟩:=hC.out.own.shape;rw [Rk.out] at hvv;subst hvv;go_upto_region 26 with (fail);clear hdi;clear q0 q1 q2 q3;generalize bF:wr.alloc (.cells #[iI C.id, iI C.session, iI C.next, .slice UO C.waits.length UN] 73)=wa at *;have hbz:=tQ bF;have tC:=iH (tO bF)
        have Ar:=iH (show ∀q,(Value.slice ua ci un).ownBlock=some q→q<wr.heap.size from fun q hq=>hC.out.own.lt q hq);have zZ:=iH (hC.out.step dV hbz);replace Ch:=iH (Ch.out.below aV (by decide) hbz);have TZ:=iH (zZ.out.frame.size);clear hbz hC;clear bF;obtain ⟨BA,PG⟩:∃BA,wr.heap.size=BA:=⟨_,rfl⟩;rw [PG] at tC Ar⊢;clear PG;have hol:∀q,(Value.slice ua ci un).ownBlock=some q→q<wa.heap.size:=fun q hq=>zZ.out.own.lt q hq
        refine dO 7 (fun done wx=>aX (fun q=>(fun _=>False) q∨some q=(Value.slice ua ci un).ownBlock) wa wx∧(done 5=false→aX (fun _=>False) wa wx)∧(done 3=false→done 5=false→Below wa.heap.size wa wx)) (fun i _ _ wx wy=>(i=3→aX (fun _=>False) wx wy)∧(i=5→wx.grownBy wy (Value.slice ua ci un).ownBlock)∧(i≠3→i≠5→Below wx.heap.size wx wy)) [eP (iP B1 1),eP (Value.slice ua ci un),eP (.agg #[iI C.id, iI C.session, iI C.next, .slice UO C.waits.length UN]),(fun _ _ v wx=>∃(a4:Option Addr) (c4:Nat),v=.agg #[iI C.id, iI C.session, iI C.next, .slice a4 C.waits.length c4]∧aZ 5 fI wx (.slice a4 C.waits.length c4) C.waits (fun b=>wa.heap.size≤b)),(fun done vs v wx=>done 3=true∧∃(a4:Option Addr) (c4:Nat),vs 3=.agg #[iI C.id, iI C.session, iI C.next, .slice a4 C.waits.length c4]∧∃q:Nat,v=Value.slice (some ⟨q,0,none⟩) 1 1∧wa.heap.size≤q∧aD wx q [iI C.id, iI C.session, iI C.next, .slice a4 C.waits.length c4]),(fun done _ v wx=>done 3=true∧∃(a8:Option Addr) (c8:Nat),v=Value.slice a8 (ci+1) c8∧bZ 73 4 nN wx (Value.slice a8 (ci+1) c8) ((x.bu.take ci)++[C]) (fun b=>w3.heap.size≤b)∧(∀q,(Value.slice a8 (ci+1) c8).ownBlock=some q→w3.heap.size≤q)),eP (iP B1 1)] (by kernel_rfl) (by kernel_rfl) rfl ?hJ ?jP ?hst ?hself ?ek ?hend
        case hJ=>exact ⟨aX.of_below (Below.drew iB),fun _=>aX.of_below (Below.drew iB),fun _ _=>Below.drew iB⟩
        case jP =>
         intro i done vs1 x9 wx wy hi hdi h1 h2
         by_cases h:i=3
         ·subst h
          exact ⟨h1.1.trans (h2.1 rfl) fun q hq=>.inl (.inl hq),fun hd=>(h1.2.1 (by simpa [bJ] using hd)).trans (h2.1 rfl) fun q hq=>.inl hq,fun hd=>by simp [bJ] at hd⟩
         by_cases h3:i=5
         ·subst h3
          exact ⟨h1.1.grown (h2.2.1 rfl) fun q e=>.inl (.inr e.symm),fun hd=>by simp [bJ] at hd,fun _ hd=>by simp [bJ] at hd⟩
         ·have hb:=h2.2.2 h h3
          exact ⟨h1.1.step hb,fun hd=>(h1.2.1 (by simpa [bJ,Ne.symm h3] using hd)).step hb,fun hd hd2=>ah (h1.2.2 (by simpa [bJ,Ne.symm h] using hd) (by simpa [bJ,Ne.symm h3] using hd2)) hb⟩
        case hst =>
         intro i j done vs1 x9 wa wb hi hj hne hdi hdj hwf hJ hS GG hV
         match j,hj with
         | 0,_=>exact hV
         | 1,_=>exact hV
         | 2,_=>exact hV
         | 3,_ =>
           obtain ⟨a4,c4,e,JD⟩:=hV
           by_cases h:i=5
           ·exact ⟨a4,c4,e,(aZ.move aV (by decide) JD fun b hb hl=>⟨((hS.2.1 h)).block b hl (fun e=>by have:=hol b e.symm;omega),hb⟩)⟩
           ·exact ⟨a4,c4,e,(aZ.below aV (by decide) JD (hS.2.2 (fun e=>hne e) h))⟩
         | 4,_ =>
           have h1:i≠3:=by
            rintro rfl;have:=hV.1;rw [hdi] at this;cases this
           obtain ⟨hdc,a4,c4,e,q,e2,h2,h3⟩:=hV;have e9:dm vs1 i x9 3=vs1 3:=by simp [dm,Ne.symm h1]
           by_cases h:i=5
           ·exact ⟨by simp [bJ,hdc],a4,c4,e9.trans e,q,e2,h2,h3.grown (hS.2.1 h) fun e3=>by have:=hol q e3.symm;omega⟩
           ·exact ⟨by simp [bJ,hdc],a4,c4,e9.trans e,q,e2,h2,h3.below (hS.2.2 h1 h)⟩
         | 5,_ =>
           have h1:i≠3:=by
            rintro rfl;have:=hV.1;rw [hdi] at this;cases this
           obtain ⟨hdc,a8,c8,e,h2⟩:=hV;have hb:=hS.2.2 h1 (fun h=>hne h);exact ⟨by simp [bJ,hdc],a8,c8,e,⟨h2.1.below dV hb,h2.2⟩⟩
         | 6,_=>exact hV
         | n+7,hj=>exact absurd hj (by omega)
        case hself =>
         intro i done vs1 v w hi hV
         match i,hi with
         | 0,_=>exact hV
         | 1,_=>exact hV
         | 2,_=>exact hV
         | 3,_=>exact hV
         | 4,_ =>
           obtain ⟨hdc,a4,c4,e,g⟩:=hV;exact ⟨by simp [bJ,hdc],a4,c4,by simp [dm];exact e,g⟩
         | 5,_=>exact ⟨by simp [bJ,hV.1],hV.2⟩
         | 6,_=>exact hV
         | n+7,hi=>exact absurd hi (by omega)
        case ek =>
         simp only [gm,aJ,Act.put,Nat.reduceAdd,Nat.zero_add,pS];refine ⟨?_,?_,?_,?_,?_,?_,?_,trivial⟩
         all_goals
          intro done vs1 wx hJ hd hall hn K hK;simp [Region.binds] at hn;simp only [mM,eP,Act.put,Nat.reduceAdd,Nat.zero_add,pS] at hK
         ·go_wp2
          exact hK _ _ ⟨iD rfl,iD rfl,fun _ _=>iB⟩ rfl
         ·have e0:vs1 0=iP B1 1:=hall 0 (by omega) (by simp [hn])
          simp only [e0] at hK⊢;have bq:=(zZ.out.out.nK hJ.1 (fun e=>e.elim (fun e=>e) fun e=>by have:=zZ.out.lo _ e.symm;have:=Lj.out;omega)).cell 1 _ rfl;go_wp2;exact hK _ _ ⟨iD rfl,iD rfl,fun _ _=>iB⟩ rfl
         ·have z0:=(tC.out.nK hJ.1 (fun e=>e.elim (fun e=>e) fun e=>by have:=Ar.out _ e.symm;omega)).cell 0 _ rfl;have z1:=(tC.out.nK hJ.1 (fun e=>e.elim (fun e=>e) fun e=>by have:=Ar.out _ e.symm;omega)).cell 1 _ rfl;have z2:=(tC.out.nK hJ.1 (fun e=>e.elim (fun e=>e) fun e=>by have:=Ar.out _ e.symm;omega)).cell 2 _ rfl;have z3:=(tC.out.nK hJ.1 (fun e=>e.elim (fun e=>e) fun e=>by have:=Ar.out _ e.symm;omega)).cell 3 _ rfl
          go_wp2;exact hK _ _ ⟨iD rfl,iD rfl,fun _ _=>iB⟩ rfl
         ·have hdp:done 5=false:=by
           cases hq:done 5 with
           | false=>rfl
           | true =>
             have h9:((fun done _ v wx=>done 3=true∧∃(a8:Option Addr) (c8:Nat),v=Value.slice a8 (ci+1) c8∧bZ 73 4 nN wx (Value.slice a8 (ci+1) c8) ((x.bu.take ci)++[C]) (fun b=>w3.heap.size≤b)∧(∀q,(Value.slice a8 (ci+1) c8).ownBlock=some q→w3.heap.size≤q)):VE) done vs1 (vs1 5) wx:=hall 5 (by omega) hq;have:=h9.1;rw [hd] at this;cases this
          have hb:=hJ.2.2 hd hdp;have e2:vs1 2=.agg #[iI C.id, iI C.session, iI C.next, .slice UO C.waits.length UN]:=hall 2 (by omega) (by simp [hn]);simp only [e2] at hK⊢
          go_wp2_with fail
          refine (qh C _ _ wx (Ch.out.below aV (by decide) hb) (by have:=O9.out.len;omega)).mono ?_;rintro e w9 ⟨v9,rfl,wu,Yk,gQ⟩;obtain ⟨a4,c4,rfl⟩:=wu.shape;have Tv:=iH (aX.of_below (W:=fun _=>False) gQ);have QS:=iH (show aZ 5 fI w9 (.slice a4 C.waits.length c4) C.waits (fun b=>wa.heap.size≤b) from (wu.tV (S':=fun b=>wx.heap.size≤b) Yk).sub aV (by decide) fun b hb1 _=>Nat.le_trans hb.size hb1);go_wp2;exact hK _ _ ⟨fun _=>Tv.out,iD rfl,fun h=>absurd rfl h⟩ ⟨a4,c4,rfl,QS.out⟩
         ·obtain ⟨a4,c4,e5,-⟩:((fun _ _ v wx=>∃(a4:Option Addr) (c4:Nat),v=.agg #[iI C.id, iI C.session, iI C.next, .slice a4 C.waits.length c4]∧aZ 5 fI wx (.slice a4 C.waits.length c4) C.waits (fun b=>wa.heap.size≤b)):VE) done vs1 (vs1 3) wx:=hall 3 (by omega) (by simp [hn])
          simp only [e5] at hK⊢;go_wp2;exact hK _ _ ⟨iD rfl,iD rfl,fun _ _=>aj wx _⟩ ⟨by simp [hn],a4,c4,by first | rfl | trivial | exact e5,_,rfl,hJ.1.size,aD.new⟩
         ·have e1:vs1 1=Value.slice ua ci un:=hall 1 (by omega) (by simp [hn])
          obtain ⟨hdc,a4,c4,e5,q,eb,TE,hbx⟩:((fun done vs v wx=>done 3=true∧∃(a4:Option Addr) (c4:Nat),vs 3=.agg #[iI C.id, iI C.session, iI C.next, .slice a4 C.waits.length c4]∧∃q:Nat,v=Value.slice (some ⟨q,0,none⟩) 1 1∧wa.heap.size≤q∧aD wx q [iI C.id, iI C.session, iI C.next, .slice a4 C.waits.length c4]):VE) done vs1 (vs1 4) wx:=hall 4 (by omega) (by simp [hn]);obtain ⟨a4',c4',e6,JD⟩:((fun _ _ v wx=>∃(a4:Option Addr) (c4:Nat),v=.agg #[iI C.id, iI C.session, iI C.next, .slice a4 C.waits.length c4]∧aZ 5 fI wx (.slice a4 C.waits.length c4) C.waits (fun b=>wa.heap.size≤b)):VE) done vs1 (vs1 3) wx:=hall 3 (by omega) hdc;rw [e5] at e6;simp [and_assoc] at e6;obtain ⟨rfl,rfl⟩:=e6;simp only [e1,eb] at hK⊢;have hc:=hJ.2.1 hd;have ho:=zZ.out.own.move (S':=fun b=>w3.heap.size≤b) dV (fun g hg=>hc.block g (zZ.out.own.lt g hg) (fun h=>h)) (fun b hb _ hl=>⟨hc.block b hl (fun h=>h),hb⟩);refine lU rfl (.tmp 95) (.tmp 98) rfl Tryz.Jd dV C rfl rfl hbx.cell ho (⟨_,rfl,JD.sub aV (by decide) fun b hb _=>⟨Nat.le_trans TZ.out hb,fun e=>by have:=hol _ e.symm;omega⟩⟩) (by rw [Rk.out];omega) ?_;intro v8 w8 nu kN qM;obtain ⟨a8,c8,e8⟩:∃a c,v8=Value.slice a (ci+1) c:=(by obtain ⟨a,c,e⟩:=nu.shape;exact ⟨a,c,by rw [e,List.length_append,Rk.out];rfl⟩);subst e8
          exact hK _ _ ⟨iD rfl,fun _=>kN,fun _ h=>absurd rfl h⟩ ⟨hdc,a8,c8,rfl,⟨nu,fun q hq=>qM.elim (fun e=>zZ.out.lo q (e▸hq)) fun ⟨q2,e,h2⟩=>by rw [e] at hq;cases hq;have:=hc.size;have:=TZ.out;omega⟩⟩
         ·go_wp2
          exact hK _ _ ⟨iD rfl,iD rfl,fun _ _=>iB⟩ rfl
        case hend =>
         intro done vs1 wx hJ hdn hv;obtain ⟨e0,e1,e2,-,-,⟨-,a8,c8,e5,hvp⟩,e6,-⟩:=hv;simp only [eP] at e0 e1 e2 e6;simp only [aJ,Act.put,Nat.reduceAdd,Nat.zero_add,pS];rw [e0,e1,e2,e5,e6];clear e0 e1 e2 e5 e6 hol;have HN:=iH (show oV 73 4 nN w3 _ B1 (fun u=>[.slice va 3 vn,u, iN, iN, iI 0, .slice oa codes.length oc]) (.slice a8 (ci+1) c8) ((x.bu.take ci)++[C]) from zZ.out.next dV Lj.out hJ.1 hvp.1 hvp.2 (i:=1) (by simp) rfl);have cx:=(zZ.out.out.nK hJ.1 (fun e=>e.elim (fun e=>e) fun e=>by have:=zZ.out.lo _ e.symm;have:=Lj.out;omega)).cell 1 _ rfl;have tx:=(zZ.out.out.nK hJ.1 (fun e=>e.elim (fun e=>e) fun e=>by have:=zZ.out.lo _ e.symm;have:=Lj.out;omega)).thaw 1;clear hvp hJ;go_upto_region 27 with (fail);clear cx tx;generalize wx.setCell ⟨B1,1,none⟩ (.slice a8 (ci+1) c8)=w5 at *;go_wp2
         go_roundw
         case rel=>exact ⟨ci+1,_,by omega,by go_num,by rw [GI.out];exact HN⟩
         case measure=>simp [intOf];omega
      have hdr:decide ((r:Int)<3)=true:=decide_eq_true (by omega);have hgB:g≠B1:=fun e=>(JF.out.rq g (hm.out.own g (.inr (.inl rfl)))).2 e
      obtain ⟨ae,ce,al,cl,ap,cp,az,cz,hrow⟩:=hm.out.row hrr hlen;have K3:=iH ((gG.out.rep r hrr).fine gG.out.tL gG.out.n4);have GI:=iH (show x.kP.take (r+1)=x.kP.take r++[aU x r] by rw [List.take_succ_eq_append_getElem (by omega),←getD_lt (d:=Jm) (by omega)];rfl);have Rk:=iH (show (x.kP.take r).length=r by rw [List.length_take];omega);obtain ⟨R1,tJ⟩:∃R1,dw x.K (aU x r)=R1:=⟨_,rfl⟩;have HR1:=iH tJ;rw [tJ] at hrow K3;clear tJ;have KX:=iH (show dh wr R1 (.slice ae R1.log.entries.length ce) (.slice al R1.state.au.length cl) (.slice ap R1.state.pairs.length cp) (.slice az R1.state.af.length cz) (fun b=>b≠B1) from hrow.rp.move fun b hb hl=>⟨hC.out.frame.block b hl (JF.out.rq b hb.1).2,(JF.out.rq b hb.1).2⟩);have q0:=aB hrow.c0 (hC.out.frame.block g hrow.gl hgB);have q1:=aB hrow.c1 (hC.out.frame.block g hrow.gl hgB);have q2:=aB hrow.c2 (hC.out.frame.block g hrow.gl hgB);have q3:=aB hrow.c3 (hC.out.frame.block g hrow.gl hgB);have q4:=aB hrow.c4 (hC.out.frame.block g hrow.gl hgB);have q5:=aB hrow.c5 (hC.out.frame.block g hrow.gl hgB);have q6:=aB hrow.c6 (hC.out.frame.block g hrow.gl hgB);clear hrow hgB;obtain ⟨va,nv,hvv⟩:=hC.out.own.shape;rw [Rk.out] at hvv;subst hvv;go_upto_region 21 with (fail);clear hdr;clear q0 q1 q2 q3 q4 q5 q6
      generalize bF:wr.alloc (.cells #[iI R1.log.base, .slice ae R1.log.entries.length ce, iS R1.snap, iI R1.state.index, .slice al R1.state.au.length cl, .slice ap R1.state.pairs.length cp, .slice az R1.state.af.length cz] 45)=wa at *;have hbz:=tQ bF;have tC:=iH (tO bF);have Ar:=iH (show ∀q,(Value.slice va r nv).ownBlock=some q→q<wr.heap.size from fun q hq=>hC.out.own.lt q hq);have zZ:=iH (hC.out.step (jZ _) hbz);replace KX:=iH (KX.out.below hbz);have TZ:=iH (zZ.out.frame.size);clear hbz hC;clear bF;obtain ⟨BA,PG⟩:∃BA,wr.heap.size=BA:=⟨_,rfl⟩;rw [PG] at tC Ar⊢;clear PG;have hol:∀q,(Value.slice va r nv).ownBlock=some q→q<wa.heap.size:=fun q hq=>zZ.out.own.lt q hq
      refine dO 7 (fun done wx=>aX (fun q=>(fun _=>False) q∨some q=(Value.slice va r nv).ownBlock) wa wx∧(done 5=false→aX (fun _=>False) wa wx)∧(done 3=false→done 5=false→Below wa.heap.size wa wx)) (fun i _ _ wx wy=>(i=3→aX (fun _=>False) wx wy)∧(i=5→wx.grownBy wy (Value.slice va r nv).ownBlock)∧(i≠3→i≠5→Below wx.heap.size wx wy)) [eP (iP B1 0),eP (Value.slice va r nv),eP (.agg #[iI R1.log.base, .slice ae R1.log.entries.length ce, iS R1.snap, iI R1.state.index, .slice al R1.state.au.length cl, .slice ap R1.state.pairs.length cp, .slice az R1.state.af.length cz]),(fun _ _ v wx=>∃(pe pl pp pz:Option Addr) (ne nl np nz:Nat),v=.agg #[iI R1.log.base, .slice pe R1.log.entries.length ne, iS R1.snap, iI R1.state.index, .slice pl R1.state.au.length nl, .slice pp R1.state.pairs.length np, .slice pz R1.state.af.length nz]∧dh wx R1 (.slice pe R1.log.entries.length ne) (.slice pl R1.state.au.length nl) (.slice pp R1.state.pairs.length np) (.slice pz R1.state.af.length nz) (fun b=>wa.heap.size≤b)),(fun done vs v wx=>done 3=true∧∃(pe pl pp pz:Option Addr) (ne nl np nz:Nat),vs 3=.agg #[iI R1.log.base, .slice pe R1.log.entries.length ne, iS R1.snap, iI R1.state.index, .slice pl R1.state.au.length nl, .slice pp R1.state.pairs.length np, .slice pz R1.state.af.length nz]∧∃q:Nat,v=Value.slice (some ⟨q,0,none⟩) 1 1∧wa.heap.size≤q∧aD wx q [iI R1.log.base, .slice pe R1.log.entries.length ne, iS R1.snap, iI R1.state.index, .slice pl R1.state.au.length nl, .slice pp R1.state.pairs.length np, .slice pz R1.state.af.length nz]),(fun done _ v wx=>done 3=true∧∃(a8:Option Addr) (c8:Nat),v=Value.slice a8 (r+1) c8∧bZ 45 7 (LX x.K) wx (Value.slice a8 (r+1) c8) ((x.kP.take r)++[(aU x r)]) (fun b=>w2.heap.size≤b)∧(∀q,(Value.slice a8 (r+1) c8).ownBlock=some q→w2.heap.size≤q)),eP (iP B1 0)] (by kernel_rfl) (by kernel_rfl) rfl ?hJ ?jP ?hst ?hself ?ek ?hend
      case hJ=>exact ⟨aX.of_below (Below.drew iB),fun _=>aX.of_below (Below.drew iB),fun _ _=>Below.drew iB⟩
      case jP =>
       intro i done vs1 x9 wx wy hi hdi h1 h2
       by_cases h:i=3
       ·subst h
        exact ⟨h1.1.trans (h2.1 rfl) fun q hq=>.inl (.inl hq),fun hd=>(h1.2.1 (by simpa [bJ] using hd)).trans (h2.1 rfl) fun q hq=>.inl hq,fun hd=>by simp [bJ] at hd⟩
       by_cases h3:i=5
       ·subst h3
        exact ⟨h1.1.grown (h2.2.1 rfl) fun q e=>.inl (.inr e.symm),fun hd=>by simp [bJ] at hd,fun _ hd=>by simp [bJ] at hd⟩
       ·have hb:=h2.2.2 h h3
        exact ⟨h1.1.step hb,fun hd=>(h1.2.1 (by simpa [bJ,Ne.symm h3] using hd)).step hb,fun hd hd2=>ah (h1.2.2 (by simpa [bJ,Ne.symm h] using hd) (by simpa [bJ,Ne.symm h3] using hd2)) hb⟩
      case hst =>
       intro i j done vs1 x9 wa wb hi hj hne hdi hdj hwf hJ hS GG hV
       match j,hj with
       | 0,_=>exact hV
       | 1,_=>exact hV
       | 2,_=>exact hV
       | 3,_ =>
         obtain ⟨pe,pl,pp,pz,ne,nl,np,nz,e,JD⟩:=hV
         by_cases h:i=5
         ·exact ⟨pe,pl,pp,pz,ne,nl,np,nz,e,(dh.move JD fun b hb hl=>⟨((hS.2.1 h)).block b hl (fun e=>by have:=hol b e.symm;omega),hb⟩)⟩
         ·exact ⟨pe,pl,pp,pz,ne,nl,np,nz,e,(dh.below JD (hS.2.2 (fun e=>hne e) h))⟩
       | 4,_ =>
         have h1:i≠3:=by
          rintro rfl;have:=hV.1;rw [hdi] at this;cases this
         obtain ⟨hdc,pe,pl,pp,pz,ne,nl,np,nz,e,q,e2,h2,h3⟩:=hV;have e9:dm vs1 i x9 3=vs1 3:=by simp [dm,Ne.symm h1]
         by_cases h:i=5
         ·exact ⟨by simp [bJ,hdc],pe,pl,pp,pz,ne,nl,np,nz,e9.trans e,q,e2,h2,h3.grown (hS.2.1 h) fun e3=>by have:=hol q e3.symm;omega⟩
         ·exact ⟨by simp [bJ,hdc],pe,pl,pp,pz,ne,nl,np,nz,e9.trans e,q,e2,h2,h3.below (hS.2.2 h1 h)⟩
       | 5,_ =>
         have h1:i≠3:=by
          rintro rfl;have:=hV.1;rw [hdi] at this;cases this
         obtain ⟨hdc,a8,c8,e,h2⟩:=hV;have hb:=hS.2.2 h1 (fun h=>hne h);exact ⟨by simp [bJ,hdc],a8,c8,e,⟨h2.1.below (jZ _) hb,h2.2⟩⟩
       | 6,_=>exact hV
       | n+7,hj=>exact absurd hj (by omega)
      case hself =>
       intro i done vs1 v w hi hV
       match i,hi with
       | 0,_=>exact hV
       | 1,_=>exact hV
       | 2,_=>exact hV
       | 3,_=>exact hV
       | 4,_ =>
         obtain ⟨hdc,pe,pl,pp,pz,ne,nl,np,nz,e,g⟩:=hV;exact ⟨by simp [bJ,hdc],pe,pl,pp,pz,ne,nl,np,nz,by simp [dm];exact e,g⟩
       | 5,_=>exact ⟨by simp [bJ,hV.1],hV.2⟩
       | 6,_=>exact hV
       | n+7,hi=>exact absurd hi (by omega)
      case ek =>
       simp only [gm,aJ,Act.put,Nat.reduceAdd,Nat.zero_add,pS];refine ⟨?_,?_,?_,?_,?_,?_,?_,trivial⟩
       all_goals
        intro done vs1 wx hJ hd hall hn K hK;simp [Region.binds] at hn;simp only [mM,eP,Act.put,Nat.reduceAdd,Nat.zero_add,pS] at hK
       ·go_wp2
        exact hK _ _ ⟨iD rfl,iD rfl,fun _ _=>iB⟩ rfl
       ·have e0:vs1 0=iP B1 0:=hall 0 (by omega) (by simp [hn])
        simp only [e0] at hK⊢;have bq:=(zZ.out.out.nK hJ.1 (fun e=>e.elim (fun e=>e) fun e=>by have:=zZ.out.lo _ e.symm;have:=Lj.out;omega)).cell 0 _ rfl;go_wp2;exact hK _ _ ⟨iD rfl,iD rfl,fun _ _=>iB⟩ rfl
       ·have z0:=(tC.out.nK hJ.1 (fun e=>e.elim (fun e=>e) fun e=>by have:=Ar.out _ e.symm;omega)).cell 0 _ rfl;have z1:=(tC.out.nK hJ.1 (fun e=>e.elim (fun e=>e) fun e=>by have:=Ar.out _ e.symm;omega)).cell 1 _ rfl;have z2:=(tC.out.nK hJ.1 (fun e=>e.elim (fun e=>e) fun e=>by have:=Ar.out _ e.symm;omega)).cell 2 _ rfl;have z3:=(tC.out.nK hJ.1 (fun e=>e.elim (fun e=>e) fun e=>by have:=Ar.out _ e.symm;omega)).cell 3 _ rfl;have z4:=(tC.out.nK hJ.1 (fun e=>e.elim (fun e=>e) fun e=>by have:=Ar.out _ e.symm;omega)).cell 4 _ rfl;have z5:=(tC.out.nK hJ.1 (fun e=>e.elim (fun e=>e) fun e=>by have:=Ar.out _ e.symm;omega)).cell 5 _ rfl;have z6:=(tC.out.nK hJ.1 (fun e=>e.elim (fun e=>e) fun e=>by have:=Ar.out _ e.symm;omega)).cell 6 _ rfl
        go_wp2;exact hK _ _ ⟨iD rfl,iD rfl,fun _ _=>iB⟩ rfl
       ·have hdp:done 5=false:=by
         cases hq:done 5 with
         | false=>rfl
         | true =>
           have h9:((fun done _ v wx=>done 3=true∧∃(a8:Option Addr) (c8:Nat),v=Value.slice a8 (r+1) c8∧bZ 45 7 (LX x.K) wx (Value.slice a8 (r+1) c8) ((x.kP.take r)++[(aU x r)]) (fun b=>w2.heap.size≤b)∧(∀q,(Value.slice a8 (r+1) c8).ownBlock=some q→w2.heap.size≤q)):VE) done vs1 (vs1 5) wx:=hall 5 (by omega) hq;have:=h9.1;rw [hd] at this;cases this
        have hb:=hJ.2.2 hd hdp;have e2:vs1 2=.agg #[iI R1.log.base, .slice ae R1.log.entries.length ce, iS R1.snap, iI R1.state.index, .slice al R1.state.au.length cl, .slice ap R1.state.pairs.length cp, .slice az R1.state.af.length cz]:=hall 2 (by omega) (by simp [hn]);simp only [e2] at hK⊢
        go_wp2_with fail
        refine (oC R1 _ _ _ _ _ wx (KX.out.below hb) K3.out.log K3.out.st).mono ?_;rintro e w9 ⟨ve,vl,vp,vz,rfl,jo,gQ⟩;obtain ⟨pe,ne,rfl,-,-,-,-⟩:=id jo.lD;obtain ⟨pl,nl,rfl,-,-,-,-⟩:=id jo.st.lock;obtain ⟨pp,np,rfl,-,-,-,-⟩:=id jo.st.pair;obtain ⟨pz,nz,rfl,-,-,-,-⟩:=id jo.st.dG;have Tv:=iH (aX.of_below (W:=fun _=>False) gQ);have QS:=iH (show dh w9 R1 (.slice pe R1.log.entries.length ne) (.slice pl R1.state.au.length nl) (.slice pp R1.state.pairs.length np) (.slice pz R1.state.af.length nz) (fun b=>wa.heap.size≤b) from jo.sub fun b hb1 _=>Nat.le_trans hb.size hb1);go_wp2;exact hK _ _ ⟨fun _=>Tv.out,iD rfl,fun h=>absurd rfl h⟩ ⟨pe,pl,pp,pz,ne,nl,np,nz,rfl,QS.out⟩
       ·obtain ⟨pe,pl,pp,pz,ne,nl,np,nz,e5,-⟩:((fun _ _ v wx=>∃(pe pl pp pz:Option Addr) (ne nl np nz:Nat),v=.agg #[iI R1.log.base, .slice pe R1.log.entries.length ne, iS R1.snap, iI R1.state.index, .slice pl R1.state.au.length nl, .slice pp R1.state.pairs.length np, .slice pz R1.state.af.length nz]∧dh wx R1 (.slice pe R1.log.entries.length ne) (.slice pl R1.state.au.length nl) (.slice pp R1.state.pairs.length np) (.slice pz R1.state.af.length nz) (fun b=>wa.heap.size≤b)):VE) done vs1 (vs1 3) wx:=hall 3 (by omega) (by simp [hn])
        simp only [e5] at hK⊢;go_wp2;exact hK _ _ ⟨iD rfl,iD rfl,fun _ _=>aj wx _⟩ ⟨by simp [hn],pe,pl,pp,pz,ne,nl,np,nz,by first | rfl | trivial | exact e5,_,rfl,hJ.1.size,aD.new⟩
       ·have e1:vs1 1=Value.slice va r nv:=hall 1 (by omega) (by simp [hn])
        obtain ⟨hdc,pe,pl,pp,pz,ne,nl,np,nz,e5,q,eb,TE,hbx⟩:((fun done vs v wx=>done 3=true∧∃(pe pl pp pz:Option Addr) (ne nl np nz:Nat),vs 3=.agg #[iI R1.log.base, .slice pe R1.log.entries.length ne, iS R1.snap, iI R1.state.index, .slice pl R1.state.au.length nl, .slice pp R1.state.pairs.length np, .slice pz R1.state.af.length nz]∧∃q:Nat,v=Value.slice (some ⟨q,0,none⟩) 1 1∧wa.heap.size≤q∧aD wx q [iI R1.log.base, .slice pe R1.log.entries.length ne, iS R1.snap, iI R1.state.index, .slice pl R1.state.au.length nl, .slice pp R1.state.pairs.length np, .slice pz R1.state.af.length nz]):VE) done vs1 (vs1 4) wx:=hall 4 (by omega) (by simp [hn]);obtain ⟨Qj,Pp,Po,Pn,ne',nl',Pv,Pt,e6,JD⟩:((fun _ _ v wx=>∃(pe pl pp pz:Option Addr) (ne nl np nz:Nat),v=.agg #[iI R1.log.base, .slice pe R1.log.entries.length ne, iS R1.snap, iI R1.state.index, .slice pl R1.state.au.length nl, .slice pp R1.state.pairs.length np, .slice pz R1.state.af.length nz]∧dh wx R1 (.slice pe R1.log.entries.length ne) (.slice pl R1.state.au.length nl) (.slice pp R1.state.pairs.length np) (.slice pz R1.state.af.length nz) (fun b=>wa.heap.size≤b)):VE) done vs1 (vs1 3) wx:=hall 3 (by omega) hdc;rw [e5] at e6;simp [and_assoc] at e6;obtain ⟨rfl,rfl,rfl,rfl,rfl,rfl,rfl,rfl⟩:=e6;simp only [e1,eb] at hK⊢;have hc:=hJ.2.1 hd
        have ho:=zZ.out.own.move (S':=fun b=>w2.heap.size≤b) (jZ _) (fun g hg=>hc.block g (zZ.out.own.lt g hg) (fun h=>h)) (fun b hb _ hl=>⟨hc.block b hl (fun h=>h),hb⟩);refine lU rfl (.tmp 78) (.tmp 81) rfl Tryz.P9 (jZ _) (aU x r) rfl rfl hbx.cell ho (⟨_,_,_,_,by rw [HR1.out];rfl,by rw [HR1.out];exact JD.sub fun b hb _=>⟨Nat.le_trans TZ.out hb,fun e=>by have:=hol _ e.symm;omega⟩⟩) (by rw [Rk.out];omega) ?_;intro v8 w8 nu kN qM;obtain ⟨a8,c8,e8⟩:∃a c,v8=Value.slice a (r+1) c:=(by obtain ⟨a,c,e⟩:=nu.shape;exact ⟨a,c,by rw [e,List.length_append,Rk.out];rfl⟩);subst e8;exact hK _ _ ⟨iD rfl,fun _=>kN,fun _ h=>absurd rfl h⟩ ⟨hdc,a8,c8,rfl,⟨nu,fun q hq=>qM.elim (fun e=>zZ.out.lo q (e▸hq)) fun ⟨q2,e,h2⟩=>by rw [e] at hq;cases hq;have:=hc.size;have:=TZ.out;omega⟩⟩
       ·go_wp2
        exact hK _ _ ⟨iD rfl,iD rfl,fun _ _=>iB⟩ rfl
      case hend =>
       intro done vs1 wx hJ hdn hv;obtain ⟨e0,e1,e2,-,-,⟨-,a8,c8,e5,hvp⟩,e6,-⟩:=hv;simp only [eP] at e0 e1 e2 e6;simp only [aJ,Act.put,Nat.reduceAdd,Nat.zero_add,pS];rw [e0,e1,e2,e5,e6];clear e0 e1 e2 e5 e6 hol;have HN:=iH (show oV 45 7 (LX x.K) w2 _ B1 (fun u=>[u, iN, iN, iN, iI 0, .slice oa codes.length oc]) (.slice a8 (r+1) c8) ((x.kP.take r)++[(aU x r)]) from zZ.out.next (jZ _) Lj.out hJ.1 hvp.1 hvp.2 (i:=0) (by simp) rfl);have cx:=(zZ.out.out.nK hJ.1 (fun e=>e.elim (fun e=>e) fun e=>by have:=zZ.out.lo _ e.symm;have:=Lj.out;omega)).cell 0 _ rfl;have tx:=(zZ.out.out.nK hJ.1 (fun e=>e.elim (fun e=>e) fun e=>by have:=zZ.out.lo _ e.symm;have:=Lj.out;omega)).thaw 0;clear hvp hJ;go_upto_region 22 with (fail);clear cx tx;generalize wx.setCell ⟨B1,0,none⟩ (.slice a8 (r+1) c8)=w5 at *;go_wp2
       go_roundw
       case rel=>exact ⟨r+1,_,by omega,by go_num,by rw [GI.out];exact HN⟩
       case measure=>simp [intOf];omega
    have HST:=iH (M0 l k hlt2 (o9 j,[]));have gG:=iH (o8 (m:=j) (by omega) (l:=l.take k) (fun a h=>HA.out a (List.mem_of_mem_take h)) (by rw [List.length_take];omega));have hck:=qo j (l.take k);rw [show (l.take k).length=k by rw [List.length_take];omega] at gG hck;have HAa:=iH (HA.out l[k] (List.getElem_mem hlt2));obtain ⟨b,off,cap',row,hv,hSb,hrow,hcells⟩:=(HS.out.below fo (by decide) hB.out.below).row k hlt2;simp only [Value.slice.injEq] at hv;obtain ⟨rfl,-,rfl⟩:=hv;obtain rfl:=hrow;have q0:=hcells 0 _ rfl;have q1:=hcells 1 _ rfl;have q2:=hcells 2 _ rfl;have q3:=hcells 3 _ rfl;have q4:=hcells 4 _ rfl;have q5:=hcells 5 _ rfl;have q6:=hcells 6 _ rfl;have q7:=hcells 7 _ rfl;simp only [Nat.add_zero] at q0;clear hcells;have OX:=iH (show kT j (l.take (k+1))=((nG (kT j (l.take k)).1 l[k]).1,(kT j (l.take k)).2++[(nG (kT j (l.take k)).1 l[k]).2]) from HST.out);clear HST;have HST:=OX;clear OX;generalize l[k]=a at *;generalize kT j (l.take k)=p at *;obtain ⟨x,codes⟩:=p;simp only at hck gG HST hB;have Vv:=iH hck;clear hck;obtain ⟨R,hR⟩:∃R,nG x a=R:=⟨_,rfl⟩;have HR:=iH hR;rw [hR] at HST;clear hR;obtain ⟨oa,oc,rfl⟩:=hB.out.codes.shape;go_upto_region 16 with (fail);clear q0 q1 q2 q3 q4 q5 q6 q7
    have hbz:Below wr.heap.size wr (wr.alloc (.cells #[iI a.kind, iI a.c, iI a.r, iI a.k, iI a.op.kind, iS a.op.a, iS a.op.b, iI a.op.n] 70)):=aj wr _;have tC:=iH (aD.new (w:=wr) (cs:=[iI a.kind, iI a.c, iI a.r, iI a.k, iI a.op.kind, iS a.op.a, iS a.op.b, iI a.op.n]) (E:=70));have Yr:=hB.out.U6.trim;have Ar:=iH (show ∀q,(Value.slice oa codes.length oc).ownBlock=some q→q<wr.heap.size from fun q hq=>hB.out.codes.lt q hq);have HB2:=iH (show rZ 45 73 101 9 34 w wr B1 (w.heap.size+1+1) x codes (fun b=>Zo b∧b<wr.heap.size) (Value.slice oa codes.length oc) from ⟨hB.out.zero,hB.out.out,Yr,hB.out.codes,hB.out.low,fun b hb=>hB.out.rq b hb.1,fun q hq=>⟨(hB.out.own q hq).1,fun h=>(hB.out.own q hq).2 h.1⟩,hB.out.below⟩);obtain ⟨Z,hZ2⟩:∃Z:Nat→Prop,(fun b=>Zo b∧b<wr.heap.size)=Z:=⟨_,rfl⟩;have OV:=iH (show ∀b,Z b→b≠wr.heap.size from fun b hb e=>by rw [←hZ2] at hb;have:=hb.2;omega);rw [hZ2] at HB2;clear hZ2 Yr hB;have hBa:=iH (HB2.out.step hbz);have TG:B1<(wr.alloc (.cells #[iI a.kind, iI a.c, iI a.r, iI a.k, iI a.op.kind, iS a.op.a, iS a.op.b, iI a.op.n] 70)).heap.size:=Nat.lt_of_lt_of_le hBl hbz.size;clear HB2 hbz hBl;have hBl:=TG;clear TG
    generalize wr.alloc (.cells #[iI a.kind, iI a.c, iI a.r, iI a.k, iI a.op.kind, iS a.op.a, iS a.op.b, iI a.op.n] 70)=wa at *;obtain ⟨BA,PG⟩:∃BA,wr.heap.size=BA:=⟨_,rfl⟩;rw [PG] at tC Ar OV⊢;clear PG;have hol:∀q,(Value.slice oa codes.length oc).ownBlock=some q→q<wa.heap.size:=fun q hq=>hBa.out.codes.lt q hq
    refine dO 8 (fun done wx=>aX (fun q=>(Z) q∨some q=(Value.slice oa codes.length oc).ownBlock) wa wx∧(done 6=false→aX (Z) wa wx)∧(done 4=false→done 6=false→Below wa.heap.size wa wx)) (fun i _ _ wx wy=>(i=4→aX (Z) wx wy)∧(i=6→wx.grownBy wy (Value.slice oa codes.length oc).ownBlock)∧(i≠4→i≠6→Below wx.heap.size wx wy)) [eP (iP B1 5),eP (Value.slice oa codes.length oc),eP (iP (w.heap.size+1+1) 0),eP (.agg #[iI a.kind, iI a.c, iI a.r, iI a.k, iI a.op.kind, iS a.op.a, iS a.op.b, iI a.op.n]),(fun _ _ v wx=>v=iI R.2∧∃Z1:Nat→Prop,gW 45 73 101 9 wx (w.heap.size+1+1) R.1 Z1∧∀b,Z1 b→(Z b∨wa.heap.size≤b)∧b<wx.heap.size),(fun done vs v wx=>done 4=true∧vs 4=iI R.2∧∃q:Nat,v=Value.slice (some ⟨q,0,none⟩) 1 1∧wa.heap.size≤q∧aD wx q [iI R.2]),(fun done _ v wx=>done 4=true∧∃(a8:Option Addr) (c8:Nat),v=Value.slice a8 (codes.length+1) c8∧∃Z1:Nat→Prop,gW 45 73 101 9 wx (w.heap.size+1+1) R.1 Z1∧(∀b,Z1 b→Z b∨wa.heap.size≤b)∧bZ 34 1 jE wx (Value.slice a8 (codes.length+1) c8) (codes++[R.2]) (fun _=>False)∧(∀q,(Value.slice a8 (codes.length+1) c8).ownBlock=some q→B1<q∧¬ Z1 q)),eP (iP B1 5)] (by kernel_rfl) (by kernel_rfl) rfl ?hJ ?jP ?hst ?hself ?ek ?hend
    case hJ=>exact ⟨aX.of_below (Below.drew iB),fun _=>aX.of_below (Below.drew iB),fun _ _=>Below.drew iB⟩
    case jP =>
     intro i done vs1 x9 wx wy hi hdi h1 h2
     by_cases h:i=4
     ·subst h
      exact ⟨h1.1.trans (h2.1 rfl) fun q hq=>.inl (.inl hq),fun hd=>(h1.2.1 (by simpa [bJ] using hd)).trans (h2.1 rfl) fun q hq=>.inl hq,fun hd=>by simp [bJ] at hd⟩
     by_cases h3:i=6
     ·subst h3
      exact ⟨h1.1.grown (h2.2.1 rfl) fun q e=>.inl (.inr e.symm),fun hd=>by simp [bJ] at hd,fun _ hd=>by simp [bJ] at hd⟩
     ·have hb:=h2.2.2 h h3
      exact ⟨h1.1.step hb,fun hd=>(h1.2.1 (by simpa [bJ,Ne.symm h3] using hd)).step hb,fun hd hd2=>ah (h1.2.2 (by simpa [bJ,Ne.symm h] using hd) (by simpa [bJ,Ne.symm h3] using hd2)) hb⟩
    case hst =>
     intro i j done vs1 x9 wa wb hi hj hne hdi hdj hwf hJ hS GG hV
     match j,hj with
     | 0,_=>exact hV
     | 1,_=>exact hV
     | 2,_=>exact hV
     | 3,_=>exact hV
     | 4,_ =>
       obtain ⟨e,JD⟩:=hV
       by_cases h:i=6
       ·exact ⟨e,(by obtain ⟨Z1,h1,h2⟩:=JD;exact ⟨Z1,h1.grown (hS.2.1 h) (fun q hq hz=>by have h4:=hBa.out.own q hq;have h5:=hol q hq;rcases (h2 q hz).1 with h6 | h6;exact h4.2 h6;omega),fun b hb1=>⟨(h2 b hb1).1,Nat.lt_of_lt_of_le (h2 b hb1).2 ((hS.2.1 h)).size⟩⟩)⟩
       ·exact ⟨e,(by obtain ⟨Z1,h1,h2⟩:=JD;exact ⟨Z1,h1.below' (hS.2.2 (fun e=>hne e) h),fun b hb1=>⟨(h2 b hb1).1,Nat.lt_of_lt_of_le (h2 b hb1).2 ((hS.2.2 (fun e=>hne e) h)).size⟩⟩)⟩
     | 5,_ =>
       have h1:i≠4:=by
        rintro rfl;have:=hV.1;rw [hdi] at this;cases this
       obtain ⟨hdc,e,q,e2,h2,h3⟩:=hV;have e9:dm vs1 i x9 4=vs1 4:=by simp [dm,Ne.symm h1]
       by_cases h:i=6
       ·exact ⟨by simp [bJ,hdc],e9.trans e,q,e2,h2,h3.grown (hS.2.1 h) fun e3=>by have:=hol q e3.symm;omega⟩
       ·exact ⟨by simp [bJ,hdc],e9.trans e,q,e2,h2,h3.below (hS.2.2 h1 h)⟩
     | 6,_ =>
       have h1:i≠4:=by
        rintro rfl;have:=hV.1;rw [hdi] at this;cases this
       obtain ⟨hdc,a8,c8,e,h2⟩:=hV;have hb:=hS.2.2 h1 (fun h=>hne h);exact ⟨by simp [bJ,hdc],a8,c8,e,(by obtain ⟨Z1,h1,h2,h3,h4⟩:=h2;exact ⟨Z1,h1.below' hb,h2,h3.below bB hb,h4⟩)⟩
     | 7,_=>exact hV
     | n+8,hj=>exact absurd hj (by omega)
    case hself =>
     intro i done vs1 v w hi hV
     match i,hi with
     | 0,_=>exact hV
     | 1,_=>exact hV
     | 2,_=>exact hV
     | 3,_=>exact hV
     | 4,_=>exact hV
     | 5,_ =>
       obtain ⟨hdc,e,g⟩:=hV;exact ⟨by simp [bJ,hdc],by simp [dm];exact e,g⟩
     | 6,_=>exact ⟨by simp [bJ,hV.1],hV.2⟩
     | 7,_=>exact hV
     | n+8,hi=>exact absurd hi (by omega)
    case ek =>
     simp only [gm,aJ,Act.put,Nat.reduceAdd,Nat.zero_add,pS];refine ⟨?_,?_,?_,?_,?_,?_,?_,?_,trivial⟩
     all_goals
      intro done vs1 wx hJ hd hall hn K hK;simp [Region.binds] at hn;simp only [mM,eP,Act.put,Nat.reduceAdd,Nat.zero_add,pS] at hK
     ·go_wp2
      exact hK _ _ ⟨iD rfl,iD rfl,fun _ _=>iB⟩ rfl
     ·have e0:vs1 0=iP B1 5:=hall 0 (by omega) (by simp [hn])
      simp only [e0] at hK⊢;have b5:=(hBa.out.out.nK hJ.1 (fun e=>e.elim (fun e=>(hBa.out.rq _ e).2 rfl) fun e=>by have:=(hBa.out.own _ e.symm).1;omega)).cell 5 _ rfl;go_wp2;exact hK _ _ ⟨iD rfl,iD rfl,fun _ _=>iB⟩ rfl
     ·go_wp2
      exact hK _ _ ⟨iD rfl,iD rfl,fun _ _=>iB⟩ rfl
     ·have z0:=(tC.out.nK hJ.1 (fun e=>e.elim (fun e=>OV.out _ e rfl) fun e=>by have:=Ar.out _ e.symm;omega)).cell 0 _ rfl;have z1:=(tC.out.nK hJ.1 (fun e=>e.elim (fun e=>OV.out _ e rfl) fun e=>by have:=Ar.out _ e.symm;omega)).cell 1 _ rfl;have z2:=(tC.out.nK hJ.1 (fun e=>e.elim (fun e=>OV.out _ e rfl) fun e=>by have:=Ar.out _ e.symm;omega)).cell 2 _ rfl;have z3:=(tC.out.nK hJ.1 (fun e=>e.elim (fun e=>OV.out _ e rfl) fun e=>by have:=Ar.out _ e.symm;omega)).cell 3 _ rfl;have z4:=(tC.out.nK hJ.1 (fun e=>e.elim (fun e=>OV.out _ e rfl) fun e=>by have:=Ar.out _ e.symm;omega)).cell 4 _ rfl;have z5:=(tC.out.nK hJ.1 (fun e=>e.elim (fun e=>OV.out _ e rfl) fun e=>by have:=Ar.out _ e.symm;omega)).cell 5 _ rfl;have z6:=(tC.out.nK hJ.1 (fun e=>e.elim (fun e=>OV.out _ e rfl) fun e=>by have:=Ar.out _ e.symm;omega)).cell 6 _ rfl;have z7:=(tC.out.nK hJ.1 (fun e=>e.elim (fun e=>OV.out _ e rfl) fun e=>by have:=Ar.out _ e.symm;omega)).cell 7 _ rfl
      go_wp2;exact hK _ _ ⟨iD rfl,iD rfl,fun _ _=>iB⟩ rfl
     ·have hdp:done 6=false:=by
       cases hq:done 6 with
       | false=>rfl
       | true =>
         have h9:((fun done _ v wx=>done 4=true∧∃(a8:Option Addr) (c8:Nat),v=Value.slice a8 (codes.length+1) c8∧∃Z1:Nat→Prop,gW 45 73 101 9 wx (w.heap.size+1+1) R.1 Z1∧(∀b,Z1 b→Z b∨wa.heap.size≤b)∧bZ 34 1 jE wx (Value.slice a8 (codes.length+1) c8) (codes++[R.2]) (fun _=>False)∧(∀q,(Value.slice a8 (codes.length+1) c8).ownBlock=some q→B1<q∧¬ Z1 q)):VE) done vs1 (vs1 6) wx:=hall 6 (by omega) hq;have:=h9.1;rw [hd] at this;cases this
      have hb:=hJ.2.2 hd hdp;have e2:vs1 2=iP (w.heap.size+1+1) 0:=hall 2 (by omega) (by simp [hn]);have e3:vs1 3=.agg #[iI a.kind, iI a.c, iI a.r, iI a.k, iI a.op.kind, iS a.op.a, iS a.op.b, iI a.op.n]:=hall 3 (by omega) (by simp [hn]);simp only [e2,e3] at hK⊢
      go_wp2_with fail
      refine (KV j k x (w.heap.size+1+1) Z wx (hBa.out.U6.below' hb) gG.out a HAa.out (by omega)).mono ?_;rw [HR.out];rintro e w9 ⟨rfl,Z1,hcl,hz1,hcc⟩;have Tv:=iH hcc;have QS:=iH (show ∃Z1:Nat→Prop,gW 45 73 101 9 w9 (w.heap.size+1+1) R.1 Z1∧∀b,Z1 b→(Z b∨wa.heap.size≤b)∧b<w9.heap.size from ⟨_,hcl.trim,fun b hb1=>⟨(hz1 b hb1.1).imp id (fun h=>Nat.le_trans hb.size h),hb1.2⟩⟩);clear hcl hz1 hcc;go_wp2;exact hK _ _ ⟨fun _=>Tv.out,iD rfl,fun h=>absurd rfl h⟩ ⟨rfl,QS.out⟩
     ·obtain ⟨e5,-⟩:((fun _ _ v wx=>v=iI R.2∧∃Z1:Nat→Prop,gW 45 73 101 9 wx (w.heap.size+1+1) R.1 Z1∧∀b,Z1 b→(Z b∨wa.heap.size≤b)∧b<wx.heap.size):VE) done vs1 (vs1 4) wx:=hall 4 (by omega) (by simp [hn])
      simp only [e5] at hK⊢;go_wp2;exact hK _ _ ⟨iD rfl,iD rfl,fun _ _=>aj wx _⟩ ⟨by simp [hn],by first | rfl | trivial | exact e5,_,rfl,hJ.1.size,aD.new⟩
     ·have e1:vs1 1=Value.slice oa codes.length oc:=hall 1 (by omega) (by simp [hn])
      obtain ⟨hdc,e5,q,eb,TE,hbx⟩:((fun done vs v wx=>done 4=true∧vs 4=iI R.2∧∃q:Nat,v=Value.slice (some ⟨q,0,none⟩) 1 1∧wa.heap.size≤q∧aD wx q [iI R.2]):VE) done vs1 (vs1 5) wx:=hall 5 (by omega) (by simp [hn]);obtain ⟨e6,JD⟩:((fun _ _ v wx=>v=iI R.2∧∃Z1:Nat→Prop,gW 45 73 101 9 wx (w.heap.size+1+1) R.1 Z1∧∀b,Z1 b→(Z b∨wa.heap.size≤b)∧b<wx.heap.size):VE) done vs1 (vs1 4) wx:=hall 4 (by omega) hdc;simp only [e1,eb] at hK⊢;have hc:=hJ.2.1 hd;have ho:=hBa.out.codes.move (S':=fun _=>False) bB (fun g hg=>hc.block g (hBa.out.codes.lt g hg) (hBa.out.own g hg).2) (fun b hb=>hb.elim);refine lU rfl (.tmp 60) (.tmp 64) rfl Tryz.Qa bB R.2 rfl rfl hbx.cell ho (rfl) (by have:=Vv.out;omega) ?_;intro v8 w8 nu kN qM;obtain ⟨a8,c8,e8⟩:∃a c,v8=Value.slice a (codes.length+1) c:=(by obtain ⟨a,c,e⟩:=nu.shape;exact ⟨a,c,by rw [e,List.length_append];rfl⟩);subst e8;exact hK _ _ ⟨iD rfl,fun _=>kN,fun _ h=>absurd rfl h⟩ ⟨hdc,a8,c8,rfl,(by obtain ⟨Z1,h1,h2⟩:=JD;have h3:=IE h1 h2 hBa.out.own hol hBl hc.size kN qM;exact ⟨Z1,h3.1,fun b hb=>(h2 b hb).1,nu,h3.2⟩)⟩
     ·go_wp2
      exact hK _ _ ⟨iD rfl,iD rfl,fun _ _=>iB⟩ rfl
    case hend =>
     intro done vs1 wx hJ hdn hv;obtain ⟨e0,e1,e2,e3,-,-,⟨-,a8,c8,e6,Z1,hz1,hz2,nu,X8⟩,e7,-⟩:=hv;simp only [eP] at e0 e1 e2 e3 e7;simp only [aJ,Act.put,Nat.reduceAdd,Nat.zero_add,pS];rw [e0,e1,e2,e3,e6,e7];clear e0 e1 e2 e3 e6 e7 hol;have HN:=iH (show rZ 45 73 101 9 34 w _ B1 (w.heap.size+1+1) R.1 (codes++[R.2]) Z1 (.slice a8 (codes.length+1) c8) from hBa.out.next hBl hJ.1 hz1 hz2 nu X8);have cx:=(hBa.out.out.nK hJ.1 (fun e=>e.elim (fun e=>(hBa.out.rq _ e).2 rfl) fun e=>by have:=(hBa.out.own _ e.symm).1;omega)).cell 5 _ rfl;have tx:=(hBa.out.out.nK hJ.1 (fun e=>e.elim (fun e=>(hBa.out.rq _ e).2 rfl) fun e=>by have:=(hBa.out.own _ e.symm).1;omega)).thaw 5;have hBx:B1<(wx.setCell ⟨B1,5,none⟩ (.slice a8 (codes.length+1) c8)).heap.size:=by rw [World.size_setCell];exact Nat.lt_of_lt_of_le hBl hJ.1.size
     clear hz1 hz2 nu X8 hJ;go_upto_region 17 with (fail);clear cx tx;generalize wx.setCell ⟨B1,5,none⟩ (.slice a8 (codes.length+1) c8)=w5 at *;go_wp2
     go_roundw
     case rel=>exact ⟨k+1,_,_,by omega,by go_num,hBx,by rw [HST.out];exact HN⟩
     case measure=>simp [intOf];omega
  obtain ⟨ca,cc,hv⟩:=hA.out.nV.shape;rw [BP] at hv;subst hv
  go_wp2_with fail
  refine (CO ((j:Int)+1) (by omega) _).mono ?_;rintro e w2 ⟨rfl,hb2⟩;have hA2:=iH (hA.out.step hb2);clear hA hb2;go_upto_region 10 with (fail);generalize bF:w2.alloc (.cells #[iI ((j:Int)+1), iI 0, iI 1, iN] 73)=w3 at *;have hbz:=tQ bF;have Rw:=iH (tO bF);have Uh:=iH (show ∀q,(Value.slice ca j cc).ownBlock=some q→q<w2.heap.size from fun q hq=>hA2.out.nV.lt q hq);have hA3:=iH (hA2.out.step hbz);clear hA2 hbz;clear bF;obtain ⟨BC,Yu⟩:∃BC,w2.heap.size=BC:=⟨_,rfl⟩;rw [Yu] at Rw Uh⊢;clear Yu;have hol:∀q,(Value.slice ca j cc).ownBlock=some q→q<w3.heap.size:=fun q hq=>hA3.out.nV.lt q hq
  refine dO 10 (fun done wx=>aX (fun q=>some q=(Value.slice ca j cc).ownBlock) w3 wx∧(done 7=false→Below w3.heap.size w3 wx)) (fun i _ _ wx wy=>(i=7→wx.grownBy wy (Value.slice ca j cc).ownBlock)∧(i≠7→Below wx.heap.size wx wy)) [eP (iP (w.heap.size+1+1) 0),eP (iP (w.heap.size+1+1) 0),eP (iP (w.heap.size+1+1) 0),eP (iP (w.heap.size+1+1) 1),eP (.slice ca j cc),eP (.agg #[iI ((j:Int)+1), iI 0, iI 1, iN]),(fun _ _ v wx=>∃q:Nat,v=.slice (some ⟨q,0,none⟩) 1 1∧w3.heap.size≤q∧aD wx q [iI ((j:Int)+1), iI 0, iI 1, iN]),(fun _ _ v wx=>∃(a8:Option Addr) (c8:Nat),v=.slice a8 (j+1) c8∧bZ 73 4 nN wx (.slice a8 (j+1) c8) ((o9 j).bu++[⟨(j:Int)+1,0,1,[]⟩]) (fun _=>False)∧((Value.slice a8 (j+1) c8).ownBlock=(Value.slice ca j cc).ownBlock∨∃q,(Value.slice a8 (j+1) c8).ownBlock=some q∧w3.heap.size≤q)∧w3.grownBy wx (Value.slice ca j cc).ownBlock),eP (iP (w.heap.size+1+1) 0),eP (iP (w.heap.size+1+1) 1)] (by kernel_rfl) (by kernel_rfl) rfl ?hJ ?jP ?hst ?hself ?ek ?hend
  case hJ=>exact ⟨aX.of_below (Below.drew iB),fun _=>Below.drew iB⟩
  case jP =>
   intro i done vs1 x wx wy hi hdi h1 h2
   by_cases h:i=7
   ·subst h
    exact ⟨h1.1.grown (h2.1 rfl) fun q e=>.inl e.symm,fun hd=>by simp [bJ] at hd⟩
   ·exact ⟨h1.1.step (h2.2 h),fun hd=>ah (h1.2 (by simpa [bJ,Ne.symm h] using hd)) (h2.2 h)⟩
  case hst =>
   intro i j done vs1 x wa wb hi hj hne hdi hdj hwf hJ hS GG hV
   match j,hj with
   | 0,_=>exact hV
   | 1,_=>exact hV
   | 2,_=>exact hV
   | 3,_=>exact hV
   | 4,_=>exact hV
   | 5,_=>exact hV
   | 6,_ =>
     obtain ⟨q,e,h1,h2⟩:=hV
     by_cases h:i=7
     ·exact ⟨q,e,h1,h2.grown (hS.1 h) fun e2=>by have:=hol q e2.symm;omega⟩
     ·exact ⟨q,e,h1,h2.below (hS.2 h)⟩
   | 7,_ =>
     obtain ⟨a8,c8,e,h1,h2,h3⟩:=hV;have hb:=hS.2 (fun h=>hne h);exact ⟨a8,c8,e,h1.below dV hb,h2,grownBy_below h3 hb⟩
   | 8,_=>exact hV
   | 9,_=>exact hV
   | n+10,hj=>exact absurd hj (by omega)
  case hself =>
   intro i done vs1 v w hi hV
   match i,hi with
   | 0,_=>exact hV
   | 1,_=>exact hV
   | 2,_=>exact hV
   | 3,_=>exact hV
   | 4,_=>exact hV
   | 5,_=>exact hV
   | 6,_=>exact hV
   | 7,_=>exact hV
   | 8,_=>exact hV
   | 9,_=>exact hV
   | n+10,hi=>exact absurd hi (by omega)
  case ek =>
   simp only [gm,aJ,Act.put,Nat.reduceAdd,Nat.zero_add,pS];refine ⟨?_,?_,?_,?_,?_,?_,?_,?_,?_,?_,trivial⟩
   all_goals
    intro done vs1 wx hJ hd hall hn K hK;simp [Region.binds] at hn;simp only [mM,eP,Act.put,Nat.reduceAdd,Nat.zero_add,pS] at hK
   ·go_wp2
    exact hK _ _ ⟨iD rfl,fun _=>iB⟩ rfl
   ·go_wp2
    exact hK _ _ ⟨iD rfl,fun _=>iB⟩ rfl
   ·have e1:vs1 1=iP (w.heap.size+1+1) 0:=hall 1 (by omega) (by simp [hn])
    simp only [e1] at hK⊢;go_wp2;exact hK _ _ ⟨iD rfl,fun _=>iB⟩ rfl
   ·have e2:vs1 2=iP (w.heap.size+1+1) 0:=hall 2 (by omega) (by simp [hn])
    simp only [e2] at hK⊢;go_wp2;exact hK _ _ ⟨iD rfl,fun _=>iB⟩ rfl
   ·have e3:vs1 3=iP (w.heap.size+1+1) 1:=hall 3 (by omega) (by simp [hn])
    simp only [e3] at hK⊢;have x1:=(hA3.out.box.nK hJ.1 (fun e=>by have:=hA3.out.own _ e.symm;omega)).cell 1 _ rfl;go_wp2;exact hK _ _ ⟨iD rfl,fun _=>iB⟩ rfl
   ·have z0:=(Rw.out.nK hJ.1 (fun e=>by have:=Uh.out _ e.symm;omega)).cell 0 _ rfl;have z1:=(Rw.out.nK hJ.1 (fun e=>by have:=Uh.out _ e.symm;omega)).cell 1 _ rfl;have z2:=(Rw.out.nK hJ.1 (fun e=>by have:=Uh.out _ e.symm;omega)).cell 2 _ rfl;have z3:=(Rw.out.nK hJ.1 (fun e=>by have:=Uh.out _ e.symm;omega)).cell 3 _ rfl
    go_wp2;exact hK _ _ ⟨iD rfl,fun _=>iB⟩ rfl
   ·have e5:vs1 5=.agg #[iI ((j:Int)+1), iI 0, iI 1, iN]:=hall 5 (by omega) (by simp [hn])
    simp only [e5] at hK⊢;go_wp2;exact hK _ _ ⟨iD rfl,fun _=>aj wx _⟩ ⟨_,rfl,hJ.1.size,aD.new⟩
   ·have e4:vs1 4=.slice ca j cc:=hall 4 (by omega) (by simp [hn])
    obtain ⟨q,eb,TE,hbx⟩:((fun _ _ v wx=>∃q:Nat,v=.slice (some ⟨q,0,none⟩) 1 1∧w3.heap.size≤q∧aD wx q [iI ((j:Int)+1), iI 0, iI 1, iN]):VE) done vs1 (vs1 6) wx:=hall 6 (by omega) (by simp [hn]);simp only [e4,eb] at hK⊢;have hb:=hJ.2 hd;have ho:=hA3.out.nV.below dV hb;refine lU rfl (.tmp 45) (.tmp 47) rfl Tryz.Jd dV ⟨(j:Int)+1,0,1,[]⟩ rfl rfl hbx.cell ho (Ki) (by rw [BP];omega) ?_;intro v8 w8 nu kN qM;obtain ⟨a8,c8,e8⟩:∃a c,v8=.slice a (j+1) c:=(by obtain ⟨a,c,e⟩:=nu.shape;exact ⟨a,c,by rw [e,List.length_append,BP];rfl⟩);subst e8;exact hK _ _ ⟨fun _=>kN,fun h=>absurd rfl h⟩ ⟨a8,c8,rfl,nu,qM.imp id (fun ⟨g,e,h⟩=>⟨g,e,Nat.le_trans hb.size h⟩),grownBy_trans (aY hb _) kN⟩
   ·have e0:vs1 0=iP (w.heap.size+1+1) 0:=hall 0 (by omega) (by simp [hn])
    simp only [e0] at hK⊢;go_wp2;exact hK _ _ ⟨iD rfl,fun _=>iB⟩ rfl
   ·have e8:vs1 8=iP (w.heap.size+1+1) 0:=hall 8 (by omega) (by simp [hn])
    simp only [e8] at hK⊢;go_wp2;exact hK _ _ ⟨iD rfl,fun _=>iB⟩ rfl
  case hend =>
   intro done vs1 wx hJ hdn hv;obtain ⟨e0,e1,e2,e3,e4,e5,-,⟨a8,c8,e7,nu,qM,kN⟩,e8,e9,-⟩:=hv;simp only [eP] at e0 e1 e2 e3 e4 e5 e8 e9;simp only [aJ,Act.put,Nat.reduceAdd,Nat.zero_add,pS];rw [e0,e1,e2,e3,e4,e5,e7,e8,e9];clear e0 e1 e2 e3 e4 e5 e7 e8 e9 hol;have HN:=iH (hA3.out.next nu qM kN);have cx:=(hA3.out.box.nK hJ.1 (fun e=>by have:=hA3.out.own _ e.symm;omega)).cell 1 _ rfl;have tx:=(hA3.out.box.nK hJ.1 (fun e=>by have:=hA3.out.own _ e.symm;omega)).thaw 1;clear nu qM kN hJ;go_upto_region 11 with (fail);clear cx tx;generalize wx.setCell ⟨w.heap.size+1+1,1,none⟩ (.slice a8 (j+1) c8)=w5 at *;go_wp2
   go_roundw
   case rel=>exact ⟨j+1,_,by omega,by go_num,HN⟩
   case measure=>simp [intOf];omega
end Go.Proofs.YtbngpjdflblffaaGreatDoor
