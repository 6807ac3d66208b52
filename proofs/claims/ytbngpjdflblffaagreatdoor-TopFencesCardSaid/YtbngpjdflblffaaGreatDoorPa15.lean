/- A part of the proof, laid together from: Acts. -/
import Derived.Test.YtbngpjdflblffaaGreatDoorPa14
set_option linter.all false
set_option maxRecDepth 100000
set_option maxHeartbeats 12800000
namespace Go.Tk
open Go Go.RowKit
theorem Jf {x:Int} {m:Nat} (hm:1<m) (h:PL x):PL (x.tdiv (m:Int)):=by
 have:=Int.natAbs_tdiv x (m:Int);unfold PL at *;have h9:(m:Int).natAbs=m:=rfl;rw [h9] at this;have h3:(x.tdiv (m:Int)).natAbs≤x.natAbs / 2:=by rw [this];exact Nat.div_le_div_left hm (by decide)
 omega
theorem GrowAt.sets {E:Nat} {w wr:World} {v:Value} {l:List dK} (h:GrowAt E w wr v l) {b:Nat} (hne:∀q,v.ownBlock=some q→q≠b) (hb:w.heap.size≤b) (o:Nat) (us:List Value):GrowAt E w (wr.setCells b o us) v l :=
 ⟨h.own.move fo (fun q hq=>iW (hne q hq) _ _ _) (fun b hb=>hb.elim),h.lo,bG hb us o _ h.below⟩
theorem GrowAt.set {E:Nat} {w wr:World} {v:Value} {l:List dK} (h:GrowAt E w wr v l) {b:Nat} (hne:∀q,v.ownBlock=some q→q≠b) (hb:w.heap.size≤b) (o:Nat) (u:Value):GrowAt E w (wr.setCell ⟨b,o,none⟩ u) v l:=h.sets hne hb o [u]
end Go.Tk
namespace Go.Proofs.YtbngpjdflblffaaGreatDoor
open Go.RowKit Go.Tk
theorem Ca (l:List kX) (most:Nat) (Te:most≤1000) (v:Value) (S:Nat→Prop) (w:World) (h:aZ 4 FB w v l S) (hr:∀x∈l,uM x) :
 Calls Tryz.prog 24 #[v, iI (most:Int), iI 3] w fun e w'=>∃v',e=.returned v'∧GrowAt 70 w w' v' (vU l most 3):=by
 obtain ⟨la,lc,rfl,hlc,hlm,-,-⟩:=id h;unfold maxLen at hlm;have HH:=iH h;have NH:=iH hr;obtain ⟨AL,TK⟩:∃AL:Nat→List dK,(fun n=>(l.take n).map fun r=>Cb r 3)=AL:=⟨_,rfl⟩;have H0:=iH (show AL 0=[] by rw [←TK];rfl);have H1:=iH (show ∀k (hk:k<l.length),AL (k+1)=AL k++[Cb l[k] 3] from fun k hk=>by rw [←TK];show (l.take (k+1)).map _=_;rw [List.take_succ_eq_append_getElem hk,List.map_append];rfl);have H2:=iH (show ∀k,k≤most→(AL k).length≤1000 from fun k hk=>by rw [←TK];simp only [List.length_map,List.length_take];omega);have H3:=iH (show ∀k,k≤most→(l.length≤k∨k=most)→AL k=vU l most 3 from fun k hk he=>by
  rw [←TK]
  show (l.take k).map _=_
  rw [vU]
  rcases he with he | he
  ·rw [List.take_of_length_le he,List.take_of_length_le (Nat.le_trans he hk)]
  ·rw [he])
 clear h hr TK
 go_enter Tryz.func24,Tryz.ntmps24
 go_upto_region 3 with (fail)
 go_loopw [7,8] (fun v7 i wr=>∃n:Nat,n≤l.length∧n≤most∧i=iI n∧Hid (GrowAt 70 w wr v7 (AL n))) (fun _ i _=>l.length - (intOf i).toNat)
 case atStart=>exact ⟨0,by omega,by omega,rfl,by rw [H0.out];exact iH (GrowAt.nil _ _)⟩
 case round =>
  obtain ⟨n,hn,hnm,rfl,hG⟩:=hrel
  by_cases hlt:n<l.length
  case neg =>
   have HF:=iH (H3.out n hnm (.inl (by omega)));obtain ⟨ga,gc,hga⟩:=hG.out.own.shape;subst hga;go_wp2;go_ret;exact ⟨_,rfl,by rw [←HF.out];exact hG.out⟩
  by_cases hlm2:n<most
  case neg =>
   have HF:=iH (H3.out n hnm (.inr (by omega)));obtain ⟨ga,gc,hga⟩:=hG.out.own.shape;subst hga;go_wp2;go_ret;exact ⟨_,rfl,by rw [←HF.out];exact hG.out⟩
  obtain ⟨b,off,cap',row,hv,hSb,hrow,hcells⟩:=(HH.out.below qI (by decide) hG.out.below).row n hlt;simp only [Value.slice.injEq] at hv;obtain ⟨rfl,_,rfl⟩:=hv;have GN:=iH (H1.out n hlt);have hL:=H2.out n hnm;have hro:=NH.out l[n] (List.getElem_mem hlt);generalize AL n=L at *;generalize l[n]=x at *;obtain rfl:=hrow;have q0:=hcells 0 _ rfl;have q1:=hcells 1 _ rfl;have q2:=hcells 2 _ rfl;have q3:=hcells 3 _ rfl;simp only [Nat.add_zero] at q0;clear hcells;obtain ⟨⟨LQ,LP⟩,⟨Qf,N7⟩,⟨X4,X3⟩,⟨Ke,ES⟩⟩:=hro;obtain ⟨pa,hpa,hpa0,hpa3⟩:∃p,picked x.a 3=p∧0≤p∧p<3:=⟨_,rfl,dB _ _ (by decide)⟩;obtain ⟨pb,hpb,hpb0,hpb3⟩:∃p,picked x.b 3=p∧0≤p∧p<3:=⟨_,rfl,dB _ _ (by decide)⟩;obtain ⟨pc,hpc,hpc0,hpc3⟩:∃p,picked x.c 3=p∧0≤p∧p<3:=⟨_,rfl,dB _ _ (by decide)⟩;obtain ⟨K,WX,hK1,hK42⟩:∃p,picked x.kind 42=p∧0≤p∧p<42:=⟨_,rfl,dB _ _ (by decide)⟩;have HST:=iH (show Cb x 3=if K<8 then ⟨2,pa,0,0,zK ⟨x.kind.tdiv 42,x.b,x.c,x.c.tdiv 7⟩⟩ else if K<16 then ⟨3,pa,pb,pc,bP⟩ else if K<22 then ⟨4,0,pb,1+picked x.c 6,bP⟩ else if K<29 then ⟨5,0,pb*picked x.c 2,1+picked x.c 6,bP⟩ else if K=29 then ⟨6,pa,pb,pc,bP⟩ else if K=30 then ⟨7,pa,pb,pc,bP⟩ else if K=31 then ⟨8,pa,pb,pc,bP⟩ else if K=32 then ⟨1,pa,pb,pc,bP⟩ else if K=33 then ⟨10,pa,pb,pc,bP⟩ else if K=34 then ⟨11,pa,pb,pc,bP⟩ else ⟨9,pa,pb,pc,bP⟩ by unfold Cb;rw [hpa,hpb,hpc,WX]);have XB:=iH hpa;have PO:=iH hpb;have Uf:=iH hpc;have GL:=iH WX
  clear hpa hpb hpc WX;obtain ⟨ga,gc,hga⟩:=hG.out.own.shape;subst hga;go_upto_region 6 with (fail);generalize bF:wr.alloc (.cells #[iI x.kind, iI x.a, iI x.b, iI x.c] 105)=w2 at *;have hbz:=tQ bF;have HR:=iH (tO bF);have R5:=iH (show ∀q,(Value.slice ga L.length gc).ownBlock=some q→q<wr.heap.size from fun q hq=>hG.out.own.lt q hq);have Y9:=iH hG.out.below.size;have I6:=iH (hG.out.step hbz);clear hbz hG q0 q1 q2 q3;clear bF;obtain ⟨B9,NC⟩:∃B9,wr.heap.size=B9:=⟨_,rfl⟩;rw [NC] at HR R5 Y9⊢;clear NC;refine bH 12 (fun wx=>Below w2.heap.size w2 wx) (fun wx wy=>Below wx.heap.size wx wy) [aW (iP B9 1),aW (iI (x.a)),aW (iI (3)),aW (iI (pa)),aW (iP B9 2),aW (iI (x.b)),aW (iI (pb)),aW (iP B9 3),aW (iI (x.c)),aW (iI (pc)),aW (.agg #[iI 0, iI pa, iI pb, iI pc, iI 0, .string ⟨#[]⟩, .string ⟨#[]⟩, iI 0]),fun v wx=>∃z,v=iP z 0∧w2.heap.size≤z∧aD wx z [iI 0, iI 0, iI 0, iI 0, iI 0, .string ⟨#[]⟩, .string ⟨#[]⟩, iI 0]] (by kernel_rfl) (by kernel_rfl) rfl ?hJ ?jP ?hst ?ek ?hend
  case hJ=>exact Below.drew iB
  case jP =>
   exact fun wx wy h1 h2=>ah h1 h2
  case hst=>exact bX _ ⟨ax _,ax _,ax _,ax _,ax _,ax _,ax _,ax _,ax _,ax _,ax _,(by rintro v wx wy - h2 ⟨z,h3,h4,h5⟩;exact ⟨z,h3,h4,h5.below h2⟩),trivial⟩
  case ek =>
   simp only [dY,aJ,Act.put,Nat.reduceAdd,Nat.zero_add,pS];refine ⟨?_,?_,?_,?_,?_,?_,?_,?_,?_,?_,?_,?_,trivial⟩
   all_goals
    intro vs wx hJ hn K hK;simp [dA,mJ,aW,Region.binds] at hn;simp only [mJ,aW,Act.put,Nat.reduceAdd,Nat.zero_add,pS] at hK
   ·go_wp2
    exact hK _ _ iB rfl
   ·simp only [hn] at hK⊢
    have q1:=(HR.out.below hJ).cell 1 _ rfl;go_wp2;exact hK _ _ iB rfl
   ·go_wp2
    exact hK _ _ iB rfl
   ·simp only [hn] at hK⊢
    go_wp2_with fail
    refine (fM x.a 3 (by omega) (by omega) Qf N7 _).mono ?_;rw [XB.out];rintro e w' ⟨rfl,rfl⟩;go_wp2;exact hK _ _ iB rfl
   ·go_wp2
    exact hK _ _ iB rfl
   ·simp only [hn] at hK⊢
    have q2:=(HR.out.below hJ).cell 2 _ rfl;go_wp2;exact hK _ _ iB rfl
   ·simp only [hn] at hK⊢
    go_wp2_with fail
    refine (fM x.b 3 (by omega) (by omega) X4 X3 _).mono ?_;rw [PO.out];rintro e w' ⟨rfl,rfl⟩;go_wp2;exact hK _ _ iB rfl
   ·go_wp2
    exact hK _ _ iB rfl
   ·simp only [hn] at hK⊢
    have q3:=(HR.out.below hJ).cell 3 _ rfl;go_wp2;exact hK _ _ iB rfl
   ·simp only [hn] at hK⊢
    go_wp2_with fail
    refine (fM x.c 3 (by omega) (by omega) Ke ES _).mono ?_;rw [Uf.out];rintro e w' ⟨rfl,rfl⟩;go_wp2;exact hK _ _ iB rfl
   ·simp only [hn] at hK⊢
    go_wp2;exact hK _ _ iB rfl
   ·go_wp2
    refine hK _ _ (aj wx _) ⟨_,rfl,hJ.size,aD.new⟩
  case hend =>
   intro vs wx hJ hv;simp [eF,aW] at hv;obtain ⟨e0,e1,e2,e3,e4,e5,e6,e7,e8,e9,e10,⟨z,e11,hz2,hz3⟩⟩:=hv;simp only [aJ,Act.put,Nat.reduceAdd,Nat.zero_add,pS];rw [e0,e1,e2,e3,e4,e5,e6,e7,e8,e9,e10,e11];clear e0 e1 e2 e3 e4 e5 e6 e7 e8 e9 e10 e11;have HR3:=iH (HR.out.below hJ);have xZ:=iH (I6.out.step hJ);have hBl:=Nat.lt_of_lt_of_le HR.out.lt hz2;obtain ⟨a0,a1,a2,a3,a4,a5,a6,a7⟩:=wF hz3;obtain ⟨t0,t1,t2,t3,t4,t5,t6,t7⟩:=OM hz3;go_upto_region 7 with (fail);clear a0 t0 a1 t1 a2 t2 a3 t3 a4 t4 a5 t5 a6 t6 a7 t7;have HA:=iH (show aD ((((((((wx.setCell ⟨z,0,none⟩ (iI 0)).setCell ⟨z,1,none⟩ (iI pa)).setCell ⟨z,2,none⟩ (iI pb)).setCell ⟨z,3,none⟩ (iI pc)).setCell ⟨z,4,none⟩ (iI 0)).setCell ⟨z,5,none⟩ (.string ⟨#[]⟩)).setCell ⟨z,6,none⟩ (.string ⟨#[]⟩)).setCell ⟨z,7,none⟩ (iI 0)) z [iI 0, iI pa, iI pb, iI pc, iI 0, .string ⟨#[]⟩, .string ⟨#[]⟩, iI 0] from hz3.storeAll [iI 0, iI pa, iI pb, iI pc, iI 0, .string ⟨#[]⟩, .string ⟨#[]⟩, iI 0] rfl);have IW:=iH (show ∀q,(Value.slice ga L.length gc).ownBlock=some q→q≠z from fun q hq e=>by have:=R5.out q hq;omega);have tC:=iH (show w.heap.size≤z by have:=Y9.out;omega)
   have HG2:=iH (show GrowAt 70 w ((((((((wx.setCell ⟨z,0,none⟩ (iI 0)).setCell ⟨z,1,none⟩ (iI pa)).setCell ⟨z,2,none⟩ (iI pb)).setCell ⟨z,3,none⟩ (iI pc)).setCell ⟨z,4,none⟩ (iI 0)).setCell ⟨z,5,none⟩ (.string ⟨#[]⟩)).setCell ⟨z,6,none⟩ (.string ⟨#[]⟩)).setCell ⟨z,7,none⟩ (iI 0)) _ _ from xZ.out.sets IW.out tC.out 0 [iI 0, iI pa, iI pb, iI pc, iI 0, .string ⟨#[]⟩, .string ⟨#[]⟩, iI 0]);have HR4:=iH (show aD ((((((((wx.setCell ⟨z,0,none⟩ (iI 0)).setCell ⟨z,1,none⟩ (iI pa)).setCell ⟨z,2,none⟩ (iI pb)).setCell ⟨z,3,none⟩ (iI pc)).setCell ⟨z,4,none⟩ (iI 0)).setCell ⟨z,5,none⟩ (.string ⟨#[]⟩)).setCell ⟨z,6,none⟩ (.string ⟨#[]⟩)).setCell ⟨z,7,none⟩ (iI 0)) B9 [iI x.kind, iI x.a, iI x.b, iI x.c] from HR3.out.fK (by omega) [iI 0, iI pa, iI pb, iI pc, iI 0, .string ⟨#[]⟩, .string ⟨#[]⟩, iI 0] 0);clear HR HR3 I6 xZ hz2 hz3 hJ hBl;have HR:=HR4;clear HR4;generalize ((((((((wx.setCell ⟨z,0,none⟩ (iI 0)).setCell ⟨z,1,none⟩ (iI pa)).setCell ⟨z,2,none⟩ (iI pb)).setCell ⟨z,3,none⟩ (iI pc)).setCell ⟨z,4,none⟩ (iI 0)).setCell ⟨z,5,none⟩ (.string ⟨#[]⟩)).setCell ⟨z,6,none⟩ (.string ⟨#[]⟩)).setCell ⟨z,7,none⟩ (iI 0))=w5 at *;obtain ⟨BA,TI⟩:∃BA,z=BA:=⟨_,rfl⟩;rw [TI] at HA IW tC⊢;clear TI
   rename World=>w2
   have q0:=HR.out.cell 0 _ rfl
   go_wp2_with fail
   refine (fM x.kind 42 (by omega) (by omega) LQ LP _).mono ?_;rw [GL.out];rintro e w' ⟨rfl,rfl⟩;clear q0
   by_cases c0:K<8
   case pos =>
    have d0:decide (K<8)=true:=decide_eq_true c0;obtain ⟨y,RN⟩:∃y:kX,(⟨x.kind.tdiv 42,x.b,x.c,x.c.tdiv 7⟩:kX)=y:=⟨_,rfl⟩;have HY0:=iH (show x.kind.tdiv 42=y.kind by rw [←RN]);have HY1:=iH (show x.c.tdiv 7=y.c by rw [←RN]);have Xh:=iH (show uM ⟨y.kind,x.b,x.c,y.c⟩ by rw [←RN];exact ⟨Jf (by decide) ⟨LQ,LP⟩,⟨X4,X3⟩,⟨Ke,ES⟩,Jf (by decide) ⟨Ke,ES⟩⟩);obtain ⟨o,ho⟩:∃o,zK ⟨y.kind,x.b,x.c,y.c⟩=o∧y9 (zK ⟨y.kind,x.b,x.c,y.c⟩)=y9 o:=⟨_,rfl,rfl⟩;have HO:=iH ho.2;have Zj:=iH (show zK ⟨x.kind.tdiv 42,x.b,x.c,x.c.tdiv 7⟩=o by rw [←ho.1,←RN]);have hyk:-9223372036854775808≤y.kind∧y.kind≤9223372036854775807:=Xh.out.1;have SA:-9223372036854775808≤y.c∧y.c≤9223372036854775807:=Xh.out.2.2.2;rw [Zj.out] at HST;clear RN ho Zj;have rJ:=iH (HST.out.trans (if_pos c0));clear HST;go_upto_region 10 with (fail)
    refine bH 15 (fun wx=>Below w2.heap.size w2 wx) (fun wx wy=>Below wx.heap.size wx wy) [aW (iP BA 1),aW (iI (pa)),aW (iP B9 0),aW (iI (x.kind)),aW (iI (y.kind)),aW (iP B9 2),aW (iI (x.b)),aW (iP B9 3),aW (iI (x.c)),aW (iP B9 3),aW (iI (x.c)),aW (iI (y.c)),aW (.agg #[iI y.kind, iI x.b, iI x.c, iI y.c]),aW (.agg #[iI o.kind, iS o.a, iS o.b, iI o.n]),aW (.agg #[iI 2, iI pa, iI 0, iI 0, iI o.kind, iS o.a, iS o.b, iI o.n])] (by kernel_rfl) (by kernel_rfl) rfl ?hJ ?jP ?hst ?ek ?hend
    case hJ=>exact Below.drew iB
    case jP =>
     exact fun wx wy h1 h2=>ah h1 h2
    case hst=>exact bX _ ⟨ax _,ax _,ax _,ax _,ax _,ax _,ax _,ax _,ax _,ax _,ax _,ax _,ax _,ax _,ax _,trivial⟩
    case ek =>
     simp only [dY,aJ,Act.put,Nat.reduceAdd,Nat.zero_add,pS];refine ⟨?_,?_,?_,?_,?_,?_,?_,?_,?_,?_,?_,?_,?_,?_,?_,trivial⟩
     all_goals
      intro vs wx hJ hn K hK;simp [dA,mJ,aW,Region.binds] at hn;simp only [mJ,aW,Act.put,Nat.reduceAdd,Nat.zero_add,pS] at hK
     ·go_wp2
      exact hK _ _ iB rfl
     ·simp only [hn] at hK⊢
      have a1:=(HA.out.below hJ).cell 1 _ rfl;go_wp2;exact hK _ _ iB rfl
     ·go_wp2
      exact hK _ _ iB rfl
     ·simp only [hn] at hK⊢
      have q0:=(HR.out.below hJ).cell 0 _ rfl;go_wp2;exact hK _ _ iB rfl
     ·simp only [hn] at hK⊢
      have hy0:=HY0.out;go_wp2;exact hK _ _ iB rfl
     ·go_wp2
      exact hK _ _ iB rfl
     ·simp only [hn] at hK⊢
      have q2:=(HR.out.below hJ).cell 2 _ rfl;go_wp2;exact hK _ _ iB rfl
     ·go_wp2
      exact hK _ _ iB rfl
     ·simp only [hn] at hK⊢
      have q3:=(HR.out.below hJ).cell 3 _ rfl;go_wp2;exact hK _ _ iB rfl
     ·go_wp2
      exact hK _ _ iB rfl
     ·simp only [hn] at hK⊢
      have q3:=(HR.out.below hJ).cell 3 _ rfl;go_wp2;exact hK _ _ iB rfl
     ·simp only [hn] at hK⊢
      have hy1:=HY1.out;go_wp2;exact hK _ _ iB rfl
     ·simp only [hn] at hK⊢
      go_wp2;exact hK _ _ iB rfl
     ·simp only [hn] at hK⊢
      go_wp2_with fail
      refine (Mc ⟨y.kind,x.b,x.c,y.c⟩ Xh.out _).mono ?_;rw [HO.out];rintro e w' ⟨rfl,hbo⟩;go_wp2;exact hK _ _ hbo rfl
     ·simp only [hn] at hK⊢
      go_wp2;exact hK _ _ iB rfl
    case hend =>
     intro vs wx hJ hv;simp [eF,aW] at hv;obtain ⟨e0,e1,e2,e3,e4,e5,e6,e7,e8,e9,e10,e11,e12,e13,e14⟩:=hv;simp only [aJ,Act.put,Nat.reduceAdd,Nat.zero_add,pS];rw [e0,e1,e2,e3,e4,e5,e6,e7,e8,e9,e10,e11,e12,e13,e14];clear e0 e1 e2 e3 e4 e5 e6 e7 e8 e9 e10 e11 e12 e13 e14;have HA2:=iH (HA.out.below hJ);have xZ:=iH (HG2.out.step hJ);clear hJ HA HG2;obtain ⟨a0,a1,a2,a3,a4,a5,a6,a7⟩:=wF HA2.out;obtain ⟨t0,t1,t2,t3,t4,t5,t6,t7⟩:=OM HA2.out;go_upto_region 29 with (fail);clear a0 t0 a1 t1 a2 t2 a3 t3 a4 t4 a5 t5 a6 t6 a7 t7;have HB:=iH (show aD ((((((((wx.setCell ⟨BA,0,none⟩ (iI 2)).setCell ⟨BA,1,none⟩ (iI pa)).setCell ⟨BA,2,none⟩ (iI 0)).setCell ⟨BA,3,none⟩ (iI 0)).setCell ⟨BA,4,none⟩ (iI o.kind)).setCell ⟨BA,5,none⟩ (iS o.a)).setCell ⟨BA,6,none⟩ (iS o.b)).setCell ⟨BA,7,none⟩ (iI o.n)) BA [iI 2, iI pa, iI 0, iI 0, iI o.kind, iS o.a, iS o.b, iI o.n] from HA2.out.storeAll [iI 2, iI pa, iI 0, iI 0, iI o.kind, iS o.a, iS o.b, iI o.n] rfl)
     have HG:=iH (show GrowAt 70 w ((((((((wx.setCell ⟨BA,0,none⟩ (iI 2)).setCell ⟨BA,1,none⟩ (iI pa)).setCell ⟨BA,2,none⟩ (iI 0)).setCell ⟨BA,3,none⟩ (iI 0)).setCell ⟨BA,4,none⟩ (iI o.kind)).setCell ⟨BA,5,none⟩ (iS o.a)).setCell ⟨BA,6,none⟩ (iS o.b)).setCell ⟨BA,7,none⟩ (iI o.n)) _ _ from xZ.out.sets IW.out tC.out 0 [iI 2, iI pa, iI 0, iI 0, iI o.kind, iS o.a, iS o.b, iI o.n]);clear HA2 xZ;generalize ((((((((wx.setCell ⟨BA,0,none⟩ (iI 2)).setCell ⟨BA,1,none⟩ (iI pa)).setCell ⟨BA,2,none⟩ (iI 0)).setCell ⟨BA,3,none⟩ (iI 0)).setCell ⟨BA,4,none⟩ (iI o.kind)).setCell ⟨BA,5,none⟩ (iS o.a)).setCell ⟨BA,6,none⟩ (iS o.b)).setCell ⟨BA,7,none⟩ (iI o.n))=w5 at *;obtain ⟨b0,b1,b2,b3,b4,b5,b6,b7⟩:=wF HB.out
     go_wp2_with (at_builtin;refine dW Tryz.oU (.tmp 112) (.tmp 114) rfl rfl fo (⟨2,pa,0,0,o⟩:dK) rfl rfl rfl HG.out.own rfl (by omega) ?_;intro v4 w4 kY hg4 hv4;have HN:=iH (HG.out.next kY hg4 hv4);obtain ⟨Lg,Lf,kz⟩:=kY.shape;rw [List.length_append,List.length_singleton] at kz;subst kz;clear kY hg4 hv4)
     go_roundw
     case rel=>exact ⟨n+1,by omega,by omega,by go_num,by rw [GN.out,rJ.out];exact HN⟩
     case measure=>simp [intOf];omega
   have c0:=c0;have d0:decide (K<8)=false:=decide_eq_false c0
   by_cases c1:K<16
   case pos =>
    have d1:decide (K<16)=true:=decide_eq_true c1;have rJ:=iH (HST.out.trans ((if_neg c0).trans (if_pos c1)));clear HST;have a0:=HA.out.cell 0 _ rfl;have t0:=HA.out.thaw 0;go_upto_region 29 with (fail);clear a0 t0;have HB:=iH (HA.out.set 0 (by simp) (iI 3));have HG:=iH (HG2.out.set IW.out tC.out 0 (iI 3));clear HG2 HA;generalize w2.setCell ⟨BA,0,none⟩ (iI 3)=w5 at *;obtain ⟨b0,b1,b2,b3,b4,b5,b6,b7⟩:=wF HB.out
    go_wp2_with (at_builtin;refine dW Tryz.oU (.tmp 112) (.tmp 114) rfl rfl fo (⟨3,pa,pb,pc,bP⟩:dK) rfl rfl rfl HG.out.own rfl (by omega) ?_;intro v4 w4 kY hg4 hv4;have HN:=iH (HG.out.next kY hg4 hv4);obtain ⟨Lg,Lf,kz⟩:=kY.shape;rw [List.length_append,List.length_singleton] at kz;subst kz;clear kY hg4 hv4)
    go_roundw
    case rel=>exact ⟨n+1,by omega,by omega,by go_num,by rw [GN.out,rJ.out];exact HN⟩
    case measure=>simp [intOf];omega
   have c1:=c1;have d1:decide (K<16)=false:=decide_eq_false c1
   by_cases c2:K<22
   case pos =>
    have d2:decide (K<22)=true:=decide_eq_true c2;obtain ⟨pd,Mt,V7,V6⟩:∃p,picked x.c 6=p∧0≤p∧p<6:=⟨_,rfl,dB _ _ (by decide)⟩;have Ue:=iH Mt;rw [Mt] at HST;clear Mt;have rJ:=iH (HST.out.trans ((if_neg c0).trans ((if_neg c1).trans (if_pos c2))));clear HST;go_upto_region 14 with (fail);refine bH 7 (fun wx=>Below w2.heap.size w2 wx) (fun wx wy=>Below wx.heap.size wx wy) [aW (iP BA 2),aW (iI (pb)),aW (iP B9 3),aW (iI (x.c)),aW (iI (pd)),aW (iI (1+pd)),aW (.agg #[iI 4, iI 0, iI pb, iI (1+pd), iI 0, .string ⟨#[]⟩, .string ⟨#[]⟩, iI 0])] (by kernel_rfl) (by kernel_rfl) rfl ?hJ ?jP ?hst ?ek ?hend
    case hJ=>exact Below.drew iB
    case jP =>
     exact fun wx wy h1 h2=>ah h1 h2
    case hst=>exact bX _ ⟨ax _,ax _,ax _,ax _,ax _,ax _,ax _,trivial⟩
    case ek =>
     simp only [dY,aJ,Act.put,Nat.reduceAdd,Nat.zero_add,pS];refine ⟨?_,?_,?_,?_,?_,?_,?_,trivial⟩
     all_goals
      intro vs wx hJ hn K hK;simp [dA,mJ,aW,Region.binds] at hn;simp only [mJ,aW,Act.put,Nat.reduceAdd,Nat.zero_add,pS] at hK
     ·go_wp2
      exact hK _ _ iB rfl
     ·simp only [hn] at hK⊢
      have a2:=(HA.out.below hJ).cell 2 _ rfl;go_wp2;exact hK _ _ iB rfl
     ·go_wp2
      exact hK _ _ iB rfl
     ·simp only [hn] at hK⊢
      have q3:=(HR.out.below hJ).cell 3 _ rfl;go_wp2;exact hK _ _ iB rfl
     ·simp only [hn] at hK⊢
      go_wp2_with fail
      refine (fM x.c 6 (by omega) (by omega) Ke ES _).mono ?_;rw [Ue.out];rintro e w' ⟨rfl,rfl⟩;go_wp2;exact hK _ _ iB rfl
     ·simp only [hn] at hK⊢
      go_wp2;exact hK _ _ iB rfl
     ·simp only [hn] at hK⊢
      go_wp2;exact hK _ _ iB rfl
    case hend =>
     intro vs wx hJ hv;simp [eF,aW] at hv;obtain ⟨e0,e1,e2,e3,e4,e5,e6⟩:=hv;simp only [aJ,Act.put,Nat.reduceAdd,Nat.zero_add,pS];rw [e0,e1,e2,e3,e4,e5,e6];clear e0 e1 e2 e3 e4 e5 e6;have HA2:=iH (HA.out.below hJ);have xZ:=iH (HG2.out.step hJ);clear hJ HA HG2;obtain ⟨a0,a1,a2,a3,a4,a5,a6,a7⟩:=wF HA2.out;obtain ⟨t0,t1,t2,t3,t4,t5,t6,t7⟩:=OM HA2.out;go_upto_region 29 with (fail);clear a0 t0 a1 t1 a2 t2 a3 t3 a4 t4 a5 t5 a6 t6 a7 t7;have HB:=iH (show aD ((((((((wx.setCell ⟨BA,0,none⟩ (iI 4)).setCell ⟨BA,1,none⟩ (iI 0)).setCell ⟨BA,2,none⟩ (iI pb)).setCell ⟨BA,3,none⟩ (iI (1+pd))).setCell ⟨BA,4,none⟩ (iI 0)).setCell ⟨BA,5,none⟩ (.string ⟨#[]⟩)).setCell ⟨BA,6,none⟩ (.string ⟨#[]⟩)).setCell ⟨BA,7,none⟩ (iI 0)) BA [iI 4, iI 0, iI pb, iI (1+pd), iI 0, .string ⟨#[]⟩, .string ⟨#[]⟩, iI 0] from HA2.out.storeAll [iI 4, iI 0, iI pb, iI (1+pd), iI 0, .string ⟨#[]⟩, .string ⟨#[]⟩, iI 0] rfl)
     have HG:=iH (show GrowAt 70 w ((((((((wx.setCell ⟨BA,0,none⟩ (iI 4)).setCell ⟨BA,1,none⟩ (iI 0)).setCell ⟨BA,2,none⟩ (iI pb)).setCell ⟨BA,3,none⟩ (iI (1+pd))).setCell ⟨BA,4,none⟩ (iI 0)).setCell ⟨BA,5,none⟩ (.string ⟨#[]⟩)).setCell ⟨BA,6,none⟩ (.string ⟨#[]⟩)).setCell ⟨BA,7,none⟩ (iI 0)) _ _ from xZ.out.sets IW.out tC.out 0 [iI 4, iI 0, iI pb, iI (1+pd), iI 0, .string ⟨#[]⟩, .string ⟨#[]⟩, iI 0]);clear HA2 xZ;generalize ((((((((wx.setCell ⟨BA,0,none⟩ (iI 4)).setCell ⟨BA,1,none⟩ (iI 0)).setCell ⟨BA,2,none⟩ (iI pb)).setCell ⟨BA,3,none⟩ (iI (1+pd))).setCell ⟨BA,4,none⟩ (iI 0)).setCell ⟨BA,5,none⟩ (.string ⟨#[]⟩)).setCell ⟨BA,6,none⟩ (.string ⟨#[]⟩)).setCell ⟨BA,7,none⟩ (iI 0))=w5 at *;obtain ⟨b0,b1,b2,b3,b4,b5,b6,b7⟩:=wF HB.out
     go_wp2_with (at_builtin;refine dW Tryz.oU (.tmp 112) (.tmp 114) rfl rfl fo (⟨4,0,pb,1+pd,bP⟩:dK) rfl rfl rfl HG.out.own rfl (by omega) ?_;intro v4 w4 kY hg4 hv4;have HN:=iH (HG.out.next kY hg4 hv4);obtain ⟨Lg,Lf,kz⟩:=kY.shape;rw [List.length_append,List.length_singleton] at kz;subst kz;clear kY hg4 hv4)
     go_roundw
     case rel=>exact ⟨n+1,by omega,by omega,by go_num,by rw [GN.out,rJ.out];exact HN⟩
     case measure=>simp [intOf];omega
   have c2:=c2;have d2:decide (K<22)=false:=decide_eq_false c2
   by_cases c3:K<29
   case pos =>
    have d3:decide (K<29)=true:=decide_eq_true c3;obtain ⟨pd,Mt,V7,V6⟩:∃p,picked x.c 6=p∧0≤p∧p<6:=⟨_,rfl,dB _ _ (by decide)⟩;obtain ⟨pe,hpe,hpe0,hpe2⟩:∃p,picked x.c 2=p∧0≤p∧p<2:=⟨_,rfl,dB _ _ (by decide)⟩;have Ue:=iH Mt;have XA:=iH hpe;rw [Mt,hpe] at HST;have hpm:0≤pb*pe∧pb*pe≤2:=by rcases (show pe=0∨pe=1 by omega) with h | h<;>rw [h]<;>omega
    clear Mt hpe;have rJ:=iH (HST.out.trans ((if_neg c0).trans ((if_neg c1).trans ((if_neg c2).trans (if_pos c3)))));clear HST;go_upto_region 16 with (fail);refine bH 11 (fun wx=>Below w2.heap.size w2 wx) (fun wx wy=>Below wx.heap.size wx wy) [aW (iP BA 2),aW (iI (pb)),aW (iP B9 3),aW (iI (x.c)),aW (iI (pe)),aW (iI (pb*pe)),aW (iP B9 3),aW (iI (x.c)),aW (iI (pd)),aW (iI (1+pd)),aW (.agg #[iI 5, iI 0, iI (pb*pe), iI (1+pd), iI 0, .string ⟨#[]⟩, .string ⟨#[]⟩, iI 0])] (by kernel_rfl) (by kernel_rfl) rfl ?hJ ?jP ?hst ?ek ?hend
    case hJ=>exact Below.drew iB
    case jP =>
     exact fun wx wy h1 h2=>ah h1 h2
    case hst=>exact bX _ ⟨ax _,ax _,ax _,ax _,ax _,ax _,ax _,ax _,ax _,ax _,ax _,trivial⟩
    case ek =>
     simp only [dY,aJ,Act.put,Nat.reduceAdd,Nat.zero_add,pS];refine ⟨?_,?_,?_,?_,?_,?_,?_,?_,?_,?_,?_,trivial⟩
     all_goals
      intro vs wx hJ hn K hK;simp [dA,mJ,aW,Region.binds] at hn;simp only [mJ,aW,Act.put,Nat.reduceAdd,Nat.zero_add,pS] at hK
     ·go_wp2
      exact hK _ _ iB rfl
     ·simp only [hn] at hK⊢
      have a2:=(HA.out.below hJ).cell 2 _ rfl;go_wp2;exact hK _ _ iB rfl
     ·go_wp2
      exact hK _ _ iB rfl
     ·simp only [hn] at hK⊢
      have q3:=(HR.out.below hJ).cell 3 _ rfl;go_wp2;exact hK _ _ iB rfl
     ·simp only [hn] at hK⊢
      go_wp2_with fail
      refine (fM x.c 2 (by omega) (by omega) Ke ES _).mono ?_;rw [XA.out];rintro e w' ⟨rfl,rfl⟩;go_wp2;exact hK _ _ iB rfl
     ·simp only [hn] at hK⊢
      go_wp2;exact hK _ _ iB rfl
     ·go_wp2
      exact hK _ _ iB rfl
     ·simp only [hn] at hK⊢
      have q3:=(HR.out.below hJ).cell 3 _ rfl;go_wp2;exact hK _ _ iB rfl
     ·simp only [hn] at hK⊢
      go_wp2_with fail
      refine (fM x.c 6 (by omega) (by omega) Ke ES _).mono ?_;rw [Ue.out];rintro e w' ⟨rfl,rfl⟩;go_wp2;exact hK _ _ iB rfl
     ·simp only [hn] at hK⊢
      go_wp2;exact hK _ _ iB rfl
     ·simp only [hn] at hK⊢
      go_wp2;exact hK _ _ iB rfl
    case hend =>
     intro vs wx hJ hv;simp [eF,aW] at hv;obtain ⟨e0,e1,e2,e3,e4,e5,e6,e7,e8,e9,e10⟩:=hv;simp only [aJ,Act.put,Nat.reduceAdd,Nat.zero_add,pS];rw [e0,e1,e2,e3,e4,e5,e6,e7,e8,e9,e10];clear e0 e1 e2 e3 e4 e5 e6 e7 e8 e9 e10;have HA2:=iH (HA.out.below hJ);have xZ:=iH (HG2.out.step hJ);clear hJ HA HG2;obtain ⟨a0,a1,a2,a3,a4,a5,a6,a7⟩:=wF HA2.out;obtain ⟨t0,t1,t2,t3,t4,t5,t6,t7⟩:=OM HA2.out;go_upto_region 29 with (fail);clear a0 t0 a1 t1 a2 t2 a3 t3 a4 t4 a5 t5 a6 t6 a7 t7;have HB:=iH (show aD ((((((((wx.setCell ⟨BA,0,none⟩ (iI 5)).setCell ⟨BA,1,none⟩ (iI 0)).setCell ⟨BA,2,none⟩ (iI (pb*pe))).setCell ⟨BA,3,none⟩ (iI (1+pd))).setCell ⟨BA,4,none⟩ (iI 0)).setCell ⟨BA,5,none⟩ (.string ⟨#[]⟩)).setCell ⟨BA,6,none⟩ (.string ⟨#[]⟩)).setCell ⟨BA,7,none⟩ (iI 0)) BA [iI 5, iI 0, iI (pb*pe), iI (1+pd), iI 0, .string ⟨#[]⟩, .string ⟨#[]⟩, iI 0] from HA2.out.storeAll [iI 5, iI 0, iI (pb*pe), iI (1+pd), iI 0, .string ⟨#[]⟩, .string ⟨#[]⟩, iI 0] rfl)
     have HG:=iH (show GrowAt 70 w ((((((((wx.setCell ⟨BA,0,none⟩ (iI 5)).setCell ⟨BA,1,none⟩ (iI 0)).setCell ⟨BA,2,none⟩ (iI (pb*pe))).setCell ⟨BA,3,none⟩ (iI (1+pd))).setCell ⟨BA,4,none⟩ (iI 0)).setCell ⟨BA,5,none⟩ (.string ⟨#[]⟩)).setCell ⟨BA,6,none⟩ (.string ⟨#[]⟩)).setCell ⟨BA,7,none⟩ (iI 0)) _ _ from xZ.out.sets IW.out tC.out 0 [iI 5, iI 0, iI (pb*pe), iI (1+pd), iI 0, .string ⟨#[]⟩, .string ⟨#[]⟩, iI 0]);clear HA2 xZ;generalize ((((((((wx.setCell ⟨BA,0,none⟩ (iI 5)).setCell ⟨BA,1,none⟩ (iI 0)).setCell ⟨BA,2,none⟩ (iI (pb*pe))).setCell ⟨BA,3,none⟩ (iI (1+pd))).setCell ⟨BA,4,none⟩ (iI 0)).setCell ⟨BA,5,none⟩ (.string ⟨#[]⟩)).setCell ⟨BA,6,none⟩ (.string ⟨#[]⟩)).setCell ⟨BA,7,none⟩ (iI 0))=w5 at *;obtain ⟨b0,b1,b2,b3,b4,b5,b6,b7⟩:=wF HB.out
     go_wp2_with (at_builtin;refine dW Tryz.oU (.tmp 112) (.tmp 114) rfl rfl fo (⟨5,0,pb*pe,1+pd,bP⟩:dK) rfl rfl rfl HG.out.own rfl (by omega) ?_;intro v4 w4 kY hg4 hv4;have HN:=iH (HG.out.next kY hg4 hv4);obtain ⟨Lg,Lf,kz⟩:=kY.shape;rw [List.length_append,List.length_singleton] at kz;subst kz;clear kY hg4 hv4)
     go_roundw
     case rel=>exact ⟨n+1,by omega,by omega,by go_num,by rw [GN.out,rJ.out];exact HN⟩
     case measure=>simp [intOf];omega
   have c3:=c3;have d3:decide (K<29)=false:=decide_eq_false c3
   by_cases c4:K=29
   case pos =>
    have d4:(K == 29)=true:=by simpa using c4
    have rJ:=iH (HST.out.trans ((if_neg c0).trans ((if_neg c1).trans ((if_neg c2).trans ((if_neg c3).trans (if_pos c4))))));clear HST;have a0:=HA.out.cell 0 _ rfl;have t0:=HA.out.thaw 0;go_upto_region 29 with (fail);clear a0 t0;have HB:=iH (HA.out.set 0 (by simp) (iI 6));have HG:=iH (HG2.out.set IW.out tC.out 0 (iI 6));clear HG2 HA;generalize w2.setCell ⟨BA,0,none⟩ (iI 6)=w5 at *;obtain ⟨b0,b1,b2,b3,b4,b5,b6,b7⟩:=wF HB.out
    go_wp2_with (at_builtin;refine dW Tryz.oU (.tmp 112) (.tmp 114) rfl rfl fo (⟨6,pa,pb,pc,bP⟩:dK) rfl rfl rfl HG.out.own rfl (by omega) ?_;intro v4 w4 kY hg4 hv4;have HN:=iH (HG.out.next kY hg4 hv4);obtain ⟨Lg,Lf,kz⟩:=kY.shape;rw [List.length_append,List.length_singleton] at kz;subst kz;clear kY hg4 hv4)
    go_roundw
    case rel=>exact ⟨n+1,by omega,by omega,by go_num,by rw [GN.out,rJ.out];exact HN⟩
    case measure=>simp [intOf];omega
   have c4:=c4;have d4:(K == 29)=false:=by simpa using c4
   by_cases c5:K=30
   case pos =>
    have d5:(K == 30)=true:=by simpa using c5
    have rJ:=iH (HST.out.trans ((if_neg c0).trans ((if_neg c1).trans ((if_neg c2).trans ((if_neg c3).trans ((if_neg c4).trans (if_pos c5)))))));clear HST;have a0:=HA.out.cell 0 _ rfl;have t0:=HA.out.thaw 0;go_upto_region 29 with (fail);clear a0 t0;have HB:=iH (HA.out.set 0 (by simp) (iI 7));have HG:=iH (HG2.out.set IW.out tC.out 0 (iI 7));clear HG2 HA;generalize w2.setCell ⟨BA,0,none⟩ (iI 7)=w5 at *;obtain ⟨b0,b1,b2,b3,b4,b5,b6,b7⟩:=wF HB.out
    go_wp2_with (at_builtin;refine dW Tryz.oU (.tmp 112) (.tmp 114) rfl rfl fo (⟨7,pa,pb,pc,bP⟩:dK) rfl rfl rfl HG.out.own rfl (by omega) ?_;intro v4 w4 kY hg4 hv4;have HN:=iH (HG.out.next kY hg4 hv4);obtain ⟨Lg,Lf,kz⟩:=kY.shape;rw [List.length_append,List.length_singleton] at kz;subst kz;clear kY hg4 hv4)
    go_roundw
    case rel=>exact ⟨n+1,by omega,by omega,by go_num,by rw [GN.out,rJ.out];exact HN⟩
    case measure=>simp [intOf];omega
   have c5:=c5;have d5:(K == 30)=false:=by simpa using c5
   by_cases c6:K=31
   case pos =>
    have d6:(K == 31)=true:=by simpa using c6
    have rJ:=iH (HST.out.trans ((if_neg c0).trans ((if_neg c1).trans ((if_neg c2).trans ((if_neg c3).trans ((if_neg c4).trans ((if_neg c5).trans (if_pos c6))))))));clear HST;have a0:=HA.out.cell 0 _ rfl;have t0:=HA.out.thaw 0;go_upto_region 29 with (fail);clear a0 t0;have HB:=iH (HA.out.set 0 (by simp) (iI 8));have HG:=iH (HG2.out.set IW.out tC.out 0 (iI 8));clear HG2 HA;generalize w2.setCell ⟨BA,0,none⟩ (iI 8)=w5 at *;obtain ⟨b0,b1,b2,b3,b4,b5,b6,b7⟩:=wF HB.out
    go_wp2_with (at_builtin;refine dW Tryz.oU (.tmp 112) (.tmp 114) rfl rfl fo (⟨8,pa,pb,pc,bP⟩:dK) rfl rfl rfl HG.out.own rfl (by omega) ?_;intro v4 w4 kY hg4 hv4;have HN:=iH (HG.out.next kY hg4 hv4);obtain ⟨Lg,Lf,kz⟩:=kY.shape;rw [List.length_append,List.length_singleton] at kz;subst kz;clear kY hg4 hv4)
    go_roundw
    case rel=>exact ⟨n+1,by omega,by omega,by go_num,by rw [GN.out,rJ.out];exact HN⟩
    case measure=>simp [intOf];omega
   have c6:=c6;have d6:(K == 31)=false:=by simpa using c6
   by_cases c7:K=32
   case pos =>
    have d7:(K == 32)=true:=by simpa using c7
    have rJ:=iH (HST.out.trans ((if_neg c0).trans ((if_neg c1).trans ((if_neg c2).trans ((if_neg c3).trans ((if_neg c4).trans ((if_neg c5).trans ((if_neg c6).trans (if_pos c7)))))))));clear HST;have a0:=HA.out.cell 0 _ rfl;have t0:=HA.out.thaw 0;go_upto_region 29 with (fail);clear a0 t0;have HB:=iH (HA.out.set 0 (by simp) (iI 1));have HG:=iH (HG2.out.set IW.out tC.out 0 (iI 1));clear HG2 HA;generalize w2.setCell ⟨BA,0,none⟩ (iI 1)=w5 at *;obtain ⟨b0,b1,b2,b3,b4,b5,b6,b7⟩:=wF HB.out
    go_wp2_with (at_builtin;refine dW Tryz.oU (.tmp 112) (.tmp 114) rfl rfl fo (⟨1,pa,pb,pc,bP⟩:dK) rfl rfl rfl HG.out.own rfl (by omega) ?_;intro v4 w4 kY hg4 hv4;have HN:=iH (HG.out.next kY hg4 hv4);obtain ⟨Lg,Lf,kz⟩:=kY.shape;rw [List.length_append,List.length_singleton] at kz;subst kz;clear kY hg4 hv4)
    go_roundw
    case rel=>exact ⟨n+1,by omega,by omega,by go_num,by rw [GN.out,rJ.out];exact HN⟩
    case measure=>simp [intOf];omega
   have c7:=c7;have d7:(K == 32)=false:=by simpa using c7
   by_cases c8:K=33
   case pos =>
    have d8:(K == 33)=true:=by simpa using c8
    have rJ:=iH (HST.out.trans ((if_neg c0).trans ((if_neg c1).trans ((if_neg c2).trans ((if_neg c3).trans ((if_neg c4).trans ((if_neg c5).trans ((if_neg c6).trans ((if_neg c7).trans (if_pos c8))))))))));clear HST;have a0:=HA.out.cell 0 _ rfl;have t0:=HA.out.thaw 0;go_upto_region 29 with (fail);clear a0 t0;have HB:=iH (HA.out.set 0 (by simp) (iI 10));have HG:=iH (HG2.out.set IW.out tC.out 0 (iI 10));clear HG2 HA;generalize w2.setCell ⟨BA,0,none⟩ (iI 10)=w5 at *;obtain ⟨b0,b1,b2,b3,b4,b5,b6,b7⟩:=wF HB.out
    go_wp2_with (at_builtin;refine dW Tryz.oU (.tmp 112) (.tmp 114) rfl rfl fo (⟨10,pa,pb,pc,bP⟩:dK) rfl rfl rfl HG.out.own rfl (by omega) ?_;intro v4 w4 kY hg4 hv4;have HN:=iH (HG.out.next kY hg4 hv4);obtain ⟨Lg,Lf,kz⟩:=kY.shape;rw [List.length_append,List.length_singleton] at kz;subst kz;clear kY hg4 hv4)
    go_roundw
    case rel=>exact ⟨n+1,by omega,by omega,by go_num,by rw [GN.out,rJ.out];exact HN⟩
    case measure=>simp [intOf];omega
   have c8:=c8;have d8:(K == 33)=false:=by simpa using c8
   by_cases c9:K=34
   case pos =>
    have d9:(K == 34)=true:=by simpa using c9
    have rJ:=iH (HST.out.trans ((if_neg c0).trans ((if_neg c1).trans ((if_neg c2).trans ((if_neg c3).trans ((if_neg c4).trans ((if_neg c5).trans ((if_neg c6).trans ((if_neg c7).trans ((if_neg c8).trans (if_pos c9)))))))))));clear HST;have a0:=HA.out.cell 0 _ rfl;have t0:=HA.out.thaw 0;go_upto_region 29 with (fail);clear a0 t0;have HB:=iH (HA.out.set 0 (by simp) (iI 11));have HG:=iH (HG2.out.set IW.out tC.out 0 (iI 11));clear HG2 HA;generalize w2.setCell ⟨BA,0,none⟩ (iI 11)=w5 at *;obtain ⟨b0,b1,b2,b3,b4,b5,b6,b7⟩:=wF HB.out
    go_wp2_with (at_builtin;refine dW Tryz.oU (.tmp 112) (.tmp 114) rfl rfl fo (⟨11,pa,pb,pc,bP⟩:dK) rfl rfl rfl HG.out.own rfl (by omega) ?_;intro v4 w4 kY hg4 hv4;have HN:=iH (HG.out.next kY hg4 hv4);obtain ⟨Lg,Lf,kz⟩:=kY.shape;rw [List.length_append,List.length_singleton] at kz;subst kz;clear kY hg4 hv4)
    go_roundw
    case rel=>exact ⟨n+1,by omega,by omega,by go_num,by rw [GN.out,rJ.out];exact HN⟩
    case measure=>simp [intOf];omega
   have c9:=c9;have d9:(K == 34)=false:=by simpa using c9
   have rJ:=iH (HST.out.trans ((if_neg c0).trans ((if_neg c1).trans ((if_neg c2).trans ((if_neg c3).trans ((if_neg c4).trans ((if_neg c5).trans ((if_neg c6).trans ((if_neg c7).trans ((if_neg c8).trans ((if_neg c9))))))))))));clear HST;have a0:=HA.out.cell 0 _ rfl;have t0:=HA.out.thaw 0;go_upto_region 29 with (fail);clear a0 t0;have HB:=iH (HA.out.set 0 (by simp) (iI 9));have HG:=iH (HG2.out.set IW.out tC.out 0 (iI 9));clear HG2 HA;generalize w2.setCell ⟨BA,0,none⟩ (iI 9)=w5 at *;obtain ⟨b0,b1,b2,b3,b4,b5,b6,b7⟩:=wF HB.out
   go_wp2_with (at_builtin;refine dW Tryz.oU (.tmp 112) (.tmp 114) rfl rfl fo (⟨9,pa,pb,pc,bP⟩:dK) rfl rfl rfl HG.out.own rfl (by omega) ?_;intro v4 w4 kY hg4 hv4;have HN:=iH (HG.out.next kY hg4 hv4);obtain ⟨Lg,Lf,kz⟩:=kY.shape;rw [List.length_append,List.length_singleton] at kz;subst kz;clear kY hg4 hv4)
   go_roundw
   case rel=>exact ⟨n+1,by omega,by omega,by go_num,by rw [GN.out,rJ.out];exact HN⟩
   case measure=>simp [intOf];omega
end Go.Proofs.YtbngpjdflblffaaGreatDoor
