/- A part of the proof, laid together from: OpC. -/
import Derived.Test.YtbngpjdflblffaaGreatDoorPa13
import Derived.Deep.DrawnRows
set_option linter.all false
set_option maxRecDepth 100000
set_option maxHeartbeats 3200000
namespace Go.Tk
open Go Go.RowKit
def xx (o:zC):List Value:=[iI o.kind, iS o.a, iS o.b, iI o.n]
def pg (w:World) (b:Nat) (o:zC):Prop:=(∀(j:Nat) (u:Value),(xx o)[j]?=some u→w.cell? ⟨b,j,none⟩=some u)∧∀j,w.frozen? ⟨b,j,none⟩=false
theorem pg.keep {w w':World} {b:Nat} {c:zC} (h:pg w b c) (hb:w'.heap[b]?=w.heap[b]?):pg w' b c :=
 ⟨fun j u hu=>aB (h.1 j u hu) hb,fun j=>(World.frozen?_of_block (a:=⟨b,j,none⟩) hb).trans (h.2 j)⟩
theorem pg.set {w:World} {b:Nat} {o o':zC} (h:pg w b o) (i:Nat) (hi:i<4) (u:Value) (hc:xx o'=(xx o).set i u):pg (w.setCell ⟨b,i,none⟩ u) b o':=by
 refine ⟨fun j v hv=>?_,fun j=>(World.frozen?_setCell _ _ _ _).trans (h.2 j)⟩;rw [hc] at hv
 by_cases hij:i=j
 ·subst hij
  rw [List.getElem?_set_self (by exact hi)] at hv;cases hv;exact World.cell?_setCell_same w ⟨b,i,none⟩ u (h.1 i _ (List.getElem?_eq_getElem (by exact hi)))
 ·rw [List.getElem?_set_ne hij] at hv
  exact (bK hij).trans (h.1 j v hv)
theorem pg.lt {w:World} {b:Nat} {c:zC} (h:pg w b c):b<w.heap.size:=World.block_lt_of_cell? w _ (h.1 0 _ rfl)
theorem pg.new {w:World} {o:zC} {E:Nat}:pg (w.alloc (.cells (xx o).toArray E)) w.heap.size o :=
 ⟨fun j u hu=>(World.cell?_alloc_at _ _ _ _ rfl).trans (by simpa using hu),fun j=>World.frozen?_alloc_at _ _ _ _ rfl⟩
theorem Ig (p:Int) (h0:0≤p) (h1:p<9):∀h,([iI 1, iI 2, iI 2, iI 3, iI 3, iI 4, iI 5, iI 5, iI 6])[p.toNat]'h=iI (kinds.getD p.toNat 0):=by
 intro h
 rcases (show p=0∨p=1∨p=2∨p=3∨p=4∨p=5∨p=6∨p=7∨p=8 by omega) with rfl | rfl | rfl | rfl | rfl | rfl | rfl | rfl | rfl<;>rfl
end Go.Tk
namespace Go.Proofs.YtbngpjdflblffaaGreatDoor
open Go.RowKit Go.Tk
attribute [local go_sem ↓] Go.wp_at_zero Go.wp_at_succ
theorem Mc (r:kX) (hr:uM r) (w:World) :
 Calls Tryz.prog 42 #[.agg #[iI r.kind, iI r.a, iI r.b, iI r.c]] w fun e w'=>e=.returned (y9 (zK r))∧Below w.heap.size w w':=by
 obtain ⟨⟨k1,k2⟩,⟨a1,a2⟩,⟨b1,b2⟩,⟨c1,c2⟩⟩:=hr;obtain ⟨p,hp,hp0,hp1⟩:∃p,picked r.kind 9=p∧0≤p∧p<9:=⟨_,rfl,dB _ _ (by decide)⟩;have HP:=iH hp;have HK:=iH (show kindOf r=kinds.getD p.toNat 0 by rw [kindOf,hp]);have Zr:=iH (Dr r);have hpk:=Ig p hp0 hp1;rw [←HK.out] at hpk;have HO:=iH (show zK r=if kindOf r=5 then ⟨5,jM r.a,ow r.b,1+picked r.c 4⟩ else ⟨kindOf r,jM r.a,[],0⟩ from rfl);clear hp HK;generalize kindOf r=kd at *;generalize zK r=oo at *
 go_enter Tryz.func42,Tryz.ntmps42
 go_upto_region 1 with (fail)
 go_cut [3] (fun v wc=>∃B3:Nat,v=iP B3 0∧Hid (pg wc B3 ⟨kd,jM r.a,[],0⟩)∧Hid (Below (w.heap.size+2) ((w.alloc (.cells #[iI r.kind, iI r.a, iI r.b, iI r.c] 105)).alloc (.cells #[iI 0, .string ⟨#[]⟩, .string ⟨#[]⟩, iI 0] 68)) wc)∧w.heap.size+2≤B3)
 case first =>
  have hpc:∀wx:World,Calls Tryz.prog 15 #[iI r.kind, iI 9] wx fun e w'=>e=.returned (iI p)∧wx=w':=fun wx=>by
   have:=fM r.kind 9 (by omega) (by omega) k1 k2 wx
   rwa [HP.out] at this
  have Uf:=iH hpc;clear hpc;refine bH 11 (fun wx=>Below (w.heap.size+2) ((w.alloc (.cells #[iI r.kind, iI r.a, iI r.b, iI r.c] 105)).alloc (.cells #[iI 0, .string ⟨#[]⟩, .string ⟨#[]⟩, iI 0] 68)) wx) (fun wx wy=>Below wx.heap.size wx wy)
   [fun v wx=>∃b,v=.slice (some ⟨b,0,none⟩) 9 9∧wx.cell? ⟨b,p.toNat,none⟩=some (iI kd),aW (iP (w.heap.size) 0),aW (iI r.kind),aW (iI p),fun v wx=>∃b,v=.pointer (some ⟨b,p.toNat,none⟩)∧wx.cell? ⟨b,p.toNat,none⟩=some (iI kd),
    aW (iI kd),aW (iP (w.heap.size) 1),aW (iI r.a),aW (.string ⟨(jM r.a).toArray⟩),aW (.agg #[iI kd, .string ⟨(jM r.a).toArray⟩, .string ⟨#[]⟩, iI 0]),fun v wx=>∃b,v=iP b 0∧pg wx b ⟨0,[],[],0⟩∧w.heap.size+2≤b] (by kernel_rfl) (by kernel_rfl) rfl ?hJ ?jP ?hst ?ek ?hend
  case hJ=>exact Below.drew iB
  case jP=>exact fun wx wy h1 h2=>h1.trans (h2.mono (by have:=h1.size;rw [fq] at this;omega))
  case hst =>
   refine bX _ ⟨?_,ax _,ax _,ax _,?_,ax _,ax _,ax _,ax _,ax _,?_,trivial⟩
   ·rintro v wx wy - h2 ⟨b,e,h3⟩
    exact ⟨b,e,aB h3 (h2.block _ (World.block_lt_of_cell? wx _ h3))⟩
   ·rintro v wx wy - h2 ⟨b,e,h3⟩
    exact ⟨b,e,aB h3 (h2.block _ (World.block_lt_of_cell? wx _ h3))⟩
   ·rintro v wx wy - h2 ⟨b,e,h3,h4⟩
    exact ⟨b,e,h3.keep (h2.block _ h3.lt),h4⟩
  case ek =>
   simp only [dY,aJ,Act.put,Nat.reduceAdd,Nat.zero_add,pS];refine ⟨?_,?_,?_,?_,?_,?_,?_,?_,?_,?_,?_,trivial⟩
   all_goals
    intro vs wx hJ hn K hK;simp [dA,mJ,aW,Region.binds] at hn;simp only [mJ,aW,Act.put,Nat.reduceAdd,Nat.zero_add,pS] at hK
   ·go_wp2
    refine hK _ _ (aj wx _) ⟨_,rfl,(World.cell?_alloc_at _ _ _ _ rfl).trans ?_⟩;have:=hpk (by simp;omega);rw [←this];simp
   ·go_wp2
    exact hK _ _ iB rfl
   ·simp only [hn] at hK⊢
    obtain ⟨hz,-,-,-,-⟩:=ic hJ;have z0:=hz 0;clear hz;go_wp2;exact hK _ _ iB rfl
   ·simp only [hn] at hK⊢
    go_wp2_with fail
    refine (Uf.out _).mono ?_;rintro e w' ⟨rfl,rfl⟩;go_wp2;exact hK _ _ iB rfl
   ·obtain ⟨⟨b,e0,hc⟩,e3⟩:=hn
    simp only [e0,e3] at hK⊢;go_wp2;exact hK _ _ iB ⟨b,rfl,hc⟩
   ·obtain ⟨b,e4,hc⟩:=hn
    simp only [e4] at hK⊢;go_wp2;exact hK _ _ iB rfl
   ·go_wp2
    exact hK _ _ iB rfl
   ·simp only [hn] at hK⊢
    obtain ⟨hz,-,-,-,-⟩:=ic hJ;have z1:=hz 1;clear hz;go_wp2;exact hK _ _ iB rfl
   ·simp only [hn] at hK⊢
    go_wp2_with fail
    refine (FZ r.a a1 a2 _).mono ?_;rintro e w2 ⟨rfl,hb2⟩;go_wp2;exact hK _ _ hb2 rfl
   ·simp only [hn] at hK⊢
    go_wp2;exact hK _ _ iB rfl
   ·go_wp2
    refine hK _ _ (aj wx _) ⟨_,rfl,pg.new,by have:=hJ.size;rw [fq] at this;exact this⟩
  case hend =>
   intro vs wx hJ hv;simp [eF,aW] at hv;obtain ⟨⟨b0,e0,h0⟩,e1,e2,e3,⟨b4,e4,h4⟩,e5,e6,e7,e8,e9,⟨b,e10,h10,h11⟩⟩:=hv;simp only [aJ,Act.put,Nat.reduceAdd,Nat.zero_add,pS];rw [e0,e1,e2,e3,e4,e5,e6,e7,e8,e9,e10];clear e0 e1 e2 e3 e4 e5 e6 e7 e8 e9 e10 h0 h4;obtain ⟨hoc,hof⟩:=h10;have y0:wx.cell? ⟨b,0,none⟩=some (iI 0):=hoc 0 _ rfl;have y1:wx.cell? ⟨b,1,none⟩=some (.string ⟨#[]⟩):=hoc 1 _ rfl;have y2:wx.cell? ⟨b,2,none⟩=some (.string ⟨#[]⟩):=hoc 2 _ rfl;have y3:wx.cell? ⟨b,3,none⟩=some (iI 0):=hoc 3 _ rfl;have f0:=hof 0;have f1:=hof 1;have f2:=hof 2;have f3:=hof 3;have HJ:=iH hJ;have HF:=iH hof;clear hoc hof hJ;go_wp2
   go_meet
   case rel =>
    refine ⟨b,rfl,⟨fun j u hu=>?_,fun j=>by simp [go_sem,HF.out]⟩,?_,h11⟩
    ·match j,hu with
     | 0,hu=>cases hu;simp [go_sem,y0,y1,y2,y3]
     | 1,hu=>cases hu;simp [go_sem,y0,y1,y2,y3]
     | 2,hu=>cases hu;simp [go_sem,y0,y1,y2,y3]
     | 3,hu=>cases hu;simp [go_sem,y0,y1,y2,y3]
     | j+4,hu=>simp [xx] at hu
    ·exact ay (ay (ay (ay HJ.out h11 _ _) h11 _ _) h11 _ _) h11 _ _
 case rest =>
  obtain ⟨B3,rfl,ho,hb,hB3⟩:=hcut;obtain ⟨q,hq,hq0,hq1⟩:∃q:Nat,picked r.b 90=q∧0≤q∧q<90:=⟨(picked r.b 90).toNat,by have:=dB r.b 90 (by decide);omega,by omega,by have:=dB r.b 90 (by decide);omega⟩;have HVT:=iH (show ow r.b=118::Lib.decDigits q by rw [ow,hq];rfl);have hdl:(Lib.decDigits q).length≤2:=vR q (by omega);obtain ⟨m,hm,hm0,hm1⟩:∃m,picked r.c 4=m∧0≤m∧m<4:=⟨_,rfl,dB _ _ (by decide)⟩;have HQ:=iH hq;have HM:=iH hm;clear hq hm;have hk0:=ho.out.1 0 _ rfl;have hBl:=ho.out.lt;have DV:Hid (Below w.heap.size w wc):=(below_alloc2 w _ _).trans (hb.out.mono (by omega));have hws:w.heap.size+2≤wc.heap.size:=by have:=hb.out.size;rw [fq] at this;exact this
  by_cases hk5:kd=5
  case neg =>
   have HF:=iH (HO.out.trans (if_neg hk5));have hk5b:(kd == 5)=false:=by simpa using hk5
   clear hk5;obtain ⟨hz,jm,hy,qL,hzs⟩:=ic hb.out;have y0:=hy 0;have y1:=hy 1;have y2:=hy 2;have y3:=hy 3;have f0:=qL 0;have f1:=qL 1;have f2:=qL 2;have f3:=qL 3;have x0:wc.cell? ⟨B3,0,none⟩=some (iI kd):=ho.out.1 0 _ rfl;have x1:wc.cell? ⟨B3,1,none⟩=some (.string ⟨(jM r.a).toArray⟩):=ho.out.1 1 _ rfl;have x2:wc.cell? ⟨B3,2,none⟩=some (.string ⟨#[]⟩):=ho.out.1 2 _ rfl;have x3:wc.cell? ⟨B3,3,none⟩=some (iI 0):=ho.out.1 3 _ rfl;clear hz jm hy qL hk0;go_wp2;refine bodyPost_ret (v:=y9 ⟨kd,jM r.a,[],0⟩) (by simp [results,Tryz.results42,go_sem,y9,y0,y1,y2,y3]) rfl ⟨by rw [HF.out],?_⟩
   repeat (first | with_reducible exact DV.out | with_reducible refine ay ?_ (by omega) _ _)
  case pos =>
   subst hk5;have HF:=iH (HO.out.trans (if_pos rfl));clear HO;go_upto_region 3 with (fail)
   go_cut [] (fun wd=>Hid (pg wd B3 ⟨5,jM r.a,ow r.b,1+m⟩)∧Hid (Below (w.heap.size+2) ((w.alloc (.cells #[iI r.kind, iI r.a, iI r.b, iI r.c] 105)).alloc (.cells #[iI 0, .string ⟨#[]⟩, .string ⟨#[]⟩, iI 0] 68)) wd))
   case first =>
    have PO:Hid (∀wx:World,Calls Tryz.prog 15 #[iI r.b, iI 90] wx fun e w'=>e=.returned (iI q)∧wx=w'):=fun wx=>by
     have:=fM r.b 90 (by omega) (by omega) b1 b2 wx
     rwa [HQ.out] at this
    have HPM:Hid (∀wx:World,Calls Tryz.prog 15 #[iI r.c, iI 4] wx fun e w'=>e=.returned (iI m)∧wx=w'):=fun wx=>by
     have:=fM r.c 4 (by omega) (by omega) c1 c2 wx
     rwa [HM.out] at this
    refine bH 11 (fun wx=>(pg wx B3 ⟨5,jM r.a,[],0⟩∨pg wx B3 ⟨5,jM r.a,ow r.b,0⟩)∧Below (w.heap.size+2) ((w.alloc (.cells #[iI r.kind, iI r.a, iI r.b, iI r.c] 105)).alloc (.cells #[iI 0, .string ⟨#[]⟩, .string ⟨#[]⟩, iI 0] 68)) wx)
     (fun wx wy=>Below (w.heap.size+2) wx wy∧(pg wx B3 ⟨5,jM r.a,ow r.b,0⟩→pg wy B3 ⟨5,jM r.a,ow r.b,0⟩)∧(pg wx B3 ⟨5,jM r.a,[],0⟩→pg wy B3 ⟨5,jM r.a,[],0⟩∨pg wy B3 ⟨5,jM r.a,ow r.b,0⟩))
     [aW (iP (w.heap.size) 2),aW (iI r.b),aW (iI q),aW (.string ⟨(Lib.decDigits q).toArray⟩),aW (.string ⟨(118::Lib.decDigits q).toArray⟩),aW (iP (w.heap.size) 3),aW (iI r.c),aW (iI m),aW (iI (1+m)),
      aW (iP B3 2),fun _ wx=>pg wx B3 ⟨5,jM r.a,ow r.b,0⟩] (by kernel_rfl) (by kernel_rfl) rfl ?hJ ?jP ?hst ?ek ?hend
    case hJ=>exact ⟨.inl (ho.out.keep rfl),Below.drew hb.out⟩
    case jP =>
     rintro wx wy ⟨h1,h2⟩ ⟨h3,h4,h5⟩;refine ⟨?_,h2.trans h3⟩
     rcases h1 with h1 | h1
     ·exact h5 h1
     ·exact .inr (h4 h1)
    case hst =>
     refine bX _ ⟨ax _,ax _,ax _,ax _,ax _,ax _,ax _,ax _,ax _,ax _,?_,trivial⟩;rintro v wx wy - h2 h3;exact h2.2.1 h3
    case ek =>
     simp only [dY,aJ,Act.put,Nat.reduceAdd,Nat.zero_add,pS];refine ⟨?_,?_,?_,?_,?_,?_,?_,?_,?_,?_,?_,trivial⟩
     all_goals
      intro vs wx hJ hn K hK;simp [dA,mJ,aW,Region.binds] at hn;simp only [mJ,aW,Act.put,Nat.reduceAdd,Nat.zero_add,pS] at hK
     ·go_wp2
      exact hK _ _ ⟨iB,id, .inl⟩ rfl
     ·simp only [hn] at hK⊢
      obtain ⟨hz,-,-,-,-⟩:=ic hJ.2;have z2:=hz 2;clear hz;go_wp2;exact hK _ _ ⟨iB,id, .inl⟩ rfl
     ·simp only [hn] at hK⊢
      go_wp2_with fail
      refine (PO.out _).mono ?_;rintro e w' ⟨rfl,rfl⟩;go_wp2;exact hK _ _ ⟨iB,id, .inl⟩ rfl
     ·simp only [hn] at hK⊢
      go_wp2_with fail
      refine (Ij q (by omega) _).mono ?_;rintro e w' ⟨rfl,rfl⟩;go_wp2;exact hK _ _ ⟨iB,id, .inl⟩ rfl
     ·simp only [hn] at hK⊢
      go_wp2;exact hK _ _ ⟨iB,id, .inl⟩ rfl
     ·go_wp2
      exact hK _ _ ⟨iB,id, .inl⟩ rfl
     ·simp only [hn] at hK⊢
      obtain ⟨hz,-,-,-,-⟩:=ic hJ.2;have z3:=hz 3;clear hz;go_wp2;exact hK _ _ ⟨iB,id, .inl⟩ rfl
     ·simp only [hn] at hK⊢
      go_wp2_with fail
      refine (HPM.out _).mono ?_;rintro e w' ⟨rfl,rfl⟩;go_wp2;exact hK _ _ ⟨iB,id, .inl⟩ rfl
     ·simp only [hn] at hK⊢
      go_wp2;exact hK _ _ ⟨iB,id, .inl⟩ rfl
     ·simp only [hn] at hK⊢
      go_wp2;exact hK _ _ ⟨iB,id, .inl⟩ rfl
     ·simp only [hn] at hK⊢
      obtain ⟨old,hold⟩:∃u,wx.cell? ⟨B3,2,none⟩=some u:=by
       rcases hJ.1 with h | h
       ·exact ⟨_,h.1 2 _ rfl⟩
       ·exact ⟨_,h.1 2 _ rfl⟩
      have hfr:wx.frozen? ⟨B3,2,none⟩=false:=by
       rcases hJ.1 with h | h
       ·exact h.2 2
       ·exact h.2 2
      have HS:Hid (∀o,pg wx B3 ⟨5,jM r.a,o,0⟩→pg (wx.setCell ⟨B3,2,none⟩ (.string ⟨(118::Lib.decDigits q).toArray⟩)) B3 ⟨5,jM r.a,ow r.b,0⟩):=fun o h=>by
       rw [HVT.out];exact h.set 2 (by decide) _ rfl
      have HJ:=iH hJ;clear hJ;go_wp2;refine hK undef _ ⟨ay iB hB3 _ _,HS.out _,fun h=>.inr (HS.out _ h)⟩ ?_
      rcases HJ.out.1 with h | h
      ·exact HS.out _ h
      ·exact HS.out _ h
    case hend =>
     intro vs wx hJ hv;simp [eF,aW] at hv;obtain ⟨e0,e1,e2,e3,e4,e5,e6,e7,e8,e9,hO⟩:=hv;simp only [aJ,Act.put,Nat.reduceAdd,Nat.zero_add,pS];rw [e0,e1,e2,e3,e4,e5,e6,e7,e8,e9];clear e0 e1 e2 e3 e4 e5 e6 e7 e8 e9;have x3:wx.cell? ⟨B3,3,none⟩=some (iI 0):=hO.1 3 _ rfl;have g3:=hO.2 3;have HS:=iH (hO.set (o':=⟨5,jM r.a,ow r.b,1+m⟩) 3 (by decide) (iI (1+m)) rfl);have HJ:=iH hJ.2;clear hO hJ;go_wp2
     go_meet
     case rel=>exact ⟨HS.out,ay HJ.out hB3 _ _⟩
   case rest =>
    obtain ⟨ho,hb⟩:=hcut;obtain ⟨hz,jm,hy,qL,hzs⟩:=ic hb.out;have y0:=hy 0;have y1:=hy 1;have y2:=hy 2;have y3:=hy 3;have f0:=qL 0;have f1:=qL 1;have f2:=qL 2;have f3:=qL 3
    rename World=>wd
    have x0:wd.cell? ⟨B3,0,none⟩=some (iI 5):=ho.out.1 0 _ rfl;have x1:wd.cell? ⟨B3,1,none⟩=some (.string ⟨(jM r.a).toArray⟩):=ho.out.1 1 _ rfl;have x2:wd.cell? ⟨B3,2,none⟩=some (.string ⟨(ow r.b).toArray⟩):=ho.out.1 2 _ rfl;have x3:wd.cell? ⟨B3,3,none⟩=some (iI (1+m)):=ho.out.1 3 _ rfl;have XO:Hid (Below w.heap.size w wd):=(below_alloc2 w _ _).trans (hb.out.mono (by omega));clear hz jm hy qL;go_wp2;refine bodyPost_ret (v:=y9 ⟨5,jM r.a,ow r.b,1+m⟩) (by simp [results,Tryz.results42,go_sem,y9,y0,y1,y2,y3]) rfl ⟨by rw [HF.out,HM.out],?_⟩
    repeat (first | with_reducible exact XO.out | with_reducible refine ay ?_ (by omega) _ _)
end Go.Proofs.YtbngpjdflblffaaGreatDoor
