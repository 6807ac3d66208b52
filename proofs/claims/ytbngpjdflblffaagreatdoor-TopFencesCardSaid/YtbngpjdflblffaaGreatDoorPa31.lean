/- A part of the proof, laid together from: Ready, BSearchKept, Keep. -/
import Derived.Test.YtbngpjdflblffaaGreatDoorPa30
import Derived.Conc.MuLone
set_option linter.all false
set_option maxRecDepth 100000
set_option maxHeartbeats 1600000
namespace Go.Tk
open Go Go.RowKit
def kW (w:World) (res:List aG×eX×Bool×Int) (e:Ending) (w':World):Prop :=
 ∃v',e=.returned (.tuple #[v', .agg #[iI res.2.1.code, iI res.2.1.n, iS res.2.1.text], .bool res.2.2.1, iI res.2.2.2])∧aZ 5 bR w' v' res.1 (fun b=>w.heap.size≤b)∧Below w.heap.size w w'
theorem kW.mk {w w':World} {v:Value} {l:List aG} {r:eX} {b:Bool} {c:Int} (h:aZ 5 bR w' v l (fun b=>w.heap.size≤b)) (hb:Below w.heap.size w w'):kW w (l,r,b,c) (.returned (.tuple #[v, .agg #[iI r.code, iI r.n, iS r.text], .bool b, iI c])) w':=⟨_,rfl,h,hb⟩
def Nn (E EK:Nat) (W0:World) (B B2 g n cap fi:Nat) (l:List aG) (wx:World):Prop :=
 lT E 5 (jJ EK) wx (.slice (some ⟨g,0,none⟩) n cap) l (fun b=>B≤b∧b≠B2)∧Below B W0 wx∧wx.cell? ⟨B2,0,none⟩=some (.pointer (some ⟨g,fi*5,none⟩))∧wx.frozen? ⟨B2,0,none⟩=false
def kV (w:World) (res:List aG×Int) (e:Ending) (w':World):Prop :=
 ∃v',e=.returned (.tuple #[v', iI res.2])∧aZ 5 bR w' v' res.1 (fun b=>w.heap.size≤b)∧Below w.heap.size w w'
theorem kV.nil {w w':World} {c:Int} (hb:Below w.heap.size w w'):kV w ([],c) (.returned (.tuple #[iN, iI c])) w':=⟨_,rfl,aZ.nil _ _,hb⟩
end Go.Tk
namespace Go.Proofs.YtbngpjdflblffaaGreatDoor
open Go.RowKit Go.Tk
theorem Ee (w:World) (x:lK) (B g o:Nat) (aH:Int) (hc:w.cell? ⟨B,0,none⟩=some (.pointer (some ⟨g,o,none⟩))) (ha:w.cell? ⟨g,o+2,none⟩=some (iI aH)) :
 Calls Tryz.prog 103 #[.agg #[iI x.seq, iI x.aI.code, iI x.aI.n, iS x.aI.text], iP B 0] w fun e w'=>e=.returned (.bool (decide (x.seq≤aH)))∧Below w.heap.size w w':=by
 have hB:=World.block_lt_of_cell? w _ hc;have hg:=World.block_lt_of_cell? w _ ha
 go_enter Tryz.func103,Tryz.ntmps103
 go_wp2
 go_quiet (fail)
 go_wp2;go_ret;exact ⟨rfl,below_drewN (iB.alloc (Nat.le_refl _) _) _⟩
theorem Ed (w:World) (x:lK) (B:Nat) (seq:Int) (ha:w.cell? ⟨B,3,none⟩=some (iI seq)) :
 Calls Tryz.prog 105 #[.agg #[iI x.seq, iI x.aI.code, iI x.aI.n, iS x.aI.text], iP B 0] w fun e w'=>e=.returned (.bool (x.seq == seq))∧Below w.heap.size w w':=by
 have hB:=World.block_lt_of_cell? w _ ha
 go_enter Tryz.func105,Tryz.ntmps105
 go_wp2;go_ret;exact ⟨rfl,iB.alloc (Nat.le_refl _) _⟩
theorem Fv (l:List aG) (index kind client session seq aH:Int) (o:zC) (v:Value) (S:Nat→Prop) (w:World) (h:aZ 5 bR w v l S) (hc:-1000000000000≤client∧client≤1000000000000) :
 Calls Tryz.prog 63 #[v, iI index, .agg #[iI kind, iI client, iI session, iI seq, iI aH, iI o.kind, iS o.a, iS o.b, iI o.n]] w (kW w (ready l index client session seq aH)):=by
 go_enter Tryz.func63,Tryz.ntmps63
 go_wp2_with fail
 refine (eH l index v S _ (h.below aF (by decide) (below_alloc2 w _ _))).mono ?_;rintro e w1 ⟨rfl,hb1⟩;rw [fq] at hb1;have Oh:w.heap.size+1<w1.heap.size:=by have:=hb1.size;rw [fq] at this;omega
 have OD:Below w.heap.size w w1:=(below_alloc2 w _ _).trans (hb1.mono (by omega))
 by_cases he:bC l index=0
 case neg =>
  have HJ:=iH (show ready l index client session seq aH=([],dP,false,bC l index) by rw [ready,if_pos he]);have he':(bC l index != 0)=true:=by simpa using he
  clear he;obtain ⟨hz,jm,hy,qL,hzs⟩:=ic hb1;have y0:=hy 0;have y1:=hy 1;have y2:=hy 2;have GD:=qL 0;have GA:=qL 1;have Gz:=qL 2;clear hz jm hy qL;go_wp2;refine bodyPost_ret (v:=.tuple #[iN, .agg #[iI 0, iI 0, .string ⟨#[]⟩], .bool false, iI (bC l index)]) (by simp [results,Tryz.results63,go_sem,y0,y1,y2,GD,GA,Gz]) rfl ?_;rw [HJ.out];refine kW.mk (r:=dP) (aZ.nil _ _) ?_
  repeat (first | exact OD | refine ay ?_ (by omega) _ _)
 have he':(bC l index != 0)=false:=by simpa using he
 have HE:=iH he;obtain ⟨hz,jm,hy,qL,hzs⟩:=ic hb1
 by_cases hbad:index=1073741824∨seq<1∨1048576<seq∨aH<0∨seq≤aH
 case pos =>
  have HJ:=iH (show ready l index client session seq aH=([],dP,false,2) by rw [ready,if_neg (by simpa using he),if_pos hbad]);have hcases:(index == 1073741824)=true∨((index == 1073741824)=false∧seq<1)∨((index == 1073741824)=false∧¬ seq<1∧1048576<seq)∨((index == 1073741824)=false∧¬ seq<1∧¬ 1048576<seq∧aH<0) ∨
   ((index == 1073741824)=false∧¬ seq<1∧¬ 1048576<seq∧¬ aH<0∧seq≤aH):=by simp only [beq_iff_eq,beq_eq_false_iff_ne];omega
  have z3:=hz 3;have z4:=hz 4;have y0:=hy 0;have y1:=hy 1;have y2:=hy 2;have GD:=qL 0;have GA:=qL 1;have Gz:=qL 2;clear hz jm hy qL he hbad
  rcases hcases with h1 | ⟨h1,h2⟩ | ⟨h1,h2,h3⟩ | ⟨h1,h2,h3,h4⟩ | ⟨h1,h2,h3,h4,h5⟩
  all_goals go_wp2
  all_goals refine bodyPost_ret (v:=.tuple #[iN, .agg #[iI 0, iI 0, .string ⟨#[]⟩], .bool false, iI 2]) (by simp [results,Tryz.results63,go_sem,y0,y1,y2,GD,GA,Gz]) rfl ?_
  all_goals rw [HJ.out]
  all_goals refine kW.mk (r:=dP) (aZ.nil _ _) ?_
  all_goals (repeat (first | exact OD | refine ay ?_ (by omega) _ _))
 have hok:=fA.1 he;have HB:=iH (show ∀x∈l,-1000000000000≤x.client∧x.client≤1000000000000 from fun x hx=>by have:=hok.bad x hx;unfold fe at this;omega);have HN:=iH (show ∀x∈l,x.aA.length≤1000000 from fun x hx=>by have:=iA (hok.rep x hx);omega);have HO:=iH hok;have hl4:=hok.len;have hidx:=hok.idx;have hi0:(index == 1073741824)=false:=by simp;omega
 have h1:¬ seq<1:=by omega
 have h2:¬ 1048576<seq:=by omega
 have h3:¬ aH<0:=by omega
 have h4:¬ seq≤aH:=by omega
 have NH:=iH (show ready l index client session seq aH=if gz l client=false∨(l.getD (fH l client) aR).id≠session then (l,⟨11,0,[]⟩,false,0) else (l.set (fH l client) (iC (l.getD (fH l client) aR) index aH),(lQ (iC (l.getD (fH l client) aR) index aH) seq).1,(lQ (iC (l.getD (fH l client) aR) index aH) seq).2,0) by
  rw [ready,if_neg (by simpa using he),if_neg hbad])
 have z1:=hz 1;have z3:=hz 3;have z4:=hz 4;clear hz jm hy qL he hok hbad
 go_wp2_with fail
 refine (iF _ v l S (h.below aF (by decide) OD) (by omega) HN.out).mono ?_;rintro e w2 ⟨v2,rfl,ho2,hb2,hv2⟩;have z1':=aB z1 (hb2.block _ (by show w.heap.size<_;omega));clear z1 z3 z4
 go_wp2_with fail
 refine (nT _ v2 l _ (ho2.kr hv2) (by omega) client hc HB.out).mono ?_;rintro e w3 ⟨rfl,hb3⟩;clear z1';have hs2:=hb2.size;have hs3:=hb3.size;have TA:Below w1.heap.size w1 w3:=ah hb2 hb3;have QM:Below (w.heap.size+2) ((w.alloc (.cells #[iI kind, iI client, iI session, iI seq, iI aH, iI o.kind, iS o.a, iS o.b, iI o.n] 84)).alloc (.cells #[iI 0, iI 0, .string ⟨#[]⟩] 80)) w3:=hb1.trans (TA.mono (by omega));obtain ⟨hz,jm,hy,qL,Et⟩:=ic QM;have z1:=hz 1;have z2:=hz 2;have z3:=hz 3;have z4:=hz 4;have y0:=hy 0;have y1:=hy 1;have y2:=hy 2;have GD:=qL 0;have GA:=qL 1;have Gz:=qL 2;clear hz jm hy qL;have mP:=iH (show Below w.heap.size w w3 from ah OD TA);have Gy:=iH (fun hth:gz l client=true=>iV hth);generalize gz l client=th at NH Gy⊢;generalize fH l client=fi at NH Gy⊢;have hr3:=(ho2.kr hv2).below aF (by decide) hb3;cases th
 case false =>
  have HJ:=iH (NH.out.trans (if_pos (.inl rfl)));clear NH;obtain ⟨ra,rc,rfl⟩:∃a c,v2=.slice a l.length c:=by obtain ⟨a,c,h,_⟩:=ho2.kr hv2;exact ⟨a,c,h⟩
  go_wp2_with fail
  go_quiet (fail)
  go_wp2;refine bodyPost_ret (v:=.tuple #[.slice ra l.length rc, .agg #[iI 11, iI 0, .string ⟨#[]⟩], .bool false, iI 0]) (by simp [results,Tryz.results63,go_sem,y0,y1,y2,GD,GA,Gz]) rfl ?_;rw [HJ.out];refine kW.mk (r:=⟨11,0,[]⟩) ((hr3.move aF (by decide) fun b hb hlt=>⟨?_,?_⟩)) ?_
  ·have hb':w1.heap.size≤b:=hb
   (repeat (first | with_reducible rfl | with_reducible assumption | with_reducible refine (Go.Tk.heap_drew _ _).trans ?_ | with_reducible refine (Go.Tk.heap_drewN _ _ _).trans ?_ | with_reducible refine (Go.Tk.aC (by omega)).trans ?_))
  ·have hb':w1.heap.size≤b:=hb
   show _≤_;omega
  ·(repeat (first | exact mP.out | with_reducible refine below_drewN ?_ _ | with_reducible refine Below.drew ?_ | with_reducible refine ay ?_ (by omega) _ _ | with_reducible refine Below.alloc ?_ (by omega) _))
 have hlt:=Gy.out rfl;clear Gy;obtain ⟨g,cap2,rfl,hgc,hgm,hg2,hfz⟩:=ho2.pO (by omega);have hgw:=hv2 g rfl;have Kv:=hr3;clear hr3;have ho3:=ho2.below (dX _) hb3;obtain ⟨rv,hcells,jd,hrg⟩:=ho3.pG fi hlt;have I4:=iH (show l.getD fi aR=l[fi] by simp [List.getD,hlt]);have HXB:=iH (iA (HO.out.rep l[fi] (List.getElem_mem hlt)));have PM:=iH (show 0≤l[fi].aH∧l[fi].aH≤1048576 by have:=HO.out.bad l[fi] (List.getElem_mem hlt);unfold fe at this;omega);generalize xX:l[fi]=x at hcells jd I4 HXB PM;have JN:=iH xX;clear xX;have q1:=hcells 1 _ rfl;clear hcells jd hrg
 by_cases hid:x.id=session
 case neg =>
  have HJ:=iH (NH.out.trans (if_pos (.inr (by rw [I4.out];exact hid))));have Wt:(x.id != session)=true:=by simpa using hid
  clear NH hid;have hr3:=Kv;clear Kv
  go_wp2_with fail
  go_quiet (fail)
  go_wp2;refine bodyPost_ret (v:=.tuple #[.slice (some ⟨g,0,none⟩) l.length cap2, .agg #[iI 11, iI 0, .string ⟨#[]⟩], .bool false, iI 0]) (by simp [results,Tryz.results63,go_sem,y0,y1,y2,GD,GA,Gz]) rfl ?_;rw [HJ.out];refine kW.mk (r:=⟨11,0,[]⟩) ((hr3.move aF (by decide) fun b hb hlt=>⟨?_,?_⟩)) ?_
  ·have hb':w1.heap.size≤b:=hb
   (repeat (first | with_reducible rfl | with_reducible assumption | with_reducible refine (Go.Tk.heap_drew _ _).trans ?_ | with_reducible refine (Go.Tk.heap_drewN _ _ _).trans ?_ | with_reducible refine (Go.Tk.aC (by omega)).trans ?_))
  ·have hb':w1.heap.size≤b:=hb
   show _≤_;omega
  ·(repeat (first | exact mP.out | with_reducible refine below_drewN ?_ _ | with_reducible refine Below.drew ?_ | with_reducible refine ay ?_ (by omega) _ _ | with_reducible refine Below.alloc ?_ (by omega) _))
 have HR:=iH (show ready l index client session seq aH=(l.set fi (iC x index aH),(lQ (iC x index aH) seq).1,(lQ (iC x index aH) seq).2,0) by
  rw [NH.out,if_neg (by rw [I4.out];simp [hid]),I4.out])
 have Wt:(x.id != session)=false:=by simpa using hid
 have hw0:IntKind.i64.wrap (index+1)=index+1:=IntWalk.i64_in _ (by omega);clear NH hid Kv I4
 go_wp2_with fail
 go_quiet (fail)
 have hbd:Below w3.heap.size w3 (w3.drewN nq):=below_drewN iB _;clear z1 z2 z3 z4 y0 y1 y2 GD GA Gz q1;generalize w3.drewN nq=wd at hbd⊢;have hsd:=hbd.size;have hod:=ho3.below (dX _) hbd;obtain ⟨rv,hcells,jd,hrg⟩:=hod.pG fi hlt;have q3:=hcells 3 _ rfl;clear hcells jd hrg;have ZY:wd.frozen? ⟨g,fi*5+3,none⟩=false:=(World.frozen?_of_block (hbd.block g (by omega))).trans ((World.frozen?_of_block (hb3.block g hg2)).trans (hfz _));have hgd:g<wd.heap.size:=by omega
 have Tw:=QM.trans (hbd.mono (by omega));have Rc:=iH hod;have RQ:=iH hfz;clear hfz hod;go_upto_region 12 with (fail);refine Lt (Nn 115 117 ((w.alloc (.cells #[iI kind, iI client, iI session, iI seq, iI aH, iI o.kind, iS o.a, iS o.b, iI o.n] 84)).alloc (.cells #[iI 0, iI 0, .string ⟨#[]⟩] 80)) (w.heap.size+2) wd.heap.size g l.length cap2 fi (l.set fi ⟨x.client,x.id,x.aH,index+1,x.aA⟩)) ?_ ?_
 ·refine ⟨?_,?_,?_,?_⟩
  ·exact ((Rc.out.sub (S':=fun b=>w.heap.size+2≤b∧b≠wd.heap.size) (dX _) (fun b hb hlt=>⟨by omega,by omega⟩)).Jh hlt (j:=3) (by decide) (iI (index+1)) ⟨x.client,x.id,x.aH,index+1,x.aA⟩ (by rw [JN.out];rfl) (by rw [JN.out])).below (dX _) (aj _ _)
  ·exact (ay Tw (by omega) _ _).alloc (by simp [World.setCell];omega) _
  ·exact World.cell?_alloc_at _ _ _ _ (by simp [World.setCell])
  ·exact World.frozen?_alloc_at _ _ _ _ (by simp [World.setCell])
 clear Rc Tw hbd ZY q3 QM;rintro wc ⟨hoc,hbc,hpc,hfc⟩;obtain ⟨hz,jm,hy,qL,Og⟩:=ic hbc;have z4:=hz 4;clear hz jm hy qL;obtain ⟨rv,hcells,jd,hrg⟩:=hoc.pG fi (by rw [List.length_set];exact hlt);simp only [List.getElem_set_self] at hcells jd;have q2:=hcells 2 _ rfl;clear hcells jd hrg;have hlen:0<(l.set fi ⟨x.client,x.id,x.aH,index+1,x.aA⟩).length:=by rw [List.length_set];omega
 have tN:=hoc.thaw hlen (fi*5+2);have Ug:=iH hoc;clear hoc hlen
 go_wp2_with fail
 go_quiet (fail)
 go_upto_if 84 with (fail)
 go_cut [] (fun wx=>Nn 115 117 ((w.alloc (.cells #[iI kind, iI client, iI session, iI seq, iI aH, iI o.kind, iS o.a, iS o.b, iI o.n] 84)).alloc (.cells #[iI 0, iI 0, .string ⟨#[]⟩] 80)) (w.heap.size+2) wd.heap.size g l.length cap2 fi (l.set fi (iC x index aH)) wx)
 case first =>
  by_cases hac:x.aH<aH
  case neg =>
   have uX:=iH (zg (index:=index) hac);go_wp2
   go_meet
   rw [uX.out];exact ⟨Ug.out.below (dX _) (below_drewN iB _),below_drewN hbc _,hpc,hfc⟩
  case pos =>
   have uX:=iH (wX (index:=index) hac);go_upto_region 14 with (fail);refine Lt (Nn 115 117 ((w.alloc (.cells #[iI kind, iI client, iI session, iI seq, iI aH, iI o.kind, iS o.a, iS o.b, iI o.n] 84)).alloc (.cells #[iI 0, iI 0, .string ⟨#[]⟩] 80)) (w.heap.size+2) wd.heap.size g l.length cap2 fi (l.set fi ⟨x.client,x.id,aH,index+1,x.aA⟩)) ?_ ?_
   ·refine ⟨?_,ay (below_drewN hbc _) (by omega) _ _,(cell_far (by omega)).trans hpc,(World.frozen?_of_block (a:=⟨wd.heap.size,0,none⟩) (aC (k:=wd.heap.size) (by omega))).trans hfc⟩
    have:=(Ug.out.below (dX _) (below_drewN iB nq)).Jh (i:=fi) (by rw [List.length_set];exact hlt) (j:=2) (by decide) (iI aH) ⟨x.client,x.id,aH,index+1,x.aA⟩ (by rw [List.getElem_set_self];rfl) (by rw [List.getElem_set_self]);rw [List.set_set] at this;exact this
   clear Ug hbc hpc hfc z4 q2 tN;rintro we ⟨hoe,hbe,hpe,hfe⟩;obtain ⟨rv,hcells,jd,hrg⟩:=hoe.pG fi (by rw [List.length_set];exact hlt);simp only [List.getElem_set_self] at hcells jd;obtain ⟨ra,rc,rfl⟩:=jd.shape;have q2:=hcells 2 _ rfl;have q4:=hcells 4 _ rfl;clear hcells;have hge:g<we.heap.size:=World.block_lt_of_cell? we _ q4;have VS:wd.heap.size<we.heap.size:=World.block_lt_of_cell? we _ hpe;have hna:(Value.slice ra x.aA.length rc).ownBlock≠some g:=fun e=>(hrg g e).2.1 rfl
   have hnb:(Value.slice ra x.aA.length rc).ownBlock≠some wd.heap.size:=fun e=>(hrg _ e).1.2 rfl
   have hin:=fun args w=>MuLone.run_callFunc_enter Tryz.func103 (by kernel_rfl) rfl args w
   have hp:yU we.drew (Value.slice ra x.aA.length rc).ownBlock (fun _=>True) 103 (iP (wd.heap.size) 0) (fun k=>decide (k.seq≤aH)):=fun w' y hg hr =>
    Ee w' y wd.heap.size g (fi*5) aH (aB (w:=we) hpe (hg.block _ VS (Ne.symm hnb))) (aB (w:=we) q2 (hg.block _ hge (Ne.symm hna)))
   have HD:=iH (uD we.drew _ x.aA (fun _=>True) (jd.move aS (fun _ _=>rfl) (fun b hb=>hb.elim)) (fun _ _=>trivial) (by have:=HXB.out;omega) 103 (iP (wd.heap.size) 0) (fun k=>decide (k.seq≤aH)) hin hp);have RZ:=iH jd;have zf:=hoe.thaw (by rw [List.length_set];omega) (fi*5+4);clear hp hin jd
   go_region_law (go_simp;go_at_call 102;refine HD.out.mono ?_;rintro e w6 ⟨v6,rfl,yN,tF,hv6⟩;obtain ⟨Jl,Jk,rfl⟩:=yN.shape;have u1:=aB (w:=we) q4 (tF.block _ hge (Ne.symm hna));have u2:=aB (w:=we) hpe (tF.block _ VS (Ne.symm hnb));have u5:=(World.frozen?_of_block (w:=we) (a:=⟨g,fi*5+4,none⟩) (tF.block _ hge (Ne.symm hna))).trans zf)
   all_goals
    go_wp2_with fail
    go_meet
    rw [uX.out];refine ⟨?_,ay (hbe.grown (w':=w6) (row:=(Value.slice ra x.aA.length rc).ownBlock) ⟨tF.os,tF.tape,tF.output,tF.size,tF.block⟩ (by omega) (fun k hk=>(hrg k hk).1.1)) (by omega) _ _,(cell_far (by omega)).trans u2,(World.frozen?_of_block (a:=⟨wd.heap.size,0,none⟩) (aC (k:=wd.heap.size) (by omega))).trans ((World.frozen?_of_block (w:=we) (a:=⟨wd.heap.size,0,none⟩) (tF.block _ VS (Ne.symm hnb))).trans hfe)⟩;have:=hoe.Ml (i:=fi) (w':=w6) (by rw [List.length_set];exact hlt) q4 ⟨tF.os,tF.tape,tF.output,tF.size,tF.block⟩ (yN.forget (fun _ _ _ _ _ h=>h)) (.inl hv6);rw [List.set_set,List.getElem_set_self] at this;exact this
 case rest =>
  obtain ⟨hoc,hbc,hpc,hfc⟩:=hcut;have hxb:(iC x index aH).aA.length≤4:=by have:=HXB.out;unfold iC;split;exact Nat.le_trans (List.length_filter_le _ _) this;exact this
  have hxa:0≤(iC x index aH).aH∧(iC x index aH).aH≤1048576:=by have:=PM.out;unfold iC;split<;>simp only<;>omega
  generalize iC x index aH=y at *;clear JN PM HXB;obtain ⟨hz,jm,hy,qL,VN⟩:=ic hbc;have z3:=hz 3;have y0:=hy 0;have y1:=hy 1;have y2:=hy 2;have GD:=qL 0;have GA:=qL 1;have Gz:=qL 2;clear hz jm hy qL;obtain ⟨rv,hcells,jd,hrg⟩:=hoc.pG fi (by rw [List.length_set];exact hlt);simp only [List.getElem_set_self] at hcells jd;obtain ⟨ra,rc,rfl⟩:=jd.shape;have q2:=hcells 2 _ rfl;have q4:=hcells 4 _ rfl;clear hcells;have hbf:Below w.heap.size w wc:=(below_alloc2 w _ _).trans (hbc.mono (by omega));have hrl:aZ 5 bR wc (.slice (some ⟨g,0,none⟩) l.length cap2) (l.set fi y) (fun b=>w.heap.size+2≤b):=(hoc.kr (fun b hb=>by have e:g=b:=(by cases hb;rfl);subst e;exact ⟨by omega,by omega⟩)).sub aF (by decide) (fun b hb _=>hb.1);have EO:=iH hrl;have mP:=iH hbf;have RZ:=iH ((jd.forget (S':=fun _=>True) (fun _ _ _ _ _ h=>h)).read aS (by decide) (fun _ _=>trivial));have Tx:=hbc;clear hrl hbf jd hrg hoc hbc HO HN HB;have Rw:=iH Tx;clear Tx
  go_wp2_with fail
  go_quiet (fail)
  by_cases t1:seq≤y.aH
  case pos =>
   have HT:=iH (show lQ y seq=(⟨12,0,[]⟩,false) from if_pos t1);go_wp2;refine bodyPost_ret (v:=.tuple #[.slice (some ⟨g,0,none⟩) l.length cap2, .agg #[iI 12, iI 0, .string ⟨#[]⟩], .bool false, iI 0]) (by simp [results,Tryz.results63,go_sem,y0,y1,y2,GD,GA,Gz]) rfl ?_;rw [HR.out,HT.out];refine kW.mk (r:=⟨12,0,[]⟩) ((EO.out.move aF (by decide) fun b hb hlt=>⟨?_,?_⟩)) ?_
   ·have hb':w.heap.size+2≤b:=hb
    (repeat (first | with_reducible rfl | with_reducible assumption | with_reducible refine (Go.Tk.heap_drew _ _).trans ?_ | with_reducible refine (Go.Tk.heap_drewN _ _ _).trans ?_ | with_reducible refine (Go.Tk.aC (by omega)).trans ?_))
   ·have hb':w.heap.size+2≤b:=hb
    show _≤_;omega
   ·(repeat (first | exact mP.out | with_reducible refine below_drewN ?_ _ | with_reducible refine Below.drew ?_ | with_reducible refine ay ?_ (by omega) _ _ | with_reducible refine Below.alloc ?_ (by omega) _))
  have hin2:=fun args w=>MuLone.run_callFunc_enter Tryz.func105 (by kernel_rfl) rfl args w
  have hB0:w.heap.size<wc.heap.size:=by omega
  have Ux:=iH (fun nq:Nat=>oP (wc.drewN nq) _ y.aA (fun _=>True) (RZ.out.below aS (by decide) (below_drewN iB nq)) (by omega) 105 (iP (w.heap.size) 0) (fun k=>k.seq == seq) none hin2
   (fun w' x' hg hr=>Ed w' x' w.heap.size seq (aB (w:=wc) z3 (hg.block _ hB0 (by simp)))))
  clear hin2;have hla:Hid (∀w9,Below wc.heap.size wc w9→Below (w.heap.size+2) ((w.alloc (.cells #[iI kind, iI client, iI session, iI seq, iI aH, iI o.kind, iS o.a, iS o.b, iI o.n] 84)).alloc (.cells #[iI 0, iI 0, .string ⟨#[]⟩] 80)) w9):=fun w9 h9=>Rw.out.trans (h9.mono (by omega))
  rcases j6 (fun k=>k.seq == seq) y.aA with ⟨hi,-⟩ | ⟨n,hn,hi,-⟩
  case inl =>
   have HT0:=iH (show lQ y seq=if y.aH+4<seq then (⟨2,0,[]⟩,false) else (dP,true) by rw [lQ,if_neg t1,if_neg (by rw [hi];decide)])
   go_wp2_with fail
   refine (Ux.out _).mono ?_;rw [hi];clear hi;rintro e w9 ⟨rfl,gQ⟩;have xH:Below wc.heap.size wc w9:=(below_drewN iB nq).trans gQ;clear gQ;obtain ⟨hz,jm,hy,qL,VM⟩:=ic (hla.out w9 xH);clear y0 y1 y2 GD GA Gz;have x3:=hz 3;have y0:=hy 0;have y1:=hy 1;have y2:=hy 2;have GD:=qL 0;have GA:=qL 1;have Gz:=qL 2;clear hz jm hy qL;have V8:=aB hpc (xH.block _ (World.block_lt_of_cell? wc _ hpc));have q29:=aB q2 (xH.block _ (World.block_lt_of_cell? wc _ q2));have OZ:=iH (EO.out.below aF (by decide) xH);have Pd:=iH (ah mP.out xH);have Oq:=xH.size;clear hpc q2 q4 z3;have w0:IntKind.i64.wrap (y.aH+4)=y.aH+4:=IntWalk.i64_in _ (by omega)
   go_wp2_with fail
   go_quiet (fail)
   clear w0
   by_cases t3:y.aH+4<seq
   case pos =>
    have HT:=iH (HT0.out.trans (if_pos t3));go_wp2;refine bodyPost_ret (v:=.tuple #[.slice (some ⟨g,0,none⟩) l.length cap2, .agg #[iI 2, iI 0, .string ⟨#[]⟩], .bool false, iI 0]) (by simp [results,Tryz.results63,go_sem,y0,y1,y2,GD,GA,Gz]) rfl ?_;rw [HR.out,HT.out];refine kW.mk (r:=⟨2,0,[]⟩) ((OZ.out.move aF (by decide) fun b hb hlt=>⟨?_,?_⟩)) ?_
    ·have hb':w.heap.size+2≤b:=hb
     (repeat (first | with_reducible rfl | with_reducible assumption | with_reducible refine (Go.Tk.heap_drew _ _).trans ?_ | with_reducible refine (Go.Tk.heap_drewN _ _ _).trans ?_ | with_reducible refine (Go.Tk.aC (by omega)).trans ?_))
    ·have hb':w.heap.size+2≤b:=hb
     show _≤_;omega
    ·(repeat (first | exact Pd.out | with_reducible refine below_drewN ?_ _ | with_reducible refine Below.drew ?_ | with_reducible refine ay ?_ (by omega) _ _ | with_reducible refine Below.alloc ?_ (by omega) _))
   case neg =>
    have HT:=iH (HT0.out.trans (if_neg t3));go_wp2;refine bodyPost_ret (v:=.tuple #[.slice (some ⟨g,0,none⟩) l.length cap2, .agg #[iI 0, iI 0, .string ⟨#[]⟩], .bool true, iI 0]) (by simp [results,Tryz.results63,go_sem,y0,y1,y2,GD,GA,Gz]) rfl ?_;rw [HR.out,HT.out];refine kW.mk (r:=dP) ((OZ.out.move aF (by decide) fun b hb hlt=>⟨?_,?_⟩)) ?_
    ·have hb':w.heap.size+2≤b:=hb
     (repeat (first | with_reducible rfl | with_reducible assumption | with_reducible refine (Go.Tk.heap_drew _ _).trans ?_ | with_reducible refine (Go.Tk.heap_drewN _ _ _).trans ?_ | with_reducible refine (Go.Tk.aC (by omega)).trans ?_))
    ·have hb':w.heap.size+2≤b:=hb
     show _≤_;omega
    ·(repeat (first | exact Pd.out | with_reducible refine below_drewN ?_ _ | with_reducible refine Below.drew ?_ | with_reducible refine ay ?_ (by omega) _ _ | with_reducible refine Below.alloc ?_ (by omega) _))
  case inr =>
   have HT:=iH (show lQ y seq=(y.aA[n].aI,false) by rw [lQ,if_neg t1,if_pos (by rw [hi];omega),hi];simp [List.getD,hn])
   go_wp2_with fail
   refine (Ux.out _).mono ?_;rw [hi];clear hi;rintro e w9 ⟨rfl,gQ⟩;have xH:Below wc.heap.size wc w9:=(below_drewN iB nq).trans gQ;clear gQ;obtain ⟨hz,jm,hy,qL,VM⟩:=ic (hla.out w9 xH);clear y0 y1 y2 GD GA Gz;have y0:=hy 0;have y1:=hy 1;have y2:=hy 2;have GD:=qL 0;have GA:=qL 1;have Gz:=qL 2;clear hz jm hy qL;have V8:=aB hpc (xH.block _ (World.block_lt_of_cell? wc _ hpc));have q49:=aB q4 (xH.block _ (World.block_lt_of_cell? wc _ q4));have OZ:=iH (EO.out.below aF (by decide) xH);have Pd:=iH (ah mP.out xH);have Oq:=xH.size;obtain ⟨b,off,cap',row,hv,-,hrow,hcells⟩:=(RZ.out.below aS (by decide) xH).row n hn;simp only [Value.slice.injEq] at hv;obtain ⟨rfl,_,rfl⟩:=hv;generalize y.aA[n]=k at *;cases hrow;have r1:=hcells 1 _ rfl;have r2:=hcells 2 _ rfl;have r3:=hcells 3 _ rfl;clear hcells hpc q2 q4 z3 Ux RZ;go_wp2;go_region;go_wp2;refine bodyPost_ret (v:=.tuple #[.slice (some ⟨g,0,none⟩) l.length cap2, .agg #[iI k.aI.code, iI k.aI.n, iS k.aI.text], .bool false, iI 0]) (by simp [results,Tryz.results63,go_sem,y0,y1,y2,GD,GA,Gz]) rfl ?_;rw [HR.out,HT.out];refine kW.mk (r:=k.aI) ((OZ.out.move aF (by decide) fun b hb hlt=>⟨?_,?_⟩)) ?_
   ·have hb':w.heap.size+2≤b:=hb
    (repeat (first | with_reducible rfl | with_reducible assumption | with_reducible refine (Go.Tk.heap_drew _ _).trans ?_ | with_reducible refine (Go.Tk.heap_drewN _ _ _).trans ?_ | with_reducible refine (Go.Tk.aC (by omega)).trans ?_))
   ·have hb':w.heap.size+2≤b:=hb
    show _≤_;omega
   ·(repeat (first | exact Pd.out | with_reducible refine below_drewN ?_ _ | with_reducible refine Below.drew ?_ | with_reducible refine ay ?_ (by omega) _ _ | with_reducible refine Below.alloc ?_ (by omega) _))
theorem rF (w:World) (x:lK) (t:Int) (hb:-9223372036854775808≤x.seq - t∧x.seq - t≤9223372036854775807) :
 Calls Tryz.prog 111 #[.agg #[iI x.seq, iI x.aI.code, iI x.aI.n, iS x.aI.text], iI t] w fun e w'=>e=.returned (iI (x.seq - t))∧Below w.heap.size w w':=by
 obtain ⟨b1,b2⟩:=hb
 go_enter Tryz.func111,Tryz.ntmps111
 go_wp2;go_ret;exact ⟨rfl,iB.alloc (Nat.le_refl _) _⟩
theorem yl (w:World) (v:Value) (l:List lK) (S:Nat→Prop) (h:aZ 4 mX w v l S) (hn:l.length≤1000000) (t:Int) (ht:-1000000000000≤t∧t≤1000000000000) (hb0:∀x∈l,-1000000000000≤x.seq∧x.seq≤1000000000000) :
 Calls Tryz.prog 110 #[v, iI t, .func (.func 111) #[] #[]] w fun e w' =>
  e=.returned (.tuple #[iI (bs (fun i=>iy (l.getD i dZ) t) l.length:Nat), .bool (di (fun i=>iy (l.getD i dZ) t) l.length)])∧Below w.heap.size w w':=by
 obtain ⟨a,cap,hv,hl,hm,hnil,-⟩:=id h;subst hv;unfold maxLen at hm
 go_enter Tryz.func110,Tryz.ntmps110
 go_wp2
 go_loopw [9,10,11] (fun i j _ wr=>∃p q:Nat,p≤q∧q≤l.length∧i=iI p∧j=iI q∧Hid (bsGo (fun i=>iy (l.getD i dZ) t) (q - p) p q=bs (fun i=>iy (l.getD i dZ) t) l.length)∧Below w.heap.size w wr)
  (fun i j _ _=>(intOf j).toNat - (intOf i).toNat)
 case atStart=>exact ⟨0,l.length,by omega,by omega,rfl,rfl,rfl,iB⟩
 case round =>
  obtain ⟨p,q,hpq,zY,rfl,rfl,hgo,hb⟩:=hrel
  by_cases hlt:p<q
  ·have hml:(p+q) / 2<l.length:=by omega
   obtain ⟨b,off,cap',row,hv,hS,hrow,hcells⟩:=(h.below aS (by decide) hb).row ((p+q) / 2) hml;simp only [Value.slice.injEq] at hv;obtain ⟨rfl,_,rfl⟩:=hv;have hg:l.getD ((p+q) / 2) dZ=l[(p+q) / 2]:=by simp [List.getD,hml]
   have hxb:=hb0 l[(p+q) / 2] (List.getElem_mem hml);have HL:Hid (iy l[(p+q) / 2] t<0→bsGo (fun i=>iy (l.getD i dZ) t) (q - ((p+q) / 2+1)) ((p+q) / 2+1) q=bs (fun i=>iy (l.getD i dZ) t) l.length):=fun hf=>by
    rw [←rU _ hlt (by show iy (l.getD ((p+q) / 2) dZ) t<0;rw [hg];exact hf)];exact hgo.out
   have HM:Hid (¬ iy l[(p+q) / 2] t<0→bsGo (fun i=>iy (l.getD i dZ) t) ((p+q) / 2 - p) p ((p+q) / 2)=bs (fun i=>iy (l.getD i dZ) t) l.length):=fun hf=>by
    rw [←rT _ hlt (by show ¬ iy (l.getD ((p+q) / 2) dZ) t<0;rw [hg];exact hf)];exact hgo.out
   clear hgo hg;generalize l[(p+q) / 2]=x at *;obtain rfl:=hrow;have q0:=hcells 0 _ rfl;have q1:=hcells 1 _ rfl;have q2:=hcells 2 _ rfl;have q3:=hcells 3 _ rfl;simp only [Nat.add_zero] at q0;clear hcells;have hws:=hb.size
   by_cases hf:iy x t<0
   all_goals (have HF:=iH hf;unfold iy at hf)
   ·go_wp2_with (go_at_call 111;refine (rF _ x t (by omega)).mono ?_;rintro e w2 ⟨rfl,hb2⟩)
    go_roundw
    case rel=>exact ⟨(p+q) / 2+1,q,by omega,zY,by go_num,rfl,HL.out HF.out,hb.trans (hb2.mono hws)⟩
    case measure=>simp [intOf];omega
   ·go_wp2_with (go_at_call 111;refine (rF _ x t (by omega)).mono ?_;rintro e w2 ⟨rfl,hb2⟩)
    go_roundw
    case rel=>exact ⟨p,(p+q) / 2,by omega,by omega,rfl,by go_num,HM.out HF.out,hb.trans (hb2.mono hws)⟩
    case measure=>simp [intOf];omega
  ·obtain rfl:p=q:=by omega
   have HP:Hid (bs (fun i=>iy (l.getD i dZ) t) l.length=p):=by have:=hgo.out;rw [Nat.sub_self] at this;exact this.symm
   clear hgo;have hws:=hb.size
   by_cases hml:p<l.length
   ·obtain ⟨b,off,cap',row,hv,hS,hrow,hcells⟩:=(h.below aS (by decide) hb).row p hml
    simp only [Value.slice.injEq] at hv;obtain ⟨rfl,_,rfl⟩:=hv;have HG:Hid (di (fun i=>iy (l.getD i dZ) t) l.length=(iy l[p] t == 0)):=by
     show _=_
     rw [di,HP.out,decide_eq_true hml,show l.getD p dZ=l[p] by simp [List.getD,hml]];rfl
    have hxb:=hb0 l[p] (List.getElem_mem hml);clear h;generalize l[p]=x at *;obtain rfl:=hrow;have q0:=hcells 0 _ rfl;have q1:=hcells 1 _ rfl;have q2:=hcells 2 _ rfl;have q3:=hcells 3 _ rfl;simp only [Nat.add_zero] at q0;clear hcells
    go_wp2_with (go_at_call 111;refine (rF _ x t (by omega)).mono ?_;rintro e w2 ⟨rfl,hb2⟩)
    go_ret2
    exact ⟨qg (by rw [HP.out];rfl) (by rw [HG.out];rfl),hb.trans (hb2.mono hws)⟩
   ·have HG:Hid (di (fun i=>iy (l.getD i dZ) t) l.length=false):=by
     show _=_
     rw [di,HP.out,decide_eq_false hml];rfl
    clear h;go_wp2
    go_ret2
    exact ⟨qg (by rw [HP.out];rfl) (by rw [HG.out];rfl),hb⟩
theorem F3 (w:World) (v:Value) (l:List lK) (S:Nat→Prop) (h:aZ 4 mX w v l S) (hn:l.length≤1000000) (t:Int) (ht:-1000000000000≤t∧t≤1000000000000) (hb0:∀x∈l,-1000000000000≤x.seq∧x.seq≤1000000000000) :
 Calls Tryz.prog 110 #[v, iI t, .func (.func 111) #[] #[]] w fun e w' =>
  e=.returned (.tuple #[iI (Bq l t:Nat), .bool (yD l t)])∧Below w.heap.size w w':=yl w v l S h hn t ht hb0
theorem Ih (l:List aG) (index client seq:Int) (r:eX) (v:Value) (S:Nat→Prop) (w:World) (h:aZ 5 bR w v l S) (hc:-1000000000000≤client∧client≤1000000000000) (hq:-1000000000000≤seq∧seq≤1000000000000) :
 Calls Tryz.prog 65 #[v, iI index, iI client, iI seq, .agg #[iI r.code, iI r.n, iS r.text]] w (kV w (keep l index client seq r)):=by
 go_enter Tryz.func65,Tryz.ntmps65
 go_wp2_with fail
 refine (eH l index v S _ (h.below aF (by decide) (aj w _))).mono ?_;rintro e w1 ⟨rfl,hb1⟩;have Oh:w.heap.size<w1.heap.size:=by have:=hb1.size;rw [World.size_alloc] at this;omega
 by_cases he:bC l index=0
 case neg =>
  have HJ:=iH (show keep l index client seq r=([],bC l index) by rw [keep,if_pos he]);have he':(bC l index != 0)=true:=by simpa using he
  clear he;go_wp2
  go_ret2
  rw [HJ.out];exact kV.nil (ah (aj w _) hb1)
 have he':(bC l index != 0)=false:=by simpa using he
 have hok:=fA.1 he;have HB:=iH (show ∀x∈l,-1000000000000≤x.client∧x.client≤1000000000000 from fun x hx=>by have:=hok.bad x hx;unfold fe at this;omega);have HN:=iH (show ∀x∈l,x.aA.length≤1000000 from fun x hx=>by have:=iA (hok.rep x hx);omega);have HE:=iH he;have HO:=iH hok;have hl4:=hok.len;clear he hok
 go_wp2_with fail
 refine (iF _ v l S (h.below aF (by decide) (ah (aj w _) hb1)) (by omega) HN.out).mono ?_;rintro e w2 ⟨v2,rfl,ho2,hb2,hv2⟩
 go_wp2_with fail
 refine (nT _ v2 l _ (ho2.kr hv2) (by omega) client hc HB.out).mono ?_;rintro e w3 ⟨rfl,hb3⟩;cases hth:gz l client
 case false =>
  have HJ:=iH (show keep l index client seq r=([],11) by rw [keep,if_neg (by simpa using HE.out),if_pos hth]);clear hth;go_wp2
  go_ret2
  rw [HJ.out];exact kV.nil (ah (aj w _) (ah hb1 (ah hb2 hb3)))
 have hlt:=iV hth;have HT:=iH hth;clear hth;generalize hfi:fH l client=fi at *;have Rs:=iH hfi;clear hfi;obtain ⟨g,cap2,rfl,hgc,hgm,hg2,hfz⟩:=ho2.pO (by omega);have hgw:=hv2 g rfl;have ho3:=ho2.below (dX _) hb3;obtain ⟨rv,hcells,jd,hrg⟩:=ho3.pG fi hlt;have I4:=iH (show l.getD fi aR=l[fi] by simp [List.getD,hlt]);have HXB:=iH (iA (HO.out.rep l[fi] (List.getElem_mem hlt)));have DR:=iH (pR (HO.out.rep l[fi] (List.getElem_mem hlt)));have PM:=iH (show 0≤l[fi].aH∧l[fi].aH≤1048576 by have:=HO.out.bad l[fi] (List.getElem_mem hlt);unfold fe at this;omega);have hxe:Hid (l[fi]=l[fi]):=rfl;generalize xX:l[fi]=x at hcells jd I4 HXB DR PM;have JN:=iH xX;clear xX hxe;obtain ⟨ra,rc,rfl⟩:=jd.shape;have q4:=hcells 4 _ rfl;have I8:=iH hcells;clear hcells;have rP:Below (w.heap.size+1) (w.alloc (.cells #[iI r.code, iI r.n, iS r.text] 80)) w3:=by
  have:=ah hb1 (ah hb2 hb3);simpa using this
 obtain ⟨hz,jm,hzs⟩:=fresh rP;have z0:=hz 0;have z1:=hz 1;have z2:=hz 2;clear hz jm;have HKB:Hid (∀y∈x.aA,-1000000000000≤y.seq∧y.seq≤1000000000000):=fun y hy=>by
  obtain ⟨i,hi,rfl⟩:=lY x.aA y dZ hy;have h1:=DR.out i hi;have h2:=PM.out;unfold gy at h1;omega
 go_wp2_with fail
 refine (F3 _ _ x.aA (fun _=>True) ((jd.move aS (fun _ _=>rfl) (fun b hb=>hb.elim)).read aS (by decide) (fun _ _=>trivial)) (by have:=HXB.out;omega) seq hq HKB.out).mono ?_;rintro e w4 ⟨rfl,hb4⟩;have hxl:=HXB.out;cases hkt:yD x.aA seq
 case true =>
  have HJ:=iH (show keep l index client seq r=([],7) by rw [keep,if_neg (by simpa using HE.out),if_neg (by rw [HT.out];simp),Rs.out,I4.out,if_pos hkt]);clear hkt;go_wp2
  go_ret2
  rw [HJ.out];exact kV.nil (ah (aj w _) (ah hb1 (ah hb2 (ah hb3 hb4))))
 have R7:=iH (show keep l index client seq r=if aA (zq x seq r)=false then ([],2) else (l.set fi (zq x seq r),0) by rw [keep,if_neg (by simpa using HE.out),if_neg (by rw [HT.out];simp),Rs.out,I4.out,if_neg (by rw [hkt];simp)]);clear hkt;have hkl:Bq x.aA seq≤x.aA.length:=zy _ _;have Zq:=iH (show zq x seq r=⟨x.client,x.id,x.aH,x.last,x.aA.take (Bq x.aA seq)++⟨seq,r⟩::x.aA.drop (Bq x.aA seq)⟩ from rfl);generalize Bq x.aA seq=ki at *;generalize zq x seq r=x7 at R7 Zq;obtain rfl:=Zq.out;have hs4:=hb4.size;have hs3:=hb3.size;have hg3:g<w3.heap.size:=by omega
 have UW:=(aB q4 (hb4.block g hg3));have y0:=(aB z0 (hb4.block _ hzs));have y1:=(aB z1 (hb4.block _ hzs));have y2:=(aB z2 (hb4.block _ hzs));clear z0 z1 z2 q4;have V3:=jd.below aS hb4;have hna:(Value.slice ra x.aA.length rc).ownBlock≠some g:=fun e=>(hrg g e).2.1 rfl
 have hnb:(Value.slice ra x.aA.length rc).ownBlock≠some w.heap.size:=fun e=>by have h1:=(hrg _ e).1;have h2:=hb1.size;rw [World.size_alloc] at h2;omega
 have HI:=iH (yL aS x.aA ki hkl ⟨seq,r⟩ #[iI seq, iI r.code, iI r.n, iS r.text] w4.drew _ (fun _=>False) (V3.move aS (fun _ _=>rfl) (fun b hb=>hb.elim)) rfl (by omega));have hg4:g<w4.heap.size:=by omega
 have hw4:w.heap.size<w4.heap.size:=by omega
 have zf:w4.frozen? ⟨g,fi*5+4,none⟩=false:=(World.frozen?_of_block (hb4.block g hg3)).trans ((World.frozen?_of_block (hb3.block g hg2)).trans (hfz _));go_upto_region 12 with (fail)
 go_cut [] (fun wx=>∃w6 Jl Jk,wx=w6.setCell ⟨g,fi*5+4,none⟩ (.slice Jl (x.aA.length+1) Jk)∧bZ 117 4 mX w6 (.slice Jl (x.aA.length+1) Jk) (x.aA.take ki++⟨seq,r⟩::x.aA.drop ki) (fun _=>False) ∧
  w4.grownBy w6 (Value.slice ra x.aA.length rc).ownBlock∧((Value.slice Jl (x.aA.length+1) Jk).ownBlock=(Value.slice ra x.aA.length rc).ownBlock∨∃b,(Value.slice Jl (x.aA.length+1) Jk).ownBlock=some b∧w4.heap.size≤b))
 case first =>
  go_region_law (go_simp;go_at_call 112;refine HI.out.mono ?_;rintro e w6 ⟨v6,rfl,yN,tF,hv6⟩;obtain ⟨Jl,Jk,e6⟩:∃a c,v6=.slice a (x.aA.length+1) c:=(by obtain ⟨a,c,e⟩:=yN.shape;exact ⟨a,c,by rw [e];congr 1;simp;omega⟩);subst e6;have u1:=aB UW (tF.block _ hg4 (Ne.symm hna));have u2:=aB y0 (tF.block _ hw4 (Ne.symm hnb));have u3:=aB y1 (tF.block _ hw4 (Ne.symm hnb));have u4:=aB y2 (tF.block _ hw4 (Ne.symm hnb));have u5:=(World.frozen?_of_block (tF.block _ hg4 (Ne.symm hna))).trans zf)
  all_goals (go_wp2_with fail;go_meet;exact ⟨w6,Jl,Jk,rfl,yN,⟨tF.os,tF.tape,tF.output,tF.size,tF.block⟩,hv6⟩)
 case rest =>
  obtain ⟨w6,Jl,Jk,rfl,yN,tF,hv6⟩:=hcut;have Wh:=(ho3.below (dX _) hb4).Ml hlt UW tF yN (by rcases hv6 with h | ⟨b',h,h'⟩;exact .inl h;exact .inr (.inr ⟨b',h,h',by omega⟩));have Ti:∀(j:Nat) (u:Value),j≠4→(iU x++[Value.slice ra x.aA.length rc])[j]?=some u→(w6.setCell ⟨g,fi*5+4,none⟩ (.slice Jl (x.aA.length+1) Jk)).cell? ⟨g,fi*5+j,none⟩=some u:=fun j u hj hu =>
   (bK (by omega)).trans (aB (aB (I8.out j u hu) (hb4.block g hg3)) (tF.block g hg4 (Ne.symm hna)))
  have c0:=Ti 0 _ (by decide) rfl;have c1:=Ti 1 _ (by decide) rfl;have c2:=Ti 2 _ (by decide) rfl;have c3:=Ti 3 _ (by decide) rfl;have c4:=World.cell?_setCell_same w6 ⟨g,fi*5+4,none⟩ (.slice Jl (x.aA.length+1) Jk) (aB UW (tF.block g hg4 (Ne.symm hna)));simp only [Nat.add_zero] at c0;clear Ti UW y0 y1 y2 zf;have hown6:∀b,(Value.slice Jl (x.aA.length+1) Jk).ownBlock=some b→b≠g∧w1.heap.size≤b:=fun b hb=>by
   rcases hv6 with h | ⟨b',h,h'⟩
   ·have:=hrg b (h▸hb);exact ⟨this.2.1,this.1⟩
   ·rw [h] at hb;cases hb;omega
  have Yc:=(yN.move (w':=w6.setCell ⟨g,fi*5+4,none⟩ (.slice Jl (x.aA.length+1) Jk)) (S':=fun _=>False) aS (fun b hb=>aC (hown6 b hb).1) (fun b hb=>hb.elim)).forget (S':=fun _=>True) (fun _ _ _ _ _ h=>h);have sG:Below w.heap.size w (w6.setCell ⟨g,fi*5+4,none⟩ (.slice Jl (x.aA.length+1) Jk)):=by
   refine ay (((ah (aj w _) (ah hb1 (ah hb2 (ah hb3 hb4)))).grown tF (by omega) (fun k hk=>?_))) (by omega) _ _;have:=hrg k hk;omega
  rw [JN.out] at Wh;have O4:=iH Wh;clear Wh yN tF hv6;generalize w6.setCell ⟨g,fi*5+4,none⟩ (.slice Jl (x.aA.length+1) Jk)=w7 at *;have JQ:=iH (vH ⟨x.client,x.id,x.aH,x.last,x.aA.take ki++⟨seq,r⟩::x.aA.drop ki⟩ _ _ w7 (Yc.read aS (by decide) (fun _ _=>trivial)) PM.out.1 PM.out.2);clear Yc
  go_wp2_with fail
  refine JQ.out.mono ?_;rintro e w8 ⟨rfl,ET⟩;clear JQ;have Rp:=R7;clear R7;cases jo:aA ⟨x.client,x.id,x.aH,x.last,x.aA.take ki++⟨seq,r⟩::x.aA.drop ki⟩
  case false =>
   have HJ:=iH (Rp.out.trans (if_pos jo));clear jo Rp;go_wp2
   go_ret2
   rw [HJ.out];exact kV.nil (ah sG ET)
  case true =>
   have HJ:=iH (Rp.out.trans (if_neg (by rw [jo];simp)));clear jo Rp;go_wp2
   go_ret2
   rw [HJ.out];refine ⟨_,rfl,((O4.out.below (dX _) ET).kr (fun b hb=>by cases hb;exact hgw)).sub aF (by decide) (fun b hb _=>?_),ah sG ET⟩;have:=hb1.size;rw [World.size_alloc] at this
   show _≤_;omega
end Go.Proofs.YtbngpjdflblffaaGreatDoor
