/- A part of the proof, laid together from: DelSess, Leave, FldSess, IdxKept, InsKept, DelFKept. -/
import Derived.Test.YtbngpjdflblffaaGreatDoorPa11
set_option linter.all false
set_option maxRecDepth 100000
set_option maxHeartbeats 4000000
namespace Go.Tk
open Go Go.RowKit
def uL (w:World) (res:List aG×eX×Int) (e:Ending) (w':World):Prop :=
 ∃v',e=.returned (.tuple #[v', .agg #[iI res.2.1.code, iI res.2.1.n, iS res.2.1.text], iI res.2.2])∧aZ 5 bR w' v' res.1 (fun b=>w.heap.size≤b)∧Below w.heap.size w w'
theorem uL.mk {w w':World} {v:Value} {l:List aG} {r:eX} {c:Int} (h:aZ 5 bR w' v l (fun b=>w.heap.size≤b)) (hb:Below w.heap.size w w'):uL w (l,r,c) (.returned (.tuple #[v, .agg #[iI r.code, iI r.n, iS r.text], iI c])) w':=⟨_,rfl,h,hb⟩
def iU (x:aG):List Value:=[iI x.client, iI x.id, iI x.aH, iI x.last]
theorem jJ.mk {EK:Nat} {w:World} {x:aG} {v:Value} {S:Nat→Prop} (h:bZ EK 4 mX w v x.aA (fun _=>False)) (hs:∀g,v.ownBlock=some g→S g):jJ EK w (iU x++[v]) x S:=⟨v,rfl,h,hs⟩
theorem lT.pG {E EK:Nat} {w:World} {g cap n:Nat} {l:List aG} {S:Nat→Prop} (h:lT E 5 (jJ EK) w (.slice (some ⟨g,0,none⟩) n cap) l S) (i:Nat) (hi:i<l.length) :
 ∃v,(∀(j:Nat) (u:Value),(iU l[i]++[v])[j]?=some u→w.cell? ⟨g,i*5+j,none⟩=some u)∧bZ EK 4 mX w v l[i].aA (fun _=>False)∧∀b,v.ownBlock=some b→S b∧b≠g∧b<w.heap.size:=by
 obtain ⟨row,G,⟨v,rfl,hv,hg⟩,hG,hc,_⟩:=h.upd (dX EK) i hi;exact ⟨v,hc,hv,fun b hb=>hG b (hg b hb)⟩
theorem lT.Jh {E EK:Nat} {w:World} {g cap n:Nat} {l:List aG} {S:Nat→Prop} (h:lT E 5 (jJ EK) w (.slice (some ⟨g,0,none⟩) n cap) l S) {i:Nat} (hi:i<l.length) {j:Nat} (hj:j<4) (u:Value) (x':aG)
 (hx:iU x'=(iU l[i]).set j u) (hr:x'.aA=l[i].aA):lT E 5 (jJ EK) (w.setCell ⟨g,i*5+j,none⟩ u) (.slice (some ⟨g,0,none⟩) n cap) (l.set i x') S:=by
 obtain ⟨row,G,⟨v,rfl,hv,hg⟩,hG,hc,hch⟩:=h.upd (dX EK) i hi;have hll:(iU l[i]).length=4:=rfl;have hc':∀(q:Nat) (t:Value),(iU l[i]++[v])[q]?=some t→w.cell? ⟨g,i*5+q,none⟩=some t:=hc;refine hch _ S G (iU x'++[v]) x' ((bW.refl g w).set _ _ _) (fun q hq=>bK (by omega)) (fun q t ht=>?_) (fun b _ hb _ _=>aC hb) (fun _ hb=>hb) (fun b hb=>⟨.inl hb,(hG b hb).1,(hG b hb).2.1,by simpa [World.setCell] using (hG b hb).2.2⟩) ?_
 ·by_cases hq:q=j
  ·subst hq
   rw [hx,List.getElem?_append_left (by rw [List.length_set,hll];exact hj),List.getElem?_set_self (by rw [hll];exact hj)] at ht;cases ht;obtain ⟨t0,ht0⟩:∃t0,(iU l[i]++[v])[q]?=some t0:=⟨(iU l[i]++[v])[q]'(by rw [List.length_append,hll];show q<4+1;omega),List.getElem?_eq_getElem _⟩;exact World.cell?_setCell_same _ _ _ (hc' q t0 ht0)
  ·refine (bK (by omega)).trans (hc' q t ?_)
   rcases Nat.lt_or_ge q 4 with h | h
   ·rw [hx,List.getElem?_append_left (by rw [List.length_set,hll];exact h),List.getElem?_set_ne (Ne.symm hq)] at ht
    rw [List.getElem?_append_left (by rw [hll];exact h)];exact ht
   ·rw [List.getElem?_append_right (by rw [hx,List.length_set,hll];exact h),hx,List.length_set] at ht
    rw [List.getElem?_append_right (by rw [hll];exact h)];exact ht
 ·refine jJ.mk ?_ hg
  rw [hr];exact hv.move aS (fun b hb=>aC (hG b (hg b hb)).2.1) (fun b hb=>hb.elim)
theorem lT.Ml {E EK:Nat} {w w':World} {g cap n:Nat} {l:List aG} {S:Nat→Prop} (h:lT E 5 (jJ EK) w (.slice (some ⟨g,0,none⟩) n cap) l S) {i:Nat} (hi:i<l.length) {v v':Value} (hv:w.cell? ⟨g,i*5+4,none⟩=some v)
 {rs:List lK} (hg':w.grownBy w' v.ownBlock) (ho:bZ EK 4 mX w' v' rs (fun _=>False)) (hvv:v'.ownBlock=v.ownBlock∨v'.ownBlock=none∨∃b,v'.ownBlock=some b∧w.heap.size≤b∧S b) :
 lT E 5 (jJ EK) (w'.setCell ⟨g,i*5+4,none⟩ v') (.slice (some ⟨g,0,none⟩) n cap) (l.set i { l[i] with aA:=rs }) S:=by
 obtain ⟨row,G,⟨v0,rfl,hv0,hg⟩,hG,hc,hch⟩:=h.upd (dX EK) i hi;have hll:(iU l[i]).length=4:=rfl;have hc':∀(q:Nat) (t:Value),(iU l[i]++[v0])[q]?=some t→w.cell? ⟨g,i*5+q,none⟩=some t:=hc;obtain rfl:v0=v:=by
  have:=hc' 4 v0 rfl;rw [this] at hv;simpa using hv
 have hne:some g≠v0.ownBlock:=fun e=>(hG g (hg g e.symm)).2.1 rfl
 have hgl:g<w.heap.size:=World.block_lt_of_cell? w _ (hc' 0 _ rfl);have hgg:w'.heap[g]?=w.heap[g]?:=hg'.block g hgl hne;have hsz:=hg'.size;have F6:∀b,v'.ownBlock=some b→(G b∨w.heap.size≤b)∧S b∧b≠g∧b<w'.heap.size:=by
  intro b hb;have hlt:=ho.lt b hb
  rcases hvv with e | e | ⟨b',e,hb',hsb⟩
  ·have MJ:=hg b (e▸hb)
   exact ⟨.inl MJ,(hG b MJ).1,(hG b MJ).2.1,hlt⟩
  ·rw [e] at hb;cases hb
  ·rw [e] at hb;cases hb
   exact ⟨.inr hb',hsb,by omega,hlt⟩
 refine hch _ S (fun b=>v'.ownBlock=some b) (iU { l[i] with aA:=rs }++[v']) _ ((bW.same hgg).set _ _ _) (fun q hq=>(bK (by omega)).trans (World.cell?_of_block (a:=⟨g,q,none⟩) hgg)) (fun q t ht=>?_) (fun b hb hbg Tz hbl=>(aC hbg).trans (hg'.block b hbl (fun e=>Tz (hg b e.symm)))) (fun _ hb=>hb) (fun b hb=>?_) ?_
 ·by_cases hq:q=4
  ·subst hq
   cases ht;exact World.cell?_setCell_same _ _ _ (aB hv hgg)
  ·have zY:q<4:=by
    rcases Nat.lt_or_ge q 5 with h | h
    ·omega
    ·rw [List.getElem?_eq_none (by rw [List.length_append];show 4+1≤q;omega)] at ht;cases ht
   refine (bK (by omega)).trans (aB (hc' q t ?_) hgg);rw [List.getElem?_append_left zY] at ht;rw [List.getElem?_append_left (by rw [hll];exact zY)];exact ht
 ·have:=F6 b hb
  exact ⟨this.1,this.2.1,this.2.2.1,by simpa [World.setCell] using this.2.2.2⟩
 ·exact jJ.mk (x:={ l[i] with aA:=rs }) (ho.move aS (fun b hb=>aC (F6 b hb).2.2.1) (fun b hb=>hb.elim)) (fun b hb=>hb)
end Go.Tk
namespace Go.Proofs.YtbngpjdflblffaaGreatDoor
open Go.RowKit Go.Tk
theorem Tryz.JU:∀i z,Tryz.prog.info? 115=some i→i.zero=some z→∀v∈z.cells.toList,v.oneCell'=true:=by
 intro i z hi hz;have h:(Tryz.prog.info? 115).map (fun i=>i.zero)=some (some (.agg #[iI 0, iI 0, iI 0, iI 0, iN])):=by kernel_rfl
 rw [hi] at h;simp only [Option.map_some,Option.some.injEq] at h;rw [h] at hz;cases hz;intro v hv;simp [Value.cells] at hv
 rcases hv with rfl | rfl | rfl | rfl | rfl<;>rfl
theorem CK (w:World) (v:Value) (l:List aG) (S:Nat→Prop) (h:nJ 115 5 bR w v l S) (hn:l.length≤1000000) (i:Nat) (hi:i<l.length) :
 Calls Tryz.prog 101 #[v, iI i, iI ((i:Int)+1)] w fun e w'=>∃v',e=.returned v'∧nJ 115 5 bR w' v' (l.eraseIdx i) S∧w.grownBy w' v.ownBlock∧v'.ownBlock=v.ownBlock:=by
 obtain ⟨g,off,n,cap,rfl⟩:∃g off n cap,v=.slice (some ⟨g,off,none⟩) n cap:=by
  rcases h with ⟨_,h⟩ | ⟨g,off,cap,cur,rows,hv,_⟩
  ·subst h;simp at hi
  ·exact ⟨g,off,_,cap,hv⟩
 obtain ⟨cur,news,hg,hnl,hnc,hcm,hfit,hnews,hone,hcell,cur',hg',hsz,hfin⟩:=nJ.erase (w:=w.drew) aF (h.move aF (fun _ _=>rfl) (fun _ h _ _=>⟨rfl,h⟩)) hi;subst hnl;have hin:(l.length - (i+1))+i=l.length - 1:=by omega
 obtain ⟨p,hp⟩:∃p,l.length=p+1:=⟨l.length - 1,by omega⟩;obtain ⟨zs,hzl,hr2⟩:=lg (P:=Tryz.prog) (ty:=0) (w.drew.setCells g (off+i*5) news) Tryz.DW g (off+p*5) 1 (cap - p) cur' hg' (by omega) Tryz.JU;have hgb:w.grownBy ((w.drew.setCells g (off+i*5) news).setRow g (splice cur'.toList (off+p*5) zs).toArray) (some g) :=
  grownBy_trans (grownBy_trans (grownBy_drew (grownBy_refl w _)) (j5 (.inl rfl) _ _ _ (grownBy_refl w.drew _))) (jQ _ g _)
 have hfz:=hfin zs (hzl.trans (by omega));rw [show l.length - 1=p by omega] at hfz;have hfz':nJ 115 5 bR ((w.drew.setCells g (off+i*5) news).setRow g (splice cur'.toList (off+p*5) zs).toArray) (.slice (some ⟨g,off,none⟩) p cap) (l.eraseIdx i) S:=hfz.move aF (fun _ _=>rfl) (fun _ h _ _=>⟨rfl,h⟩);have HF:=iH (And.intro hfz' hgb);clear hfz hfz' hfin hgb;obtain ⟨wf,hwf⟩:∃wf,wf=(w.drew.setCells g (off+i*5) news).setRow g (splice cur'.toList (off+p*5) zs).toArray:=⟨_,rfl⟩;rw [←hwf] at hr2 HF;clear hwf hg' hzl hsz;obtain ⟨inf,z,hi1,hz1,hs1,hb1,Ik⟩:=(Tryz.DW).parts;have hi':i≤p:=by omega
 have hr1:∀ad:Addr,(∀(j:Nat) (u:Value),news[j]?=some u→w.cell? (ad.add j)=some u) →
  (Builtin.append_ #[25,25] 25 #[.slice (some ⟨g,off,none⟩) i cap, .slice (some ad) (p - i) (cap - (i+1))]).run Tryz.prog w.drew=.ok (.slice (some ⟨g,off,none⟩) p cap) (w.drew.setCells g (off+i*5) news):=fun ad had=>by
  have:=run_append_room_cells (P:=Tryz.prog) w.drew 25 25 115 inf Tryz.underlying25 hi1 g off i cap ad (p - i) (cap - (i+1)) news (by rw [hs1];omega) had hone (by omega)
   (fun j hj=>by rw [hs1];show (w.drew.cell? _).isSome=true;rw [dN hg,Array.getElem?_eq_getElem (by omega)];rfl) (fun j hj=>frozen_of_row w g _ cur _ hg)
  rw [hs1,show i+(p - i)=p by omega] at this;exact this
 have HR1:=iH hr1;have HC:=iH hcell;have HN:=iH hnews;clear hr1 hcell hnews hin hi1 hz1 hs1 hb1 Ik hg h hone;have hlp:(l.length:Int)≤1000000:=by omega
 generalize l.length=n at *;subst hp;unfold maxLen at hcm;have q1:¬ cap=i:=by omega
 have q2:¬ cap=p:=by omega
 have q3:p+1 - (i+1)=p - i:=by omega
 have q4:((i:Int) == (i:Int)+1)=false:=by rw [beq_eq_false_iff_ne];omega
 have q5:i≤cap:=by omega
 have q6:i+1≤cap:=by omega
 have q7:p+1≤cap:=by omega
 have q8:(i:Int)+1≤(p:Int)+1:=by omega
 have q9:((i:Int)+1).toNat=i+1:=by omega
 have VJ:(0:Int)≤(i:Int)+1:=by omega
 by_cases hci:cap=i+1
 ·obtain rfl:p=i:=by omega
  subst hci;have hr1:=HR1.out ⟨g,off,none⟩ (fun j u hu=>by have h:=HN.out;rw [List.getElem?_eq_none (by omega)] at hu;cases hu);clear HR1 HC HN q1 q2 q3;have VI:(p:Int)≤(p:Int)+1:=by omega
  simp only [Nat.sub_self] at hr1;simp only [Nat.add_sub_cancel_left] at hr2
  go_enter Tryz.func101,Tryz.ntmps101
  go_wp2_with fail
  go_region_law (refine gN rfl _ _ 25 25 rfl _ _ (by simp [Act.eval,Act.put]) (by simp [Act.eval,Act.put]) hr1 ?_)
  clear hr1
  go_wp2_with (at_builtin;refine eU rfl (.tmp 31) _ rfl _ rfl hr2 ?_)
  go_ret;exact ⟨_,rfl,HF.out.1,HF.out.2,rfl⟩
 ·have hr1:=HR1.out ⟨g,off+(i+1)*5,none⟩ (fun j u hu=>by rw [Addr.add_lit];exact HC.out j u hu)
  clear HR1 HC HN
  go_enter Tryz.func101,Tryz.ntmps101
  go_wp2_with fail
  go_region_law (refine gN rfl _ _ 25 25 rfl _ _ (by simp [Act.eval,Act.put]) (by simp [Act.eval,Act.put]) hr1 ?_)
  clear hr1
  go_wp2_with (at_builtin;refine eU rfl (.tmp 31) _ rfl _ rfl hr2 ?_)
  go_ret;exact ⟨_,rfl,HF.out.1,HF.out.2,rfl⟩
theorem FV (l:List aG) (index client:Int) (v:Value) (S:Nat→Prop) (w:World) (h:aZ 5 bR w v l S) (hok:dQ l index) (hc:-1000000000000≤client∧client≤1000000000000) :
 Calls Tryz.prog 62 #[v, iI index, iI client] w (uL w (leave l index client)):=by
 have he:=fA.2 hok;have Ir:∀x∈l,-1000000000000≤x.client∧x.client≤1000000000000:=fun x hx=>by have:=hok.bad x hx;unfold fe at this;omega
 have hin:∀x∈l,x.aA.length≤1000000:=fun x hx=>by have:=iA (hok.rep x hx);omega
 have hl4:=hok.len;have HE:=iH he;have HB:=iH Ir;have HN:=iH hin;have HH:=iH h;have HV:=iH (show leave l index client=if gz l client=false then (l,⟨11,0,[]⟩,0) else (l.eraseIdx (fH l client),dP,0) by rw [leave,if_neg (by rw [he];simp)]);clear he Ir hin hok h
 go_enter Tryz.func62,Tryz.ntmps62
 go_wp2_with fail
 have HX:=iH (aD.new (w:=w) (cs:=[iI 0, iI 0, .string ⟨#[]⟩]) (E:=80));have HA:=iH (aj w (.cells #[iI 0, iI 0, .string ⟨#[]⟩] 80));replace HH:=iH (HH.out.below aF (by decide) HA.out);refine (eH l index v S _ HH.out).mono ?_;have hsz:w.heap.size<(w.alloc (.cells #[iI 0, iI 0, .string ⟨#[]⟩] 80)).heap.size:=by rw [World.size_alloc];omega
 generalize w.alloc (.cells #[iI 0, iI 0, .string ⟨#[]⟩] 80)=w0 at *;rw [HE.out];rintro e w1 ⟨rfl,hb1⟩
 go_wp2_with fail
 refine (iF _ v l S (HH.out.below aF (by decide) hb1) (by omega) HN.out).mono ?_;rintro e w2 ⟨v2,rfl,ho2,hb2,hv2⟩;have hr2:=ho2.kr hv2;have hone:=hr2.oneCell
 go_wp2_with fail
 refine (nT _ v2 l _ hr2 (by omega) client hc HB.out).mono ?_;rintro e w3 ⟨rfl,hb3⟩;have hs1:=hb1.size;have hs2:=hb2.size;have hs3:=hb3.size;replace HX:=iH (HX.out.below (ah hb1 (ah hb2 hb3)));have HB3:=iH (ah HA.out (ah hb1 (ah hb2 hb3)));have HR3:=iH (hr2.below aF (by decide) hb3);have Rf:=iH (((((ho2.below (dX _) hb3).own (dX _)).map (R':=bR) fun _ _ _ _ hr=>hr.read)).Pk aF);have wO:=iH hv2;clear ho2 hr2 hv2 hb2 hb1 hb3 HA HH
 by_cases hth:gz l client=true
 case neg =>
  have Ku:gz l client=false:=by simpa using hth
  have HF:=iH (HV.out.trans (if_pos Ku));rw [Ku];clear hth Ku HV;obtain ⟨z0,z1,z2⟩:=gV HX.out;obtain ⟨f0,f1,f2⟩:=rH HX.out;go_wp2;have hp:=((HX.out.set 0 (by simp) (iI 11)).set 1 (by simp) (iI 0)).set 2 (by simp) (.string ⟨#[]⟩);have hbf:=ay (ay (ay (HB3.out) (Nat.le_refl _) 0 (iI 11)) (Nat.le_refl _) 1 (iI 0)) (Nat.le_refl _) 2 (.string ⟨#[]⟩);have hrf:aZ 5 bR (((w3.setCell ⟨w.heap.size,0,none⟩ (iI 11)).setCell ⟨w.heap.size,1,none⟩ (iI 0)).setCell ⟨w.heap.size,2,none⟩ (.string ⟨#[]⟩)) v2 l (fun b=>w.heap.size≤b) :=
   HR3.out.move aF (by decide) fun b hb _=>⟨(aC (by omega)).trans ((aC (by omega)).trans (aC (by omega))),by show _≤_;omega⟩
  generalize ((w3.setCell ⟨w.heap.size,0,none⟩ (iI 11)).setCell ⟨w.heap.size,1,none⟩ (iI 0)).setCell ⟨w.heap.size,2,none⟩ (.string ⟨#[]⟩)=wf at *;obtain ⟨p0,p1,p2⟩:=gV hp;refine bodyPost_ret (v:=.tuple #[v2, .agg #[iI 11, iI 0, .string ⟨#[]⟩], iI 0]) (by simp [results,Tryz.results62,go_sem,p0,p1,p2]) rfl ?_;rw [HF.out];exact uL.mk (r:=⟨11,0,[]⟩) hrf hbf
 have hlt:=iV hth;have HF:=iH (HV.out.trans (if_neg (by rw [hth];simp)));rw [hth];clear hth HV;generalize hfi:fH l client=fi at *;clear hfi;have hwn:IntKind.i64.wrap ((fi:Int)+1)=(fi:Int)+1:=IntWalk.i64_in _ (by omega)
 go_wp2_with fail
 refine (CK _ v2 l _ Rf.out (by omega) fi hlt).mono ?_;rintro e w4 ⟨v4,rfl,kY,hg4,hv4⟩;have SX:=kY.oneCell;have hx4:=HX.out.grown hg4 (fun e=>by have:=wO.out _ e.symm;omega);have GV:=iH (HB3.out.grown hg4 HB3.out.size fun k hk=>by have:=wO.out k hk;omega);have HR4:=iH (kY.read aF (fun g hg=>wO.out g (by rw [←hv4];exact hg)));clear kY hg4 hv4;obtain ⟨z0,z1,z2⟩:=gV hx4;obtain ⟨f0,f1,f2⟩:=rH hx4;go_wp2;have hp:=((hx4.set 0 (by simp) (iI 0)).set 1 (by simp) (iI 0)).set 2 (by simp) (.string ⟨#[]⟩);have hbf:=ay (ay (ay (GV.out) (Nat.le_refl _) 0 (iI 0)) (Nat.le_refl _) 1 (iI 0)) (Nat.le_refl _) 2 (.string ⟨#[]⟩);have hrf:aZ 5 bR (((w4.setCell ⟨w.heap.size,0,none⟩ (iI 0)).setCell ⟨w.heap.size,1,none⟩ (iI 0)).setCell ⟨w.heap.size,2,none⟩ (.string ⟨#[]⟩)) v4 (l.eraseIdx fi) (fun b=>w.heap.size≤b) :=
  HR4.out.move aF (by decide) fun b hb _=>⟨(aC (by omega)).trans ((aC (by omega)).trans (aC (by omega))),by show _≤_;omega⟩
 generalize ((w4.setCell ⟨w.heap.size,0,none⟩ (iI 0)).setCell ⟨w.heap.size,1,none⟩ (iI 0)).setCell ⟨w.heap.size,2,none⟩ (.string ⟨#[]⟩)=wf at *;obtain ⟨p0,p1,p2⟩:=gV hp;refine bodyPost_ret (v:=.tuple #[v4, .agg #[iI 0, iI 0, .string ⟨#[]⟩], iI 0]) (by simp [results,Tryz.results62,go_sem,p0,p1,p2]) rfl ?_;rw [HF.out];exact uL.mk (r:=dP) hrf hbf
def yU (w:World) (r:Option Nat) (S:Nat→Prop) (c:Nat) (cap:Value) (p:lK→Bool):Prop :=
 ∀(w':World) (x:lK),w.grownBy w' r→mX w' [iI x.seq, iI x.aI.code, iI x.aI.n, iS x.aI.text] x S→Calls Tryz.prog c #[.agg #[iI x.seq, iI x.aI.code, iI x.aI.n, iS x.aI.text],cap] w' fun e w''=>e=.returned (.bool (p x))∧Below w'.heap.size w' w''
theorem oP (w:World) (v:Value) (l:List lK) (S:Nat→Prop) (h:aZ 4 mX w v l S) (hn:l.length≤1000000) (c:Nat) (cap:Value) (p:lK→Bool) (r:Option Nat) (hin:∀args w,(callFunc c args).run Tryz.prog w=.ok (.enter c args) w) (hp:yU w r S c cap p) :
 Calls Tryz.prog 104 #[v, .func (.func c) #[] #[cap]] w fun e w' =>
  e=.returned (iI (kD p l))∧Below w.heap.size w w':=by
 obtain ⟨a,vc,hv,hl,hm,hnil,-⟩:=id h;subst hv;unfold maxLen at hm;have hlen:(l.length:Int)≤1000000:=by omega
 go_enter Tryz.func104,Tryz.ntmps104
 go_wp2
 go_loopw [8] (fun i wr=>∃n:Nat,n≤l.length∧i=iI n∧Hid (∀(j:Nat) (hj:j<l.length),j<n→p l[j]=false)∧Below w.heap.size w wr)
  (fun i _=>l.length - (intOf i).toNat)
 case atStart=>exact ⟨0,by omega,rfl,fun j _ hj=>by omega,iB⟩
 case round =>
  obtain ⟨n,hnl,rfl,hall,hb⟩:=hrel;have hws:=hb.size
  by_cases hlt:n<l.length
  ·obtain ⟨b,off,NN,row,hv,hS,hrow,hcells⟩:=(h.below aS (by decide) hb).row n hlt
   simp only [Value.slice.injEq] at hv;obtain ⟨rfl,_,rfl⟩:=hv;have HY:Hid (p l[n]=true→kD p l=n):=fun ht=>qO hlt ht hall.out
   have HN:Hid (p l[n]=false→∀(j:Nat) (hj:j<l.length),j<n+1→p l[j]=false):=fun ht j hj hj1=>by
    rcases Nat.lt_or_ge j n with h | h
    ·exact hall.out j hj h
    ·obtain rfl:j=n:=by omega
     exact ht
   clear hall;generalize xX:l[n]=x at *;clear xX;have hrow':=hrow;obtain rfl:=hrow;have q0:=hcells 0 _ rfl;have q1:=hcells 1 _ rfl;have q2:=hcells 2 _ rfl;have q3:=hcells 3 _ rfl;simp only [Nat.add_zero] at q0;clear hcells;have HC:=iH (hp _ _ (aY hb r) hrow');clear hrow' hp h
   by_cases hf:p x=true
   ·have HF:=iH (HY.out hf)
    go_wp2_with fail
    refine HC.out.mono ?_;rw [hf];rintro e w2 ⟨rfl,hb2⟩;go_wp2;go_ret;exact ⟨by rw [HF.out];rfl,hb.trans (hb2.mono hws)⟩
   ·have hf':p x=false:=by simpa using hf
    go_wp2_with fail
    refine HC.out.mono ?_;rw [hf'];rintro e w2 ⟨rfl,hb2⟩;go_wp2
    go_roundw
    case rel=>exact ⟨n+1,by omega,by go_num,HN.out hf',hb.trans (hb2.mono hws)⟩
    case measure=>simp [intOf];omega
  ·obtain rfl:n=l.length:=by omega
   have HF:Hid (kD p l=-1):=mH fun j hj=>hall.out j hj hj
   clear hall hp h;go_wp2;go_ret;exact ⟨by rw [HF.out];rfl,hb⟩
theorem Tryz.DZ:dM Tryz.prog 113 117 4 40:=⟨Tryz.underlying113,by kernel_rfl,by decide⟩
theorem Bv:Cg Tryz.prog 112 117 4:=by
 intro w v n xs cs hown hcs h1 hn;obtain ⟨v',w',hr,g1,g2,g3⟩:=Ap (ty:=113) Tryz.DZ (by decide) hown hcs h1 hn;have HF:=iH (And.intro g2 g3);have G1:=iH g1;clear g1 g2 g3
 rcases hown.2 with ⟨rfl,rfl⟩ | ⟨g,cap,cur,rfl,-,hg,hnc,hcm,hcs2,htake⟩
 ·clear hown
  go_enter Tryz.func112,Tryz.ntmps112
  go_wp2_with (at_builtin;refine wpList_append_run rfl _ _ _ _ rfl _ _ rfl rfl hr ?_)
  go_ret;exact ⟨v',rfl,G1.out,HF.out⟩
 ·unfold maxLen at hcm
  clear hown htake hg hcs2
  by_cases hcap:cap=n
  ·subst hcap
   go_enter Tryz.func112,Tryz.ntmps112
   go_wp2_with (at_builtin;refine wpList_append_run rfl _ _ _ _ rfl _ _ rfl rfl hr ?_)
   go_ret;exact ⟨v',rfl,G1.out,HF.out⟩
  ·go_enter Tryz.func112,Tryz.ntmps112
   go_wp2_with (at_builtin;refine wpList_append_run rfl _ _ _ _ rfl _ _ rfl rfl hr ?_)
   go_ret;exact ⟨v',rfl,G1.out,HF.out⟩
theorem zU:xW Tryz.prog 112 117 4:=by
 intro w g n i xs cs hown hi hcs h1 h1x hn;unfold vV;obtain ⟨w1,w2,w3,b1,nc,hr1,hr2,hr3,f1,f2,Ga,Kw,f3⟩:=xC (ty:=113) Tryz.DZ Tryz.underlying3 (by decide) (by decide) hown hi hcs h1 h1x hn;have HF:=iH (And.intro f1 f2);have H1:=iH f3;clear f1 f2 f3 h1 h1x hown hcs
 go_enter Tryz.func112,Tryz.ntmps112
 go_wp2_with (at_builtin;refine wpList_append_run rfl (.tmp 34) (.tmp 39) _ _ rfl _ _ rfl rfl hr1 ?_)
 have q1:IntKind.i64.wrap ((i:Int)+1)=(i:Int)+1:=IntWalk.i64_in _ (by omega);have q2:(0:Int)≤(i:Int)+1:=by omega
 have q3:((i:Int)+1).toNat=i+1:=by omega
 have q4:¬ (nc=i+1):=by omega
 have q5:¬ (n=i):=by omega
 have q6:(i:Int)+1≤(n:Int)+1:=by omega
 have q7:i≤n:=by omega
 go_region_law (refine iR rfl _ _ 113 113 rfl _ _ (by simp [Act.eval,Act.put]) (by simp [Act.eval,Act.put]) hr3 ?_)
 clear q1 q2 q3 q4 q5 q6 q7;go_wp2;go_ret;exact ⟨_,rfl,HF.out.1,HF.out.2, .inr ⟨_,rfl,H1.out⟩⟩
theorem yK:uP Tryz.prog 112 117 4:=by
 intro w g n cap i xs cs hown hi hcap hcs h1 h1x hn;unfold vV;obtain ⟨cur,w1,w2,hg0,hcsz,Ev,hcm,hr1,hr2,f1,f2⟩:=uU (I:=3) Tryz.DZ hown hi hcap hcs h1 h1x;have HF:=iH (And.intro f1 f2);have hov:(callFunc 150 #[.slice (some ⟨w.heap.size,0,none⟩) 1 1, .slice (some ⟨g,(i+1)*4,none⟩) (n - i) (cap - (i+1))]).run Tryz.prog (w.alloc (.cells cs 117))=.ok (.value (.bool false)) (w.alloc (.cells cs 117)):=by
  rw [run_callFunc_extern Tryz.func150 (by kernel_rfl) (by kernel_rfl) (by kernel_rfl) (e:=Extern.SlicesOverlaps.overlaps #[113,113] #[4]) (by kernel_rfl),
   Lib.run_overlaps_apart (w.alloc (.cells cs 117)) 113 4 117 Tryz.underlying113 4 (fun _=>by kernel_rfl) ⟨w.heap.size,0,none⟩ ⟨g,(i+1)*4,none⟩ 1 1 _ _ (by simp;omega) 117 117 4 (cap*4)
    (by simp only [World.shape?];rw [heap_alloc_new];simp [hcs]) (by simp only [World.shape?];rw [hg0];simp [hcsz]) (by omega) (World.frozen?_alloc_new w cs _ _) (World.frozen?_alloc_new w cs _ _)]
  rfl
 unfold maxLen at hcm;clear f1 f2 hg0 hcsz h1 h1x hown hcs
 go_enter Tryz.func112,Tryz.ntmps112
 have p4:¬ (cap=i+1):=by omega
 have p5:¬ (cap=i):=by omega
 go_wp2_with (simp only [hov])
 clear hov;have q1:IntKind.i64.wrap ((i:Int)+1)=(i:Int)+1:=IntWalk.i64_in _ (by omega);have q2:(0:Int)≤(i:Int)+1:=by omega
 have q3:((i:Int)+1).toNat=i+1:=by omega
 have q6:(i:Int)+1≤(n:Int)+1:=by omega
 have q7:i≤n:=by omega
 have q8:(i:Int)≤(n:Int)+1:=by omega
 go_region_law (refine iR rfl _ _ 113 113 rfl _ _ (by simp [Act.eval,Act.put]) (by simp [Act.eval,Act.put]) hr1 ?_)
 clear q1 q2 q3 q6 q7 q8 hr1;go_wp2;go_ret;exact ⟨_,rfl,HF.out.1,HF.out.2, .inl rfl⟩
def yL {α:Type} {R:Rel α}:=uV (α:=α) (R:=R) Bv zU yK
theorem Tryz.Ls:∀i z,Tryz.prog.info? 117=some i→i.zero=some z→∀v∈z.cells.toList,v.oneCell'=true:=by
 have h:((Tryz.prog.info? 117).bind (·.zero)).map (fun z=>z.cells.toList.all (·.oneCell'))=some true:=by kernel_rfl
 intro i z hi hz;rw [hi,Option.bind_some,hz,Option.map_some,Option.some.injEq,List.all_eq_true] at h;exact h
theorem uD (w:World) (v:Value) (l:List lK) (S:Nat→Prop) (h:bZ 117 4 mX w v l S) (hS:∀g,v.ownBlock=some g→S g) (hn:l.length≤1000000) (c:Nat) (cap:Value) (p:lK→Bool)
 (hin:∀args w,(callFunc c args).run Tryz.prog w=.ok (.enter c args) w) (hp:yU w v.ownBlock S c cap p) :
 Calls Tryz.prog 102 #[v, .func (.func c) #[] #[cap]] w fun e w'=>∃v',
  e=.returned v'∧bZ 117 4 mX w' v' (l.filter fun x=>!p x) S∧w.grownBy w' v.ownBlock∧v'.ownBlock=v.ownBlock:=by
 rcases j6 p l with ⟨hi,hall⟩ | ⟨n,hnl,hi,hpn,hall⟩
 ·have hl0:l.filter (fun x=>!p x)=l:=List.filter_eq_self.2 fun x hx=>by rw [hall x hx];rfl
  have HC:=iH (oP w v l S (h.read aS (by decide) hS) hn c cap p _ hin hp);have HI:=iH hi;have HL:=iH hl0;clear hl0 hi hp;obtain ⟨va,vc,rfl⟩:=h.shape
  go_enter Tryz.func102,Tryz.ntmps102
  go_wp2_with fail
  refine HC.out.mono ?_;rw [HI.out];rintro e w1 ⟨rfl,hb1⟩;go_wp2;go_ret;exact ⟨_,rfl,by rw [HL.out];exact h.below aS hb1,aY hb1 _,rfl⟩
 ·have HC:=iH (oP w v l S (h.read aS (by decide) hS) hn c cap p _ hin hp)
  have HI:=iH hi;obtain ⟨g,vc,rfl,hlc,hcm⟩:∃g vc,v=.slice (some ⟨g,0,none⟩) l.length vc∧l.length≤vc∧vc≤maxLen:=by
   obtain ⟨rows,h1,h2,h3⟩:=id h
   rcases h2.2 with ⟨rfl,hn⟩ | ⟨g,vc,cur,rfl,_,_,hc,hm,_⟩
   ·omega
   ·exact ⟨g,vc,rfl,hc,hm⟩
  have HK:=iH (Bp hnl hpn hall);unfold maxLen at hcm;have hlen:(l.length:Int)≤1000000:=by omega
  have hni:((n:Int) == -1)=false:=by simp
  have RO:=hS g rfl;clear hall hpn hi hS
  go_enter Tryz.func102,Tryz.ntmps102
  go_wp2_with fail
  refine HC.out.mono ?_;rw [HI.out];rintro e w1 ⟨rfl,hb1⟩;go_wp2
  go_loopw [5,6] (fun i j wr=>∃(a b:Nat) (m:List lK),a<b∧b≤l.length∧i=iI a∧j=iI b∧m.length=l.length∧bZ 117 4 mX wr (.slice (some ⟨g,0,none⟩) l.length vc) m S ∧
   Hid (m.take a=(l.take b).filter fun x=>!p x)∧Hid (m.drop b=l.drop b)∧w.grownBy wr (some g))
   (fun _ j _=>l.length - (intOf j).toNat)
  case atStart=>exact ⟨n,n+1,l,by omega,by omega,rfl,by go_num,rfl,h.below aS hb1,HK.out,rfl,aY hb1 _⟩
  case round =>
   obtain ⟨a,b,m,hab,hbl,rfl,rfl,hml,ho,hk1,hk2,hgr⟩:=hrel;have hws:=hgr.size;have hrd:=ho.read aS (by decide) (fun g' hg'=>by cases hg';exact RO);have hgl:g<wr.heap.size:=ho.lt g rfl;have hfz:∀j,wr.frozen? ⟨g,j,none⟩=false:=by
    obtain ⟨rows,h1,h2,h3⟩:=id ho
    rcases h2.2 with ⟨h,_⟩ | ⟨g',NN,cur,h,_,hg,_⟩
    ·simp at h
    ·simp only [Value.slice.injEq,Option.some.injEq,Addr.mk.injEq,and_true] at h
     obtain ⟨rfl,_,_⟩:=h;exact fun j=>frozen_of_row wr g j cur _ hg
   by_cases hlt:b<l.length
   ·have hmb:b<m.length:=by omega
    obtain ⟨row,hrow,hcells⟩:=ho.at aS hmb;obtain ⟨VH,Ms,xG⟩:=ho.at aS (i:=a) (by omega);have hd:=drop_at hlt hml hk2.out;have HT:Hid (p l[b]=true→m.take a=(l.take (b+1)).filter fun x=>!p x):=fun e=>Du hlt e hk1.out
    have HF:Hid (p l[b]=false→(m.set a l[b]).take (a+1)=(l.take (b+1)).filter fun x=>!p x):=fun e=>Dt hlt (by omega) e hk1.out
    have HD:Hid (m.drop (b+1)=l.drop (b+1)):=DC hk2.out;have HE:Hid ((m.set a l[b]).drop (b+1)=l.drop (b+1)):=Dv hab _ hk2.out;clear hk1 hk2;rw [hd] at hrow;clear hd;generalize l[b]=x at *;generalize m[a]=y at *;have hrow':=hrow;have HO:=iH ho;obtain rfl:=hrow;have q0:=hcells 0 _ rfl;have q1:=hcells 1 _ rfl;have q2:=hcells 2 _ rfl;have q3:=hcells 3 _ rfl;simp only [Nat.add_zero] at q0;have HA:=iH xG;clear hcells xG ho;obtain rfl:=Ms
    by_cases hf:p x=true
    ·have Xn:=iH (HT.out hf)
     clear HT HF HE
     go_wp2_with fail
     refine (hp _ _ (grownBy_alloc hgr _) (aS.sub (aS.below hrow' (aj _ _)) fun b hb _=>hb.1)).mono ?_;rw [hf];rintro e w2 ⟨rfl,hb2⟩;go_wp2
     go_roundw
     case rel=>exact ⟨a,b+1,m,by omega,by omega,rfl,by go_num,hml,HO.out.below aS (ah (aj _ _) hb2),Xn.out,HD.out,grownBy_below (grownBy_alloc hgr _) hb2⟩
     case measure=>simp [intOf];omega
    ·have hf':p x=false:=by simpa using hf
     have XK:=iH (HF.out hf');clear HT HF hf
     go_wp2_with fail
     refine (hp _ _ (grownBy_alloc hgr _) (aS.sub (aS.below hrow' (aj _ _)) fun b hb _=>hb.1)).mono ?_;rw [hf'];rintro e w2 ⟨rfl,hb2⟩;have hb3:=ah (aj wr _) hb2;rw [World.size_alloc] at hb2;obtain ⟨hz,jm,hzs⟩:=fresh hb2;have z0:=hz 0;have z1:=hz 1;have z2:=hz 2;have z3:=hz 3;have hc2:∀j,w2.cell? ⟨g,j,none⟩=wr.cell? ⟨g,j,none⟩:=fun j=>hb3.cell (p:=⟨g,j,none⟩) hgl
     have Wy:∀j,w2.frozen? ⟨g,j,none⟩=false:=fun j=>(hb3.frozen (p:=⟨g,j,none⟩) hgl).trans (hfz j)
     have p0:=(hc2 _).trans (HA.out 0 _ rfl);have p1:=(hc2 _).trans (HA.out 1 _ rfl);have p2:=(hc2 _).trans (HA.out 2 _ rfl);have p3:=(hc2 _).trans (HA.out 3 _ rfl);simp only [Nat.add_zero] at p0;clear hz jm hc2;have hal:a<l.length:=by omega
     go_wp2
     go_roundw
     case rel =>
      refine ⟨a+1,b+1,m.set a x,by omega,by omega,by go_num,by go_num,by simp [hml],?_,XK.out,HE.out,?_⟩
      ·exact (HO.out.below aS hb3).setRow aS (i:=a) (by omega) (x:=x) (cs:=[iI x.seq, iI x.aI.code, iI x.aI.n, iS x.aI.text]) (aS.below hrow' hb3)
      ·exact j5 (.inl rfl) [iI x.seq, iI x.aI.code, iI x.aI.n, iS x.aI.text] (a*4) w2 (grownBy_below hgr hb3)
     case measure=>simp [intOf];omega
   ·obtain rfl:b=l.length:=by omega
    have HM:Hid (m.take a=l.filter fun x=>!p x):=by have:=hk1.out;rwa [List.take_length] at this
    obtain ⟨cur,hg,hcs⟩:∃cur,wr.heap[g]?=some (.cells cur 117 (0,0))∧cur.size=vc*4:=by
     obtain ⟨rows,h1,h2,h3⟩:=id ho
     rcases h2.2 with ⟨h,_⟩ | ⟨g',NN,cur,h,_,hg,_,_,hs,_⟩
     ·simp at h
     ·simp only [Value.slice.injEq,Option.some.injEq,Addr.mk.injEq,and_true] at h
      obtain ⟨rfl,_,rfl⟩:=h;exact ⟨cur,hg,hs⟩
    have hcl:cur.toList.length=vc*4:=by simpa using hcs
    obtain ⟨zs,hzl,hr1⟩:=lg (P:=Tryz.prog) (ty:=0) wr Tryz.DZ g (a*4) (l.length - a) (vc - a) cur hg (by rw [hcs];omega) Tryz.Ls;obtain ⟨wc,hwc⟩:∃wc,wc=wr.setRow g (splice cur.toList (a*4) zs).toArray:=⟨_,rfl⟩;rw [←hwc] at hr1;have hfin:bZ 117 4 mX wc (.slice (some ⟨g,0,none⟩) a vc) (m.take a) S∧w.grownBy wc (some g):=by
     have hgc:wc.heap[g]?=some (.cells (splice cur.toList (a*4) zs).toArray 117 (0,0)):=by rw [hwc];exact setRow_heap wr g _ _ _ _ hg
     refine ⟨ho.cut aS (by omega) ?_ (fun j hj=>?_) (fun b' _ hb' _=>by rw [hwc];exact setRow_other wr g b' _ hb'),?_⟩
     ·intro c0 E0 fz0 h0
      rw [hg] at h0;cases h0;exact ⟨_,hgc,by rw [List.size_toArray,length_splice _ _ _ (by omega)];simp⟩
     ·rw [dN hgc,dN hg,←Array.getElem?_toList,←Array.getElem?_toList]
      have:=qF cur.toList (a*4) zs (by omega);have h2:((splice cur.toList (a*4) zs).take (a*4+zs.length))[j]?=(cur.toList.take (a*4)++zs)[j]?:=by rw [this]
      rw [List.getElem?_take_of_lt (by omega),List.getElem?_append_left (by rw [List.length_take];omega),List.getElem?_take_of_lt (by omega)] at h2;exact h2
     ·rw [hwc];exact grownBy_trans hgr ⟨rfl,rfl,rfl,by simp [World.setRow],fun k _ hk=>setRow_other wr g k _ (fun e=>hk (by rw [e]))⟩
    have HF:=iH hfin;clear hfin hg hcs hcl hwc hk1 hk2 ho hrd hfz;have hal:a≤l.length:=by omega
    have WN:a≤vc:=by omega
    have hne:¬ vc=a:=by omega
    go_wp2_with (at_builtin;refine eU rfl (.tmp 38) _ rfl _ rfl hr1 ?_)
    go_ret;exact ⟨_,rfl,by rw [←HM.out];exact HF.out.1,HF.out.2,rfl⟩
end Go.Proofs.YtbngpjdflblffaaGreatDoor
