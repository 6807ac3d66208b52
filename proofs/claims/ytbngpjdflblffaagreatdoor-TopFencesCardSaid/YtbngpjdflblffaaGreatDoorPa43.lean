/- A part of the proof, laid together from: CustH, DelMail, IdxCust. -/
import Derived.Test.YtbngpjdflblffaaGreatDoorPa42
set_option linter.all false
set_option maxRecDepth 100000
set_option maxHeartbeats 6400000
namespace Go.Tk
open Go Go.RowKit
theorem zu {k:Nat}:∀(rs:List (List Value)),(∀r∈rs,r.length=k)→rs.flatten.length=rs.length*k
 | [],_=>by simp
 | r::rs,h=>by
   rw [List.flatten_cons,List.length_append,List.length_cons,zu rs fun r hr=>h r (by simp [hr]),h r (by simp),Nat.add_mul];omega
theorem nJ.toR {α:Type} {E k:Nat} {R:Rel α} (hR:cu R k) (hk:0<k) {w:World} {g n cap:Nat} {l:List α} {S:Nat→Prop} {cur:Array Value} (h:nJ E k R w (.slice (some ⟨g,0,none⟩) n cap) l S) (hg:w.heap[g]?=some (.cells cur E (0,0))) (hs:cur.size=cap*k) :
 bZ E k R w (.slice (some ⟨g,0,none⟩) n cap) l S:=by
 rcases h with ⟨h,_⟩ | ⟨g',off',cap',cur',rows,hv,hg',h1,h2,h3,h4,h5,h6⟩
 ·cases h
 simp only [Value.slice.injEq,Option.some.injEq,Addr.mk.injEq,and_true] at hv;obtain ⟨⟨rfl,rfl⟩,rfl,rfl⟩:=hv;rw [hg] at hg';cases hg';have hlen:=bZ.jq (E:=E) (v:=.slice (some ⟨g,0,none⟩) 0 0) hR h4 h6;have hfl:=zu rows hlen;have hm:=Nat.mul_le_mul_right k h1;refine ⟨rows,h4,⟨by rw [hfl,h4], .inr ⟨g,cap,cur,rfl,Nat.zero_le _,hg,h1,h2,hs,?_⟩⟩,fun i r x hr hx=>hR.sub (h6 i r x hr hx) fun b hb _=>⟨hb.1,fun e=>hb.2 (by cases e;rfl)⟩⟩
 apply List.ext_getElem?
 intro q;rw [List.getElem?_take]
 split
 ·rename_i hq
  have hi:q / k<l.length:=Nat.div_lt_of_lt_mul (by rw [Nat.mul_comm];exact hq);have hj:=Nat.mod_lt q hk;have hr:rows[q / k]?=some (rows[q / k]'(by omega)):=List.getElem?_eq_getElem (by omega);have hrl:=hlen _ (List.getElem_mem (l:=rows) (n:=q / k) (by omega));have hu:(rows[q / k]'(by omega))[q % k]?=some ((rows[q / k]'(by omega))[q % k]'(by omega)):=List.getElem?_eq_getElem (by omega);have e1:=flatten_getElem? rows hlen _ _ _ _ hr hu;have e2:=h5 _ _ hr _ _ hu;have e3:q / k*k+q % k=q:=by rw [Nat.mul_comm];exact Nat.div_add_mod q k
  rw [Nat.zero_add,e3] at e2;rw [e3] at e1;rw [e1,←e2];simp
 ·rename_i hq
  rw [List.getElem?_eq_none (by rw [hfl,h4];omega)]
end Go.Tk
namespace Go.Proofs.YtbngpjdflblffaaGreatDoor
open Go.RowKit Go.Tk
theorem Gb (x:oH) (m:kM) (B:Nat) (w:World) (h:w.cell? ⟨B,1,none⟩=some (iI m.seq)) (hl:B<w.heap.size) :
 Calls Tryz.prog 157 #[.agg #[iI x.seq, iI x.op.kind, iS x.op.a, iS x.op.b, iI x.op.n], iP B 0] w fun e w''=>e=.returned (.bool (x.seq == m.seq))∧Below w.heap.size w w'':=by
 go_enter Tryz.func157,Tryz.ntmps157
 go_wp2;go_ret;exact ⟨rfl,aj w _⟩
theorem BJ (c:bA) (m:kM) (v:Value) (S:Nat→Prop) (w:World) (h:aZ 5 fI w v c.waits S) (hok:gB c) :
 Calls Tryz.prog 132 #[.agg #[iI c.id, iI c.session, iI c.next,v], .agg #[iI m.client, iI m.seq, iI m.aI.code, iI m.aI.n, iS m.aI.text]] w (OT w (kE c m)):=by
 have HV:=iH (show kE c m=if m.client≠c.id then (fu,6) else if m.seq=0 then (if 0<c.session then (fu,12) else if m.aI.code≠0∧m.aI.code≠7 then (c,0) else if m.aI.n<1∨1073741824<m.aI.n then (fu,2) else (⟨c.id,m.aI.n,c.next,c.waits⟩,0))
  else if c.waits.length≤oK c.waits m.seq then (fu,12) else if m.aI.code=11 then (⟨c.id,0,c.next,[]⟩,0) else (⟨c.id,c.session,c.next,c.waits.eraseIdx (oK c.waits m.seq)⟩,0) by rw [kE,if_neg (by simp [lF.2 hok])])
 obtain ⟨s0,s1⟩:=hok.session;have hlen:=hok.len;have HK:=iH hok;have hone:=h.oneCell;obtain ⟨a,cap,hv,hl,hm,-,-⟩:=id h;subst hv;unfold maxLen at hm;have HS:=iH h;clear h hok hm
 go_enter Tryz.func132,Tryz.ntmps132
 go_wp2_with fail
 refine (l8 c _ S _ (HS.out.below aV (by decide) (ah (ah (aj w _) (aj _ _)) (aj _ _))) HK.out).mono ?_;rintro e w1 ⟨rfl,hb1⟩;simp only [World.size_alloc] at hb1;obtain ⟨hX,hM,hR,hB⟩:=TQ (c1:=[iI c.id, iI c.session, iI c.next, .slice a c.waits.length cap]) (c2:=[iI m.client, iI m.seq, iI m.aI.code, iI m.aI.n, iS m.aI.text]) (c3:=[iI 0, iI 0, iI 0, iN]) hb1;have HX:=iH hX;have HM:=iH hM;have HR:=iH hR;have HB:=iH hB;replace HS:=iH (HS.out.below aV (by decide) hB);clear hX hM hR hB hb1;obtain ⟨x0,x1,x2,x3⟩:=dJ HX.out;obtain ⟨t0,t1,t2,t3⟩:=nH HX.out;obtain ⟨m0,m1,m2,m3⟩:=dJ HM.out;obtain ⟨r0,r1,r2,r3⟩:=dJ HR.out;obtain ⟨f0,f1,f2,f3⟩:=nH HR.out
 by_cases hcl:m.client=c.id
 case neg =>
  have HF:=iH (HV.out.trans (if_pos hcl));have hcb:(m.client == c.id)=false:=by simpa using hcl
  clear hcl;go_wp2;have hp:=((((HR.out).set 0 (by simp) (iI 0)).set 1 (by simp) (iI 0)).set 2 (by simp) (iI 0)).set 3 (by simp) (iN);have hbf:=ay (b:=w.heap.size+1+1) (ay (b:=w.heap.size+1+1) (ay (b:=w.heap.size+1+1) (ay (b:=w.heap.size+1+1) (Below.refl (w.heap.size) w1) (by omega) 0 (iI 0)) (by omega) 1 (iI 0)) (by omega) 2 (iI 0)) (by omega) 3 (iN);generalize (((w1.setCell ⟨w.heap.size+1+1,0,none⟩ (iI 0)).setCell ⟨w.heap.size+1+1,1,none⟩ (iI 0)).setCell ⟨w.heap.size+1+1,2,none⟩ (iI 0)).setCell ⟨w.heap.size+1+1,3,none⟩ (iN)=wf at *;obtain ⟨p0,p1,p2,p3⟩:=dJ hp;refine bodyPost_ret (v:=.tuple #[.agg #[iI 0, iI 0, iI 0, iN], iI 6]) (by simp [results,Tryz.results132,go_sem,p0,p1,p2,p3]) rfl ?_;rw [HF.out];exact ⟨_,rfl,aZ.nil _ _,HB.out.trans hbf⟩
 have hcb:(m.client == c.id)=true:=by simpa using hcl
 have wO:=iH (HV.out.trans (if_neg (fun h=>h hcl)));clear HV hcl
 go_wp2_with fail
 refine (qh c _ _ _ HS.out (by omega)).mono ?_;rintro e w6 ⟨v6,rfl,yN,tF,hb6⟩;obtain ⟨ra,rc,rfl⟩:=yN.shape;clear x0 x1 x2 x3 t0 t1 t2 t3 m0 m1 m2 m3 r0 r1 r2 r3 f0 f1 f2 f3;have Qx:w.heap.size+1+1<w1.heap.size:=HR.out.lt;replace HX:=iH (HX.out.below hb6);replace HM:=iH (HM.out.below hb6);replace HR:=iH (HR.out.below hb6);replace HB:=iH (ah HB.out hb6);replace HS:=iH (HS.out.below aV (by decide) hb6);clear hb6;obtain ⟨x0,x1,x2,x3⟩:=dJ HX.out;obtain ⟨t0,t1,t2,t3⟩:=nH HX.out;have vW:=iH (show ∀g,(Value.slice ra c.waits.length rc).ownBlock=some g→w.heap.size+1+1<g from fun g hg=>Nat.lt_of_lt_of_le Qx (tF g hg));have NF:=iH (((((HX.out).set 0 (by simp) (iI c.id)).set 1 (by simp) (iI c.session)).set 2 (by simp) (iI c.next)).set 3 (by simp) (.slice ra c.waits.length rc));have Uj:=iH (HM.out.keep (w':=(((w6.setCell ⟨w.heap.size,0,none⟩ (iI c.id)).setCell ⟨w.heap.size,1,none⟩ (iI c.session)).setCell ⟨w.heap.size,2,none⟩ (iI c.next)).setCell ⟨w.heap.size,3,none⟩ (.slice ra c.waits.length rc)) ((aC (by omega)).trans ((aC (by omega)).trans ((aC (by omega)).trans (aC (by omega))))))
 have JQ:=iH (HR.out.keep (w':=(((w6.setCell ⟨w.heap.size,0,none⟩ (iI c.id)).setCell ⟨w.heap.size,1,none⟩ (iI c.session)).setCell ⟨w.heap.size,2,none⟩ (iI c.next)).setCell ⟨w.heap.size,3,none⟩ (.slice ra c.waits.length rc)) ((aC (by omega)).trans ((aC (by omega)).trans ((aC (by omega)).trans (aC (by omega))))));have qZ:=iH (HB.out.trans (ay (ay (ay (ay (Below.refl (w.heap.size) w6) (Nat.le_refl _) 0 (iI c.id)) (Nat.le_refl _) 1 (iI c.session)) (Nat.le_refl _) 2 (iI c.next)) (Nat.le_refl _) 3 (.slice ra c.waits.length rc)));have O4:=iH (show bZ 138 5 fI ((((w6.setCell ⟨w.heap.size,0,none⟩ (iI c.id)).setCell ⟨w.heap.size,1,none⟩ (iI c.session)).setCell ⟨w.heap.size,2,none⟩ (iI c.next)).setCell ⟨w.heap.size,3,none⟩ (.slice ra c.waits.length rc)) (.slice ra c.waits.length rc) c.waits (fun _=>False) from yN.move aV (fun g hg=>(aC (by have:=vW.out g hg;omega)).trans ((aC (by have:=vW.out g hg;omega)).trans ((aC (by have:=vW.out g hg;omega)).trans (aC (by have:=vW.out g hg;omega))))) (fun b hb=>hb.elim));clear yN tF;go_upto_region 7 with (fail);generalize (((w6.setCell ⟨w.heap.size,0,none⟩ (iI c.id)).setCell ⟨w.heap.size,1,none⟩ (iI c.session)).setCell ⟨w.heap.size,2,none⟩ (iI c.next)).setCell ⟨w.heap.size,3,none⟩ (.slice ra c.waits.length rc)=w7 at *
 clear x0 x1 x2 x3 t0 t1 t2 t3 HX HM HR HB HS;obtain ⟨x0,x1,x2,x3⟩:=dJ NF.out;obtain ⟨t0,t1,t2,t3⟩:=nH NF.out;obtain ⟨m0,m1,m2,m3⟩:=dJ Uj.out;obtain ⟨r0,r1,r2,r3⟩:=dJ JQ.out;obtain ⟨f0,f1,f2,f3⟩:=nH JQ.out
 by_cases Px:m.seq=0
 case pos =>
  have hsb:(m.seq == 0)=true:=by simpa using Px
  have Lh:=iH (wO.out.trans (if_pos Px));clear wO Px
  by_cases hss:0<c.session
  case pos =>
   have HF:=iH (Lh.out.trans (if_pos hss));go_wp2;have hp:=((((JQ.out).set 0 (by simp) (iI 0)).set 1 (by simp) (iI 0)).set 2 (by simp) (iI 0)).set 3 (by simp) (iN);have hbf:=ay (b:=w.heap.size+1+1) (ay (b:=w.heap.size+1+1) (ay (b:=w.heap.size+1+1) (ay (b:=w.heap.size+1+1) (Below.refl (w.heap.size) w7) (by omega) 0 (iI 0)) (by omega) 1 (iI 0)) (by omega) 2 (iI 0)) (by omega) 3 (iN);generalize (((w7.setCell ⟨w.heap.size+1+1,0,none⟩ (iI 0)).setCell ⟨w.heap.size+1+1,1,none⟩ (iI 0)).setCell ⟨w.heap.size+1+1,2,none⟩ (iI 0)).setCell ⟨w.heap.size+1+1,3,none⟩ (iN)=wf at *;obtain ⟨p0,p1,p2,p3⟩:=dJ hp;refine bodyPost_ret (v:=.tuple #[.agg #[iI 0, iI 0, iI 0, iN], iI 12]) (by simp [results,Tryz.results132,go_sem,p0,p1,p2,p3]) rfl ?_;rw [HF.out];exact ⟨_,rfl,aZ.nil _ _,qZ.out.trans hbf⟩
  have JP:=iH (Lh.out.trans (if_neg hss))
  by_cases hc0:m.aI.code≠0∧m.aI.code≠7
  case pos =>
   have hcp:¬ m.aI.code=0:=hc0.1;have hc1:(m.aI.code != 0)=true:=by simpa using hc0.1
   have hc2:(m.aI.code != 7)=true:=by simpa using hc0.2
   have HF:=iH (JP.out.trans (if_pos hc0));clear hc0 JP Lh;go_wp2;have hp:=((((JQ.out).set 0 (by simp) (iI c.id)).set 1 (by simp) (iI c.session)).set 2 (by simp) (iI c.next)).set 3 (by simp) (.slice ra c.waits.length rc);have hbf:=ay (b:=w.heap.size+1+1) (ay (b:=w.heap.size+1+1) (ay (b:=w.heap.size+1+1) (ay (b:=w.heap.size+1+1) (Below.refl (w.heap.size) w7) (by omega) 0 (iI c.id)) (by omega) 1 (iI c.session)) (by omega) 2 (iI c.next)) (by omega) 3 (.slice ra c.waits.length rc);have wu:aZ 5 fI ((((w7.setCell ⟨w.heap.size+1+1,0,none⟩ (iI c.id)).setCell ⟨w.heap.size+1+1,1,none⟩ (iI c.session)).setCell ⟨w.heap.size+1+1,2,none⟩ (iI c.next)).setCell ⟨w.heap.size+1+1,3,none⟩ (.slice ra c.waits.length rc)) (.slice ra c.waits.length rc) (c.waits) (fun b=>w.heap.size≤b):=(O4.out.move (S':=fun _=>False) aV (fun g hg=>(aC (by have:=vW.out g hg;omega)).trans ((aC (by have:=vW.out g hg;omega)).trans ((aC (by have:=vW.out g hg;omega)).trans (aC (by have:=vW.out g hg;omega))))) (fun b hb=>hb.elim)).tV (fun g hg=>by have:=vW.out g hg;show w.heap.size≤g;omega);generalize (((w7.setCell ⟨w.heap.size+1+1,0,none⟩ (iI c.id)).setCell ⟨w.heap.size+1+1,1,none⟩ (iI c.session)).setCell ⟨w.heap.size+1+1,2,none⟩ (iI c.next)).setCell ⟨w.heap.size+1+1,3,none⟩ (.slice ra c.waits.length rc)=wf at *;obtain ⟨p0,p1,p2,p3⟩:=dJ hp
   refine bodyPost_ret (v:=.tuple #[.agg #[iI c.id, iI c.session, iI c.next, .slice ra c.waits.length rc], iI 0]) (by simp [results,Tryz.results132,go_sem,p0,p1,p2,p3]) rfl ?_;rw [HF.out];exact ⟨_,rfl,wu,qZ.out.trans hbf⟩
  have HV5:=iH (JP.out.trans (if_neg hc0));have hc1:m.aI.code=0∨m.aI.code=7:=by
   by_cases h:m.aI.code=0
   ·exact .inl h
   ·by_cases h7:m.aI.code=7
    ·exact .inr h7
    ·exact absurd ⟨h,h7⟩ hc0
  clear hc0 Lh JP
  by_cases hnn:m.aI.n<1∨1073741824<m.aI.n
  case pos =>
   have HF:=iH (HV5.out.trans (if_pos hnn))
   rcases hc1 with hc1 | hc1
   all_goals
    rcases (show m.aI.n<1∨(1≤m.aI.n∧1073741824<m.aI.n) by omega) with hn1 | ⟨hn1,hn2⟩
    all_goals
     go_wp2;have hp:=((((JQ.out).set 0 (by simp) (iI 0)).set 1 (by simp) (iI 0)).set 2 (by simp) (iI 0)).set 3 (by simp) (iN);have hbf:=ay (b:=w.heap.size+1+1) (ay (b:=w.heap.size+1+1) (ay (b:=w.heap.size+1+1) (ay (b:=w.heap.size+1+1) (Below.refl (w.heap.size) w7) (by omega) 0 (iI 0)) (by omega) 1 (iI 0)) (by omega) 2 (iI 0)) (by omega) 3 (iN);generalize (((w7.setCell ⟨w.heap.size+1+1,0,none⟩ (iI 0)).setCell ⟨w.heap.size+1+1,1,none⟩ (iI 0)).setCell ⟨w.heap.size+1+1,2,none⟩ (iI 0)).setCell ⟨w.heap.size+1+1,3,none⟩ (iN)=wf at *;obtain ⟨p0,p1,p2,p3⟩:=dJ hp;refine bodyPost_ret (v:=.tuple #[.agg #[iI 0, iI 0, iI 0, iN], iI 2]) (by simp [results,Tryz.results132,go_sem,p0,p1,p2,p3]) rfl ?_;rw [HF.out];exact ⟨_,rfl,aZ.nil _ _,qZ.out.trans hbf⟩
  have HF:=iH (HV5.out.trans (if_neg hnn));have hn1:1≤m.aI.n:=by omega
  have hn2:m.aI.n≤1073741824:=by omega
  clear hnn HV5
  rcases hc1 with hc1 | hc1
  all_goals
   go_wp2;have Py:=JQ.out.far (c:=w.heap.size) (by omega) 1 (iI m.aI.n);have nu:=O4.out.move (w':=w7.setCell ⟨w.heap.size,1,none⟩ (iI m.aI.n)) (S':=fun _=>False) aV (fun g hg=>aC (by have:=vW.out g hg;omega)) (fun b hb=>hb.elim);have ET:=qZ.out.trans (ay (b:=w.heap.size) (Below.refl w.heap.size w7) (Nat.le_refl _) 1 (iI m.aI.n));have hp:=((((Py).set 0 (by simp) (iI c.id)).set 1 (by simp) (iI m.aI.n)).set 2 (by simp) (iI c.next)).set 3 (by simp) (.slice ra c.waits.length rc);have hbf:=ay (b:=w.heap.size+1+1) (ay (b:=w.heap.size+1+1) (ay (b:=w.heap.size+1+1) (ay (b:=w.heap.size+1+1) (Below.refl (w.heap.size) (w7.setCell ⟨w.heap.size,1,none⟩ (iI m.aI.n))) (by omega) 0 (iI c.id)) (by omega) 1 (iI m.aI.n)) (by omega) 2 (iI c.next)) (by omega) 3 (.slice ra c.waits.length rc)
   have wu:aZ 5 fI (((((w7.setCell ⟨w.heap.size,1,none⟩ (iI m.aI.n)).setCell ⟨w.heap.size+1+1,0,none⟩ (iI c.id)).setCell ⟨w.heap.size+1+1,1,none⟩ (iI m.aI.n)).setCell ⟨w.heap.size+1+1,2,none⟩ (iI c.next)).setCell ⟨w.heap.size+1+1,3,none⟩ (.slice ra c.waits.length rc)) (.slice ra c.waits.length rc) (c.waits) (fun b=>w.heap.size≤b):=(nu.move (S':=fun _=>False) aV (fun g hg=>(aC (by have:=vW.out g hg;omega)).trans ((aC (by have:=vW.out g hg;omega)).trans ((aC (by have:=vW.out g hg;omega)).trans (aC (by have:=vW.out g hg;omega))))) (fun b hb=>hb.elim)).tV (fun g hg=>by have:=vW.out g hg;show w.heap.size≤g;omega);generalize ((((w7.setCell ⟨w.heap.size,1,none⟩ (iI m.aI.n)).setCell ⟨w.heap.size+1+1,0,none⟩ (iI c.id)).setCell ⟨w.heap.size+1+1,1,none⟩ (iI m.aI.n)).setCell ⟨w.heap.size+1+1,2,none⟩ (iI c.next)).setCell ⟨w.heap.size+1+1,3,none⟩ (.slice ra c.waits.length rc)=wf at *;obtain ⟨p0,p1,p2,p3⟩:=dJ hp;refine bodyPost_ret (v:=.tuple #[.agg #[iI c.id, iI m.aI.n, iI c.next, .slice ra c.waits.length rc], iI 0]) (by simp [results,Tryz.results132,go_sem,p0,p1,p2,p3]) rfl ?_;rw [HF.out];exact ⟨_,rfl,wu,ET.trans hbf⟩
 have hsb:(m.seq == 0)=false:=by simpa using Px
 have Lh:=iH (wO.out.trans (if_neg Px));clear wO Px;have hin:=fun args w=>MuLone.run_callFunc_enter Tryz.func157 (by kernel_rfl) rfl args w
 have SK:=O4.out.tV (S':=fun _=>True) (fun _ _=>trivial);have hp:DL w7 none (fun _=>True) 157 (iP (w.heap.size+1) 0) (fun x=>x.seq == m.seq):=fun w' y hg hr=>by
  refine Gb y m (w.heap.size+1) w' (aB m1 (hg.block _ Uj.out.lt (by simp))) (Nat.lt_of_lt_of_le Uj.out.lt hg.size)
 have HI:=iH (zV w7 _ c.waits (fun _=>True) SK (by omega) 157 (iP (w.heap.size+1) 0) (fun x=>x.seq == m.seq) none hin hp);clear hin SK hp
 go_wp2_with fail
 refine HI.out.mono ?_;rw [EX];rintro e w8 ⟨rfl,ET⟩;clear HI;clear x0 x1 x2 x3 t0 t1 t2 t3 m0 m1 m2 m3 r0 r1 r2 r3 f0 f1 f2 f3;have Xi:=iH (NF.out.below ET);have HM8:=iH (Uj.out.below ET);have R3:=iH (JQ.out.below ET);have Vw:=iH (ah qZ.out ET);have Vo:=iH (O4.out.below aV ET);clear NF Uj JQ qZ O4 ET;obtain ⟨x0,x1,x2,x3⟩:=dJ Xi.out;obtain ⟨t0,t1,t2,t3⟩:=nH Xi.out;obtain ⟨m0,m1,m2,m3⟩:=dJ HM8.out;obtain ⟨r0,r1,r2,r3⟩:=dJ R3.out;obtain ⟨f0,f1,f2,f3⟩:=nH R3.out
 by_cases hnf:c.waits.length≤oK c.waits m.seq
 case pos =>
  have HF:=iH (Lh.out.trans (if_pos hnf));rw [if_neg (by omega)];go_wp2;have hp:=((((R3.out).set 0 (by simp) (iI 0)).set 1 (by simp) (iI 0)).set 2 (by simp) (iI 0)).set 3 (by simp) (iN);have hbf:=ay (b:=w.heap.size+1+1) (ay (b:=w.heap.size+1+1) (ay (b:=w.heap.size+1+1) (ay (b:=w.heap.size+1+1) (Below.refl (w.heap.size) w8) (by omega) 0 (iI 0)) (by omega) 1 (iI 0)) (by omega) 2 (iI 0)) (by omega) 3 (iN);generalize (((w8.setCell ⟨w.heap.size+1+1,0,none⟩ (iI 0)).setCell ⟨w.heap.size+1+1,1,none⟩ (iI 0)).setCell ⟨w.heap.size+1+1,2,none⟩ (iI 0)).setCell ⟨w.heap.size+1+1,3,none⟩ (iN)=wf at *;obtain ⟨p0,p1,p2,p3⟩:=dJ hp;refine bodyPost_ret (v:=.tuple #[.agg #[iI 0, iI 0, iI 0, iN], iI 12]) (by simp [results,Tryz.results132,go_sem,p0,p1,p2,p3]) rfl ?_;rw [HF.out];exact ⟨_,rfl,aZ.nil _ _,Vw.out.trans hbf⟩
 have JP:=iH (Lh.out.trans (if_neg hnf));rw [if_pos (by omega)];have hwl:oK c.waits m.seq<c.waits.length:=by omega
 generalize oK c.waits m.seq=i at *;clear hnf Lh
 by_cases hcd:m.aI.code=11
 case pos =>
  have HF:=iH (JP.out.trans (if_pos hcd));have WB:(m.aI.code == 11)=true:=by simpa using hcd
  clear hcd;go_wp2;have Py:=(R3.out.far (c:=w.heap.size) (by omega) 1 (iI 0)).far (c:=w.heap.size) (by omega) 3 (iN);have gQ:=Vw.out.trans (ay (b:=w.heap.size) (ay (b:=w.heap.size) (Below.refl w.heap.size w8) (Nat.le_refl _) 1 (iI 0)) (Nat.le_refl _) 3 (iN));have hp:=((((Py).set 0 (by simp) (iI c.id)).set 1 (by simp) (iI 0)).set 2 (by simp) (iI c.next)).set 3 (by simp) (iN);have hbf:=ay (b:=w.heap.size+1+1) (ay (b:=w.heap.size+1+1) (ay (b:=w.heap.size+1+1) (ay (b:=w.heap.size+1+1) (Below.refl (w.heap.size) ((w8.setCell ⟨w.heap.size,1,none⟩ (iI 0)).setCell ⟨w.heap.size,3,none⟩ (iN))) (by omega) 0 (iI c.id)) (by omega) 1 (iI 0)) (by omega) 2 (iI c.next)) (by omega) 3 (iN);generalize (((((w8.setCell ⟨w.heap.size,1,none⟩ (iI 0)).setCell ⟨w.heap.size,3,none⟩ (iN)).setCell ⟨w.heap.size+1+1,0,none⟩ (iI c.id)).setCell ⟨w.heap.size+1+1,1,none⟩ (iI 0)).setCell ⟨w.heap.size+1+1,2,none⟩ (iI c.next)).setCell ⟨w.heap.size+1+1,3,none⟩ (iN)=wf at *;obtain ⟨p0,p1,p2,p3⟩:=dJ hp;refine bodyPost_ret (v:=.tuple #[.agg #[iI c.id, iI 0, iI c.next, iN], iI 0]) (by simp [results,Tryz.results132,go_sem,p0,p1,p2,p3]) rfl ?_;rw [HF.out];exact ⟨_,rfl,aZ.nil _ _,gQ.trans hbf⟩
 have HF:=iH (JP.out.trans (if_neg hcd));have WB:(m.aI.code == 11)=false:=by simpa using hcd
 clear hcd JP;have HD:=iH (CJ w8 _ c.waits (fun _=>False) (Vo.out.Pk aV) (by omega) i hwl);have e1:IntKind.i64.wrap ((i:Int)+1)=(i:Int)+1:=IntWalk.i64_in _ (by omega)
 go_wp2_with fail
 refine HD.out.mono ?_;rintro e w9 ⟨v9,rfl,Qu,Il,Eu⟩;clear HD x0 x1 x2 x3 t0 t1 t2 t3 m0 m1 m2 m3 r0 r1 r2 r3 f0 f1 f2 f3;obtain ⟨rb,rd,rfl⟩:=Qu.shape;have Yb:=Xi.out.grown Il (fun e=>by have:=vW.out _ e.symm;omega);have Py:=R3.out.grown Il (fun e=>by have:=vW.out _ e.symm;omega);have lS:=iH (Vw.out.grown Il Vw.out.size (fun k hk=>by have:=vW.out k hk;omega));have GQ:=iH (FM (v:=.slice ra c.waits.length rc) vW.out R3.out.lt (.inl Eu));have oI:=iH Yb;have GK:=iH Py;have GM:=iH Qu;clear Yb Py Il Eu Qu;generalize c.waits.eraseIdx i=L at *;obtain ⟨x0,x1,x2,x3⟩:=dJ oI.out;obtain ⟨t0,t1,t2,t3⟩:=nH oI.out;obtain ⟨r0,r1,r2,r3⟩:=dJ GK.out;obtain ⟨f0,f1,f2,f3⟩:=nH GK.out;go_wp2;have V5:=GK.out.far (c:=w.heap.size) (by omega) 3 (.slice rb L.length rd);have WL:=lS.out.trans (ay (b:=w.heap.size) (Below.refl w.heap.size w9) (Nat.le_refl _) 3 (.slice rb L.length rd));have XR:=GM.out.move (w':=w9.setCell ⟨w.heap.size,3,none⟩ (.slice rb L.length rd)) (S':=fun _=>False) aV (fun g hg=>aC (by have:=GQ.out g hg;omega)) (fun b hb=>hb.elim);have hp:=((((V5).set 0 (by simp) (iI c.id)).set 1 (by simp) (iI c.session)).set 2 (by simp) (iI c.next)).set 3 (by simp) (.slice rb L.length rd)
 have hbf:=ay (b:=w.heap.size+1+1) (ay (b:=w.heap.size+1+1) (ay (b:=w.heap.size+1+1) (ay (b:=w.heap.size+1+1) (Below.refl (w.heap.size) (w9.setCell ⟨w.heap.size,3,none⟩ (.slice rb L.length rd))) (by omega) 0 (iI c.id)) (by omega) 1 (iI c.session)) (by omega) 2 (iI c.next)) (by omega) 3 (.slice rb L.length rd);have wu:aZ 5 fI (((((w9.setCell ⟨w.heap.size,3,none⟩ (.slice rb L.length rd)).setCell ⟨w.heap.size+1+1,0,none⟩ (iI c.id)).setCell ⟨w.heap.size+1+1,1,none⟩ (iI c.session)).setCell ⟨w.heap.size+1+1,2,none⟩ (iI c.next)).setCell ⟨w.heap.size+1+1,3,none⟩ (.slice rb L.length rd)) (.slice rb L.length rd) (L) (fun b=>w.heap.size≤b):=(XR.move (S':=fun _=>False) aV (fun g hg=>(aC (by have:=GQ.out g hg;omega)).trans ((aC (by have:=GQ.out g hg;omega)).trans ((aC (by have:=GQ.out g hg;omega)).trans (aC (by have:=GQ.out g hg;omega))))) (fun b hb=>hb.elim)).JW (fun g hg=>by have:=GQ.out g hg;show w.heap.size≤g;omega);generalize ((((w9.setCell ⟨w.heap.size,3,none⟩ (.slice rb L.length rd)).setCell ⟨w.heap.size+1+1,0,none⟩ (iI c.id)).setCell ⟨w.heap.size+1+1,1,none⟩ (iI c.session)).setCell ⟨w.heap.size+1+1,2,none⟩ (iI c.next)).setCell ⟨w.heap.size+1+1,3,none⟩ (.slice rb L.length rd)=wf at *;obtain ⟨p0,p1,p2,p3⟩:=dJ hp
 refine bodyPost_ret (v:=.tuple #[.agg #[iI c.id, iI c.session, iI c.next, .slice rb L.length rd], iI 0]) (by simp [results,Tryz.results132,go_sem,p0,p1,p2,p3]) rfl ?_;rw [HF.out];exact ⟨_,rfl,wu,WL.trans hbf⟩
theorem Tryz.Ja:dM Tryz.prog 48 101 5 48:=⟨Tryz.underlying48,by kernel_rfl,by decide⟩
theorem Tryz.JV:∀i z,Tryz.prog.info? 101=some i→i.zero=some z→∀v∈z.cells.toList,v.oneCell'=true:=by
 intro i z hi hz;have h:(Tryz.prog.info? 101).map (fun i=>i.zero)=some (some (.agg #[iI 0, iI 0, iI 0, iI 0, .string ⟨#[]⟩])):=by kernel_rfl
 rw [hi] at h;simp only [Option.map_some,Option.some.injEq] at h;rw [h] at hz;cases hz;intro v hv;simp [Value.cells] at hv
 rcases hv with rfl | rfl | rfl | rfl | rfl<;>rfl
theorem CL (w:World) (v:Value) (l:List kM) (S:Nat→Prop) (h0:bZ 101 5 jV w v l S) (hn:l.length≤1000000) (i:Nat) (hi:i<l.length) :
 Calls Tryz.prog 129 #[v, iI i, iI ((i:Int)+1)] w fun e w'=>∃v',e=.returned v'∧bZ 101 5 jV w' v' (l.eraseIdx i) S∧w.grownBy w' v.ownBlock∧v'.ownBlock=v.ownBlock:=by
 obtain ⟨g,off,n,cap,rfl,hoff⟩:∃g off n cap,v=.slice (some ⟨g,off,none⟩) n cap∧off=0:=by
  rcases h0.D9 with ⟨_,h1⟩ | ⟨g,cap,h1⟩
  ·subst h1;simp at hi
  ·exact ⟨g,0,_,cap,h1,rfl⟩
 have h:=h0.Pk bT;obtain ⟨OI,Pz,Tu⟩:∃OI,w.heap[g]?=some (.cells OI 101 (0,0))∧OI.size=cap*5:=by
  obtain ⟨rows,_,h2,_⟩:=h0
  rcases h2.2 with ⟨hv,_⟩ | ⟨g',cap',cur',hv,_,hg',_,_,hs',_⟩
  ·cases hv
  ·simp only [Value.slice.injEq,Option.some.injEq,Addr.mk.injEq,and_true] at hv
   obtain ⟨⟨rfl,_⟩,_,rfl⟩:=hv;exact ⟨cur',hg',hs'⟩
 obtain ⟨cur,news,hg,hnl,hnc,hcm,hfit,hnews,hone,hcell,cur',hg',hsz,hfin⟩:=nJ.erase (w:=w.drew) bT (h.move bT (fun _ _=>rfl) (fun _ h _ _=>⟨rfl,h⟩)) hi;subst hnl;have hin:(l.length - (i+1))+i=l.length - 1:=by omega
 obtain ⟨p,hp⟩:∃p,l.length=p+1:=⟨l.length - 1,by omega⟩;obtain ⟨zs,hzl,hr2⟩:=lg (P:=Tryz.prog) (ty:=0) (w.drew.setCells g (off+i*5) news) Tryz.Ja g (off+p*5) 1 (cap - p) cur' hg' (by omega) Tryz.JV;have hgb:w.grownBy ((w.drew.setCells g (off+i*5) news).setRow g (splice cur'.toList (off+p*5) zs).toArray) (some g) :=
  grownBy_trans (grownBy_trans (grownBy_drew (grownBy_refl w _)) (j5 (.inl rfl) _ _ _ (grownBy_refl w.drew _))) (jQ _ g _)
 have hfz:=hfin zs (hzl.trans (by omega));rw [show l.length - 1=p by omega] at hfz;have hfz':nJ 101 5 jV ((w.drew.setCells g (off+i*5) news).setRow g (splice cur'.toList (off+p*5) zs).toArray) (.slice (some ⟨g,off,none⟩) p cap) (l.eraseIdx i) S:=hfz.move bT (fun _ _=>rfl) (fun _ h _ _=>⟨rfl,h⟩);have MG:cur=OI:=by
  have h1:w.heap[g]?=some (.cells cur 101 (0,0)):=hg;rw [Pz] at h1;cases h1;rfl
 have hR:bZ 101 5 jV ((w.drew.setCells g (off+i*5) news).setRow g (splice cur'.toList (off+p*5) zs).toArray) (.slice (some ⟨g,off,none⟩) p cap) (l.eraseIdx i) S:=by
  subst hoff;have hz5:zs.length=5:=by omega
  have hl5:(splice cur'.toList (0+p*5) zs).length=cur'.size:=by
   rw [length_splice _ _ _ (by simp only [Array.length_toList];omega),Array.length_toList]
  refine nJ.toR bT (by decide) hfz' (setRow_heap _ _ _ _ _ _ hg') ?_;simp only [List.size_toArray,hl5];rw [hsz,MG];exact Tu
 have HF:=iH (And.intro hR hgb);clear hR MG Pz Tu hoff h0;clear hfz hfz' hfin hgb;obtain ⟨wf,hwf⟩:∃wf,wf=(w.drew.setCells g (off+i*5) news).setRow g (splice cur'.toList (off+p*5) zs).toArray:=⟨_,rfl⟩;rw [←hwf] at hr2 HF;clear hwf hg' hzl hsz;obtain ⟨inf,z,hi1,hz1,hs1,hb1,Ik⟩:=(Tryz.Ja).parts;have hi':i≤p:=by omega
 have hr1:∀ad:Addr,(∀(j:Nat) (u:Value),news[j]?=some u→w.cell? (ad.add j)=some u) →
  (Builtin.append_ #[48,48] 48 #[.slice (some ⟨g,off,none⟩) i cap, .slice (some ad) (p - i) (cap - (i+1))]).run Tryz.prog w.drew=.ok (.slice (some ⟨g,off,none⟩) p cap) (w.drew.setCells g (off+i*5) news):=fun ad had=>by
  have:=run_append_room_cells (P:=Tryz.prog) w.drew 48 48 101 inf Tryz.underlying48 hi1 g off i cap ad (p - i) (cap - (i+1)) news (by rw [hs1];omega) had hone (by omega)
   (fun j hj=>by rw [hs1];show (w.drew.cell? _).isSome=true;rw [dN hg,Array.getElem?_eq_getElem (by omega)];rfl) (fun j hj=>frozen_of_row w g _ cur _ hg)
  rw [hs1,show i+(p - i)=p by omega] at this;exact this
 have HR1:=iH hr1;have HC:=iH hcell;have HN:=iH hnews;clear hr1 hcell hnews hin hi1 hz1 hs1 hb1 Ik hg h hone;have hlp:(l.length:Int)≤1000000:=by omega
 generalize l.length=n at *;subst hp;unfold maxLen at hcm;have q1:¬ cap=i:=by omega
 have q2:¬ cap=p:=by omega
 have q3:p+1 - (i+1)=p - i:=by omega
 have q4:((i:Int) == (i:Int)+1)=false:=by rw [beq_eq_false_iff_ne];omega
 have q5:i≤cap:=by omega
 have q6:i+1≤cap:=by omega
 have q7:p+1≤cap:=by omega
 have q8:(i:Int)+1≤(p:Int)+1:=by omega
 have q9:((i:Int)+1).toNat=i+1:=by omega
 have VJ:(0:Int)≤(i:Int)+1:=by omega
 by_cases hci:cap=i+1
 ·obtain rfl:p=i:=by omega
  subst hci;have hr1:=HR1.out ⟨g,off,none⟩ (fun j u hu=>by have h:=HN.out;rw [List.getElem?_eq_none (by omega)] at hu;cases hu);clear HR1 HC HN q1 q2 q3;have VI:(p:Int)≤(p:Int)+1:=by omega
  simp only [Nat.sub_self] at hr1;simp only [Nat.add_sub_cancel_left] at hr2
  go_enter Tryz.func129,Tryz.ntmps129
  go_wp2_with fail
  go_region_law (refine gN rfl _ _ 48 48 rfl _ _ (by simp [Act.eval,Act.put]) (by simp [Act.eval,Act.put]) hr1 ?_)
  clear hr1
  go_wp2_with (at_builtin;refine eU rfl (.tmp 31) _ rfl _ rfl hr2 ?_)
  go_ret;exact ⟨_,rfl,HF.out.1,HF.out.2,rfl⟩
 ·have hr1:=HR1.out ⟨g,off+(i+1)*5,none⟩ (fun j u hu=>by rw [Addr.add_lit];exact HC.out j u hu)
  clear HR1 HC HN
  go_enter Tryz.func129,Tryz.ntmps129
  go_wp2_with fail
  go_region_law (refine gN rfl _ _ 48 48 rfl _ _ (by simp [Act.eval,Act.put]) (by simp [Act.eval,Act.put]) hr1 ?_)
  clear hr1
  go_wp2_with (at_builtin;refine eU rfl (.tmp 31) _ rfl _ rfl hr2 ?_)
  go_ret;exact ⟨_,rfl,HF.out.1,HF.out.2,rfl⟩
def DN (w:World) (r:Option Nat) (S:Nat→Prop) (c:Nat) (cap:Value) (p:bA→Bool):Prop :=
 ∀(w':World) (x:bA) (rv:Value),w.grownBy w' r→nN w' [iI x.id, iI x.session, iI x.next,rv] x S→Calls Tryz.prog c #[.agg #[iI x.id, iI x.session, iI x.next,rv],cap] w' fun e w''=>e=.returned (.bool (p x))∧Below w'.heap.size w' w''
theorem zW (w:World) (v:Value) (l:List bA) (S:Nat→Prop) (h:aZ 4 nN w v l S) (hn:l.length≤1000000) (c:Nat) (cap:Value) (p:bA→Bool) (r:Option Nat) (hin:∀args w,(callFunc c args).run Tryz.prog w=.ok (.enter c args) w) (hp:DN w r S c cap p) :
 Calls Tryz.prog 130 #[v, .func (.func c) #[] #[cap]] w fun e w' =>
  e=.returned (iI (kD p l))∧Below w.heap.size w w':=by
 obtain ⟨a,vc,hv,hl,hm,hnil,-⟩:=id h;subst hv;unfold maxLen at hm;have hlen:(l.length:Int)≤1000000:=by omega
 go_enter Tryz.func130,Tryz.ntmps130
 go_wp2
 go_loopw [8] (fun i wr=>∃n:Nat,n≤l.length∧i=iI n∧Hid (∀(j:Nat) (hj:j<l.length),j<n→p l[j]=false)∧Below w.heap.size w wr)
  (fun i _=>l.length - (intOf i).toNat)
 case atStart=>exact ⟨0,by omega,rfl,fun j _ hj=>by omega,iB⟩
 case round =>
  obtain ⟨n,hnl,rfl,hall,hb⟩:=hrel;have hws:=hb.size
  by_cases hlt:n<l.length
  ·obtain ⟨b,off,NN,row,hv,hS,hrow,hcells⟩:=(h.below dV (by decide) hb).row n hlt
   simp only [Value.slice.injEq] at hv;obtain ⟨rfl,_,rfl⟩:=hv;have HY:Hid (p l[n]=true→kD p l=n):=fun ht=>qO hlt ht hall.out
   have HN:Hid (p l[n]=false→∀(j:Nat) (hj:j<l.length),j<n+1→p l[j]=false):=fun ht j hj hj1=>by
    rcases Nat.lt_or_ge j n with h | h
    ·exact hall.out j hj h
    ·obtain rfl:j=n:=by omega
     exact ht
   clear hall;generalize xX:l[n]=x at *;clear xX;have hrow':=hrow;obtain ⟨rv,rfl,jd⟩:=hrow;obtain ⟨ra,wZ,rfl,-⟩:=id jd;have q0:=hcells 0 _ rfl;have q1:=hcells 1 _ rfl;have q2:=hcells 2 _ rfl;have q3:=hcells 3 _ rfl;simp only [Nat.add_zero] at q0;clear hcells;have HC:=iH (hp _ _ _ (aY hb r) hrow');clear hrow' hp h
   by_cases hf:p x=true
   ·have HF:=iH (HY.out hf)
    go_wp2_with fail
    refine HC.out.mono ?_;rw [hf];rintro e w2 ⟨rfl,hb2⟩;go_wp2;go_ret;exact ⟨by rw [HF.out];rfl,hb.trans (hb2.mono hws)⟩
   ·have hf':p x=false:=by simpa using hf
    go_wp2_with fail
    refine HC.out.mono ?_;rw [hf'];rintro e w2 ⟨rfl,hb2⟩;go_wp2
    go_roundw
    case rel=>exact ⟨n+1,by omega,by go_num,HN.out hf',hb.trans (hb2.mono hws)⟩
    case measure=>simp [intOf];omega
  ·obtain rfl:n=l.length:=by omega
   have HF:Hid (kD p l=-1):=mH fun j hj=>hall.out j hj hj
   clear hall hp h;go_wp2;go_ret;exact ⟨by rw [HF.out];rfl,hb⟩
end Go.Proofs.YtbngpjdflblffaaGreatDoor
