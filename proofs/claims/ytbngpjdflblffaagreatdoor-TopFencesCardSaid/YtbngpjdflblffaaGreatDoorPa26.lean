/- A part of the proof, laid together from: LockG, InsLock, FldLock, Take. -/
import Derived.Test.YtbngpjdflblffaaGreatDoorPa25
set_option linter.all false
set_option maxRecDepth 100000
set_option maxHeartbeats 1600000
namespace Go.Tk
open Go Go.RowKit
theorem lT.nil {α:Type} {E k:Nat} {R:Rel α} (w:World) (S:Nat→Prop):lT E k R w (iN) [] S:=⟨[],rfl,Apart.nil,bZ.nil _ _⟩
def rY (E EI:Nat) (w:World) (res:List aN×Int×Bool×Int) (e:Ending) (w':World):Prop :=
 ∃v',e=.returned (.tuple #[v', iI res.2.1, .bool res.2.2.1, iI res.2.2.2])∧lT E 4 (jl EI) w' v' res.1 (fun b=>w.heap.size≤b)∧Below w.heap.size w w'∧∀g,v'.ownBlock=some g→w.heap.size≤g
theorem rY.nil {E EI:Nat} {w w':World} {a c:Int} {b:Bool} (hb:Below w.heap.size w w'):rY E EI w ([],a,b,c) (.returned (.tuple #[iN, iI a, .bool b, iI c])) w' :=
 ⟨_,rfl,lT.nil _ _,hb,fun g hg=>by cases hg⟩
def dS (x:aN):List Value:=[iS x.name, iI x.holder, iI x.fence]
theorem jl.mk {EK:Nat} {w:World} {x:aN} {v:Value} {S:Nat→Prop} (h:bZ EK 1 jE w v x.line (fun _=>False)) (hs:∀g,v.ownBlock=some g→S g):jl EK w (dS x++[v]) x S:=⟨v,rfl,h,hs⟩
theorem lT.DI {E EK:Nat} {w:World} {g cap n:Nat} {l:List aN} {S:Nat→Prop} (h:lT E 4 (jl EK) w (.slice (some ⟨g,0,none⟩) n cap) l S) (i:Nat) (hi:i<l.length) :
 ∃v,(∀(j:Nat) (u:Value),(dS l[i]++[v])[j]?=some u→w.cell? ⟨g,i*4+j,none⟩=some u)∧bZ EK 1 jE w v l[i].line (fun _=>False)∧∀b,v.ownBlock=some b→S b∧b≠g∧b<w.heap.size:=by
 obtain ⟨row,G,⟨v,rfl,hv,hg⟩,hG,hc,_⟩:=h.upd (iG EK) i hi;exact ⟨v,hc,hv,fun b hb=>hG b (hg b hb)⟩
theorem lT.Ji {E EK:Nat} {w:World} {g cap n:Nat} {l:List aN} {S:Nat→Prop} (h:lT E 4 (jl EK) w (.slice (some ⟨g,0,none⟩) n cap) l S) {i:Nat} (hi:i<l.length) {j:Nat} (hj:j<3) (u:Value) (x':aN)
 (hx:dS x'=(dS l[i]).set j u) (hr:x'.line=l[i].line):lT E 4 (jl EK) (w.setCell ⟨g,i*4+j,none⟩ u) (.slice (some ⟨g,0,none⟩) n cap) (l.set i x') S:=by
 obtain ⟨row,G,⟨v,rfl,hv,hg⟩,hG,hc,hch⟩:=h.upd (iG EK) i hi;have hll:(dS l[i]).length=3:=rfl;have hc':∀(q:Nat) (t:Value),(dS l[i]++[v])[q]?=some t→w.cell? ⟨g,i*4+q,none⟩=some t:=hc;refine hch _ S G (dS x'++[v]) x' ((bW.refl g w).set _ _ _) (fun q hq=>bK (by omega)) (fun q t ht=>?_) (fun b _ hb _ _=>aC hb) (fun _ hb=>hb) (fun b hb=>⟨.inl hb,(hG b hb).1,(hG b hb).2.1,by simpa [World.setCell] using (hG b hb).2.2⟩) ?_
 ·by_cases hq:q=j
  ·subst hq
   rw [hx,List.getElem?_append_left (by rw [List.length_set,hll];exact hj),List.getElem?_set_self (by rw [hll];exact hj)] at ht;cases ht;obtain ⟨t0,ht0⟩:∃t0,(dS l[i]++[v])[q]?=some t0:=⟨(dS l[i]++[v])[q]'(by rw [List.length_append,hll];show q<3+1;omega),List.getElem?_eq_getElem _⟩;exact World.cell?_setCell_same _ _ _ (hc' q t0 ht0)
  ·refine (bK (by omega)).trans (hc' q t ?_)
   rcases Nat.lt_or_ge q 3 with h | h
   ·rw [hx,List.getElem?_append_left (by rw [List.length_set,hll];exact h),List.getElem?_set_ne (Ne.symm hq)] at ht
    rw [List.getElem?_append_left (by rw [hll];exact h)];exact ht
   ·rw [List.getElem?_append_right (by rw [hx,List.length_set,hll];exact h),hx,List.length_set] at ht
    rw [List.getElem?_append_right (by rw [hll];exact h)];exact ht
 ·refine jl.mk ?_ hg
  rw [hr];exact hv.move bB (fun b hb=>aC (hG b (hg b hb)).2.1) (fun b hb=>hb.elim)
theorem lT.jN {E EK:Nat} {w w':World} {g cap n:Nat} {l:List aN} {S:Nat→Prop} (h:lT E 4 (jl EK) w (.slice (some ⟨g,0,none⟩) n cap) l S) {i:Nat} (hi:i<l.length) {v v':Value} (hv:w.cell? ⟨g,i*4+3,none⟩=some v)
 {rs:List Int} (hg':w.grownBy w' v.ownBlock) (ho:bZ EK 1 jE w' v' rs (fun _=>False)) (hvv:v'.ownBlock=v.ownBlock∨v'.ownBlock=none∨∃b,v'.ownBlock=some b∧w.heap.size≤b∧S b) :
 lT E 4 (jl EK) (w'.setCell ⟨g,i*4+3,none⟩ v') (.slice (some ⟨g,0,none⟩) n cap) (l.set i { l[i] with line:=rs }) S:=by
 obtain ⟨row,G,⟨v0,rfl,hv0,hg⟩,hG,hc,hch⟩:=h.upd (iG EK) i hi;have hll:(dS l[i]).length=3:=rfl;have hc':∀(q:Nat) (t:Value),(dS l[i]++[v0])[q]?=some t→w.cell? ⟨g,i*4+q,none⟩=some t:=hc;obtain rfl:v0=v:=by
  have:=hc' 3 v0 rfl;rw [this] at hv;simpa using hv
 have hne:some g≠v0.ownBlock:=fun e=>(hG g (hg g e.symm)).2.1 rfl
 have hgl:g<w.heap.size:=World.block_lt_of_cell? w _ (hc' 0 _ rfl);have hgg:w'.heap[g]?=w.heap[g]?:=hg'.block g hgl hne;have hsz:=hg'.size;have F6:∀b,v'.ownBlock=some b→(G b∨w.heap.size≤b)∧S b∧b≠g∧b<w'.heap.size:=by
  intro b hb;have hlt:=ho.lt b hb
  rcases hvv with e | e | ⟨b',e,hb',hsb⟩
  ·have MJ:=hg b (e▸hb)
   exact ⟨.inl MJ,(hG b MJ).1,(hG b MJ).2.1,hlt⟩
  ·rw [e] at hb;cases hb
  ·rw [e] at hb;cases hb
   exact ⟨.inr hb',hsb,by omega,hlt⟩
 refine hch _ S (fun b=>v'.ownBlock=some b) (dS { l[i] with line:=rs }++[v']) _ ((bW.same hgg).set _ _ _) (fun q hq=>(bK (by omega)).trans (World.cell?_of_block (a:=⟨g,q,none⟩) hgg)) (fun q t ht=>?_) (fun b hb hbg Tz hbl=>(aC hbg).trans (hg'.block b hbl (fun e=>Tz (hg b e.symm)))) (fun _ hb=>hb) (fun b hb=>?_) ?_
 ·by_cases hq:q=3
  ·subst hq
   cases ht;exact World.cell?_setCell_same _ _ _ (aB hv hgg)
  ·have zY:q<3:=by
    rcases Nat.lt_or_ge q 4 with h | h
    ·omega
    ·rw [List.getElem?_eq_none (by rw [List.length_append];show 3+1≤q;omega)] at ht;cases ht
   refine (bK (by omega)).trans (aB (hc' q t ?_) hgg);rw [List.getElem?_append_left zY] at ht;rw [List.getElem?_append_left (by rw [hll];exact zY)];exact ht
 ·have:=F6 b hb
  exact ⟨this.1,this.2.1,this.2.2.1,by simpa [World.setCell] using this.2.2.2⟩
 ·exact jl.mk (x:={ l[i] with line:=rs }) (ho.move bB (fun b hb=>aC (F6 b hb).2.2.1) (fun b hb=>hb.elim)) (fun b hb=>hb)
def gL (w:World) (res:List aN×eX×Int) (e:Ending) (w':World):Prop :=
 ∃v',e=.returned (.tuple #[v', .agg #[iI res.2.1.code, iI res.2.1.n, iS res.2.1.text], iI res.2.2])∧aZ 4 fZ w' v' res.1 (fun b=>w.heap.size≤b)∧Below w.heap.size w w'
theorem gL.mk {w w':World} {v:Value} {l:List aN} {r:eX} {c:Int} (h:aZ 4 fZ w' v l (fun b=>w.heap.size≤b)) (hb:Below w.heap.size w w'):gL w (l,r,c) (.returned (.tuple #[v, .agg #[iI r.code, iI r.n, iS r.text], iI c])) w':=⟨_,rfl,h,hb⟩
theorem Bj {l:List aN} {name:List UInt8} {who:Int} (h:(eT l name who).2.2.2=0):ji l∧fD name=true∧(1≤who∧who≤9)∧eT l name who=(l,((bE l name:Nat):Int),eO l name,(0:Int)):=by
 unfold eT at h⊢
 by_cases h1:dU l=0
 ·rw [if_neg (by simpa using h1)] at h⊢
  by_cases h2:fD name=false
  ·rw [if_pos h2] at h;cases h
  ·rw [if_neg h2] at h⊢
   by_cases h3:gU who=false
   ·rw [if_pos h3] at h;cases h
   ·rw [if_neg h3]
    exact ⟨jB.1 h1,by simpa using h2,lC.1 (by simpa using h3),rfl⟩
 ·rw [if_pos h1] at h;exact absurd h h1
theorem lT.Eg {E EI:Nat} {w w0:World} {v:Value} {l:List aN} (h:lT E 4 (jl EI) w v l (fun b=>w0.heap.size+1≤b)) (hS:∀g,v.ownBlock=some g→w0.heap.size+1≤g):aZ 4 fZ w v l (fun b=>w0.heap.size+1≤b):=h.A8 hS
end Go.Tk
namespace Go.Proofs.YtbngpjdflblffaaGreatDoor
open Go.RowKit Go.Tk
theorem FX (w:World) (v:Value) (l:List aN) (S:Nat→Prop) (h:aZ 4 fZ w v l S) (hn:l.length≤1000000) (t:List UInt8) :
 Calls Tryz.prog 69 #[v, iS t, .func (.func 161) #[] #[]] w fun e w' =>
  e=.returned (.tuple #[iI (bE l t:Nat), .bool (eO l t)])∧Below w.heap.size w w':=yj w v l S h hn t
theorem Ep (w:World) (v:Value) (l:List aN) (S:Nat→Prop) (h:aZ 4 fZ w v l S) (hn:l.length≤1000000) (t:List UInt8) :
 Calls Tryz.prog 69 #[v, iS t, .func (.func 70) #[] #[]] w fun e w' =>
  e=.returned (.tuple #[iI (bE l t:Nat), .bool (eO l t)])∧Below w.heap.size w w':=wV w v l S h hn t
theorem zz (l:List aN) (name:List UInt8) (who:Int) (v:Value) (S:Nat→Prop) (w:World) (h:aZ 4 fZ w v l S) (hin:∀x∈l,x.line.length≤1000000) :
 Calls Tryz.prog 145 #[v, iS name, iI who] w (rY 89 3 w (eT l name who)):=by
 have HN:=iH hin;have HH:=iH h;clear hin h
 go_enter Tryz.func145,Tryz.ntmps145
 go_wp2_with fail
 refine (om l v S _ HH.out HN.out).mono ?_;rintro e w1 ⟨rfl,hb1⟩
 by_cases he:dU l=0
 case neg =>
  have HJ:=iH (show eT l name who=([],0,false,dU l) by rw [eT,if_pos he]);have he':(dU l != 0)=true:=by simpa using he
  clear he;go_wp2;refine bodyPost_ret (v:=.tuple #[iN, iI 0, .bool false, iI (dU l)]) (by simp [results,Tryz.results145,go_sem]) rfl ?_;rw [HJ.out];exact rY.nil hb1
 have he':(dU l != 0)=false:=by simpa using he
 have HE:=iH he;have hok:=jB.1 he;have hl5:=hok.len;clear he hok
 go_wp2_with fail
 refine (pX name _).mono ?_;rintro e w2 ⟨rfl,hb2⟩;cases hnm:fD name
 case false =>
  have HJ:=iH (show eT l name who=([],0,false,4) by rw [eT,if_neg (by simpa using HE.out),if_pos hnm]);clear hnm;go_wp2;refine bodyPost_ret (v:=.tuple #[iN, iI 0, .bool false, iI 4]) (by simp [results,Tryz.results145,go_sem]) rfl ?_;rw [HJ.out];exact rY.nil (ah hb1 hb2)
 go_wp2_with fail
 refine (lG who _).mono ?_;rintro e w' ⟨rfl,rfl⟩;cases hcl:gU who
 case false =>
  have HJ:=iH (show eT l name who=([],0,false,2) by rw [eT,if_neg (by simpa using HE.out),if_neg (by rw [hnm];decide),if_pos hcl]);clear hcl hnm;go_wp2;refine bodyPost_ret (v:=.tuple #[iN, iI 0, .bool false, iI 2]) (by simp [results,Tryz.results145,go_sem]) rfl ?_;rw [HJ.out];exact rY.nil (ah hb1 hb2)
 have HJ:=iH (show eT l name who=(l,((bE l name:Nat):Int),eO l name,(0:Int)) by rw [eT,if_neg (by simpa using HE.out),if_neg (by rw [hnm];decide),if_neg (by rw [hcl];decide)]);clear hcl hnm;have qc:=ah hb1 hb2
 go_wp2_with fail
 refine (FX _ v l S (HH.out.below aM (by decide) qc) (by omega) name).mono ?_;rintro e w3 ⟨rfl,hb3⟩;have rP:=ah qc hb3
 go_wp2_with fail
 refine (qi _ v l S (HH.out.below aM (by decide) rP) (by omega) HN.out).mono ?_;rintro e w4 ⟨v4,rfl,kY,hb4,hv4⟩;have hs3:=rP.size;have HO:=iH kY;have HV:=iH hv4;have h1:=kY.own (iG _);have hone:=h1.oneCell;clear kY hv4 h1;go_wp2;refine bodyPost_ret (v:=.tuple #[v4, iI (bE l name:Nat), .bool (eO l name), iI 0]) (by simp [results,Tryz.results145,go_sem]) rfl ?_;rw [HJ.out];exact ⟨_,rfl,HO.out.sub (iG _) (fun b hb _=>by show _≤_;exact Nat.le_trans hs3 hb),ah rP hb4,fun g hg=>Nat.le_trans hs3 (HV.out g hg)⟩
theorem Ie (l:List aN) (name:List UInt8) (v:Value) (S:Nat→Prop) (w:World) (h:aZ 4 fZ w v l S) (hin:∀x∈l,x.line.length≤1000000) :
 Calls Tryz.prog 33 #[v, iS name] w fun e w'=>e=.returned (.tuple #[iI (jF l name).1, iI (jF l name).2.1, iI (jF l name).2.2])∧Below w.heap.size w w':=by
 have HN:=iH hin;have HH:=iH h;clear hin h
 go_enter Tryz.func33,Tryz.ntmps33
 go_wp2_with fail
 refine (om l v S _ HH.out HN.out).mono ?_;rintro e w1 ⟨rfl,hb1⟩
 by_cases he:dU l=0
 case neg =>
  have HJ:=iH (show jF l name=(0,0,dU l) by rw [jF,if_pos he]);have he':(dU l != 0)=true:=by simpa using he
  clear he;go_wp2
  go_ret3
  exact ⟨by rw [HJ.out];rfl,hb1⟩
 have he':(dU l != 0)=false:=by simpa using he
 have HE:=iH he;have hok:=jB.1 he;have hl5:=hok.len;clear he hok
 go_wp2_with fail
 refine (Ep _ v l S (HH.out.below aM (by decide) hb1) (by omega) name).mono ?_;rintro e w3 ⟨rfl,hb3⟩;have rP:=ah hb1 hb3;cases hth:eO l name
 case false =>
  have HJ:=iH (show jF l name=(0,0,0) by rw [jF,if_neg (by simpa using HE.out),if_pos (.inl hth)]);clear hth;go_wp2
  go_ret3
  exact ⟨by rw [HJ.out];rfl,rP⟩
 have hlt:=jL hth;have HT:=iH hth;clear hth;have KZ:=iH (show jF l name=if eO l name=false∨(l.getD (bE l name) aO).holder=0 then (0,0,0) else ((l.getD (bE l name) aO).holder,(l.getD (bE l name) aO).fence,0) by rw [jF,if_neg (by simpa using HE.out)]);generalize bE l name=fi at *;obtain ⟨b,off,cap',row,rfl,hS,hrow,hcells⟩:=(HH.out.below aM (by decide) rP).row fi hlt;have hgd:l.getD fi aO=l[fi]:=by simp [List.getD,hlt]
 rw [hgd] at KZ;clear hgd;generalize l[fi]=x at *;obtain ⟨rv,rfl,jd⟩:=hrow;have q1:=hcells 1 _ rfl;have q2:=hcells 2 _ rfl;clear hcells jd
 by_cases h0:x.holder=0
 ·have HJ:=iH (KZ.out.trans (if_pos (.inr h0)))
  have h0':(x.holder == 0)=true:=by simpa using h0
  clear h0;go_wp2
  go_ret3
  exact ⟨by rw [HJ.out];rfl,rP⟩
 ·have HJ:=iH (KZ.out.trans (if_neg (by rw [HT.out];simp [h0])))
  have h0':(x.holder == 0)=false:=by simpa using h0
  clear h0
  go_wp2_with fail
  go_quiet (fail)
  go_wp2
  go_ret3
  exact ⟨by rw [HJ.out];rfl,below_drewN rP _⟩
theorem Tryz.G7:dM Tryz.prog 23 89 4 56:=⟨Tryz.underlying23,by kernel_rfl,by decide⟩
theorem Bu:Cg Tryz.prog 146 89 4:=by
 intro w v n xs cs hown hcs h1 hn;obtain ⟨v',w',hr,g1,g2,g3⟩:=Ap (ty:=23) Tryz.G7 (by decide) hown hcs h1 hn;have HF:=iH (And.intro g2 g3);have G1:=iH g1;clear g1 g2 g3
 rcases hown.2 with ⟨rfl,rfl⟩ | ⟨g,cap,cur,rfl,-,hg,hnc,hcm,hcs2,htake⟩
 ·clear hown
  go_enter Tryz.func146,Tryz.ntmps146
  go_wp2_with (at_builtin;refine wpList_append_run rfl _ _ _ _ rfl _ _ rfl rfl hr ?_)
  go_ret;exact ⟨v',rfl,G1.out,HF.out⟩
 ·unfold maxLen at hcm
  clear hown htake hg hcs2
  by_cases hcap:cap=n
  ·subst hcap
   go_enter Tryz.func146,Tryz.ntmps146
   go_wp2_with (at_builtin;refine wpList_append_run rfl _ _ _ _ rfl _ _ rfl rfl hr ?_)
   go_ret;exact ⟨v',rfl,G1.out,HF.out⟩
  ·go_enter Tryz.func146,Tryz.ntmps146
   go_wp2_with (at_builtin;refine wpList_append_run rfl _ _ _ _ rfl _ _ rfl rfl hr ?_)
   go_ret;exact ⟨v',rfl,G1.out,HF.out⟩
theorem zT:xW Tryz.prog 146 89 4:=by
 intro w g n i xs cs hown hi hcs h1 h1x hn;unfold vV;obtain ⟨w1,w2,w3,b1,nc,hr1,hr2,hr3,f1,f2,Ga,Kw,f3⟩:=xC (ty:=23) Tryz.G7 Tryz.underlying3 (by decide) (by decide) hown hi hcs h1 h1x hn;have HF:=iH (And.intro f1 f2);have H1:=iH f3;clear f1 f2 f3 h1 h1x hown hcs
 go_enter Tryz.func146,Tryz.ntmps146
 go_wp2_with (at_builtin;refine wpList_append_run rfl (.tmp 34) (.tmp 39) _ _ rfl _ _ rfl rfl hr1 ?_)
 have q1:IntKind.i64.wrap ((i:Int)+1)=(i:Int)+1:=IntWalk.i64_in _ (by omega);have q2:(0:Int)≤(i:Int)+1:=by omega
 have q3:((i:Int)+1).toNat=i+1:=by omega
 have q4:¬ (nc=i+1):=by omega
 have q5:¬ (n=i):=by omega
 have q6:(i:Int)+1≤(n:Int)+1:=by omega
 have q7:i≤n:=by omega
 go_region_law (refine iR rfl _ _ 23 23 rfl _ _ (by simp [Act.eval,Act.put]) (by simp [Act.eval,Act.put]) hr3 ?_)
 clear q1 q2 q3 q4 q5 q6 q7;go_wp2;go_ret;exact ⟨_,rfl,HF.out.1,HF.out.2, .inr ⟨_,rfl,H1.out⟩⟩
theorem yI:uP Tryz.prog 146 89 4:=by
 intro w g n cap i xs cs hown hi hcap hcs h1 h1x hn;unfold vV;obtain ⟨cur,w1,w2,hg0,hcsz,Ev,hcm,hr1,hr2,f1,f2⟩:=uU (I:=3) Tryz.G7 hown hi hcap hcs h1 h1x;have HF:=iH (And.intro f1 f2);have hov:(callFunc 162 #[.slice (some ⟨w.heap.size,0,none⟩) 1 1, .slice (some ⟨g,(i+1)*4,none⟩) (n - i) (cap - (i+1))]).run Tryz.prog (w.alloc (.cells cs 89))=.ok (.value (.bool false)) (w.alloc (.cells cs 89)):=by
  rw [run_callFunc_extern Tryz.func162 (by kernel_rfl) (by kernel_rfl) (by kernel_rfl) (e:=Extern.SlicesOverlaps.overlaps #[23,23] #[4]) (by kernel_rfl),
   Lib.run_overlaps_apart (w.alloc (.cells cs 89)) 23 4 89 Tryz.underlying23 4 (fun _=>by kernel_rfl) ⟨w.heap.size,0,none⟩ ⟨g,(i+1)*4,none⟩ 1 1 _ _ (by simp;omega) 89 89 4 (cap*4)
    (by simp only [World.shape?];rw [heap_alloc_new];simp [hcs]) (by simp only [World.shape?];rw [hg0];simp [hcsz]) (by omega) (World.frozen?_alloc_new w cs _ _) (World.frozen?_alloc_new w cs _ _)]
  rfl
 unfold maxLen at hcm;clear f1 f2 hg0 hcsz h1 h1x hown hcs
 go_enter Tryz.func146,Tryz.ntmps146
 have p4:¬ (cap=i+1):=by omega
 have p5:¬ (cap=i):=by omega
 go_wp2_with (simp only [hov])
 clear hov;have q1:IntKind.i64.wrap ((i:Int)+1)=(i:Int)+1:=IntWalk.i64_in _ (by omega);have q2:(0:Int)≤(i:Int)+1:=by omega
 have q3:((i:Int)+1).toNat=i+1:=by omega
 have q6:(i:Int)+1≤(n:Int)+1:=by omega
 have q7:i≤n:=by omega
 have q8:(i:Int)≤(n:Int)+1:=by omega
 go_region_law (refine iR rfl _ _ 23 23 rfl _ _ (by simp [Act.eval,Act.put]) (by simp [Act.eval,Act.put]) hr1 ?_)
 clear q1 q2 q3 q6 q7 q8 hr1;go_wp2;go_ret;exact ⟨_,rfl,HF.out.1,HF.out.2, .inl rfl⟩
def yJ {α:Type} {R:Rel α}:=uV (α:=α) (R:=R) Bu zT yI
theorem AR (l:List aN) (name:List UInt8) (who:Int) (wait:Bool) (v:Value) (S:Nat→Prop) (w:World) (h:aZ 4 fZ w v l S) (hin:∀x∈l,x.line.length≤1000000) :
 Calls Tryz.prog 106 #[v, iS name, iI who, .bool wait] w (gL w (cO l name who wait)):=by
 have HN:=iH hin;have HH:=iH h;clear hin h
 go_enter Tryz.func106,Tryz.ntmps106
 go_wp2_with fail
 refine (zz l name who v S _ (HH.out.below aM (by decide) (aj w _)) HN.out).mono ?_;rintro e w1 ⟨v1,rfl,ho1,hb1,hv1⟩;rw [World.size_alloc] at hb1;have mP:=iH (show Below w.heap.size w w1 from (aj w _).trans (hb1.mono (by omega)));obtain ⟨hz,jm,hzs⟩:=Tk.fresh hb1;have z0:=hz 0;have z1:=hz 1;have z2:=hz 2;have uR:=jm 0;have uQ:=jm 1;have tN:=jm 2;clear hz jm;simp only [World.size_alloc] at ho1 hv1
 by_cases he:(eT l name who).2.2.2=0
 case neg =>
  have HJ:=iH (show cO l name who wait=([],dP,(eT l name who).2.2.2) by rw [cO,if_pos he]);have he':((eT l name who).2.2.2 != 0)=true:=by simpa using he
  clear ho1 hv1 he;generalize (eT l name who).2.2.2=ec at *;generalize (eT l name who).2.1=ea at *;generalize (eT l name who).2.2.1=eb at *;have HR1:=iH (aZ.nil (k:=4) (R:=fZ) w1 (fun b=>w.heap.size+1≤b));go_wp2;refine bodyPost_ret (v:=.tuple #[iN, .agg #[iI 0, iI 0, .string ⟨#[]⟩], iI ec]) (by simp [results,Tryz.results106,go_sem,z0,z1,z2,uR,uQ,tN]) rfl ?_;rw [HJ.out];refine gL.mk (r:=dP) (aZ.move aM (by decide) HR1.out fun b hb hlt=>⟨?_,?_⟩) ?_
  ·have hb':w.heap.size+1≤b:=hb
   (repeat (first | with_reducible rfl | with_reducible assumption | with_reducible refine (Go.Tk.heap_drew _ _).trans ?_ | with_reducible refine (Go.Tk.heap_drewN _ _ _).trans ?_ | with_reducible refine (Go.Tk.aC (by omega)).trans ?_))
  ·have hb':w.heap.size+1≤b:=hb
   show _≤_;omega
  ·(repeat (first | exact mP.out | with_reducible refine below_drewN ?_ _ | with_reducible refine Below.drew ?_ | with_reducible refine ay ?_ (by omega) _ _ | with_reducible refine Below.alloc ?_ (by omega) _))
 obtain ⟨hok,hname,hwho,hbe⟩:=Bj he;have HT0:=iH (show cO l name who wait=if eO l name=false then (if l.length=5 then (l,⟨8,0,[]⟩,0) else (l.take (bE l name)++⟨name,who,1,[]⟩::l.drop (bE l name),⟨0,1,[]⟩,0))
  else if (l.getD (bE l name) aO).holder=who then (l,⟨0,(l.getD (bE l name) aO).fence,[]⟩,0)
  else if (l.getD (bE l name) aO).holder=0 then
   (if (l.getD (bE l name) aO).fence=1073741824 then (l,⟨8,0,[]⟩,0)
    else (l.set (bE l name) { l.getD (bE l name) aO with holder:=who,fence:=(l.getD (bE l name) aO).fence+1 },⟨0,(l.getD (bE l name) aO).fence+1,[]⟩,0))
  else if wait=false∨who∈(l.getD (bE l name) aO).line then (l,⟨10,(l.getD (bE l name) aO).holder,[]⟩,0)
  else if (l.getD (bE l name) aO).line.length=3 then (l,⟨8,0,[]⟩,0)
  else (l.set (bE l name) { l.getD (bE l name) aO with line:=(l.getD (bE l name) aO).line++[who] },⟨10,(l.getD (bE l name) aO).holder,[]⟩,0) by rw [cO,if_neg (by simpa using he)])
 rw [hbe] at ho1⊢;clear hbe he;simp only at ho1;have HO:=iH hok;have hl5:=hok.len;have hfl:bE l name≤l.length:=zy _ _;have Gy:=iH (fun hth:eO l name=true=>jL hth);generalize eO l name=th at HT0 Gy⊢;generalize bE l name=fi at HT0 Gy hfl⊢;clear hok;have hr1:=ho1.Eg hv1;have hone:=hr1.oneCell;cases th
 case false =>
  have KZ:=iH (HT0.out.trans (if_pos rfl));clear HT0 Gy
  by_cases h5:l.length=5
  ·have HJ:=iH (KZ.out.trans (if_pos h5))
   obtain ⟨ra,rc,rfl⟩:∃a c,v1=.slice a l.length c:=by obtain ⟨a,c,h,_⟩:=hr1;exact ⟨a,c,h⟩
   have HR1:=iH hr1;have h5':((l.length:Int) == 5)=true:=by rw [beq_iff_eq];omega
   clear hr1 ho1 hv1 KZ;simp only [h5] at *;go_wp2;refine bodyPost_ret (v:=.tuple #[.slice ra 5 rc, .agg #[iI 8, iI 0, .string ⟨#[]⟩], iI 0]) (by simp [results,Tryz.results106,go_sem,z0,z1,z2,uR,uQ,tN]) rfl ?_;rw [HJ.out];refine gL.mk (r:=⟨8,0,[]⟩) (aZ.move aM (by decide) HR1.out fun b hb hlt=>⟨?_,?_⟩) ?_
   ·have hb':w.heap.size+1≤b:=hb
    (repeat (first | with_reducible rfl | with_reducible assumption | with_reducible refine (Go.Tk.heap_drew _ _).trans ?_ | with_reducible refine (Go.Tk.heap_drewN _ _ _).trans ?_ | with_reducible refine (Go.Tk.aC (by omega)).trans ?_))
   ·have hb':w.heap.size+1≤b:=hb
    show _≤_;omega
   ·(repeat (first | exact mP.out | with_reducible refine below_drewN ?_ _ | with_reducible refine Below.drew ?_ | with_reducible refine ay ?_ (by omega) _ _ | with_reducible refine Below.alloc ?_ (by omega) _))
  ·have HJ:=iH (KZ.out.trans (if_neg h5))
   clear KZ;have Ta:=(ho1.own (iG _)).map (R':=fZ) fun _ _ _ _ hr=>hr.read
   obtain ⟨ra,rc,rfl⟩:∃a c,v1=.slice a l.length c:=by obtain ⟨a,c,h,_⟩:=hr1;exact ⟨a,c,h⟩
   have h5':((l.length:Int) == 5)=false:=by rw [beq_eq_false_iff_ne];omega
   clear hr1 ho1
   go_wp2_with fail
   refine (yJ aM l fi hfl ⟨name,who,1,[]⟩ #[iS name, iI who, iI 1, iN] w1 _ _ Ta ⟨_,rfl,aZ.nil _ _⟩ (by omega)).mono ?_;rintro e w4 ⟨v4,rfl,kY,hg4,hv4⟩;have Ww:=hb1.grown hg4 (by omega) (fun k hk=>hv1 k hk);obtain ⟨hz,jm,Og⟩:=Tk.fresh Ww;clear z0 z1 z2 uR uQ tN;have z0:=hz 0;have z1:=hz 1;have z2:=hz 2;have uR:=jm 0;have uQ:=jm 1;have tN:=jm 2;clear hz jm;have UA:=iH (mP.out.grown hg4 (by omega) (fun k hk=>by have:=hv1 k hk;omega));have hr4:=kY.read aM (by decide) (fun g hg=>by
    rcases hv4 with h | ⟨g',h,hg'⟩
    ·rw [h] at hg;exact hv1 g hg
    ·rw [h] at hg;cases hg;omega)
   obtain ⟨rb,rd,rfl⟩:∃a c,v4=.slice a (l.length+1) c:=by obtain ⟨a,c,h,_⟩:=hr4;refine ⟨a,c,?_⟩;rw [h];simp;omega
   have HR1:=iH hr4;clear hr4 kY Ta hg4 hv1 hv4 mP;have mP:=UA;clear UA;go_wp2;refine bodyPost_ret (v:=.tuple #[.slice rb (l.length+1) rd, .agg #[iI 0, iI 1, .string ⟨#[]⟩], iI 0]) (by simp [results,Tryz.results106,go_sem,z0,z1,z2,uR,uQ,tN]) rfl ?_;rw [HJ.out];refine gL.mk (r:=⟨0,1,[]⟩) (aZ.move aM (by decide) HR1.out fun b hb hlt=>⟨?_,?_⟩) ?_
   ·have hb':w.heap.size+1≤b:=hb
    (repeat (first | with_reducible rfl | with_reducible assumption | with_reducible refine (Go.Tk.heap_drew _ _).trans ?_ | with_reducible refine (Go.Tk.heap_drewN _ _ _).trans ?_ | with_reducible refine (Go.Tk.aC (by omega)).trans ?_))
   ·have hb':w.heap.size+1≤b:=hb
    show _≤_;omega
   ·(repeat (first | exact mP.out | with_reducible refine below_drewN ?_ _ | with_reducible refine Below.drew ?_ | with_reducible refine ay ?_ (by omega) _ _ | with_reducible refine Below.alloc ?_ (by omega) _))
 case true =>
  have hlt:=Gy.out rfl;have HT1:=iH (HT0.out.trans (if_neg (by decide)));clear HT0 Gy;obtain ⟨g,cap,rfl,hgc,hgm,hg2,hfz⟩:=ho1.pO (by omega);have hgw:=hv1 g rfl;obtain ⟨rv,hcells,jd,hrg⟩:=ho1.DI fi hlt;have I4:=iH (show l.getD fi aO=l[fi] by simp [List.getD,hlt]);have JO:=iH (HO.out.line l[fi] (List.getElem_mem hlt));have Np:=iH (HO.out.fence l[fi] (List.getElem_mem hlt));generalize xX:l[fi]=x at hcells jd I4 JO Np;have JN:=iH xX;clear xX;obtain ⟨ra,rc,rfl⟩:=jd.shape;have c1:=hcells 1 _ rfl;have c2:=hcells 2 _ rfl;have c3:=hcells 3 _ rfl;have f1:=hfz (fi*4+1);have f2:=hfz (fi*4+2);have f3:=hfz (fi*4+3);have Rc:=iH ho1;have HR1:=iH hr1;have HV:=iH jd;have HG:=iH hrg;have HT2:=HT1.out;rw [I4.out] at HT2;have HT:=iH HT2;have VR:=Np.out;clear hcells jd hrg ho1 hr1 hfz HT1 HT2 hv1 hone
  by_cases hw:x.holder=who
  ·have HJ:=iH (HT.out.trans (if_pos hw))
   have hwb:(x.holder == who)=true:=by simpa using hw
   clear hw HT;go_wp2;go_region;go_wp2;refine bodyPost_ret (v:=.tuple #[.slice (some ⟨g,0,none⟩) l.length cap, .agg #[iI 0, iI x.fence, .string ⟨#[]⟩], iI 0]) (by simp [results,Tryz.results106,go_sem,z0,z1,z2,uR,uQ,tN]) rfl ?_;rw [HJ.out];refine gL.mk (r:=⟨0,x.fence,[]⟩) (aZ.move aM (by decide) HR1.out fun b hb hlt=>⟨?_,?_⟩) ?_
   ·have hb':w.heap.size+1≤b:=hb
    (repeat (first | with_reducible rfl | with_reducible assumption | with_reducible refine (Go.Tk.heap_drew _ _).trans ?_ | with_reducible refine (Go.Tk.heap_drewN _ _ _).trans ?_ | with_reducible refine (Go.Tk.aC (by omega)).trans ?_))
   ·have hb':w.heap.size+1≤b:=hb
    show _≤_;omega
   ·(repeat (first | exact mP.out | with_reducible refine below_drewN ?_ _ | with_reducible refine Below.drew ?_ | with_reducible refine ay ?_ (by omega) _ _ | with_reducible refine Below.alloc ?_ (by omega) _))
  have HT3:=iH (HT.out.trans (if_neg hw));have hwb:(x.holder == who)=false:=by simpa using hw
  clear hw HT
  by_cases h0:x.holder=0
  ·have Nt:=iH (HT3.out.trans (if_pos h0))
   have W9:(x.holder == 0)=true:=by simpa using h0
   clear HT3
   by_cases hfm:x.fence=1073741824
   ·have HJ:=iH (Nt.out.trans (if_pos hfm))
    have QE:(x.fence == 1073741824)=true:=by simpa using hfm
    clear Nt hfm h0;go_wp2;refine bodyPost_ret (v:=.tuple #[.slice (some ⟨g,0,none⟩) l.length cap, .agg #[iI 8, iI 0, .string ⟨#[]⟩], iI 0]) (by simp [results,Tryz.results106,go_sem,z0,z1,z2,uR,uQ,tN]) rfl ?_;rw [HJ.out];refine gL.mk (r:=⟨8,0,[]⟩) (aZ.move aM (by decide) HR1.out fun b hb hlt=>⟨?_,?_⟩) ?_
    ·have hb':w.heap.size+1≤b:=hb
     (repeat (first | with_reducible rfl | with_reducible assumption | with_reducible refine (Go.Tk.heap_drew _ _).trans ?_ | with_reducible refine (Go.Tk.heap_drewN _ _ _).trans ?_ | with_reducible refine (Go.Tk.aC (by omega)).trans ?_))
    ·have hb':w.heap.size+1≤b:=hb
     show _≤_;omega
    ·(repeat (first | exact mP.out | with_reducible refine below_drewN ?_ _ | with_reducible refine Below.drew ?_ | with_reducible refine ay ?_ (by omega) _ _ | with_reducible refine Below.alloc ?_ (by omega) _))
   ·have HJ:=iH (Nt.out.trans (if_neg hfm))
    have QE:(x.fence == 1073741824)=false:=by simpa using hfm
    have hw0:IntKind.i64.wrap (x.fence+1)=x.fence+1:=IntWalk.i64_in _ (by omega);have HR3:Hid (aZ 4 fZ ((w1.setCell ⟨g,fi*4+1,none⟩ (iI who)).setCell ⟨g,fi*4+2,none⟩ (iI (x.fence+1))) (.slice (some ⟨g,0,none⟩) l.length cap) (l.set fi ⟨x.name,who,x.fence+1,x.line⟩) (fun b=>w.heap.size+1≤b)):=by
     have k1:=Rc.out.Ji hlt (j:=1) (by decide) (iI who) ⟨x.name,who,x.fence,x.line⟩ (by rw [JN.out];rfl) (by rw [JN.out]);have k2:=k1.Ji (i:=fi) (by rw [List.length_set];exact hlt) (j:=2) (by decide) (iI (x.fence+1)) ⟨x.name,who,x.fence+1,x.line⟩ (by rw [List.getElem_set_self];rfl) (by rw [List.getElem_set_self]);rw [List.set_set] at k2;exact k2.Eg (fun b hb=>by cases hb;exact hgw)
    have c2':=World.cell?_setCell_same (w1.setCell ⟨g,fi*4+1,none⟩ (iI who)) ⟨g,fi*4+2,none⟩ (iI (x.fence+1)) ((bK (by omega)).trans c2);clear Nt hfm h0;go_wp2;go_region;go_wp2;refine bodyPost_ret (v:=.tuple #[.slice (some ⟨g,0,none⟩) l.length cap, .agg #[iI 0, iI (x.fence+1), .string ⟨#[]⟩], iI 0]) (by simp [results,Tryz.results106,go_sem,z0,z1,z2,uR,uQ,tN]) rfl ?_;rw [HJ.out];refine gL.mk (r:=⟨0,x.fence+1,[]⟩) (aZ.move aM (by decide) HR3.out fun b hb hlt=>⟨?_,?_⟩) ?_
    ·have hb':w.heap.size+1≤b:=hb
     (repeat (first | with_reducible rfl | with_reducible assumption | with_reducible refine (Go.Tk.heap_drew _ _).trans ?_ | with_reducible refine (Go.Tk.heap_drewN _ _ _).trans ?_ | with_reducible refine (Go.Tk.aC (by omega)).trans ?_))
    ·have hb':w.heap.size+1≤b:=hb
     show _≤_;omega
    ·(repeat (first | exact mP.out | with_reducible refine below_drewN ?_ _ | with_reducible refine Below.drew ?_ | with_reducible refine ay ?_ (by omega) _ _ | with_reducible refine Below.alloc ?_ (by omega) _))
  have Nt:=iH (HT3.out.trans (if_neg h0));have W9:(x.holder == 0)=false:=by simpa using h0
  clear HT3 h0;cases wait
  case false =>
   have HJ:=iH (Nt.out.trans (if_pos (.inl rfl)));clear Nt;go_wp2;go_region;go_wp2;refine bodyPost_ret (v:=.tuple #[.slice (some ⟨g,0,none⟩) l.length cap, .agg #[iI 10, iI x.holder, .string ⟨#[]⟩], iI 0]) (by simp [results,Tryz.results106,go_sem,z0,z1,z2,uR,uQ,tN]) rfl ?_;rw [HJ.out];refine gL.mk (r:=⟨10,x.holder,[]⟩) (aZ.move aM (by decide) HR1.out fun b hb hlt=>⟨?_,?_⟩) ?_
   ·have hb':w.heap.size+1≤b:=hb
    (repeat (first | with_reducible rfl | with_reducible assumption | with_reducible refine (Go.Tk.heap_drew _ _).trans ?_ | with_reducible refine (Go.Tk.heap_drewN _ _ _).trans ?_ | with_reducible refine (Go.Tk.aC (by omega)).trans ?_))
   ·have hb':w.heap.size+1≤b:=hb
    show _≤_;omega
   ·(repeat (first | exact mP.out | with_reducible refine below_drewN ?_ _ | with_reducible refine Below.drew ?_ | with_reducible refine ay ?_ (by omega) _ _ | with_reducible refine Below.alloc ?_ (by omega) _))
  case true =>
   have HC:=iH (qR w1 _ x.line (fun _=>True) ((HV.out.forget (S':=fun _=>True) (fun _ _ _ _ _ h=>h)).read bB (by decide) (fun _ _=>trivial)) (by have:=JO.out.len;omega) who)
   go_wp2_with fail
   refine HC.out.mono ?_;rintro e w2 ⟨rfl,hb2⟩;clear HC;have hs2:=hb2.size;have HB2:=iH (ah mP.out hb2);have HR2:=iH (HR1.out.below aM (by decide) hb2);have hbb:=hb1.trans (hb2.mono (by omega));obtain ⟨hz,jm,Qn⟩:=Tk.fresh hbb;clear z0 z1 z2 uR uQ tN;have z0:=hz 0;have z1:=hz 1;have z2:=hz 2;have uR:=jm 0;have uQ:=jm 1;have tN:=jm 2;clear hz jm;have d1:=aB c1 (hb2.block g hg2);have d3:=aB c3 (hb2.block g hg2);have e3:=(World.frozen?_of_block (hb2.block g hg2)).trans f3;clear c1 c2 c3 f1 f2 f3 mP;have mP:=HB2;clear HB2;cases hct:x.line.contains who
   case true =>
    have HJ:=iH (Nt.out.trans (if_pos (.inr (List.contains_iff_mem.1 hct))));clear Nt hct;go_wp2;go_region;go_wp2;refine bodyPost_ret (v:=.tuple #[.slice (some ⟨g,0,none⟩) l.length cap, .agg #[iI 10, iI x.holder, .string ⟨#[]⟩], iI 0]) (by simp [results,Tryz.results106,go_sem,z0,z1,z2,uR,uQ,tN]) rfl ?_;rw [HJ.out];refine gL.mk (r:=⟨10,x.holder,[]⟩) (aZ.move aM (by decide) HR2.out fun b hb hlt=>⟨?_,?_⟩) ?_
    ·have hb':w.heap.size+1≤b:=hb
     (repeat (first | with_reducible rfl | with_reducible assumption | with_reducible refine (Go.Tk.heap_drew _ _).trans ?_ | with_reducible refine (Go.Tk.heap_drewN _ _ _).trans ?_ | with_reducible refine (Go.Tk.aC (by omega)).trans ?_))
    ·have hb':w.heap.size+1≤b:=hb
     show _≤_;omega
    ·(repeat (first | exact mP.out | with_reducible refine below_drewN ?_ _ | with_reducible refine Below.drew ?_ | with_reducible refine ay ?_ (by omega) _ _ | with_reducible refine Below.alloc ?_ (by omega) _))
   case false =>
    have Vl:=iH (Nt.out.trans (if_neg (fun h=>by rcases h with h | h;cases h;rw [List.contains_iff_mem.2 h] at hct;cases hct)));clear Nt hct
    by_cases h3:x.line.length=3
    ·have HJ:=iH (Vl.out.trans (if_pos h3))
     have h3b:((x.line.length:Int) == 3)=true:=by rw [beq_iff_eq];omega
     clear Vl h3;go_wp2;refine bodyPost_ret (v:=.tuple #[.slice (some ⟨g,0,none⟩) l.length cap, .agg #[iI 8, iI 0, .string ⟨#[]⟩], iI 0]) (by simp [results,Tryz.results106,go_sem,z0,z1,z2,uR,uQ,tN]) rfl ?_;rw [HJ.out];refine gL.mk (r:=⟨8,0,[]⟩) (aZ.move aM (by decide) HR2.out fun b hb hlt=>⟨?_,?_⟩) ?_
     ·have hb':w.heap.size+1≤b:=hb
      (repeat (first | with_reducible rfl | with_reducible assumption | with_reducible refine (Go.Tk.heap_drew _ _).trans ?_ | with_reducible refine (Go.Tk.heap_drewN _ _ _).trans ?_ | with_reducible refine (Go.Tk.aC (by omega)).trans ?_))
     ·have hb':w.heap.size+1≤b:=hb
      show _≤_;omega
     ·(repeat (first | exact mP.out | with_reducible refine below_drewN ?_ _ | with_reducible refine Below.drew ?_ | with_reducible refine ay ?_ (by omega) _ _ | with_reducible refine Below.alloc ?_ (by omega) _))
    ·have HJ:=iH (Vl.out.trans (if_neg h3))
     have h3b:((x.line.length:Int) == 3)=false:=by rw [beq_eq_false_iff_ne];omega
     have hx3:=JO.out.len;have hna:(Value.slice ra x.line.length rc).ownBlock≠some g:=fun e=>(HG.out g e).2.1 rfl
     have uw:g<w2.heap.size:=by omega
     have hown:=HV.out.below bB hb2;clear Vl h3
     go_wp2_with (at_builtin;refine dW Tryz.AA (.tmp 135) (.tmp 137) rfl rfl bB who rfl rfl rfl hown rfl (by omega) ?_;intro v4 w4 kY hg4 hv4;obtain ⟨ra4,rc4,e4⟩:∃a c,v4=.slice a (x.line.length+1) c:=(by obtain ⟨a,c,e⟩:=kY.shape;exact ⟨a,c,by rw [e];congr 1;simp⟩);subst e4;have u1:=aB d1 (hg4.block g uw (Ne.symm hna));have u3:=aB d3 (hg4.block g uw (Ne.symm hna));have v3:=(World.frozen?_of_block (hg4.block g uw (Ne.symm hna))).trans e3)
     have MH:=hbb.grown hg4 (by omega) (fun k hk=>(HG.out k hk).1);obtain ⟨hz,jm,Og⟩:=Tk.fresh MH;clear z0 z1 z2 uR uQ tN;have z0:=hz 0;have z1:=hz 1;have z2:=hz 2;have uR:=jm 0;have uQ:=jm 1;have tN:=jm 2;clear hz jm;have Uz:=iH (mP.out.grown hg4 (by omega) (fun k hk=>by have:=(HG.out k hk).1;omega));have HR3:Hid (aZ 4 fZ (w4.setCell ⟨g,fi*4+3,none⟩ (.slice ra4 (x.line.length+1) rc4)) (.slice (some ⟨g,0,none⟩) l.length cap) (l.set fi { x with line:=x.line++[who] }) (fun b=>w.heap.size+1≤b)):=by
      have k1:=(Rc.out.below (iG _) hb2).jN hlt d3 hg4 kY (by rcases hv4 with h | ⟨b',h,h'⟩;exact .inl h;exact .inr (.inr ⟨b',h,h',by omega⟩));rw [JN.out] at k1;exact k1.Eg (fun b hb=>by cases hb;exact hgw)
     clear mP hown;have mP:=Uz;clear Uz;go_region;go_wp2;refine bodyPost_ret (v:=.tuple #[.slice (some ⟨g,0,none⟩) l.length cap, .agg #[iI 10, iI x.holder, .string ⟨#[]⟩], iI 0]) (by simp [results,Tryz.results106,go_sem,z0,z1,z2,uR,uQ,tN]) rfl ?_;rw [HJ.out];refine gL.mk (r:=⟨10,x.holder,[]⟩) (aZ.move aM (by decide) HR3.out fun b hb hlt=>⟨?_,?_⟩) ?_
     ·have hb':w.heap.size+1≤b:=hb
      (repeat (first | with_reducible rfl | with_reducible assumption | with_reducible refine (Go.Tk.heap_drew _ _).trans ?_ | with_reducible refine (Go.Tk.heap_drewN _ _ _).trans ?_ | with_reducible refine (Go.Tk.aC (by omega)).trans ?_))
     ·have hb':w.heap.size+1≤b:=hb
      show _≤_;omega
     ·(repeat (first | exact mP.out | with_reducible refine below_drewN ?_ _ | with_reducible refine Below.drew ?_ | with_reducible refine ay ?_ (by omega) _ _ | with_reducible refine Below.alloc ?_ (by omega) _))
end Go.Proofs.YtbngpjdflblffaaGreatDoor
