/- A part of the proof, laid together from: FldLockF, Pass, DelInt, Free. -/
import Derived.Test.YtbngpjdflblffaaGreatDoorPa26
set_option linter.all false
set_option maxRecDepth 100000
set_option maxHeartbeats 1600000
namespace Go.Tk
open Go Go.RowKit
def iZ (EI:Nat):Rel aN:=fun w cs x S=>∃v,cs=[iS x.name, iI x.holder, iI x.fence,v]∧nJ EI 1 jE w v x.line (fun _=>False)∧∀g,v.ownBlock=some g→S g
theorem mG (EI:Nat):cu (iZ EI) 4 where
 len:=by rintro w cs x S ⟨v,rfl,_⟩;rfl
 one:=by
  rintro w cs x S ⟨v,rfl,h,_⟩ u hu;simp at hu
  rcases hu with rfl | rfl | rfl | rfl
  ·rfl
  ·rfl
  ·rfl
  ·exact h.oneCell
 move:=by
  rintro w w' cs x S S' ⟨v,rfl,h,hs⟩ hm;exact ⟨v,rfl,h.move bB (fun g hg=>(hm g (hs g hg) (h.lt g hg)).1) (fun b hb=>hb.elim),fun g hg=>(hm g (hs g hg) (h.lt g hg)).2⟩
theorem iZ.read {EI:Nat} {w:World} {cs:List Value} {x:aN} {S:Nat→Prop} (h:iZ EI w cs x S):fZ w cs x S:=by
 obtain ⟨v,rfl,h,hs⟩:=h;exact ⟨v,rfl,(h.move bB (fun _ _=>rfl) (fun b hb=>hb.elim)).read bB hs⟩
theorem jl.Pk {EI:Nat} {w:World} {cs:List Value} {x:aN} {S:Nat→Prop} (h:jl EI w cs x S):iZ EI w cs x S:=by
 obtain ⟨v,rfl,h,hs⟩:=h;exact ⟨v,rfl,h.Pk bB,hs⟩
theorem lT.map {α:Type} {E k:Nat} {R R':Rel α} (hr:∀(w:World) (cs:List Value) (x:α) (S:Nat→Prop),R w cs x S→R' w cs x S) {w:World} {v:Value} {l:List α} {S:Nat→Prop} (h:lT E k R w v l S):lT E k R' w v l S:=by
 obtain ⟨l2,hm,ha,ho⟩:=h;exact ⟨l2,hm,ha,ho.map fun _ _ _ _ h=>⟨hr _ _ _ _ h.1,h.2⟩⟩
theorem lT.yo {E EI:Nat} {w:World} {v:Value} {l:List aN} {S:Nat→Prop} (h:lT E 4 (iZ EI) w v l S) (hS:∀g,v.ownBlock=some g→S g):aZ 4 fZ w v l S :=
 ((h.own (mG EI)).read (mG EI) (by decide) hS).map fun _ _ _ _ hr=>hr.read
theorem iZ.mk {EK:Nat} {w:World} {x:aN} {v:Value} {S:Nat→Prop} (h:nJ EK 1 jE w v x.line (fun _=>False)) (hs:∀g,v.ownBlock=some g→S g):iZ EK w (dS x++[v]) x S:=⟨v,rfl,h,hs⟩
theorem lT.wD {E EK:Nat} {w:World} {g cap n:Nat} {l:List aN} {S:Nat→Prop} (h:lT E 4 (iZ EK) w (.slice (some ⟨g,0,none⟩) n cap) l S) (i:Nat) (hi:i<l.length) :
 ∃v,(∀(j:Nat) (u:Value),(dS l[i]++[v])[j]?=some u→w.cell? ⟨g,i*4+j,none⟩=some u)∧nJ EK 1 jE w v l[i].line (fun _=>False)∧∀b,v.ownBlock=some b→S b∧b≠g∧b<w.heap.size:=by
 obtain ⟨row,G,⟨v,rfl,hv,hg⟩,hG,hc,_⟩:=h.upd (mG EK) i hi;exact ⟨v,hc,hv,fun b hb=>hG b (hg b hb)⟩
theorem lT.tZ {E EK:Nat} {w:World} {g cap n:Nat} {l:List aN} {S:Nat→Prop} (h:lT E 4 (iZ EK) w (.slice (some ⟨g,0,none⟩) n cap) l S) {i:Nat} (hi:i<l.length) {j:Nat} (hj:j<3) (u:Value) (x':aN)
 (hx:dS x'=(dS l[i]).set j u) (hr:x'.line=l[i].line):lT E 4 (iZ EK) (w.setCell ⟨g,i*4+j,none⟩ u) (.slice (some ⟨g,0,none⟩) n cap) (l.set i x') S:=by
 obtain ⟨row,G,⟨v,rfl,hv,hg⟩,hG,hc,hch⟩:=h.upd (mG EK) i hi;have hll:(dS l[i]).length=3:=rfl;have hc':∀(q:Nat) (t:Value),(dS l[i]++[v])[q]?=some t→w.cell? ⟨g,i*4+q,none⟩=some t:=hc;refine hch _ S G (dS x'++[v]) x' ((bW.refl g w).set _ _ _) (fun q hq=>bK (by omega)) (fun q t ht=>?_) (fun b _ hb _ _=>aC hb) (fun _ hb=>hb) (fun b hb=>⟨.inl hb,(hG b hb).1,(hG b hb).2.1,by simpa [World.setCell] using (hG b hb).2.2⟩) ?_
 ·by_cases hq:q=j
  ·subst hq
   rw [hx,List.getElem?_append_left (by rw [List.length_set,hll];exact hj),List.getElem?_set_self (by rw [hll];exact hj)] at ht;cases ht;obtain ⟨t0,ht0⟩:∃t0,(dS l[i]++[v])[q]?=some t0:=⟨(dS l[i]++[v])[q]'(by rw [List.length_append,hll];show q<3+1;omega),List.getElem?_eq_getElem _⟩;exact World.cell?_setCell_same _ _ _ (hc' q t0 ht0)
  ·refine (bK (by omega)).trans (hc' q t ?_)
   rcases Nat.lt_or_ge q 3 with h | h
   ·rw [hx,List.getElem?_append_left (by rw [List.length_set,hll];exact h),List.getElem?_set_ne (Ne.symm hq)] at ht
    rw [List.getElem?_append_left (by rw [hll];exact h)];exact ht
   ·rw [List.getElem?_append_right (by rw [hx,List.length_set,hll];exact h),hx,List.length_set] at ht
    rw [List.getElem?_append_right (by rw [hll];exact h)];exact ht
 ·refine iZ.mk ?_ hg
  rw [hr];exact hv.move bB (fun b hb=>aC (hG b (hg b hb)).2.1) (fun b hb=>hb.elim)
theorem lT.xD {E EK:Nat} {w w':World} {g cap n:Nat} {l:List aN} {S:Nat→Prop} (h:lT E 4 (iZ EK) w (.slice (some ⟨g,0,none⟩) n cap) l S) {i:Nat} (hi:i<l.length) {v v':Value} (hv:w.cell? ⟨g,i*4+3,none⟩=some v)
 {rs:List Int} (hg':w.grownBy w' v.ownBlock) (ho:nJ EK 1 jE w' v' rs (fun _=>False)) (hvv:v'.ownBlock=v.ownBlock∨v'.ownBlock=none∨∃b,v'.ownBlock=some b∧w.heap.size≤b∧S b) :
 lT E 4 (iZ EK) (w'.setCell ⟨g,i*4+3,none⟩ v') (.slice (some ⟨g,0,none⟩) n cap) (l.set i { l[i] with line:=rs }) S:=by
 obtain ⟨row,G,⟨v0,rfl,hv0,hg⟩,hG,hc,hch⟩:=h.upd (mG EK) i hi;have hll:(dS l[i]).length=3:=rfl;have hc':∀(q:Nat) (t:Value),(dS l[i]++[v0])[q]?=some t→w.cell? ⟨g,i*4+q,none⟩=some t:=hc;obtain rfl:v0=v:=by
  have:=hc' 3 v0 rfl;rw [this] at hv;simpa using hv
 have hne:some g≠v0.ownBlock:=fun e=>(hG g (hg g e.symm)).2.1 rfl
 have hgl:g<w.heap.size:=World.block_lt_of_cell? w _ (hc' 0 _ rfl);have hgg:w'.heap[g]?=w.heap[g]?:=hg'.block g hgl hne;have hsz:=hg'.size;have F6:∀b,v'.ownBlock=some b→(G b∨w.heap.size≤b)∧S b∧b≠g∧b<w'.heap.size:=by
  intro b hb;have hlt:=ho.lt b hb
  rcases hvv with e | e | ⟨b',e,hb',hsb⟩
  ·have MJ:=hg b (e▸hb)
   exact ⟨.inl MJ,(hG b MJ).1,(hG b MJ).2.1,hlt⟩
  ·rw [e] at hb;cases hb
  ·rw [e] at hb;cases hb
   exact ⟨.inr hb',hsb,by omega,hlt⟩
 refine hch _ S (fun b=>v'.ownBlock=some b) (dS { l[i] with line:=rs }++[v']) _ ((bW.same hgg).set _ _ _) (fun q hq=>(bK (by omega)).trans (World.cell?_of_block (a:=⟨g,q,none⟩) hgg)) (fun q t ht=>?_) (fun b hb hbg Tz hbl=>(aC hbg).trans (hg'.block b hbl (fun e=>Tz (hg b e.symm)))) (fun _ hb=>hb) (fun b hb=>?_) ?_
 ·by_cases hq:q=3
  ·subst hq
   cases ht;exact World.cell?_setCell_same _ _ _ (aB hv hgg)
  ·have zY:q<3:=by
    rcases Nat.lt_or_ge q 4 with h | h
    ·omega
    ·rw [List.getElem?_eq_none (by rw [List.length_append];show 3+1≤q;omega)] at ht;cases ht
   refine (bK (by omega)).trans (aB (hc' q t ?_) hgg);rw [List.getElem?_append_left zY] at ht;rw [List.getElem?_append_left (by rw [hll];exact zY)];exact ht
 ·have:=F6 b hb
  exact ⟨this.1,this.2.1,this.2.2.1,by simpa [World.setCell] using this.2.2.2⟩
 ·exact iZ.mk (x:={ l[i] with line:=rs }) (ho.move bB (fun b hb=>aC (F6 b hb).2.2.1) (fun b hb=>hb.elim)) (fun b hb=>hb)
theorem nJ.empty {α:Type} {E k:Nat} {R:Rel α} {w:World} {g off n cap:Nat} {l:List α} {S:Nat→Prop} (h:nJ E k R w (.slice (some ⟨g,off,none⟩) n cap) l S):nJ E k R w (.slice (some ⟨g,off,none⟩) 0 0) ([]:List α) S:=by
 rcases h with ⟨h,_⟩ | ⟨g',off',cap',cur,rows,hv,hg,h1,h2,h3,h4,h5,h6⟩
 ·cases h
 ·simp only [Value.slice.injEq,Option.some.injEq,Addr.mk.injEq,and_true] at hv
  obtain ⟨⟨rfl,rfl⟩,rfl,rfl⟩:=hv;exact .inr ⟨g,off,0,cur,[],rfl,hg,Nat.le_refl _,by decide,by omega,rfl,fun i r hr=>by simp at hr,fun i r x hr=>by simp at hr⟩
theorem Az {x:aN} {who:Int} {n:Nat} (h:kD (fun y=>who == y) x.line=n):gH x who={ x with line:=x.line.eraseIdx n }:=by
 rw [gH,h,if_pos (by omega),Int.toNat_natCast]
theorem G5 {x:aN} {who:Int} (h:kD (fun y=>who == y) x.line=-1):gH x who=x:=by
 rw [gH,h,if_neg (by decide)]
end Go.Tk
namespace Go.Proofs.YtbngpjdflblffaaGreatDoor
open Go.RowKit Go.Tk
theorem wh (w:World) (g n cap:Nat) (l:List aN) (S:Nat→Prop) (h:lT 89 4 (iZ 3) w (.slice (some ⟨g,0,none⟩) n cap) l S) (fi:Nat) (hi:fi<l.length) (hf:0≤l[fi].fence∧l[fi].fence≤1073741824) (hn:l[fi].line.length≤1000000) :
 Calls Tryz.prog 140 #[.pointer (some ⟨g,fi*4,none⟩)] w fun e w'=>e=.returned (.tuple #[])∧lT 89 4 (iZ 3) w' (.slice (some ⟨g,0,none⟩) n cap) (l.set fi (mY l[fi])) S∧w.grownBy w' (some g):=by
 obtain ⟨v,hcells,hv,UZ⟩:=h.wD fi hi;have hth:=h.thaw (by omega);have z1:=hth (fi*4+1);have z2:=hth (fi*4+2);have z3:=hth (fi*4+3);have HP:=iH (show mY l[fi]=if 0<l[fi].line.length∧l[fi].fence<1073741824 then ⟨l[fi].name,l[fi].line.getD 0 0,l[fi].fence+1,l[fi].line.drop 1⟩ else ⟨l[fi].name,0,l[fi].fence,[]⟩ from rfl);have HO:=iH h;clear hth h;generalize mY l[fi]=px at HP⊢;generalize xX:l[fi]=x at *;have HX:=iH xX;clear xX;have c1:=hcells 1 _ rfl;have c2:=hcells 2 _ rfl;have c3:=hcells 3 _ rfl;have HC:=iH hcells;have HV:=iH hv;have HG:=iH UZ;have hs0:Hid (lT 89 4 (iZ 3) (w.setCell ⟨g,fi*4+1,none⟩ (iI 0)) (.slice (some ⟨g,0,none⟩) n cap) (l.set fi ⟨x.name,0,x.fence,x.line⟩) S) :=
  HO.out.tZ hi (j:=1) (by decide) (iI 0) ⟨x.name,0,x.fence,x.line⟩ (by rw [HX.out];rfl) (by rw [HX.out])
 by_cases hc:0<x.line.length∧x.fence<1073741824
 case neg =>
  have HJ:=iH (HP.out.trans (if_neg hc));have hcases:(x.line.length=0)∨(0<x.line.length∧¬ x.fence<1073741824):=by omega
  obtain ⟨ra,rc,rfl⟩:=hv.shape;clear hcells hv UZ hc HP;have hfin:Hid (lT 89 4 (iZ 3) ((w.setCell ⟨g,fi*4+1,none⟩ (iI 0)).setCell ⟨g,fi*4+3,none⟩ (iN)) (.slice (some ⟨g,0,none⟩) n cap) (l.set fi px) S):=by
   have:=hs0.out.xD (i:=fi) (by rw [List.length_set];exact hi) ((bK (by omega)).trans c3) (grownBy_refl _ _) (nJ.nil _ _) (.inr (.inl rfl));rw [List.set_set,List.getElem_set_self] at this;rw [HJ.out];exact this
  rcases hcases with h0 | ⟨h0,h1⟩
  ·have h0':decide (0<x.line.length)=false:=by simp [h0]
   go_enter Tryz.func140,Tryz.ntmps140
   go_wp2;refine bodyPost_end (v:=.tuple #[]) (by simp [results,Tryz.results140,go_sem]) rfl ⟨rfl,hfin.out,?_⟩;exact bO (bO (grownBy_refl _ _) _ _) _ _
  ·go_enter Tryz.func140,Tryz.ntmps140
   go_wp2;refine bodyPost_end (v:=.tuple #[]) (by simp [results,Tryz.results140,go_sem]) rfl ⟨rfl,hfin.out,?_⟩;exact bO (bO (grownBy_refl _ _) _ _) _ _
 case pos =>
  have HJ:=iH (HP.out.trans (if_pos hc));obtain ⟨hl0,hf1⟩:=hc;clear HP;obtain ⟨b,off,vc,row,rfl,-,hrow,hr0⟩:=(hv.read (S:=fun b=>w.heap.size=w.heap.size) bB (fun _ _=>rfl)).row 0 hl0;obtain rfl:=hrow;have q0:=hr0 0 _ rfl;simp only [Nat.zero_mul,Nat.add_zero] at q0;have Zp:=iH (show x.line.getD 0 0=x.line[0] by simp [List.getD,hl0]);generalize x.line[0]=y at *;have hbg:=(UZ b rfl).2.1;have HDR:Hid (nJ 3 1 jE w (.slice (some ⟨b,off+1,none⟩) (x.line.length - 1) (vc - 1)) (x.line.drop 1) (fun _=>False)):=by
   have:=HV.out.drop 1 hl0;rw [Nat.mul_one] at this;exact this
  have Zy:Hid (nJ 3 1 jE w (.slice (some ⟨b,off,none⟩) 0 0) ([]:List Int) (fun _=>False)):=HV.out.empty;have hlc:x.line.length≤vc:=by
   rcases HV.out with ⟨h,_⟩ | ⟨g',off',cap',cur,rows,hv,hg,h1,_⟩
   ·cases h
   ·cases hv;exact h1
  clear hcells hv UZ hr0;have hg0:g<w.heap.size:=World.block_lt_of_cell? w _ c1;have hb0:b<w.heap.size:=World.block_lt_of_cell? w _ q0
  go_enter Tryz.func140,Tryz.ntmps140
  go_wp2;have d1:=World.cell?_setCell_same w ⟨g,fi*4+1,none⟩ (iI 0) c1;have d2:=(bK (w:=w) (b:=g) (o:=fi*4+1) (u:=iI 0) (o':=fi*4+2) (by omega)).trans c2;have d3:=(bK (w:=w) (b:=g) (o:=fi*4+1) (u:=iI 0) (o':=fi*4+3) (by omega)).trans c3;have e0:=(cell_far (w:=w) (b:=g) (o:=fi*4+1) (u:=iI 0) (c:=b) (o':=off) (Ne.symm hbg)).trans q0;have y1:(w.setCell ⟨g,fi*4+1,none⟩ (iI 0)).frozen? ⟨g,fi*4+1,none⟩=false:=by simp [go_sem,z1]
  have y2:(w.setCell ⟨g,fi*4+1,none⟩ (iI 0)).frozen? ⟨g,fi*4+2,none⟩=false:=by simp [go_sem,z2]
  have y3:(w.setCell ⟨g,fi*4+1,none⟩ (iI 0)).frozen? ⟨g,fi*4+3,none⟩=false:=by simp [go_sem,z3]
  have I6:=iH (bO (grownBy_refl w (some g)) (fi*4+1) (iI 0));have HD2:Hid (nJ 3 1 jE (w.setCell ⟨g,fi*4+1,none⟩ (iI 0)) (.slice (some ⟨b,off+1,none⟩) (x.line.length - 1) (vc - 1)) (x.line.drop 1) (fun _=>False)):=HDR.out.move bB (fun b' hb'=>by cases hb';exact aC hbg) (fun _ h _ _=>h.elim);have HE2:Hid (nJ 3 1 jE (w.setCell ⟨g,fi*4+1,none⟩ (iI 0)) (.slice (some ⟨b,off,none⟩) 0 0) ([]:List Int) (fun _=>False)):=Zy.out.move bB (fun b' hb'=>by cases hb';exact aC hbg) (fun _ h _ _=>h.elim);clear HDR Zy HV HC z1 z2 z3 c1 c2 c3 q0;generalize w.setCell ⟨g,fi*4+1,none⟩ (iI 0)=w1 at *;have w0:IntKind.i64.wrap (x.fence+1)=x.fence+1:=IntWalk.i64_in _ (by omega);have hl1:(1:Int)≤(x.line.length:Int):=by omega
  by_cases Qq:vc=1
  ·subst Qq
   have hln:x.line.length=1:=by omega
   have HD:Hid (x.line.drop 1=[]):=by show _=_;exact List.eq_nil_of_length_eq_zero (by rw [List.length_drop];omega)
   simp only [hln] at d3;have ko:=iH hln;clear hln hlc hl1 hl0 hn;go_region;go_wp2;refine bodyPost_ret (v:=.tuple #[]) (by simp [results,Tryz.results140,go_sem]) rfl ⟨rfl,?_,?_⟩
   ·have k3:=(hs0.out.below (mG _) (Below.drew iB)).tZ (i:=fi) (by rw [List.length_set];exact hi) (j:=1) (by decide) (iI y) ⟨x.name,y,x.fence,x.line⟩ (by rw [List.getElem_set_self];rfl) (by rw [List.getElem_set_self])
    rw [List.set_set] at k3;have k4:=k3.tZ (i:=fi) (by rw [List.length_set];exact hi) (j:=2) (by decide) (iI (x.fence+1)) ⟨x.name,y,x.fence+1,x.line⟩ (by rw [List.getElem_set_self];rfl) (by rw [List.getElem_set_self]);rw [List.set_set] at k4;have k5:=k4.xD (i:=fi) (v:=.slice (some ⟨b,off,none⟩) 1 1) (v':=.slice (some ⟨b,off,none⟩) 0 0) (by rw [List.length_set];exact hi) ((bK (by omega)).trans ((bK (by omega)).trans d3)) (grownBy_refl _ _)
     (HE2.out.move bB (fun b' hb'=>by cases hb';exact (aC hbg).trans (aC hbg)) (fun _ h _ _=>h.elim)) (.inl rfl)
    rw [List.set_set,List.getElem_set_self] at k5;rw [HJ.out,Zp.out];rw [HD.out];exact k5
   ·exact bO (bO (bO (grownBy_drew I6.out) _ _) _ _) _ _
  ·go_region
   go_wp2;refine bodyPost_ret (v:=.tuple #[]) (by simp [results,Tryz.results140,go_sem]) rfl ⟨rfl,?_,?_⟩
   ·have k3:=(hs0.out.below (mG _) (Below.drew iB)).tZ (i:=fi) (by rw [List.length_set];exact hi) (j:=1) (by decide) (iI y) ⟨x.name,y,x.fence,x.line⟩ (by rw [List.getElem_set_self];rfl) (by rw [List.getElem_set_self])
    rw [List.set_set] at k3;have k4:=k3.tZ (i:=fi) (by rw [List.length_set];exact hi) (j:=2) (by decide) (iI (x.fence+1)) ⟨x.name,y,x.fence+1,x.line⟩ (by rw [List.getElem_set_self];rfl) (by rw [List.getElem_set_self]);rw [List.set_set] at k4;have k5:=k4.xD (i:=fi) (v:=.slice (some ⟨b,off,none⟩) x.line.length vc) (v':=.slice (some ⟨b,off+1,none⟩) (x.line.length - 1) (vc - 1)) (by rw [List.length_set];exact hi) ((bK (by omega)).trans ((bK (by omega)).trans d3)) (grownBy_refl _ _)
     (HD2.out.move bB (fun b' hb'=>by cases hb';exact (aC hbg).trans (aC hbg)) (fun _ h _ _=>h.elim)) (.inl rfl)
    rw [List.set_set,List.getElem_set_self] at k5;rw [HJ.out,Zp.out];exact k5
   ·exact bO (bO (bO (grownBy_drew I6.out) _ _) _ _) _ _
theorem Tryz.NM:∀i z,Tryz.prog.info? 3=some i→i.zero=some z→∀v∈z.cells.toList,v.oneCell'=true:=by
 intro i z hi hz;have h:(Tryz.prog.info? 3).map (fun i=>i.zero)=some (some (iI 0)):=by kernel_rfl
 rw [hi] at h;simp only [Option.map_some,Option.some.injEq] at h;rw [h] at hz;cases hz;intro v hv;simp [Value.cells] at hv;subst hv;rfl
theorem xM (w:World) (v:Value) (l:List Int) (S:Nat→Prop) (h:nJ 3 1 jE w v l S) (hn:l.length≤1000000) (i:Nat) (hi:i<l.length) :
 Calls Tryz.prog 139 #[v, iI i, iI ((i:Int)+1)] w fun e w'=>∃v',e=.returned v'∧nJ 3 1 jE w' v' (l.eraseIdx i) S∧w.grownBy w' v.ownBlock∧v'.ownBlock=v.ownBlock:=by
 obtain ⟨g,off,n,cap,rfl⟩:∃g off n cap,v=.slice (some ⟨g,off,none⟩) n cap:=by
  rcases h with ⟨_,h⟩ | ⟨g,off,cap,cur,rows,hv,_⟩
  ·subst h;simp at hi
  ·exact ⟨g,off,_,cap,hv⟩
 obtain ⟨cur,news,hg,hnl,hnc,hcm,hfit,hnews,hone,hcell,cur',hg',hsz,hfin⟩:=nJ.erase (w:=w.drew) bB (h.move bB (fun _ _=>rfl) (fun _ h _ _=>⟨rfl,h⟩)) hi;subst hnl;simp only [Nat.mul_one] at *;have hin:(l.length - (i+1))+i=l.length - 1:=by omega
 obtain ⟨p,hp⟩:∃p,l.length=p+1:=⟨l.length - 1,by omega⟩;obtain ⟨zs,hzl,hr2⟩:=lg (P:=Tryz.prog) (ty:=0) (w.drew.setCells g (off+i) news) Tryz.AA g (off+p) 1 (cap - p) cur' hg' (by omega) Tryz.NM;have hgb:w.grownBy ((w.drew.setCells g (off+i) news).setRow g (splice cur'.toList (off+p) zs).toArray) (some g) :=
  grownBy_trans (grownBy_trans (grownBy_drew (grownBy_refl w _)) (j5 (.inl rfl) _ _ _ (grownBy_refl w.drew _))) (jQ _ g _)
 have hfz:=hfin zs hzl;rw [show l.length - 1=p by omega] at hfz;have hfz':nJ 3 1 jE ((w.drew.setCells g (off+i) news).setRow g (splice cur'.toList (off+p) zs).toArray) (.slice (some ⟨g,off,none⟩) p cap) (l.eraseIdx i) S:=hfz.move bB (fun _ _=>rfl) (fun _ h _ _=>⟨rfl,h⟩);have HF:=iH (And.intro hfz' hgb);clear hfz hfz' hfin hgb;obtain ⟨wf,hwf⟩:∃wf,wf=(w.drew.setCells g (off+i) news).setRow g (splice cur'.toList (off+p) zs).toArray:=⟨_,rfl⟩;rw [←hwf] at hr2 HF;clear hwf hg' hzl hsz;obtain ⟨inf,z,hi1,hz1,hs1,hb1,Ik⟩:=(Tryz.AA).parts;have hi':i≤p:=by omega
 have hr1:∀ad:Addr,(∀(j:Nat) (u:Value),news[j]?=some u→w.cell? (ad.add j)=some u) →
  (Builtin.append_ #[87,87] 87 #[.slice (some ⟨g,off,none⟩) i cap, .slice (some ad) (p - i) (cap - (i+1))]).run Tryz.prog w.drew=.ok (.slice (some ⟨g,off,none⟩) p cap) (w.drew.setCells g (off+i) news):=fun ad had=>by
  have:=run_append_room_cells (P:=Tryz.prog) w.drew 87 87 3 inf Tryz.underlying87 hi1 g off i cap ad (p - i) (cap - (i+1)) news (by rw [hs1];omega) had hone (by omega)
   (fun j hj=>by rw [hs1];show (w.drew.cell? _).isSome=true;rw [dN hg,Array.getElem?_eq_getElem (by omega)];rfl) (fun j hj=>frozen_of_row w g _ cur _ hg)
  rw [hs1,Nat.mul_one,show i+(p - i)=p by omega] at this;exact this
 have HR1:=iH hr1;have HC:=iH hcell;have HN:=iH hnews;clear hr1 hcell hnews hin hi1 hz1 hs1 hb1 Ik hg h hone;have hlp:(l.length:Int)≤1000000:=by omega
 generalize l.length=n at *;subst hp;unfold maxLen at hcm;have q1:¬ cap=i:=by omega
 have q2:¬ cap=p:=by omega
 have q3:p+1 - (i+1)=p - i:=by omega
 have q4:((i:Int) == (i:Int)+1)=false:=by rw [beq_eq_false_iff_ne];omega
 have q5:i≤cap:=by omega
 have q6:i+1≤cap:=by omega
 have q7:p+1≤cap:=by omega
 have q8:(i:Int)+1≤(p:Int)+1:=by omega
 have q9:((i:Int)+1).toNat=i+1:=by omega
 have VJ:(0:Int)≤(i:Int)+1:=by omega
 by_cases hci:cap=i+1
 ·obtain rfl:p=i:=by omega
  subst hci;have hr1:=HR1.out ⟨g,off,none⟩ (fun j u hu=>by have h:=HN.out;rw [List.getElem?_eq_none (by omega)] at hu;cases hu);clear HR1 HC HN q1 q2 q3;have VI:(p:Int)≤(p:Int)+1:=by omega
  simp only [Nat.sub_self] at hr1;simp only [Nat.add_sub_cancel_left] at hr2
  go_enter Tryz.func139,Tryz.ntmps139
  go_wp2_with fail
  go_region_law (refine gN rfl _ _ 87 87 rfl _ _ (by simp [Act.eval,Act.put]) (by simp [Act.eval,Act.put]) hr1 ?_)
  clear hr1
  go_wp2_with (at_builtin;refine eU rfl (.tmp 31) _ rfl _ rfl hr2 ?_)
  go_ret;exact ⟨_,rfl,HF.out.1,HF.out.2,rfl⟩
 ·have hr1:=HR1.out ⟨g,off+(i+1),none⟩ (fun j u hu=>by rw [Addr.add_lit];exact HC.out j u hu)
  clear HR1 HC HN
  go_enter Tryz.func139,Tryz.ntmps139
  go_wp2_with fail
  go_region_law (refine gN rfl _ _ 87 87 rfl _ _ (by simp [Act.eval,Act.put]) (by simp [Act.eval,Act.put]) hr1 ?_)
  clear hr1
  go_wp2_with (at_builtin;refine eU rfl (.tmp 31) _ rfl _ rfl hr2 ?_)
  go_ret;exact ⟨_,rfl,HF.out.1,HF.out.2,rfl⟩
theorem Iz (l:List aN) (name:List UInt8) (who:Int) (v:Value) (S:Nat→Prop) (w:World) (h:aZ 4 fZ w v l S) (hin:∀x∈l,x.line.length≤1000000) :
 Calls Tryz.prog 107 #[v, iS name, iI who] w (gL w (fJ l name who)):=by
 have HN:=iH hin;have HH:=iH h;clear hin h
 go_enter Tryz.func107,Tryz.ntmps107
 go_wp2_with fail
 refine (zz l name who v S _ (HH.out.below aM (by decide) (aj w _)) HN.out).mono ?_;rintro e w1 ⟨v1,rfl,ho1,hb1,hv1⟩;rw [World.size_alloc] at hb1;have mP:=iH (show Below w.heap.size w w1 from (aj w _).trans (hb1.mono (by omega)));obtain ⟨hz,jm,hzs⟩:=Tk.fresh hb1;have z0:=hz 0;have z1:=hz 1;have z2:=hz 2;have uR:=jm 0;have uQ:=jm 1;have tN:=jm 2;clear hz jm;simp only [World.size_alloc] at ho1 hv1
 by_cases he:(eT l name who).2.2.2=0
 case neg =>
  have HJ:=iH (show fJ l name who=([],dP,(eT l name who).2.2.2) by rw [fJ,if_pos he]);have he':((eT l name who).2.2.2 != 0)=true:=by simpa using he
  clear ho1 hv1 he;generalize (eT l name who).2.2.2=ec at *;generalize (eT l name who).2.1=ea at *;generalize (eT l name who).2.2.1=eb at *;have HR1:=iH (aZ.nil (k:=4) (R:=fZ) w1 (fun b=>w.heap.size+1≤b));go_wp2;refine bodyPost_ret (v:=.tuple #[iN, .agg #[iI 0, iI 0, .string ⟨#[]⟩], iI ec]) (by simp [results,Tryz.results107,go_sem,z0,z1,z2,uR,uQ,tN]) rfl ?_;rw [HJ.out];refine gL.mk (r:=dP) (aZ.move aM (by decide) HR1.out fun b hb hlt=>⟨?_,?_⟩) ?_
  ·have hb':w.heap.size+1≤b:=hb
   (repeat (first | with_reducible rfl | with_reducible assumption | with_reducible refine (Go.Tk.heap_drew _ _).trans ?_ | with_reducible refine (Go.Tk.heap_drewN _ _ _).trans ?_ | with_reducible refine (Go.Tk.aC (by omega)).trans ?_))
  ·have hb':w.heap.size+1≤b:=hb
   show _≤_;omega
  ·(repeat (first | exact mP.out | with_reducible refine below_drewN ?_ _ | with_reducible refine Below.drew ?_ | with_reducible refine ay ?_ (by omega) _ _ | with_reducible refine Below.alloc ?_ (by omega) _))
 obtain ⟨hok,hname,hwho,hbe⟩:=Bj he;have HT0:=iH (show fJ l name who=if eO l name=false then (l,⟨6,0,[]⟩,0)
  else if (l.getD (bE l name) aO).holder=who then (l.set (bE l name) (mY (l.getD (bE l name) aO)),⟨0,(mY (l.getD (bE l name) aO)).holder,[]⟩,0)
  else if 0≤kD (fun x=>who == x) (l.getD (bE l name) aO).line then (l.set (bE l name) (gH (l.getD (bE l name) aO) who),⟨0,(l.getD (bE l name) aO).holder,[]⟩,0)
  else (l,⟨10,(l.getD (bE l name) aO).holder,[]⟩,0) by rw [fJ,if_neg (by simpa using he)])
 rw [hbe] at ho1⊢;clear hbe he;simp only at ho1;have HO:=iH hok;have hl5:=hok.len;have hfl:bE l name≤l.length:=zy _ _;have Gy:=iH (fun hth:eO l name=true=>jL hth);generalize eO l name=th at HT0 Gy⊢;generalize bE l name=fi at HT0 Gy hfl⊢;clear hok;have hr1:=ho1.Eg hv1;have hone:=hr1.oneCell;cases th
 case false =>
  have HJ:=iH (HT0.out.trans (if_pos rfl));clear HT0 Gy;obtain ⟨ra,rc,rfl⟩:∃a c,v1=.slice a l.length c:=by obtain ⟨a,c,h,_⟩:=hr1;exact ⟨a,c,h⟩
  have HR1:=iH hr1;clear hr1 ho1 hv1;go_wp2;refine bodyPost_ret (v:=.tuple #[.slice ra l.length rc, .agg #[iI 6, iI 0, .string ⟨#[]⟩], iI 0]) (by simp [results,Tryz.results107,go_sem,z0,z1,z2,uR,uQ,tN]) rfl ?_;rw [HJ.out];refine gL.mk (r:=⟨6,0,[]⟩) (aZ.move aM (by decide) HR1.out fun b hb hlt=>⟨?_,?_⟩) ?_
  ·have hb':w.heap.size+1≤b:=hb
   (repeat (first | with_reducible rfl | with_reducible assumption | with_reducible refine (Go.Tk.heap_drew _ _).trans ?_ | with_reducible refine (Go.Tk.heap_drewN _ _ _).trans ?_ | with_reducible refine (Go.Tk.aC (by omega)).trans ?_))
  ·have hb':w.heap.size+1≤b:=hb
   show _≤_;omega
  ·(repeat (first | exact mP.out | with_reducible refine below_drewN ?_ _ | with_reducible refine Below.drew ?_ | with_reducible refine ay ?_ (by omega) _ _ | with_reducible refine Below.alloc ?_ (by omega) _))
 case true =>
  have hlt:=Gy.out rfl;have HT1:=iH (HT0.out.trans (if_neg (by decide)));clear HT0 Gy;obtain ⟨g,cap,rfl,hgc,hgm,hg2,hfz⟩:=ho1.pO (by omega);have hgw:=hv1 g rfl;obtain ⟨rv,hcells,jd,hrg⟩:=ho1.DI fi hlt;have I4:=iH (show l.getD fi aO=l[fi] by simp [List.getD,hlt]);have JO:=iH (HO.out.line l[fi] (List.getElem_mem hlt));have Np:=iH (HO.out.fence l[fi] (List.getElem_mem hlt));generalize xX:l[fi]=x at hcells jd I4 JO Np;have JN:=iH xX;clear xX;obtain ⟨ra,rc,rfl⟩:=jd.shape;have c1:=hcells 1 _ rfl;have c3:=hcells 3 _ rfl;have f3:=hfz (fi*4+3);have Rc:=iH ho1;have HR1:=iH hr1;have HV:=iH jd;have HG:=iH hrg;have HT2:=HT1.out;rw [I4.out] at HT2;have HT:=iH HT2;clear hcells jd hrg ho1 hr1 hfz HT1 HT2 hv1 hone;have HC:=iH (qa w1 _ x.line (fun _=>True) ((HV.out.forget (S':=fun _=>True) (fun _ _ _ _ _ h=>h)).read bB (by decide) (fun _ _=>trivial)) (by have:=JO.out.len;omega) who)
  go_wp2_with fail
  refine HC.out.mono ?_;rintro e w2 ⟨rfl,hb2⟩;clear HC;have hs2:=hb2.size;have HB2:=iH (ah mP.out hb2);have HR2:=iH (HR1.out.below aM (by decide) hb2);have KY:=iH ((Rc.out.below (iG _) hb2).map (R':=iZ 3) fun _ _ _ _ h=>h.Pk);have hbb:=hb1.trans (hb2.mono (by omega));obtain ⟨hz,jm,Qn⟩:=Tk.fresh hbb;clear z0 z1 z2 uR uQ tN;have z0:=hz 0;have z1:=hz 1;have z2:=hz 2;have uR:=jm 0;have uQ:=jm 1;have tN:=jm 2;clear hz jm;have d1:=aB c1 (hb2.block g hg2);have d3:=aB c3 (hb2.block g hg2);have e3:=(World.frozen?_of_block (hb2.block g hg2)).trans f3;clear c1 c3 f3 mP;have mP:=HB2;clear HB2;have Im:g<w2.heap.size:=by omega
  by_cases hw:x.holder=who
  ·have HJ:=iH (HT.out.trans (if_pos hw))
   have hwb:(x.holder == who)=true:=by simpa using hw
   have HP:=iH (wh w2 g l.length cap l _ KY.out fi hlt (by rw [JN.out];have:=Np.out;omega) (by rw [JN.out];have:=JO.out.len;omega));clear hw HT;generalize hidx:kD (fun y=>who == y) x.line=at0;clear hidx
   go_wp2_with fail
   refine HP.out.mono ?_;rintro e w3 ⟨rfl,ho3,hg3⟩;clear HP;rw [JN.out] at ho3;obtain ⟨rv3,hc3,-,-⟩:=ho3.wD fi (by rw [List.length_set];exact hlt);simp only [List.getElem_set_self] at hc3;have d1':=hc3 1 _ rfl;have HR3:=iH (ho3.yo (fun b hb=>by cases hb;exact hgw));have QK:=hbb.grown hg3 (by omega) (fun k hk=>by cases hk;exact hgw);have HB3:=iH (mP.out.grown hg3 (by omega) (fun k hk=>by cases hk;omega));have hs3:=hg3.size;clear mP d1 d3 e3 ho3 hc3 hg3;have mP:=HB3;clear HB3;obtain ⟨hz,jm,Et⟩:=Tk.fresh QK;clear z0 z1 z2 uR uQ tN;have z0:=hz 0;have z1:=hz 1;have z2:=hz 2;have uR:=jm 0;have uQ:=jm 1;have tN:=jm 2;clear hz jm;generalize mY x=px at *;go_wp2;go_region;go_wp2;refine bodyPost_ret (v:=.tuple #[.slice (some ⟨g,0,none⟩) l.length cap, .agg #[iI 0, iI px.holder, .string ⟨#[]⟩], iI 0]) (by simp [results,Tryz.results107,go_sem,z0,z1,z2,uR,uQ,tN]) rfl ?_;rw [HJ.out];refine gL.mk (r:=⟨0,px.holder,[]⟩) (aZ.move aM (by decide) HR3.out fun b hb hlt=>⟨?_,?_⟩) ?_
   ·have hb':w.heap.size+1≤b:=hb
    (repeat (first | with_reducible rfl | with_reducible assumption | with_reducible refine (Go.Tk.heap_drew _ _).trans ?_ | with_reducible refine (Go.Tk.heap_drewN _ _ _).trans ?_ | with_reducible refine (Go.Tk.aC (by omega)).trans ?_))
   ·have hb':w.heap.size+1≤b:=hb
    show _≤_;omega
   ·(repeat (first | exact mP.out | with_reducible refine below_drewN ?_ _ | with_reducible refine Below.drew ?_ | with_reducible refine ay ?_ (by omega) _ _ | with_reducible refine Below.alloc ?_ (by omega) _))
  have HT3:=iH (HT.out.trans (if_neg hw));have hwb:(x.holder == who)=false:=by simpa using hw
  clear hw HT
  rcases j6 (fun y=>who == y) x.line with ⟨hi,-⟩ | ⟨n,hn,hi,-,-⟩
  ·have HJ:=iH (HT3.out.trans (if_neg (by rw [hi];decide)))
   rw [hi];clear hi;go_wp2;go_region;go_wp2;refine bodyPost_ret (v:=.tuple #[.slice (some ⟨g,0,none⟩) l.length cap, .agg #[iI 10, iI x.holder, .string ⟨#[]⟩], iI 0]) (by simp [results,Tryz.results107,go_sem,z0,z1,z2,uR,uQ,tN]) rfl ?_;rw [HJ.out];refine gL.mk (r:=⟨10,x.holder,[]⟩) (aZ.move aM (by decide) HR2.out fun b hb hlt=>⟨?_,?_⟩) ?_
   ·have hb':w.heap.size+1≤b:=hb
    (repeat (first | with_reducible rfl | with_reducible assumption | with_reducible refine (Go.Tk.heap_drew _ _).trans ?_ | with_reducible refine (Go.Tk.heap_drewN _ _ _).trans ?_ | with_reducible refine (Go.Tk.aC (by omega)).trans ?_))
   ·have hb':w.heap.size+1≤b:=hb
    show _≤_;omega
   ·(repeat (first | exact mP.out | with_reducible refine below_drewN ?_ _ | with_reducible refine Below.drew ?_ | with_reducible refine ay ?_ (by omega) _ _ | with_reducible refine Below.alloc ?_ (by omega) _))
  ·have HJ:=iH (HT3.out.trans (if_pos (by rw [hi];omega)))
   have HU:=iH (Az hi);rw [hi];clear hi HT3;have hx3:=JO.out.len;have hna:(Value.slice ra x.line.length rc).ownBlock≠some g:=fun e=>(HG.out g e).2.1 rfl
   have HD:=iH (xM w2 _ x.line (fun _=>False) ((HV.out.below bB hb2).Pk bB) (by omega) n hn);have hwn:IntKind.i64.wrap ((n:Int)+1)=(n:Int)+1:=IntWalk.i64_in _ (by omega)
   go_wp2_with fail
   refine HD.out.mono ?_;rintro e w3 ⟨v3,rfl,ho3,hg3,hv3⟩;clear HD;obtain ⟨ra3,rc3,e3'⟩:=ho3.shape;have u1:=aB d1 (hg3.block g Im (Ne.symm hna));have u3:=aB d3 (hg3.block g Im (Ne.symm hna));have uf:=(World.frozen?_of_block (hg3.block g Im (Ne.symm hna))).trans e3;have qb:=ho3.oneCell;have HR3:Hid (aZ 4 fZ (w3.setCell ⟨g,fi*4+3,none⟩ v3) (.slice (some ⟨g,0,none⟩) l.length cap) (l.set fi (gH x who)) (fun b=>w.heap.size+1≤b)):=by
    have k1:=KY.out.xD hlt d3 hg3 ho3 (.inl hv3);rw [JN.out] at k1;rw [HU.out];exact k1.yo (fun b hb=>by cases hb;exact hgw)
   have QK:=hbb.grown hg3 (by omega) (fun k hk=>(HG.out k hk).1);have HB3:=iH (mP.out.grown hg3 (by omega) (fun k hk=>by have:=(HG.out k hk).1;omega));have hs3:=hg3.size;subst e3';clear mP d1 d3 e3 ho3 hg3 hv3 HU;have mP:=HB3;clear HB3;obtain ⟨hz,jm,Et⟩:=Tk.fresh QK;clear z0 z1 z2 uR uQ tN;have z0:=hz 0;have z1:=hz 1;have z2:=hz 2;have uR:=jm 0;have uQ:=jm 1;have tN:=jm 2;clear hz jm;go_wp2;go_region;go_wp2;refine bodyPost_ret (v:=.tuple #[.slice (some ⟨g,0,none⟩) l.length cap, .agg #[iI 0, iI x.holder, .string ⟨#[]⟩], iI 0]) (by simp [results,Tryz.results107,go_sem,z0,z1,z2,uR,uQ,tN]) rfl ?_;rw [HJ.out];refine gL.mk (r:=⟨0,x.holder,[]⟩) (aZ.move aM (by decide) HR3.out fun b hb hlt=>⟨?_,?_⟩) ?_
   ·have hb':w.heap.size+1≤b:=hb
    (repeat (first | with_reducible rfl | with_reducible assumption | with_reducible refine (Go.Tk.heap_drew _ _).trans ?_ | with_reducible refine (Go.Tk.heap_drewN _ _ _).trans ?_ | with_reducible refine (Go.Tk.aC (by omega)).trans ?_))
   ·have hb':w.heap.size+1≤b:=hb
    show _≤_;omega
   ·(repeat (first | exact mP.out | with_reducible refine below_drewN ?_ _ | with_reducible refine Below.drew ?_ | with_reducible refine ay ?_ (by omega) _ _ | with_reducible refine Below.alloc ?_ (by omega) _))
end Go.Proofs.YtbngpjdflblffaaGreatDoor
