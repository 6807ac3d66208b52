/- A part of the proof, laid together from: CluC, Sess, Slice. -/
import Derived.Test.YtbngpjdflblffaaGreatDoorPa05
import Derived.Test.YtbngpjdflblffaaGreatDoorRows
import Derived.WalkLawsBesides
import Derived.BigQuiet
import Derived.Laws.CopyOwn
import Derived.Lib.Overlaps
set_option linter.all false
set_option maxRecDepth 100000
set_option maxHeartbeats 800000
namespace Go.Tk
open Go Go.RowKit
theorem BI {c:aQ} (h:(ig c).2=0):dI (ig c).1=0:=by
 have hc:dx c=0:=by
  apply Classical.byContradiction
  intro hn;rw [ig,if_pos hn] at h;exact hn h
 rw [dI,Gn (oG.1 hc)]
theorem Dx {c:bA} (h:(iY c).2=0):dI (iY c).1=0:=by
 unfold iY at *
 split at h
 ·rename_i h1;exact absurd h h1
 ·rename_i h1;rw [if_neg h1];exact BI h
theorem ze {c:bA} {k:Int} (h:(gp c k).2=0):dI (gp c k).1=0:=by
 unfold gp at *
 split at h
 ·rename_i h1;exact absurd h h1
 split at h
 ·cases h
 ·rename_i h1 h2;rw [if_neg h1,if_neg h2];exact BI h
def mQ (c:bA) (i:Nat):Int:=(c.waits.getD i gP).seq
theorem gB.step {c:bA} (h:gB c) {i:Nat} (hi:i+1<c.waits.length):mQ c i<mQ c (i+1):=by
 have:=(h.all (i+1) hi).1;unfold o7 at this;simp only [Nat.add_sub_cancel] at this;unfold mQ;omega
theorem gB.rise {c:bA} (h:gB c) (i:Nat):∀d,i+d<c.waits.length→mQ c i+d≤mQ c (i+d)
 | 0,_=>by simp
 | d+1,hd=>by
   have h1:=h.rise i d (by omega);have h2:=h.step (i:=i+d) (by omega);rw [show i+(d+1)=i+d+1 by omega];omega
theorem gB.LU {c:bA} (h:gB c) {i j:Nat} (hij:i≤j) (hj:j<c.waits.length):mQ c i+(j - i:Nat)≤mQ c j:=by
 have:=h.rise i (j - i) (by omega)
 rwa [show i+(j - i)=j by omega] at this
theorem gB.seq {c:bA} (h:gB c) {i:Nat} (hi:i<c.waits.length):1≤mQ c i∧mQ c i<c.next∧mQ c i≤mQ c 0+3:=by
 have:=(h.all i hi).1;unfold o7 at this;unfold mQ;omega
theorem gB.of {c:bA} (h1:1≤c.id∧c.id≤9) (h2:0≤c.session∧c.session≤1073741824) (h3:1≤c.next∧c.next≤1048577) (h4:c.waits.length≤4) (h5:c.session=0→c.waits=[])
 (h6:∀i,i<c.waits.length→1≤mQ c i∧mQ c i<c.next∧mQ c i≤mQ c 0+3∧wJ (c.waits.getD i gP).op) (h7:∀i,i+1<c.waits.length→mQ c i<mQ c (i+1)):gB c:=by
 refine ⟨h1,h2,h3,h4,h5,fun i hi=>⟨?_,(h6 i hi).2.2.2⟩⟩;obtain ⟨a1,a2,a3,-⟩:=h6 i hi;unfold mQ at *;rintro (b | b | ⟨b0,b⟩ | b)
 ·omega
 ·omega
 ·have:=h7 (i - 1) (by omega)
  rw [show i - 1+1=i by omega] at this;omega
 ·omega
theorem IA (i:Nat) (hi:i<9):gB ⟨(i:Int)+1,0,1,[]⟩:=⟨by simp only;omega,by simp,by simp,by simp,by simp,by simp⟩
theorem E9 {c:bA} {o:zC} (h:gB c) (ho:wJ o) (hs:(iX c o).2=0):gB (iX c o).1∧(iX c o).1.id=c.id∧(iX c o).1.next=c.next+1:=by
 unfold iX at *;rw [if_neg (by simp [lF.2 h])] at hs⊢
 split at hs;· cases hs
 split at hs;· rename_i h2;exact absurd hs h2
 split at hs;· cases hs
 rename_i h1 h2 h3
 rw [if_neg h1,if_neg h2,if_neg h3];refine ⟨?_,rfl,rfl⟩;have g1:∀i,i<c.waits.length→mQ ⟨c.id,c.session,c.next+1,c.waits++[⟨c.next,o⟩]⟩ i=mQ c i:=fun i hi=>by simp [mQ,List.getD,List.getElem?_append_left hi]
 have g2:mQ ⟨c.id,c.session,c.next+1,c.waits++[⟨c.next,o⟩]⟩ c.waits.length=c.next:=by simp [mQ,List.getD]
 have hn:=h.next;have hz:0<c.waits.length→c.next≤mQ c 0+3:=fun h0=>by
  rw [gq,if_pos h0] at h3;unfold mQ;omega
 refine gB.of h.id h.session (by simp only;omega) ?_ (fun h0=>absurd h0 h1) (fun i hi=>?_) (fun i hi=>?_)
 ·simp only [List.length_append,List.length_cons,List.length_nil]
  by_cases h0:0<c.waits.length
  ·have a:=hz h0
   have b:=h.LU (i:=0) (j:=c.waits.length - 1) (by omega) (by omega);have d:=h.seq (i:=c.waits.length - 1) (by omega);omega
  ·omega
 ·simp only [List.length_append,List.length_cons,List.length_nil] at hi
  by_cases hl:i<c.waits.length
  ·have a:=h.seq hl
   rw [g1 i hl,g1 0 (by omega)];refine ⟨a.1,by simp only;omega,a.2.2,?_⟩;have:(c.waits++[(⟨c.next,o⟩:oH)]).getD i gP=c.waits.getD i gP:=by simp [List.getD,List.getElem?_append_left hl]
   simp only [this];exact (h.all i hl).2
  ·have:i=c.waits.length:=by omega
   subst this;rw [g2];refine ⟨by omega,by simp only;omega,?_,?_⟩
   ·by_cases h0:0<c.waits.length
    ·rw [g1 0 h0];exact hz h0
    ·have e:c.waits.length=0:=by omega
     rw [e] at g2;rw [g2];omega
   ·have:(c.waits++[(⟨c.next,o⟩:oH)]).getD c.waits.length gP=⟨c.next,o⟩:=by simp [List.getD]
    simp only [this];exact ho
 ·simp only [List.length_append,List.length_cons,List.length_nil] at hi
  by_cases hl:i+1<c.waits.length
  ·rw [g1 i (by omega),g1 (i+1) hl];exact h.step hl
  ·have e:i+1=c.waits.length:=by omega
   rw [e,g2,g1 i (by omega)];exact (h.seq (by omega)).2.1
theorem getD_erase {α:Type} (l:List α) (k i:Nat) (d:α):(l.eraseIdx k).getD i d=if i<k then l.getD i d else l.getD (i+1) d:=by
 simp only [List.getD,List.getElem?_eraseIdx]
 split<;>rfl
theorem Ip {c:bA} {m:kM} (h:gB c) (hs:(kE c m).2=0):gB (kE c m).1∧(kE c m).1.id=c.id∧(kE c m).1.next=c.next:=by
 unfold kE at *;rw [if_neg (by simp [lF.2 h])] at hs⊢
 split at hs;· cases hs
 rename_i h1
 rw [if_neg h1]
 split at hs
 ·rename_i h2
  rw [if_pos h2]
  split at hs;· cases hs
  rename_i h3
  rw [if_neg h3]
  split at hs
  ·rename_i h4;rw [if_pos h4];exact ⟨h,rfl,rfl⟩
  rename_i h4
  rw [if_neg h4]
  split at hs;· cases hs
  rename_i h5
  rw [if_neg h5];have h0:c.session=0:=by have:=h.session;omega
  have hw:=h.away h0;exact ⟨gB.of h.id (by simp only;omega) h.next (by simp only [hw];simp) (fun _=>hw) (fun i hi=>by simp only [hw] at hi;cases hi) (fun i hi=>by simp only [hw] at hi;cases hi),rfl,rfl⟩
 ·rename_i h2
  rw [if_neg h2]
  split at hs;· cases hs
  rename_i h3
  rw [if_neg h3]
  split
  ·exact ⟨gB.of h.id (by simp) h.next (by simp) (fun _=>rfl) (fun i hi=>by cases hi) (fun i hi=>by cases hi),rfl,rfl⟩
  ·refine ⟨?_,rfl,rfl⟩
   generalize oK c.waits m.seq=k at *;have hl:(c.waits.eraseIdx k).length=c.waits.length - 1:=List.length_eraseIdx_of_lt (by omega);have g:∀i,mQ ⟨c.id,c.session,c.next,c.waits.eraseIdx k⟩ i=mQ c (if i<k then i else i+1):=fun i=>by
    unfold mQ;rw [getD_erase]
    split<;>rfl
   have hlen:=h.len;refine gB.of h.id h.session h.next (by simp only [hl];omega) (fun h0=>by simp only;rw [h.away h0];rfl) (fun i hi=>?_) (fun i hi=>?_)
   ·simp only [hl] at hi
    rw [g,g];have a:=h.seq (i:=if i<k then i else i+1) (by split<;>omega);have b:=h.LU (i:=0) (j:=if 0<k then 0 else 0+1) (by omega) (by split<;>omega);refine ⟨a.1,a.2.1,by omega,?_⟩;simp only [getD_erase]
    split
    ·exact (h.all i (by omega)).2
    ·exact (h.all (i+1) (by omega)).2
   ·simp only [hl] at hi
    rw [g,g];have b:=h.LU (i:=if i<k then i else i+1) (j:=if i+1<k then i+1 else i+1+1) (by split<;>split<;>omega) (by split<;>omega);have d:(if i<k then i else i+1)<(if i+1<k then i+1 else i+1+1):=by split<;>split<;>omega
    omega
structure fC (a:dK):Prop where
 kind:-9223372036854775808≤a.kind∧a.kind≤9223372036854775807
 c:-9223372036854775808≤a.c∧a.c≤9223372036854775807
 r:-9223372036854775808≤a.r∧a.r≤9223372036854775807
 k:-9223372036854775808≤a.k∧a.k≤9223372036854775807
 op:a.kind=2→wJ a.op
section
variable {m n:Nat} {x:bS}
theorem aT.Sq (h:aT m n x) (hn:n<400) {i:Nat} (hi:i<m) {p:bA×Int} (hp:p.2=0→gB p.1∧p.1.id=(iq x i).id∧p.1.next≤n+2):aT m (n+1) (qV x i p).1∧(qV x i p).1.K=x.K:=by
 rw [qV]
 split
 ·rename_i h0
  obtain ⟨p1,p2,p3⟩:=hp h0;have s:=h.step hn;refine ⟨⟨s.len,s.lead,s.dec,s.n4,s.rep,s.qK,s.vP,by simp [h.tK],fun j hj=>?_,s.bD⟩,rfl⟩;have e:iq { x with bu:=x.bu.set i p.1 } j=if j=i then p.1 else iq x j:=by
   unfold iq;simp only [List.getD,List.getElem?_set];have:=h.tK
   by_cases hc:j=i
   ·subst hc;rw [if_pos rfl,if_pos rfl,if_pos (by omega)];rfl
   ·rw [if_neg (by omega),if_neg hc]
  show gB (iq { x with bu:=x.bu.set i p.1 } j)∧(iq { x with bu:=x.bu.set i p.1 } j).id=j+1∧(iq { x with bu:=x.bu.set i p.1 } j).next≤((n+1:Nat):Int)+1
  rw [e]
  split
  ·rename_i hc
   subst hc;exact ⟨p1,by rw [p2];exact (h.bu j hi).2.1,by omega⟩
  ·exact s.bu j hj
 ·exact ⟨h.step hn,rfl⟩
theorem aT.by_ (h:aT m n x) (hn:n<400) {a:dK} (ha:fC a) (hk:1≤a.kind∧a.kind≤3):aT m (n+1) (ND x a).1∧(ND x a).1.K=x.K:=by
 rw [ND]
 split
 ·exact ⟨h.step hn,rfl⟩
 rename_i hc
 have hcm:=h.tK
 split
 ·exact h.append hn Dx
 split
 ·exact h.append hn ze
 ·have hi:a.c.toNat<m:=by omega
  obtain ⟨c1,c2,c3⟩:=h.bu _ hi;refine h.Sq hn hi fun h0=>?_
  obtain ⟨s1,s2,s3⟩:=E9 c1 (ha.op (by omega)) h0;exact ⟨s1,s2,by omega⟩
theorem aT.del (h:aT m n x) (i:Nat):aT m n (yR x i) :=
 ⟨h.len,h.lead,h.dec,h.n4,h.rep,h.qK,h.vP,h.tK,h.bu,by have:=h.bD;have:=List.length_eraseIdx_le x.bD i;simp only [yR];omega⟩
theorem aT.jh (h:aT m n x) (hn:n<400) (a:dK):aT m (n+1) (qW x a).1∧(qW x a).1.K=x.K:=by
 rw [qW]
 split
 ·exact ⟨h.step hn,rfl⟩
 split
 ·split
  ·exact ⟨h.step hn,rfl⟩
  ·exact ⟨(h.step hn).post _,rfl⟩
 split
 ·exact ⟨(h.step hn).del _,rfl⟩
 split
 ·exact ⟨(h.step hn).del _,rfl⟩
 ·rename_i hw
  generalize nX x (x.bD.getD a.k.toNat wm)=w at *;have hcm:=h.tK;have hi:w<m:=by omega
  obtain ⟨c1,c2,c3⟩:=h.bu _ hi;refine (h.del a.k.toNat).Sq hn hi fun h0=>?_
  obtain ⟨s1,s2,s3⟩:=Ip c1 h0;exact ⟨s1,s2,by omega⟩
theorem aT.act (h:aT m n x) (hn:n<400) {a:dK} (ha:fC a):aT m (n+1) (nG x a).1∧x.K <+: (nG x a).1.K:=by
 rw [nG]
 split
 ·exact ⟨h.step hn,List.prefix_refl _⟩
 split
 ·obtain ⟨h1,h2⟩:=h.by_ hn ha (by omega)
  exact ⟨h1,h2▸List.prefix_refl _⟩
 split
 ·obtain ⟨h1,h2⟩:=h.at_ a
  exact ⟨h1.step hn,h2⟩
 ·obtain ⟨h1,h2⟩:=h.jh hn a
  exact ⟨h1,h2▸List.prefix_refl _⟩
end
theorem OJ (m:Nat) (hm:m≤9):aT m 0 (o9 m):=by
 have hr:∀r,aU (o9 m) r=Jm:=fun r=>by
  rcases r with _ | _ | _ | r<;>rfl
 refine ⟨rfl,by simp [o9],by simp [o9],by omega,fun r _=>by rw [hr];exact Qg _ _,by simp [o9],by simp [o9,aP,hr],by simp [o9],fun i hi=>?_,by simp [o9]⟩;have e:iq (o9 m) i=⟨(i:Int)+1,0,1,[]⟩:=by simp [iq,o9,List.getD,hi]
 rw [e];exact ⟨IA i (by omega),rfl,by simp⟩
theorem IL {m:Nat}:∀(l:List dK) (n:Nat) (p:bS×List Int),aT m n p.1→(∀a∈l,fC a)→n+l.length≤400→aT m (n+l.length) (vS l p).1∧p.1.K <+: (vS l p).1.K∧p.2 <+: (vS l p).2
 | [],n,p,h,_,_=>⟨h,List.prefix_refl _,List.prefix_refl _⟩
 | a::l,n,p,h,ha,hn=>by
   rw [List.length_cons] at hn⊢;obtain ⟨h1,h2⟩:=h.act (by omega) (ha a (by simp));obtain ⟨g1,g2,g3⟩:=IL l (n+1) ((nG p.1 a).1,p.2++[(nG p.1 a).2]) h1 (fun b hb=>ha b (by simp [hb])) (by omega);rw [vS];exact ⟨by rw [show n+(l.length+1)=n+1+l.length by omega];exact g1,h2.trans g2,(List.prefix_append _ _).trans g3⟩
theorem o8 {m:Nat} (hm:m≤9) {l:List dK} (ha:∀a∈l,fC a) (hl:l.length≤400):aT m l.length (kT m l).1:=by
 have:=(IL l 0 (o9 m,[]) (OJ m hm) ha (by omega)).1
 rwa [Nat.zero_add] at this
theorem qF {β:Type} (cur:List β) (a:Nat) (cs:List β) (h:a+cs.length≤cur.length):(splice cur a cs).take (a+cs.length)=cur.take a++cs:=by
 have hl:(cur.take a++cs).length=a+cs.length:=by simp;omega
 rw [splice,←List.append_assoc,←hl,List.take_left]
theorem G9 {β:Type} (cur:List β) (a:Nat) (cs ys:List β) (h:a+cs.length+ys.length≤cur.length) :
 (splice (splice cur a cs) (a+cs.length) ys).take (a+cs.length+ys.length)=cur.take a++cs++ys:=by
 rw [qF _ _ _ (by rw [length_splice _ _ _ (by omega)];omega),qF _ _ _ (by omega)]
theorem Fb {β:Type} (cur:List β) (a:Nat) (cs ys:List β) (h:a+cs.length+ys.length≤cur.length) :
 (splice (splice cur (a+cs.length) ys) a cs).take (a+cs.length+ys.length)=cur.take a++cs++ys:=by
 have e1:(splice cur (a+cs.length) ys).take a=cur.take a:=by
  rw [splice,List.take_append_of_le_length (by simp;omega),List.take_take,Nat.min_eq_left (by omega)]
 have e2:(splice cur (a+cs.length) ys).drop (a+cs.length)=ys++cur.drop (a+cs.length+ys.length):=by
  rw [splice,List.drop_append,List.drop_of_length_le (by simp;omega)];simp only [List.length_take,List.nil_append];rw [Nat.min_eq_left (by omega),Nat.sub_self,List.drop_zero]
 have hl:(cur.take a++cs++ys).length=a+cs.length+ys.length:=by simp;omega
 rw [splice,e1,e2,←List.append_assoc,←List.append_assoc,←hl,List.take_left]
section
variable {P:Program}
theorem jQ (w:World) (g:Nat) (cs:Array Value):w.grownBy (w.setRow g cs) (some g) :=
 ⟨rfl,rfl,rfl,by simp,fun k _ hk=>setRow_other w g k _ (fun e=>hk (by simp [e]))⟩
theorem grownBy_refl (w:World) (r:Option Nat):w.grownBy w r:=⟨rfl,rfl,rfl,Nat.le_refl _,fun _ _ _=>rfl⟩
theorem grownBy_trans {a b c:World} {r:Option Nat} (h:a.grownBy b r) (k:b.grownBy c r):a.grownBy c r :=
 ⟨k.os.trans h.os,k.tape.trans h.tape,k.output.trans h.output,Nat.le_trans h.size k.size,fun i hi hne=>(k.block i (Nat.lt_of_lt_of_le hi h.size) hne).trans (h.block i hi hne)⟩
theorem grownBy_drew {a b:World} {r:Option Nat} (h:a.grownBy b r):a.grownBy b.drew r:=⟨h.os,h.tape,h.output,h.size,h.block⟩
theorem qG (w:World) {T E k bytes ty:Nat} (hT:dM P T E k bytes) (g o dLen dCap:Nat) (sp:Option Addr) (sLen sCap:Nat) (cur:Array Value) (cs:List Value)
 (hg:w.heap[g]?=some (.cells cur E (0,0))) (hn:cs.length=Nat.min sLen dLen*k)
 (hsrc:0<cs.length→∃a,sp=some a∧∀j v,cs[j]?=some v→w.cell? (a.add j)=some v) (hfit:o+cs.length≤cur.size) (h1:∀v∈cs,v.oneCell'=true) :
 (Builtin.copy_ #[T,T] ty #[.slice (some ⟨g,o,none⟩) dLen dCap, .slice sp sLen sCap]).run P w =
  .ok (goInt (Nat.min sLen dLen)) (w.setRow g (splice cur.toList o cs).toArray):=by
 obtain ⟨i,z,hi,hz,hs,hby,hzs⟩:=hT.parts;have hst:=run_storeCells_at P g o E cs 0 cur w hg (by simpa using hfit) h1;have hload:(Builtin.firstCells i.size (Nat.min sLen dLen) (.slice sp sLen sCap)).run P w=.ok cs.toArray w:=by
  rcases Nat.eq_zero_or_pos cs.length with h0 | h0
  ·have:cs=[]:=List.eq_nil_of_length_eq_zero h0
   subst this;have hm:Nat.min sLen dLen=0:=by
    rw [List.length_nil] at hn
    rcases Nat.mul_eq_zero.1 hn.symm with h | h
    ·exact h
    ·have:=hT.pos;omega
   rw [hm];cases sp with
   | none=>exact run_firstCells_none w _ _ _ _
   | some a=>exact run_firstCells_some w i.size 0 a sLen sCap [] (by simp) (by simp)
  ·obtain ⟨a,rfl,hc⟩:=hsrc h0
   exact run_firstCells_some w i.size _ a sLen sCap cs (by rw [hn,hs]) hc
 simp [Builtin.copy_,run_underlying hT.under,Builtin.lenOf,sizeOf,typeInfo,hi,hload,hst,splice]
theorem lg (w:World) {T E k bytes ty:Nat} (hT:dM P T E k bytes) (g o n c:Nat) (cur:Array Value)
 (hg:w.heap[g]?=some (.cells cur E (0,0))) (hfit:o+n*k≤cur.size) (hz1:∀i z,P.info? E=some i→i.zero=some z→∀v∈z.cells.toList,v.oneCell'=true) :
 ∃zs:List Value,zs.length=n*k∧(Builtin.clear_ #[T] ty #[.slice (some ⟨g,o,none⟩) n c]).run P w=.ok (.tuple #[]) (w.setRow g (splice cur.toList o zs).toArray):=by
 obtain ⟨i,z,hi,hz,hs,hby,hzs⟩:=hT.parts;refine ⟨(Builtin.zeroCells z.cells n).toList,by simp [Builtin.zeroCells,hzs],?_⟩;have hl:(Builtin.zeroCells z.cells n).toList.length=n*k:=by simp [Builtin.zeroCells,hzs]
 have h1:∀v∈(Builtin.zeroCells z.cells n).toList,v.oneCell'=true:=by
  intro v hv;simp [Builtin.zeroCells] at hv;obtain ⟨q,hq,rfl⟩:=hv;have hp:=hT.pos;have hlt:q % z.cells.size<z.cells.size:=Nat.mod_lt _ (by omega);exact hz1 i z hi hz _ (by rw [getElem!_pos z.cells _ hlt];simp)
 have hst:=run_storeCells_at P g o E (Builtin.zeroCells z.cells n).toList 0 cur w hg (by rw [hl];simpa using hfit) h1;cases n with
 | zero =>
   have e:(Builtin.zeroCells z.cells 0).toList=[]:=List.eq_nil_of_length_eq_zero (by rw [hl];simp);rw [e];have:(splice cur.toList o []).toArray=cur:=by simp [splice]
   rw [this,setRow_self w g cur E (0,0) hg];simp [Builtin.clear_,run_underlying hT.under]
 | succ n =>
   simp [Builtin.clear_,run_underlying hT.under,zeroValue,typeInfo,hi,hz];rw [hst];simp [splice]
theorem uY (w:World) {T E k bytes ty I:Nat} (hT:dM P T E k bytes) (hI:P.underlying I=some (.int .i64)) (g i c m:Nat) (xs:List Value) (hl:xs.length=i*k)
 (hcells:∀j v,xs[j]?=some v→w.cell? ((⟨g,0,none⟩:Addr).add j)=some v) (hgr:c<i+m) (hbytes:(i+m)*(bytes+1)≤140737488355328) (hb0:0<bytes) :
 ∃w' cur nc,(Builtin.append_ #[T,I] ty #[.slice (some ⟨g,0,none⟩) i c, iI (m:Int)]).run P w=.ok (.slice (some ⟨w.heap.size,0,none⟩) (i+m) nc) w' ∧
  w'.heap[w.heap.size]?=some (.cells cur E (0,0))∧cur.size=nc*k∧cur.toList.take (i*k)=xs∧w.grownBy w' none∧i+m≤nc∧nc≤maxLen:=by
 obtain ⟨inf,z,hi,hz,hs,hby,hzs⟩:=hT.parts;have h63:i+m≤maxLen:=by
  have:=Nat.mul_le_mul_left (i+m) (show 1≤bytes+1 by omega);unfold maxLen;omega
 have hb':(i+m)*bytes≤140737488355328:=Nat.le_trans (Nat.mul_le_mul_left _ (by omega)) hbytes;have hmb:m*bytes≤281474976710656:=by
  have:=Nat.mul_le_mul_right bytes (show m≤i+m by omega);omega
 have hfit:=growslice_fits hgr hb';rw [←hby] at hfit hmb;subst hs;have hnr:¬ (i+m≤c):=by omega
 have hm63:(m:Int)≤9223372036854775807:=by unfold maxLen at h63;omega
 have hwrap:IntKind.i64.wrap (m:Int)=m:=IntWalk.i64_in _ (by omega);have h63':¬ (9223372036854775807<((i:Int)+(m:Int))):=by unfold maxLen at h63;omega
 have h48':¬ (281474976710656<Builtin.nextslicecap (i+m) c*inf.bytes):=by omega
 have Wj:¬ ((281474976710656:Int)<(m:Int)*(inf.bytes:Int)):=by
  have h3:=Int.ofNat_le.2 hmb;rw [Int.natCast_mul] at h3;exact Int.not_lt.2 h3
 have hfo:=run_firstCells_some (P:=P) w.drew inf.size i ⟨g,0,none⟩ i c xs hl (by simpa using hcells);have hnm:¬ ((m:Int)<0):=by omega
 have hge:=grownCap_ge w (i+m) c E;have hzl:∀n,(Builtin.zeroCells z.cells n).size=n*inf.size:=fun n=>by rw [size_zeroCells,hzs]
 refine ⟨w.drew.alloc (.cells (xs.toArray++(if m=0 then #[] else Builtin.zeroCells z.cells m)++Builtin.zeroCells z.cells (grownCap w (i+m) c E - (i+m))) E),_,grownCap w (i+m) c E,?_,heap_alloc_new w.drew _,?_,?_,
  ⟨rfl,rfl,rfl,by simp,fun k hk _=>heap_alloc_old w.drew _ hk⟩,hge,grownCap_le_maxLen w (i+m) c E h63⟩
 ·have hpos:=hT.pos
  have hiff:(m*inf.size=0)=(m=0):=by
   apply propext;constructor
   ·intro h;rcases Nat.mul_eq_zero.1 h with h | h<;>omega
   ·intro h;rw [h];simp
  simp [Builtin.append_,run_underlying hT.under,run_underlying hI,sizeOf,typeInfo,zeroValue,hi,hz,hwrap,hnm,hnr,h63',h48',Wj,Question.forced,hfo,newRow,grownCap,asInt,asIntOf,hiff]
  split
  ·simp
  ·rfl
 ·split
  ·rename_i hm0
   subst hm0;simp only [Array.size_append,List.size_toArray,hl,hzl,List.length_nil,←Nat.add_mul,Nat.add_zero]
   congr 1;simp at hge;omega
  ·simp only [Array.size_append,List.size_toArray,hl,hzl,←Nat.add_mul]
   congr 1;omega
 ·rw [←hl];simp
theorem oZ {β:Type} {k:Nat}:∀(rows:List (List β)) (_:∀r∈rows,r.length=k) (i:Nat),(rows.take i).flatten=rows.flatten.take (i*k)
 | [],_,i=>by simp
 | r::rows,hk,0=>by simp
 | r::rows,hk,i+1=>by
   have h0:r.length=k:=hk r (by simp);rw [List.take_succ_cons,List.flatten_cons,List.flatten_cons,oZ rows (fun r hr=>hk r (by simp [hr])) i,List.take_append,h0,List.take_of_length_le (l:=r) (by rw [h0,Nat.add_mul];omega)]
   congr 2;rw [Nat.add_mul];omega
theorem xJ {β:Type} {k:Nat}:∀(rows:List (List β)) (_:∀r∈rows,r.length=k) (i:Nat),(rows.drop i).flatten=rows.flatten.drop (i*k)
 | [],_,i=>by simp
 | r::rows,hk,0=>by simp
 | r::rows,hk,i+1=>by
   have h0:r.length=k:=hk r (by simp);rw [List.drop_succ_cons,List.flatten_cons,xJ rows (fun r hr=>hk r (by simp [hr])) i,List.drop_append,h0,List.drop_of_length_le (l:=r) (by rw [h0,Nat.add_mul];omega),List.nil_append]
   congr 1;rw [Nat.add_mul];omega
theorem bZ.qm {α:Type} {E k:Nat} {R:Rel α} (h:cu R k) {w:World} {l:List α} {S:Nat→Prop} {rows:List (List Value)} (h1:rows.length=l.length)
 (h3:∀(i:Nat) (r:List Value) (x:α),rows[i]?=some r→l[i]?=some x→R w r x S):∀u∈rows.flatten,u.oneCell'=true:=by
 intro u hu;obtain ⟨r,hr,hur⟩:=List.mem_flatten.1 hu;obtain ⟨i,hi,rfl⟩:=List.getElem_of_mem hr;exact h.one (h3 i rows[i] (l[i]'(by omega)) (List.getElem?_eq_getElem hi) (List.getElem?_eq_getElem (by omega))) u hur
theorem qd {β:Type} {k:Nat} (hk:0<k):∀(rows:List (List β)) (_:∀r∈rows,r.length=k) (j:Nat) (u:β),rows.flatten[j]?=some u→∃r,rows[j / k]?=some r∧r[j % k]?=some u
 | [],_,j,u,h=>by simp at h
 | r::rows,hr,j,u,h=>by
   have h0:r.length=k:=hr r (by simp);rw [List.flatten_cons] at h
   rcases Nat.lt_or_ge j k with hj | hj
   ·rw [List.getElem?_append_left (by omega)] at h
    exact ⟨r,by rw [Nat.div_eq_of_lt hj];rfl,by rw [Nat.mod_eq_of_lt hj];exact h⟩
   ·rw [List.getElem?_append_right (by omega),h0] at h
    obtain ⟨r',h1,h2⟩:=qd hk rows (fun r hr'=>hr r (by simp [hr'])) (j - k) u h;refine ⟨r',?_,?_⟩
    ·rw [show j / k=(j - k) / k+1 by rw [Nat.div_eq j k,if_pos ⟨hk,hj⟩]];exact h1
    ·rw [←Nat.mod_eq_sub_mod hj] at h2;exact h2
theorem zw {β γ:Type} {Q:Nat→γ→β→Prop}:∀(l:List γ) (m:Nat),(∀(i:Nat) (x:γ),l[i]?=some x→∃b,Q (m+i) x b)→∃bs:List β,bs.length=l.length∧∀(i:Nat) (b:β) (x:γ),bs[i]?=some b→l[i]?=some x→Q (m+i) x b
 | [],m,_=>⟨[],rfl,fun i b x h=>by simp at h⟩
 | y::l,m,h=>by
   obtain ⟨b0,hb0⟩:=h 0 y rfl;obtain ⟨bs,h1,h2⟩:=zw l (m+1) (fun i x hx=>by
    obtain ⟨b,hb⟩:=h (i+1) x hx;exact ⟨b,by rw [show m+1+i=m+(i+1) by omega];exact hb⟩)
   refine ⟨b0::bs,by simp [h1],fun i b x hb hx=>?_⟩;cases i with
   | zero=>simp at hb hx;subst hb hx;exact hb0
   | succ i=>rw [show m+(i+1)=m+1+i by omega];exact h2 i b x hb hx
theorem aZ.rows {α:Type} {k:Nat} {R:Rel α} (hR:cu R k) (hk:0<k) {w:World} {v:Value} {l:List α} {S:Nat→Prop} (h:aZ k R w v l S) :
 ∃a cap,∃rows:List (List Value),v=.slice a l.length cap∧l.length≤cap∧cap≤maxLen∧rows.length=l.length∧(∀(i:Nat) (r:List Value) (x:α),rows[i]?=some r→l[i]?=some x→R w r x S) ∧
  ∀(j:Nat) (u:Value),rows.flatten[j]?=some u→∃b off,a=some ⟨b,off,none⟩∧S b∧w.cell? ⟨b,off+j,none⟩=some u:=by
 obtain ⟨a,cap,hv,h1,h2,_,h3⟩:=h;obtain ⟨rows,hl,hq⟩:=zw (β:=List Value) (Q:=fun i x row=>∃b off,a=some ⟨b,off,none⟩∧S b∧R w row x S∧∀(j:Nat) (u:Value),row[j]?=some u→w.cell? ⟨b,off+i*k+j,none⟩=some u) l 0
  (fun i x hx=>by
   obtain ⟨b,off,row,ha,hs,hr,hc⟩:=h3 i x hx;exact ⟨row,b,off,ha,hs,hr,by rw [Nat.zero_add];exact hc⟩)
 have hrel:∀(i:Nat) (r:List Value) (x:α),rows[i]?=some r→l[i]?=some x→R w r x S:=fun i r x hr hx=>(hq i r x hr hx).elim fun b h=>h.elim fun off h=>h.2.2.1
 refine ⟨a,cap,rows,hv,h1,h2,hl,hrel,fun j u hu=>?_⟩;have hlen:=bZ.jq (E:=0) (v:=v) hR hl hrel;obtain ⟨r,hr,Ou⟩:=qd hk rows hlen j u hu;have hi:j / k<l.length:=by
  rcases Nat.lt_or_ge (j / k) rows.length with h | h
  ·omega
  ·rw [List.getElem?_eq_none h] at hr;cases hr
 obtain ⟨b,off,ha,hs,_,hc⟩:=hq (j / k) r _ hr (List.getElem?_eq_getElem hi);refine ⟨b,off,ha,hs,?_⟩;have:=hc (j % k) u Ou;rw [Nat.zero_add,Nat.add_assoc,Nat.mul_comm,Nat.div_add_mod] at this;exact this
theorem bZ.insert {α:Type} {E k:Nat} {R:Rel α} (hR:cu R k) {w w':World} {v v':Value} {l:List α} {S:Nat→Prop} {rows:List (List Value)} {i:Nat} (_hi:i≤l.length) {x:α} {cs:List Value}
 (h1:rows.length=l.length) (hv:∀g,v.ownBlock=some g→g<w.heap.size) (h3:∀(i:Nat) (r:List Value) (x:α),rows[i]?=some r→l[i]?=some x→R w r x (fun b=>S b∧some b≠v.ownBlock))
 (hx:R w cs x (fun b=>S b∧some b≠v.ownBlock))
 (g1:w'.ownsRow 0 E k v' (l.length+1) (rows.flatten.take (i*k)++cs++rows.flatten.drop (i*k))) (g2:w.grownBy w' v.ownBlock) (g3:v'.ownBlock=v.ownBlock∨∃g,v'.ownBlock=some g∧w.heap.size≤g) :
 bZ E k R w' v' (l.take i++x::l.drop i) S:=by
 have hlen:=bZ.jq (E:=E) (v:=v) hR h1 h3;have hS:∀b,S b∧some b≠v.ownBlock→b<w.heap.size→w'.heap[b]?=w.heap[b]?∧S b∧some b≠v'.ownBlock:=by
  rintro b ⟨hs,hne⟩ hl;refine ⟨g2.block b hl hne,hs,?_⟩
  rcases g3 with e | ⟨g,e,hge⟩
  ·rw [e];exact hne
  ·rw [e];intro hbg;cases hbg;omega
 refine ⟨rows.take i++cs::rows.drop i,by simp;omega,?_,?_⟩
 ·rw [List.flatten_append,List.flatten_cons,oZ rows hlen,xJ rows hlen,←List.append_assoc]
  have:(l.take i++x::l.drop i).length=l.length+1:=by simp;omega
  rw [this];exact g1
 ·intro j r y hr hy
  rcases Nat.lt_trichotomy j i with hj | hj | hj
  ·rw [List.getElem?_append_left (by simp;omega),List.getElem?_take_of_lt hj] at hr hy
   exact hR.move (h3 j r y hr hy) hS
  ·subst hj
   rw [List.getElem?_append_right (by simp;omega)] at hr hy;have e1:j - (rows.take j).length=0:=by simp;omega
   have e2:j - (l.take j).length=0:=by simp;omega
   rw [e1] at hr;rw [e2] at hy;simp at hr hy;subst hr hy;exact hR.move hx hS
  ·rw [List.getElem?_append_right (by simp;omega)] at hr hy
   have e1:j - (rows.take i).length=(j - i - 1)+1:=by simp;omega
   have e2:j - (l.take i).length=(j - i - 1)+1:=by simp;omega
   rw [e1,List.getElem?_cons_succ,List.getElem?_drop] at hr;rw [e2,List.getElem?_cons_succ,List.getElem?_drop] at hy;exact hR.move (h3 _ r y hr hy) hS
theorem wpList_append_run {w:World} {ops:Array Oper} {rest:List Oper} {o:Oper} {a:Act} {Q:Exit→Act→World→Prop} (hgd:o.guard=none) (d s:Operand) (t t':TypeId)
 (ho:o.op=.call { callee:=.builtin .append,args:=#[d,s],argTypes:=#[t,t'] }) (v u:Value) (hd:a.eval d=v) (hs:a.eval s=u) {v':Value} {w':World}
 (hr:(Builtin.append_ #[t,t'] o.type #[v,u]).run P w=.ok v' w') (h:wpList P ops Q rest (a.put o.dst v') w'):wpList P ops Q (o::rest) a w:=by
 refine wpList_plain hgd fun K hK=>?_
 unfold Oper.wp execOp;simp only [ho,resolve,invoke,builtin,Sem.run_bind,Sem.run_pure,Result.andThen_ok,List.map_toArray,List.map_cons,List.map_nil,hd,hs,hr];exact hK _ _ h
theorem eU {w:World} {ops:Array Oper} {rest:List Oper} {o:Oper} {a:Act} {Q:Exit→Act→World→Prop} (hgd:o.guard=none) (d:Operand) (t:TypeId)
 (ho:o.op=.call { callee:=.builtin .clear,args:=#[d],argTypes:=#[t] }) (v:Value) (hd:a.eval d=v) {v':Value} {w':World}
 (hr:(Builtin.clear_ #[t] o.type #[v]).run P w=.ok v' w') (h:wpList P ops Q rest (a.put o.dst v') w'):wpList P ops Q (o::rest) a w:=by
 refine wpList_plain hgd fun K hK=>?_
 unfold Oper.wp execOp;simp only [ho,resolve,invoke,builtin,Sem.run_bind,Sem.run_pure,Result.andThen_ok,List.map_toArray,List.map_cons,List.map_nil,hd,hr];exact hK _ _ h
theorem iR {ops:Array Oper} {o:Oper} {a:Act} {w:World} {K:Act→World→Prop} {Q:Exit→Act→World→Prop} {E:Prop}
 (hg:o.guard=none) (d x:Operand) (dT sT:TypeId) (hop:o.op=Op.call { callee:=Callee.builtin Builtin.copy,args:=#[d,x],argTypes:=#[dT,sT] })
 (v u:Value) (hd:a.eval d=v) (hx:a.eval x=u) {v':Value} {w':World} (hr:(Builtin.copy_ #[dT,sT] o.type #[v,u]).run P w=.ok v' w') (hK:K (a.put o.dst v') w') :
 if Region.wanted o (yielded ops a.tmps)=true then Oper.wp P o a w K Q else E:=by
 have hw:Region.wanted o (yielded ops a.tmps)=true:=by simp [Region.wanted,hg]
 rw [if_pos hw];unfold Oper.wp;simp [execOp,hop,resolve,invoke,builtin,hd,hx,hr,Result.andThen];exact hK
theorem gN {ops:Array Oper} {o:Oper} {a:Act} {w:World} {K:Act→World→Prop} {Q:Exit→Act→World→Prop} {E:Prop}
 (hg:o.guard=none) (d x:Operand) (dT sT:TypeId) (hop:o.op=Op.call { callee:=Callee.builtin Builtin.append,args:=#[d,x],argTypes:=#[dT,sT] })
 (v u:Value) (hd:a.eval d=v) (hx:a.eval x=u) {v':Value} {w':World} (hr:(Builtin.append_ #[dT,sT] o.type #[v,u]).run P w=.ok v' w') (hK:K (a.put o.dst v') w') :
 if Region.wanted o (yielded ops a.tmps)=true then Oper.wp P o a w K Q else E:=by
 have hw:Region.wanted o (yielded ops a.tmps)=true:=by simp [Region.wanted,hg]
 rw [if_pos hw];unfold Oper.wp;simp [execOp,hop,resolve,invoke,builtin,hd,hx,hr,Result.andThen];exact hK
end
end Go.Tk
namespace Go.Proofs.YtbngpjdflblffaaGreatDoor
open Go.RowKit Go.Tk
theorem vH (s:aG) (v:Value) (S:Nat→Prop) (w:World) (h:aZ 4 mX w v s.aA S) (ha:0≤s.aH) (ha2:s.aH≤1048576) :
 Calls Tryz.prog 113 #[.agg #[iI s.client, iI s.id, iI s.aH, iI s.last,v]] w fun e w'=>e=.returned (.bool (aA s))∧Below w.heap.size w w':=by
 obtain ⟨a,cap,hv,hl,hm,hn,hr⟩:=id h;subst hv;unfold maxLen at hm
 go_enter Tryz.func113,Tryz.ntmps113
 go_wp2
 go_loopw [3,4,5,9] (fun _ _ _ i wr=>∃k:Nat,k≤s.aA.length∧i=iI k∧Hid (bU (fun i=>if gy s i then 1 else 0) k=0)∧wr.cell? ⟨w.heap.size,2,none⟩=some (iI s.aH) ∧
  wr.cell? ⟨w.heap.size,4,none⟩=some (.slice a s.aA.length cap)∧Below w.heap.size w wr∧w.heap.size<wr.heap.size)
  (fun _ _ _ i _=>s.aA.length - (intOf i).toNat)
 case atStart=>exact ⟨0,by omega,rfl,rfl,by simp [go_sem],by simp [go_sem],iB.alloc (Nat.le_refl _) _,by simp⟩
 case round =>
  obtain ⟨k,hk,rfl,hf,hc2,hc4,hb,hsz⟩:=hrel
  by_cases hlt:k<s.aA.length
  ·obtain ⟨b,off,cap',row,hv,hS,hrow,hcells⟩:=(h.below aS (by decide) hb).row k hlt
   simp only [Value.slice.injEq] at hv;obtain ⟨rfl,_,rfl⟩:=hv;cases hrow;have q0:=hcells 0 _ rfl;have q1:=hcells 1 _ rfl;have q2:=hcells 2 _ rfl;have q3:=hcells 3 _ rfl;simp only [Nat.add_zero] at q0;clear hcells;have hbl:b<wr.heap.size:=World.block_lt_of_cell? wr _ q0;have hg:s.aA.getD k dZ=s.aA[k]:=by simp [List.getD,hlt]
   have HI:Hid (gy s k↔s.aA[k].seq≤s.aH∨s.aH+4<s.aA[k].seq∨(0<k∧s.aA[k].seq≤(s.aA.getD (k - 1) dZ).seq) ∨
    s.aA[k].aI.code<0∨15<s.aA[k].aI.code∨s.aA[k].aI.n<0∨1073741824<s.aA[k].aI.n∨12<s.aA[k].aI.text.length):=by
    show gy s k↔_
    rw [gy,hg]
   have HB:Hid (gy s k→aA s=false):=fun hbad=>Cw hlt hf.out hbad
   have HG:Hid (¬ gy s k→bU (fun i=>if gy s i then 1 else 0) (k+1)=0):=fun hbad=>kF hf.out (by rw [if_neg hbad])
   have hp:0<k→wr.cell? ⟨b,off+(k - 1)*4,none⟩=some (iI (s.aA.getD (k - 1) dZ).seq):=by
    intro hk0;obtain ⟨b2,off2,cap2,row,hv,hS,hrow,hcells⟩:=(h.below aS (by decide) hb).row (k - 1) (by omega);simp only [Value.slice.injEq,Option.some.injEq,Addr.mk.injEq] at hv;obtain ⟨⟨rfl,rfl,_⟩,_,rfl⟩:=hv;cases hrow;rw [show s.aA.getD (k - 1) dZ=s.aA[k - 1] by simp [List.getD,show k - 1<s.aA.length by omega]];exact hcells 0 _ rfl
   generalize s.aA.getD (k - 1) dZ=y at *;generalize s.aA[k]=x at *;clear hf hg h;have hcases:(x.seq≤s.aH)∨(decide (x.seq≤s.aH)=false∧s.aH+4<x.seq)∨(decide (x.seq≤s.aH)=false∧decide (s.aH+4<x.seq)=false∧decide (0<k)=false) ∨
    (decide (x.seq≤s.aH)=false∧decide (s.aH+4<x.seq)=false∧0<k∧x.seq≤y.seq) ∨
    (decide (x.seq≤s.aH)=false∧decide (s.aH+4<x.seq)=false∧0<k∧decide (x.seq≤y.seq)=false):=by
    simp only [decide_eq_false_iff_not];omega
   rcases hcases with h1 | ⟨h1,h2⟩ | ⟨h1,h2,h3⟩ | ⟨h1,h2,h3,h4⟩ | ⟨h1,h2,h3,h4⟩
   all_goals (try (have hq:=hp (by omega);have w1:IntKind.i64.wrap ((k:Int) - 1)=(k:Int) - 1:=IntWalk.i64_in _ (by omega);have w2:0≤(k:Int) - 1:=(by omega);have w3:((k:Int) - 1).toNat=k - 1:=(by omega);have w4:(k:Int) - 1<(s.aA.length:Int):=(by omega);have w5:(1:Int)≤(k:Int):=(by omega)))
   all_goals clear hp
   all_goals have w0:IntKind.i64.wrap (s.aH+4)=s.aH+4:=IntWalk.i64_in _ (by omega)
   all_goals go_wp2
   all_goals go_quiet (fail)
   all_goals clear w0
   all_goals (try clear w1 w2 w3 w4 w5)
   all_goals go_wp2
   all_goals first
    | (
       go_ret;refine ⟨qP (congrArg Value.bool (HB.out (HI.out.2 (by omega))).symm),?_⟩
       repeat (first | exact hb | apply below_drewN | refine Below.alloc ?_ (by first | omega | (simp;omega)) _))
    | (
       go_roundw
       case rel =>
        simp only [decide_eq_false_iff_not] at *;refine ⟨k+1,by omega,by go_num,HG.out (fun hbad=>by have:=HI.out.1 hbad;omega),by simp [go_sem, *],by simp [go_sem, *],?_,by simp;omega⟩
        repeat (first | exact hb | apply below_drewN | refine Below.alloc ?_ (by first | omega | (simp;omega)) _)
       case measure=>simp [intOf];omega)
  ·have hF:Hid (aA s=true):=by
    have:=hf.out;rw [show k=s.aA.length by omega] at this
    show aA s=true
    rw [aA,pU,this];rfl
   clear hf h;go_wp2;go_ret;exact ⟨qP (by rw [hF.out];rfl),hb⟩
theorem eH (l:List aG) (index:Int) (v:Value) (S:Nat→Prop) (w:World) (h:aZ 5 bR w v l S) :
 Calls Tryz.prog 77 #[v, iI index] w fun e w'=>e=.returned (iI (bC l index))∧Below w.heap.size w w':=by
 obtain ⟨a,cap,hv,hl,hm,hn,hr⟩:=id h;subst hv;unfold maxLen at hm
 by_cases hi:index<0∨1073741824<index
 ·have HF:=iH (show bC l index=2 by rw [bC,if_pos hi])
  clear hr h;have hcases:index<0∨(decide (index<0)=false∧1073741824<index):=by simp only [decide_eq_false_iff_not];omega
  rcases hcases with h1 | ⟨h1,h2⟩
  all_goals go_enter Tryz.func77,Tryz.ntmps77
  all_goals go_wp2
  all_goals go_ret
  all_goals exact ⟨qP (by rw [HF.out];rfl),iB⟩
 have hi1:0≤index:=by omega
 have hi2:index≤1073741824:=by omega
 by_cases h4:4<l.length
 ·have HF:=iH (show bC l index=1 by rw [bC,if_neg hi,if_pos h4])
  clear hr h hi
  go_enter Tryz.func77,Tryz.ntmps77
  go_wp2;go_ret;exact ⟨qP (by rw [HF.out];rfl),iB⟩
 have HF:Hid (bC l index=bU (kZ l index) l.length):=by show _=_;rw [bC,if_neg hi,if_neg h4]
 clear hi hr
 go_enter Tryz.func77,Tryz.ntmps77
 go_wp2
 go_loopw [5,6,18] (fun _ _ i wr=>∃k:Nat,k≤l.length∧i=iI k∧Hid (bU (kZ l index) k=0)∧Below w.heap.size w wr)
  (fun _ _ i _=>l.length - (intOf i).toNat)
 case atStart=>exact ⟨0,by omega,rfl,rfl,iB⟩
 case round =>
  obtain ⟨k,hk,rfl,hf,hb⟩:=hrel;have hws:=hb.size
  by_cases hlt:k<l.length
  ·obtain ⟨b,off,cap',row,hv,hS,hrow,hcells⟩:=(h.below aF (by decide) hb).row k hlt
   simp only [Value.slice.injEq] at hv;obtain ⟨rfl,_,rfl⟩:=hv;obtain ⟨rv,rfl,jd⟩:=hrow;obtain ⟨ra,wZ,rfl,-⟩:=id jd;have q0:=hcells 0 _ rfl;have q1:=hcells 1 _ rfl;have q2:=hcells 2 _ rfl;have q3:=hcells 3 _ rfl;have q4:=hcells 4 _ rfl;simp only [Nat.add_zero] at q0;clear hcells;have hbl:b<wr.heap.size:=World.block_lt_of_cell? wr _ q0;have hg:l.getD k aR=l[k]:=by simp [List.getD,hlt]
   have HI:Hid (kZ l index k=if fe index l[k] then 2 else if aA l[k]=false then 4 else if 0<k∧l[k].client≤(l.getD (k - 1) aR).client then 14 else 0):=by
    show _=_
    rw [kZ,hg]
   have HE:Hid (∀e,kZ l index k=e→e≠0→bC l index=e):=fun e he h0=>by
    rw [HF.out,kS hf.out (by rw [he];exact h0) _ hlt,he]
   have HG:Hid (kZ l index k=0→bU (kZ l index) (k+1)=0):=fun h0=>kF hf.out h0
   have hp:0<k→wr.cell? ⟨b,off+(k - 1)*5,none⟩=some (iI (l.getD (k - 1) aR).client):=by
    intro hk0;obtain ⟨b2,off2,cap2,row,hv,hS,hrow,hcells⟩:=(h.below aF (by decide) hb).row (k - 1) (by omega);simp only [Value.slice.injEq,Option.some.injEq,Addr.mk.injEq] at hv;obtain ⟨⟨rfl,rfl,_⟩,_,rfl⟩:=hv;obtain ⟨rv,rfl,jd⟩:=hrow;rw [show l.getD (k - 1) aR=l[k - 1] by simp [List.getD,show k - 1<l.length by omega]];exact hcells 0 _ rfl
   have h':=h;clear h;generalize l.getD (k - 1) aR=y at *;generalize l[k]=x at *;clear hf hg HF;have hcases:decide (0<k)=false∨(0<k∧x.client≤y.client)∨(0<k∧decide (x.client≤y.client)=false):=by
    simp only [decide_eq_false_iff_not];omega
   go_wp2_with (go_at_call 113;refine (vH x _ _ _ (jd.below aS (by decide) (iB.alloc (Nat.le_refl _) _)) (by omega) (by omega)).mono ?_;rintro e w2 ⟨rfl,hb2⟩;obtain ⟨hc2,hf2⟩:=qX hb2;have hz2:=hb2.size)
   all_goals try (
    go_ret;refine ⟨qP ((congrArg (Value.int .i64) (HE.out 2 (by rw [HI.out,if_pos (by unfold fe;omega)]) (by decide))).symm),?_⟩
    repeat (first | exact hb | apply below_drewN | refine Below.alloc ?_ (by first | omega | (simp;omega)) _))
   ·have hrep:(!aA x)=true:=by assumption
    have Jy:aA x=false:=by simpa using hrep
    go_ret;refine ⟨qP ((congrArg (Value.int .i64) (HE.out 4 (by rw [HI.out,if_neg (by unfold fe;omega),if_pos Jy]) (by decide))).symm),?_⟩;exact (hb.alloc hws _).trans (hb2.mono (by simp;omega))
   ·have hrep:(!aA x)=false:=by assumption
    have Jy:¬ aA x=false:=by simpa using hrep
    have HI2:Hid (kZ l index k=if 0<k∧x.client≤y.client then 14 else 0):=by
     show _=_
     rw [HI.out,if_neg (by unfold fe;omega),if_neg Jy]
    have hb3:Below w.heap.size w w2:=(hb.alloc hws _).trans (hb2.mono (by simp;omega));clear jd HI h' Jy
    rcases hcases with h1 | ⟨h1,h2⟩ | ⟨h1,h2⟩
    all_goals (try (have hq:=hp (by omega);have w1:IntKind.i64.wrap ((k:Int) - 1)=(k:Int) - 1:=IntWalk.i64_in _ (by omega);have w2:0≤(k:Int) - 1:=(by omega);have w3:((k:Int) - 1).toNat=k - 1:=(by omega);have w4:(k:Int) - 1<(l.length:Int):=(by omega);have w5:(1:Int)≤(k:Int):=(by omega)))
    all_goals clear hp
    all_goals go_quiet (fail)
    all_goals (try clear w1 w2 w3 w4 w5)
    all_goals go_wp2
    ·go_roundw
     case rel=>exact ⟨k+1,by omega,by go_num,HG.out (by rw [HI2.out,if_neg (fun hx=>by simp [hx.1] at h1)]),below_drewN hb3 _⟩
     case measure=>simp [intOf];omega
    ·go_ret
     exact ⟨qP ((congrArg (Value.int .i64) (HE.out 14 (by rw [HI2.out,if_pos ⟨h1,h2⟩]) (by decide))).symm),below_drewN hb3 _⟩
    ·go_roundw
     case rel=>exact ⟨k+1,by omega,by go_num,HG.out (by rw [HI2.out,if_neg (fun hx=>by simp [hx.2] at h2)]),below_drewN hb3 _⟩
     case measure=>simp [intOf];omega
  ·have hF:Hid (bC l index=0):=by
    have:=hf.out;rw [show k=l.length by omega] at this;exact HF.out.trans this
   clear hf HF h;go_wp2;go_ret;exact ⟨qP (by rw [hF.out];rfl),hb⟩
end Go.Proofs.YtbngpjdflblffaaGreatDoor
