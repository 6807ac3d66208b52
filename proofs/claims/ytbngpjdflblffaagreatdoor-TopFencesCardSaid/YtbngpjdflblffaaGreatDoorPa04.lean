/- A part of the proof, laid together from: CmdP, CmdQ, LogP, MachP, SnapP, CmdsP. -/
import Derived.Test.YtbngpjdflblffaaGreatDoorPa03
import Derived.Lib.ItoaNum
set_option linter.all false
set_option maxRecDepth 100000
namespace Go.Tk
open Go Go.RowKit
def bL:aQ:=⟨0,0,0,0,0,bP⟩
def y9 (o:zC):Value:=.agg #[iI o.kind, iS o.a, iS o.b, iI o.n]
def dR (c:aQ):Value:=.agg #[iI c.kind, iI c.client, iI c.session, iI c.seq, iI c.aH, iI c.op.kind, iS c.op.a, iS c.op.b, iI c.op.n]
def lu (o:zC):Int :=
 if o.kind<1∨6<o.kind then 3
 else if fD o.a=false∨(o.kind≠5∧o.b≠[]) then 4
 else if 12<o.b.length then 1
 else if (o.kind=5∧(o.n<1∨1073741824<o.n))∨(o.kind≠5∧o.n≠0) then 2
 else 0
def dx (c:aQ):Int :=
 if c.kind<1∨3<c.kind then 3
 else if c.client<1∨9<c.client then 2
 else if c.kind≠2 then
  if c.session≠0∨c.seq≠0∨c.aH≠0∨c.op.kind≠0∨c.op.a≠[]∨c.op.b≠[]∨c.op.n≠0 then 4 else 0
 else if c.session<1∨1073741824<c.session∨c.seq<1∨1048576<c.seq∨c.aH<0∨c.seq≤c.aH then 2
 else lu c.op
def mI (c:aQ):List UInt8 :=
 (number c.session).1++((number c.seq).1++((number c.aH).1++((number c.op.kind).1++((number c.op.n).1++((text c.op.a).1++(text c.op.b).1)))))
def ig (c:aQ):List UInt8×Int :=
 if dx c≠0 then ([],dx c)
 else ([c.kind.toNat.toUInt8,c.client.toNat.toUInt8]++(if c.kind=2 then mI c else []),0)
def mV {α:Type} (s:List UInt8) (fail:Int→α) (k:Int→List UInt8→α):α:=if (aL s).2.2≠0 then fail (aL s).2.2 else k (aL s).1 (aL s).2.1
def lV {α:Type} (s:List UInt8) (fail:Int→α) (k:List UInt8→List UInt8→α):α:=if (dn s).2.2≠0 then fail (dn s).2.2 else k (dn s).1 (dn s).2.1
def iM (c:aQ) (s:List UInt8):aQ×List UInt8×Int :=
 mV s (fun e=>(bL,[],e)) fun x1 s=>mV s (fun e=>(bL,[],e)) fun x2 s=>mV s (fun e=>(bL,[],e)) fun x3 s =>
 mV s (fun e=>(bL,[],e)) fun x4 s=>mV s (fun e=>(bL,[],e)) fun x5 s =>
 lV s (fun e=>(bL,[],e)) fun y1 s=>lV s (fun e=>(bL,[],e)) fun y2 s =>
 (⟨c.kind,c.client,x1,x2,x3,⟨x4,y1,y2,x5⟩⟩,s,0)
def nC (c:aQ) (s:List UInt8):aQ×Int:=if s≠[] then (bL,4) else if dx c≠0 then (bL,dx c) else (c,0)
def bM (s:List UInt8):aQ×Int :=
 if 5000<s.length then (bL,1)
 else if s.length<2 then (bL,5)
 else if s.getD 0 0=2 then
  if (iM ⟨(s.getD 0 0).toNat,(s.getD 1 0).toNat,0,0,0,bP⟩ (s.drop 2)).2.2≠0 then (bL,(iM ⟨(s.getD 0 0).toNat,(s.getD 1 0).toNat,0,0,0,bP⟩ (s.drop 2)).2.2)
  else nC (iM ⟨(s.getD 0 0).toNat,(s.getD 1 0).toNat,0,0,0,bP⟩ (s.drop 2)).1 (iM ⟨(s.getD 0 0).toNat,(s.getD 1 0).toNat,0,0,0,bP⟩ (s.drop 2)).2.1
 else nC ⟨(s.getD 0 0).toNat,(s.getD 1 0).toNat,0,0,0,bP⟩ (s.drop 2)
theorem zo (n:Int) (h0:0≤n) (hn:n≤1099511627776) (t:List UInt8):aL ((number n).1++t)=(n,t,0):=by
 have e:(number n).1=rQ 6 n.toNat:=by rw [number,if_neg (by omega)]
 rw [e,sP _ (by omega)];rw [Int.toNat_of_nonneg h0]
theorem mU {α:Type} (n:Int) (h0:0≤n) (hn:n≤1099511627776) (t:List UInt8) (fail:Int→α) (k:Int→List UInt8→α):mV ((number n).1++t) fail k=k n t:=by
 rw [mV,zo n h0 hn];simp
theorem vE {α:Type} (s t:List UInt8) (h:s.length≤5000) (fail:Int→α) (k:List UInt8→List UInt8→α):lV ((text s).1++t) fail k=k s t:=by
 rw [lV,vI s t h];simp
structure wJ (o:zC):Prop where
 kind:1≤o.kind∧o.kind≤6
 name:fD o.a=true
 noB:o.kind≠5→o.b=[]
 size:o.b.length≤12
 n:(o.kind=5→1≤o.n∧o.n≤1073741824)∧(o.kind≠5→o.n=0)
theorem mq {o:zC}:lu o=0↔wJ o:=by
 constructor
 ·intro h
  rw [lu] at h
  split at h;· cases h
  split at h;· cases h
  split at h;· cases h
  split at h;· cases h
  rename_i h1 h2 h3 h4
  have h2':=not_or.1 h2;refine ⟨by omega,by simpa using h2'.1,fun hk=>?_,by omega,by omega,by omega⟩;have:=not_and.1 h2'.2 hk;exact Classical.not_not.1 this
 ·rintro ⟨h1,h2,h3,h4,h5,h6⟩
  rw [lu,if_neg (by omega),if_neg,if_neg (by omega),if_neg (by omega)];rintro (h | ⟨h,h'⟩)
  ·rw [h2] at h;cases h
  ·exact h' (h3 h)
inductive qy (c:aQ):Prop where
 | plain (hk:c.kind=1∨c.kind=3) (hc:1≤c.client∧c.client≤9) (h1:c.session=0) (h2:c.seq=0) (h3:c.aH=0) (h4:c.op=bP)
 | call (hk:c.kind=2) (hc:1≤c.client∧c.client≤9) (h1:1≤c.session∧c.session≤1073741824) (h2:1≤c.seq∧c.seq≤1048576) (h3:0≤c.aH∧c.aH<c.seq) (h4:wJ c.op)
theorem oG {c:aQ}:dx c=0↔qy c:=by
 constructor
 ·intro h
  rw [dx] at h
  split at h;· cases h
  split at h;· cases h
  split at h
  ·split at h;· cases h
   rename_i h1 h2 h3 h4
   simp only [not_or,Classical.not_not] at h4;obtain ⟨g1,g2,g3,g4,g5,g6,g7⟩:=h4;refine .plain (by omega) (by omega) g1 g2 g3 ?_
   rcases hc:c.op with ⟨k,a,b,n⟩
   rw [hc] at g4 g5 g6 g7;simp only at g4 g5 g6 g7;subst g4 g5 g6 g7;rfl
  ·split at h;· cases h
   exact .call (by omega) (by omega) (by omega) (by omega) (by omega) (mq.1 h)
 ·rintro (⟨hk,hc,h1,h2,h3,h4⟩ | ⟨hk,hc,h1,h2,h3,h4⟩)
  ·rw [dx,if_neg (by omega),if_neg (by omega),if_pos (by omega),if_neg]
   rw [h1,h2,h3,h4];simp [bP]
  ·rw [dx,if_neg (by omega),if_neg (by omega),if_neg (by omega),if_neg (by omega)]
   exact mq.2 h4
theorem wT (s:List UInt8) (h:s.length≤5000):(text s).1.length≤s.length+7:=by
 rw [text,if_neg (by omega)];have:=jy s.length;simp only [List.length_append];omega
theorem CR {c:aQ} (h:wJ c.op):(mI c).length≤67:=by
 have h1:=jy c.session;have h2:=jy c.seq;have h3:=jy c.aH;have h4:=jy c.op.kind;have h5:=jy c.op.n;have h6:=(jA h.name).2;have h7:=wT c.op.a (by omega);have h8:=h.size;have h9:=wT c.op.b (by omega);simp only [mI,List.length_append];omega
theorem wJ.nn {o:zC} (h:wJ o):0≤o.n∧o.n≤1073741824:=by
 have h1:=h.n.1;have h2:=h.n.2
 by_cases hk:o.kind=5
 ·have:=h1 hk;omega
 ·have:=h2 hk;omega
theorem KR {c:aQ} (h:qy c) (hk:c.kind=2) (t:List UInt8):iM ⟨c.kind,c.client,0,0,0,bP⟩ (mI c++t)=(c,t,0):=by
 rcases h with ⟨hk',_⟩ | ⟨_,hc,h1,h2,h3,h4⟩
 ·omega
 have h5:=h4.nn;have h6:=h4.kind;have h7:=(jA h4.name).2;have h8:=h4.size;rw [iM,mI];simp only [List.append_assoc];rw [mU _ (by omega) (by omega),mU _ (by omega) (by omega),mU _ (by omega) (by omega),mU _ (by omega) (by omega),mU _ (by omega) (by omega),
  vE _ _ (by omega),vE _ _ (by omega)]
theorem qy.bounds {c:aQ} (h:qy c):(1≤c.kind∧c.kind≤3)∧1≤c.client∧c.client≤9:=by
 rcases h with ⟨hk,hc,_⟩ | ⟨hk,hc,_⟩<;>exact ⟨by omega,hc⟩
theorem toUInt8_val (n:Int) (h0:0≤n) (h1:n≤255):((n.toNat.toUInt8.toNat:Nat):Int)=n:=by
 have e:n.toNat.toUInt8.toNat=n.toNat:=by
  show (UInt8.ofNat n.toNat).toNat=n.toNat
  rw [UInt8.toNat_ofNat'];omega
 rw [e];omega
def qU (c:aQ):List UInt8:=if c.kind=2 then mI c else []
theorem encode_eq {c:aQ} (h:qy c):ig c=(c.kind.toNat.toUInt8::c.client.toNat.toUInt8::qU c,0):=by
 rw [ig,oG.2 h];rfl
theorem LD {c:aQ} (h:qy c):(qU c).length≤67:=by
 rw [qU]
 rcases h with ⟨hk,_⟩ | ⟨hk,_,_,_,_,h4⟩
 ·rw [if_neg (by omega)];simp
 ·rw [if_pos hk];exact CR h4
theorem Mj {c:aQ} (h:qy c):(c.kind.toNat.toUInt8=2)↔c.kind=2:=by
 have hb:=h.bounds.1;constructor
 ·intro h2
  have:=toUInt8_val c.kind (by omega) (by omega);rw [h2] at this;simpa using this.symm
 ·intro h2;rw [h2];rfl
theorem KI {c:aQ} (h:qy c) (t:List UInt8) (ht:t.length≤100):bM (c.kind.toNat.toUInt8::c.client.toNat.toUInt8::t) =
 if c.kind=2 then (if (iM ⟨c.kind,c.client,0,0,0,bP⟩ t).2.2≠0 then (bL,(iM ⟨c.kind,c.client,0,0,0,bP⟩ t).2.2) else nC (iM ⟨c.kind,c.client,0,0,0,bP⟩ t).1 (iM ⟨c.kind,c.client,0,0,0,bP⟩ t).2.1)
 else nC ⟨c.kind,c.client,0,0,0,bP⟩ t:=by
 have hb:=h.bounds;have e0:=toUInt8_val c.kind (by omega) (by omega);have e1:=toUInt8_val c.client (by omega) (by omega);rw [bM,if_neg (by simp;omega),if_neg (by simp)];simp only [List.getD_cons_zero,List.getD_cons_succ,List.drop_succ_cons,List.drop_zero,e0,e1,Mj h]
theorem Gn {c:aQ} (h:qy c):bM (ig c).1=(c,0):=by
 have hl:=LD h;rw [encode_eq h,KI h _ (by omega)];have hc:=oG.2 h
 by_cases hk:c.kind=2
 ·have e:=KR h hk []
  rw [List.append_nil] at e;rw [if_pos hk,qU,if_pos hk,e];simp [nC,hc]
 ·rw [if_neg hk,qU,if_neg hk]
  rcases id h with ⟨_,_,h1,h2,h3,h4⟩ | ⟨hk',_⟩
  ·have e:(⟨c.kind,c.client,0,0,0,bP⟩:aQ)=c:=by
    rcases c with ⟨a,b,d,f,g,o⟩
    simp only at h1 h2 h3 h4;subst h1 h2 h3 h4;rfl
   rw [e];simp [nC,hc]
  ·exact absurd hk' hk
abbrev Bytes:=List UInt8
structure pq where
 base:Int
 entries:List Bytes
def ku:pq:=⟨0,[]⟩
def dI (s:Bytes):Int:=(bM s).2
def yC (l:List Bytes) (i:Nat):Int:=dI (l.getD i [])
def iE (l:pq):Int :=
 if l.base<0∨1073741424<l.base then 2
 else if 400<l.entries.length then 1
 else bU (yC l.entries) l.entries.length
structure uO (l:pq):Prop where
 base:0≤l.base∧l.base≤1073741424
 len:l.entries.length≤400
 all:∀s∈l.entries,dI s=0
theorem jX {l:pq}:iE l=0↔uO l:=by
 rw [iE];constructor
 ·intro h
  split at h;· cases h
  split at h;· cases h
  refine ⟨by omega,by omega,fun s hs=>?_⟩;obtain ⟨i,hi,rfl⟩:=lY l.entries s [] hs;exact eu.1 h i hi
 ·intro h
  rw [if_neg (by have:=h.base;omega),if_neg (by have:=h.len;omega)];exact eu.2 fun i hi=>h.all _ (kC l.entries i [] hi)
def dH (l:pq):Int:=l.base+l.entries.length
def jD:List Bytes→Nat→List Bytes→List Bytes×Int
 | [],_,out=>(out,0)
 | s::r,k,out=>if dI s≠0 then ([],dI s) else if k<out.length∧out.getD k []=s then jD r (k+1) out else jD r (k+1) (out.take k++[s])
def jH (l:pq) (behind:Int) (more:List Bytes):Nat:=if behind<l.base then min (l.base - behind).toNat more.length else 0
def oM (l:pq) (behind:Int) (more:List Bytes):pq×Int :=
 if iE l≠0 then (ku,iE l)
 else if behind<0∨1073741824<behind then (ku,2)
 else if 400<more.length then (ku,1)
 else if dH l<behind then (ku,13)
 else if (jD (more.drop (jH l behind more)) (behind+jH l behind more - l.base).toNat l.entries).2≠0 then (ku,(jD (more.drop (jH l behind more)) (behind+jH l behind more - l.base).toNat l.entries).2)
 else if 400<(jD (more.drop (jH l behind more)) (behind+jH l behind more - l.base).toNat l.entries).1.length then (ku,8)
 else (⟨l.base,(jD (more.drop (jH l behind more)) (behind+jH l behind more - l.base).toNat l.entries).1⟩,0)
def jK (l:pq) (index many:Int):List Bytes×Int :=
 if iE l≠0 then ([],iE l)
 else if index<l.base∨many<0 then ([],2)
 else if dH l≤index then ([],0)
 else ((l.entries.drop (index - l.base).toNat).take many.toNat,0)
def p8 (l:pq) (index:Int):pq×Int :=
 if iE l≠0 then (ku,iE l)
 else if index<l.base∨dH l<index then (ku,2)
 else if 1073741424<index then (ku,8)
 else (⟨index,l.entries.drop (index - l.base).toNat⟩,0)
theorem pW:∀(b:List Bytes) (k:Nat) (out:List Bytes),(∀s∈b,dI s=0)→k≤out.length →
 ∃o,jD b k out=(o,0)∧k+b.length≤o.length∧o.length≤max out.length (k+b.length)∧o.take (k+b.length)=out.take k++b∧∀s∈o,s∈out∨s∈b
 | [],k,out,_,hk=>⟨out,rfl,by simpa using hk,by omega,by simp,fun s hs=>.inl hs⟩
 | s::r,k,out,hb,hk=>by
   have hs:=hb s (by simp);have hr:∀s∈r,dI s=0:=fun x hx=>hb x (by simp [hx])
   rw [jD,if_neg (by rw [hs];simp)]
   by_cases hm:k<out.length∧out.getD k []=s
   ·rw [if_pos hm]
    obtain ⟨o,h1,h2,h3,h4,h5⟩:=pW r (k+1) out hr (by omega);refine ⟨o,h1,by simp;omega,by simp;omega,?_,fun x hx=>?_⟩
    ·rw [List.length_cons,show k+(r.length+1)=k+1+r.length by omega,h4,List.take_succ_eq_append_getElem hm.1,List.append_assoc]
     have:out[k]=s:=by have h2:=hm.2;simpa [List.getD,hm.1] using h2
     rw [this];rfl
    ·rcases h5 x hx with h | h
     ·exact .inl h
     ·exact .inr (by simp [h])
   ·rw [if_neg hm]
    have hl:(out.take k++[s]).length=k+1:=by simp;omega
    obtain ⟨o,h1,h2,h3,h4,h5⟩:=pW r (k+1) (out.take k++[s]) hr (by omega);refine ⟨o,h1,by simp;omega,by rw [hl] at h3;simp;omega,?_,fun x hx=>?_⟩
    ·rw [List.length_cons,show k+(r.length+1)=k+1+r.length by omega,h4,List.take_of_length_le (by omega),List.append_assoc];rfl
    ·rcases h5 x hx with h | h
     ·rcases List.mem_append.1 h with h | h
      ·exact .inl (List.mem_of_mem_take h)
      ·exact .inr (by simp at h;simp [h])
     ·exact .inr (by simp [h])
structure bf where
 index:Int
 au:List aN
 pairs:List fB
 af:List aG
def gu:bf:=⟨0,[],[],[]⟩
def ng (s:bf):Int :=
 if bC s.af s.index≠0 then bC s.af s.index
 else if dU s.au≠0 then dU s.au
 else j3 s.pairs
structure mO (s:bf):Prop where
 dG:dQ s.af s.index
 lock:ji s.au
 pair:qB s.pairs
theorem pY {s:bf}:ng s=0↔mO s:=by
 rw [ng];constructor
 ·intro h
  split at h;· rename_i h1;exact absurd h h1
  split at h;· rename_i h1;exact absurd h h1
  rename_i h1 h2
  exact ⟨fA.1 (by omega),jB.1 (by omega),mh.1 h⟩
 ·rintro ⟨h1,h2,h3⟩
  rw [if_neg (by simp [fA.2 h1]),if_neg (by simp [jB.2 h2])];exact mh.2 h3
def lZ (s:bf) (who:Int) (o:zC):bf×eX :=
 if o.kind=1∨o.kind=2 then (⟨s.index,(cO s.au o.a who (decide (o.kind=2))).1,s.pairs,s.af⟩,(cO s.au o.a who (decide (o.kind=2))).2.1)
 else if o.kind=3 then (⟨s.index,(fJ s.au o.a who).1,s.pairs,s.af⟩,(fJ s.au o.a who).2.1)
 else if o.kind=4 then (s,⟨0,(jF s.au o.a).1,[]⟩)
 else if o.kind=6 then (s,(jW s.pairs o.a).1)
 else if (jF s.au o.a).1≠who∨(jF s.au o.a).2.1≠o.n then (s,⟨10,(jF s.au o.a).1,[]⟩)
 else (⟨s.index,s.au,(ja s.pairs o.a o.b).1,s.af⟩,(ja s.pairs o.a o.b).2.1)
def fG (lW:List aG) (c:Int):Bool:=lW.any fun y=>y.client == c
def mZ (lW:List aG) (lk:List aN) (x:aG):List aN:=if fG lW x.client=true then lk else (kH lk x.client).1
def mE (lk:List aN) (lW was:List aG):List aN:=was.foldl (mZ lW) lk
def j4 (s:bf):bf:=⟨s.index,mE s.au (kI s.af s.index).1 s.af,s.pairs,(kI s.af s.index).1⟩
def H8 (s:bf) (c:Int):bf×eX:=(⟨s.index,s.au,s.pairs,(join s.af s.index c).1⟩,(join s.af s.index c).2.1)
def El (s:bf) (c:Int):bf×eX:=(⟨s.index,mE s.au (leave s.af s.index c).1 s.af,s.pairs,(leave s.af s.index c).1⟩,(leave s.af s.index c).2.1)
def H7 (t:bf×eX) (index c q:Int):bf×eX:=(⟨t.1.index,t.1.au,t.1.pairs,(keep t.1.af index c q t.2).1⟩,t.2)
def uo (s:bf) (c:aQ):bf×eX :=
 if (ready s.af s.index c.client c.session c.seq c.aH).2.2.1=true then
  H7 (lZ ⟨s.index,s.au,s.pairs,(ready s.af s.index c.client c.session c.seq c.aH).1⟩ c.client c.op) (s.index+1) c.client c.seq
 else (⟨s.index,s.au,s.pairs,(ready s.af s.index c.client c.session c.seq c.aH).1⟩,(ready s.af s.index c.client c.session c.seq c.aH).2.1)
def Bh (s:bf) (c:aQ):bf×eX:=if c.kind=1 then H8 s c.client else if c.kind=3 then El s c.client else uo s c
def sD (t:bf×eX):bf×eX×Int:=(⟨t.1.index+1,t.1.au,t.1.pairs,t.1.af⟩,t.2,0)
def iJ (s:bf) (entry:Bytes):bf×eX×Int :=
 if ng s≠0 then (gu,dP,ng s)
 else if s.index=1073741824 then (gu,dP,2)
 else if (bM entry).2≠0 then (gu,dP,(bM entry).2)
 else sD (Bh (j4 s) (bM entry).1)
theorem DF {s:Bytes} (h:(bM s).2=0):qy (bM s).1:=by
 have key:∀c t,(nC c t).2=0→qy (nC c t).1:=fun c t h=>by
  rw [nC] at h⊢
  split at h;· cases h
  split at h;· rename_i h1;exact absurd h h1
  rename_i h1 h2
  rw [if_neg h1,if_neg h2];exact oG.1 (by simpa using h2)
 rw [bM] at h⊢
 split at h;· cases h
 split at h;· cases h
 rename_i h1 h2
 rw [if_neg h1,if_neg h2]
 split at h
 ·rename_i h3
  rw [if_pos h3]
  split at h;· rename_i h4;exact absurd h h4
  rename_i h4
  rw [if_neg h4];exact key _ _ h
 ·rename_i h3
  rw [if_neg h3];exact key _ _ h
theorem l5 {lW:List aG} {c:Int}:fG lW c=true↔∃x∈lW,x.client=c:=by
 simp [fG]
def Held (lk:List aN) (lW:List aG):Prop:=∀k∈lk,∀c,c≠0→jN k c→fG lW c=true
theorem oD (lW:List aG):∀(was:List aG) (lk:List aN),ji lk→(∀x∈was,1≤x.client∧x.client≤9) →
 ji (mE lk lW was)∧fP lk (mE lk lW was)∧∀k∈mE lk lW was,∀c,c≠0→jN k c→(∃k0∈lk,jN k0 c)∧(fG was c=true→fG lW c=true)
 | [],lk,h,_=>⟨h,fP.refl _,fun k hk c _ hin=>⟨⟨k,hk,hin⟩,fun h=>by simp [fG] at h⟩⟩
 | x::was,lk,h,hw=>by
   have hx:=hw x (by simp);obtain ⟨h1,h2,h3⟩:ji (mZ lW lk x)∧fP lk (mZ lW lk x)∧∀k∈mZ lW lk x,∀c,c≠0→jN k c→(∃k0∈lk,jN k0 c)∧(x.client=c→fG lW c=true):=by
    unfold mZ
    split
    ·rename_i hc
     exact ⟨h,fP.refl _,fun k hk c _ hin=>⟨⟨k,hk,hin⟩,fun e=>by rw [←e];exact hc⟩⟩
    ·obtain ⟨g1,g2⟩:=KE (who:=x.client) h hx
     refine ⟨(JG h hx).1,g1,fun k hk c hc hin=>?_⟩;obtain ⟨g3,g4⟩:=g2 k hk c hc hin;exact ⟨g4,fun e=>absurd e.symm g3⟩
   obtain ⟨k1,k2,k3⟩:=oD lW was (mZ lW lk x) h1 (fun y hy=>hw y (by simp [hy]));refine ⟨k1,h2.trans k2,fun k hk c hc hin=>?_⟩;obtain ⟨⟨k0,hk0,Ws⟩,g2⟩:=k3 k hk c hc hin;obtain ⟨g3,g4⟩:=h3 k0 hk0 c hc Ws;refine ⟨g3,fun hh=>?_⟩;obtain ⟨y,hy,SA⟩:=l5.1 hh
   rcases List.mem_cons.1 hy with rfl | hy
   ·exact g4 SA
   ·exact g2 (l5.2 ⟨y,hy,SA⟩)
theorem dQ.uW {l:List aG} {index:Int} (h:dQ l index):∀x∈l,1≤x.client∧x.client≤9:=fun x hx=>by
 have:=h.bad x hx;unfold fe at this;omega
theorem Dy {lk:List aN} {lW was:List aG} (h:ji lk) (hw:∀x∈was,1≤x.client∧x.client≤9) (hh:Held lk was):Held (mE lk lW was) lW:=fun k hk c hc hin=>by
 obtain ⟨⟨k0,hk0,h0⟩,h1⟩:=(oD lW was lk h hw).2.2 k hk c hc hin;exact h1 (hh k0 hk0 c hc h0)
theorem Held.mono {lk:List aN} {a b:List aG} (h:Held lk a) (hab:∀c,fG a c=true→fG b c=true):Held lk b:=fun k hk c hc hin=>hab c (h k hk c hc hin)
theorem oq {a b:List aG} (h:b.map (·.client)=a.map (·.client)) (c:Int):fG b c=fG a c:=by
 have e:∀l:List aG,fG l c=(l.map (·.client)).any (· == c):=fun l=>by simp [fG,List.any_map,Function.comp_def]
 rw [e,e,h]
structure EN (s:bf) (ct:Int→Prop) (s':bf):Prop where
 dG:dQ s'.af (s.index+1)
 index:s'.index=s.index
 lock:ji s'.au
 pair:qB s'.pairs
 newer:fP s.au s'.au
 held:Held s.au s.af→Held s'.au s'.af
theorem BG {s:bf} (h:mO s):mO (j4 s)∧fP s.au (j4 s).au∧(Held s.au s.af→Held (j4 s).au (j4 s).af):=by
 obtain ⟨h1,h2,_⟩:=oD (kI s.af s.index).1 s.af s.au h.lock h.dG.uW;exact ⟨⟨MN h.dG,h1,h.pair⟩,h2,fun hh=>Dy h.lock h.dG.uW hh⟩
theorem Es {l:List aG} {index c:Int} (h:dQ l index) (hi:index<1073741824) (hc:1≤c∧c≤9) (x:Int) (hx:fG l x=true):fG (join l index c).1 x=true:=by
 rw [join,if_neg (by simp [fA.2 h]),if_neg (by omega)]
 split
 ·rename_i ht
  have hlt:=iV ht;rw [getD_at hlt];exact (oq (uF (x:={ l[fH l c] with last:=index+1 }) hlt rfl) x).trans hx
 ·split
  ·exact hx
  ·obtain ⟨y,hy,hyx⟩:=l5.1 hx
   exact l5.2 ⟨y,mem_insert.2 (.inr hy),hyx⟩
theorem join_step {s:bf} {c:Int} (h:mO s) (hi:s.index<1073741824) (hc:1≤c∧c≤9):EN s (fun _=>True) (H8 s c).1∧jg (H8 s c).2:=by
 obtain ⟨h1,h2,h3⟩:=Oe h.dG hi hc;exact ⟨⟨h1,rfl,h.lock,h.pair,fP.refl _,fun hh=>hh.mono (Es h.dG hi hc)⟩,h3⟩
theorem Bl {s:bf} {c:Int} (h:mO s) (hi:s.index<1073741824):EN s (fun _=>True) (El s c).1∧jg (El s c).2:=by
 obtain ⟨h1,h2,h3⟩:=Mi (c:=c) h.dG hi;obtain ⟨g1,g2,_⟩:=oD (leave s.af s.index c).1 s.af s.au h.lock h.dG.uW;exact ⟨⟨h1,rfl,g1,h.pair,g2,fun hh=>Dy h.lock h.dG.uW hh⟩,h3⟩
theorem L9 {l:List fB} (h:qB l) (name:List UInt8):jg (jW l name).1:=by
 rw [get_eq h]
 split
 ·exact ⟨by simp⟩
 ·rename_i ht
  have ht':mo l name=true:=by simpa using ht
  have hlt:=rO ht';rw [getD_at hlt];have ho:=h.one _ (List.getElem_mem hlt);have hv:=ho.JY;have hz:=ho.size;exact ⟨by simp only;omega⟩
theorem FC {l:List fB} (h:qB l) {name value:List UInt8} (hn:fD name=true) (hv:value.length≤12):jg (ja l name value).2.1:=by
 rw [LJ h hn hv]
 split
 ·split<;>exact ⟨by simp⟩
 ·rename_i ht
  have ht':mo l name=true:=by simpa using ht
  have hlt:=rO ht';rw [getD_at hlt];have hvv:=(h.one _ (List.getElem_mem hlt)).JY
  split
  ·exact ⟨by simp⟩
  ·exact ⟨by simp;omega⟩
theorem JI {s:bf} {who:Int} {o:zC} (hl:ji s.au) (hp:qB s.pairs) (ho:wJ o) (hw:1≤who∧who≤9) :
 ji (lZ s who o).1.au∧qB (lZ s who o).1.pairs∧(lZ s who o).1.index=s.index∧(lZ s who o).1.af=s.af∧fP s.au (lZ s who o).1.au ∧
  (fG s.af who=true→Held s.au s.af→Held (lZ s who o).1.au s.af)∧jg (lZ s who o).2 ∧
  ((lZ s who o).1.pairs=s.pairs∨(o.kind=5∧jF (lZ s who o).1.au o.a=(who,o.n,0))):=by
 have hwi:=P6 hl o.a;rw [lZ]
 split
 ·obtain ⟨h1,h2,h3⟩:=JZ (wt:=decide (o.kind=2)) hl ho.name hw
  refine ⟨(NR hl ho.name hw).1,hp,rfl,rfl,h1,fun hc hh k hk c hc0 hin=>?_,h3, .inl rfl⟩
  rcases h2 k hk c hc0 hin with rfl | ⟨k0,hk0,h0⟩
  ·exact hc
  ·exact hh k0 hk0 c hc0 h0
 ·split
  ·obtain ⟨h1,h2,h3⟩:=KH hl ho.name hw
   refine ⟨(OG hl ho.name hw).1,hp,rfl,rfl,h1,fun _ hh k hk c hc0 hin=>?_,h3, .inl rfl⟩;obtain ⟨k0,hk0,h0⟩:=h2 k hk c hc0 hin;exact hh k0 hk0 c hc0 h0
  ·split
   ·exact ⟨hl,hp,rfl,rfl,fP.refl _,fun _ hh=>hh,⟨by simp;omega⟩, .inl rfl⟩
   ·split
    ·exact ⟨hl,hp,rfl,rfl,fP.refl _,fun _ hh=>hh,L9 hp _, .inl rfl⟩
    ·split
     ·exact ⟨hl,hp,rfl,rfl,fP.refl _,fun _ hh=>hh,⟨by simp;omega⟩, .inl rfl⟩
     ·rename_i a b c d e
      have hk:=ho.kind;refine ⟨hl,(Qc hp ho.name ho.size).1,rfl,rfl,fP.refl _,fun _ hh=>hh,FC hp ho.name ho.size, .inr ⟨by omega,?_⟩⟩;have h3:=Lu hl o.a;have e1:(jF s.au o.a).1=who:=by omega
      have e2:(jF s.au o.a).2.1=o.n:=by omega
      rw [←e1,←e2,←h3]
theorem KO {s:bf} {c:aQ} (h:mO s) (hi:s.index<1073741824) (hk:c.kind=2) (hc:qy c) :
 EN s (fun _=>True) (uo s c).1∧jg (uo s c).2∧((uo s c).1.pairs=s.pairs∨(c.op.kind=5∧jF (uo s c).1.au c.op.a=(c.client,c.op.n,0))):=by
 rcases hc with ⟨hk',_⟩ | ⟨_,hcl,hse,Px,hak,hop⟩
 ·omega
 obtain ⟨r1,r2,r3,r4⟩:=Fu (c:=c.client) (lW:=c.session) (seq:=c.seq) (aH:=c.aH) h.dG hi (by omega);have rc:=Cx r2;rw [uo]
 split
 ·rename_i htd
  obtain ⟨x,hx,Ya,_,_,hx1,hx2,hx3⟩:=r4 htd;obtain ⟨d1,d2,d3,d4,d5,d6,d7,d8⟩:=JI (s:=⟨s.index,s.au,s.pairs,(ready s.af s.index c.client c.session c.seq c.aH).1⟩) (who:=c.client) h.lock h.pair hop hcl;generalize hdo:lZ ⟨s.index,s.au,s.pairs,(ready s.af s.index c.client c.session c.seq c.aH).1⟩ c.client c.op=t at *;obtain ⟨k1,k2⟩:=Ob (q:=c.seq) (r:=t.2) r1 hx Ya hx1 hx2 hx3 d7;have kc:=Er k2;simp only at d4 d3;simp only [H7,d4];refine ⟨⟨k1,d3,d1,d2,d5,fun hh=>?_⟩,d7,d8⟩;refine Held.mono (d6 (l5.2 ⟨x,hx,Ya⟩) (hh.mono fun c hc=>by rw [oq rc];exact hc)) fun c hc=>?_
  rw [oq kc];exact hc
 ·exact ⟨⟨r1,rfl,h.lock,h.pair,fP.refl _,fun hh=>hh.mono fun c hc=>by rw [oq rc];exact hc⟩,r3, .inl rfl⟩
structure EP (s:bf) (c:aQ) (s':bf):Prop where
 ok:mO s'
 index:s'.index=s.index+1
 newer:fP s.au s'.au
 held:Held s.au s.af→Held s'.au s'.af
 pairs:s'.pairs=s.pairs∨(c.kind=2∧c.op.kind=5∧jF s'.au c.op.a=(c.client,c.op.n,0))
theorem Gs {s:bf} {x:Bytes} (h:mO s) (hi:s.index<1073741824) (hx:dI x=0):iJ s x=sD (Bh (j4 s) (bM x).1):=by
 have hx':(bM x).2=0:=hx;rw [iJ,if_neg (by simp [pY.2 h]),if_neg (by omega),if_neg (by simp [hx'])]
theorem BQ {s:bf} {x:Bytes} (h:mO s) (hi:s.index<1073741824) (hx:dI x=0) :
 (iJ s x).2.2=0∧EP s (bM x).1 (iJ s x).1∧jg (iJ s x).2.1:=by
 rw [Gs h hi hx];have hc:=DF hx;generalize (bM x).1=c at hc⊢;obtain ⟨f1,f2,f3⟩:=BG h;have fi:(j4 s).index=s.index:=rfl;have fp:(j4 s).pairs=s.pairs:=rfl;generalize j4 s=t at *;have hti:t.index<1073741824:=by omega
 have hb:=hc.bounds;have key:∀r:bf×eX,EN t (fun _=>True) r.1→jg r.2→(r.1.pairs=t.pairs∨(c.kind=2∧c.op.kind=5∧jF r.1.au c.op.a=(c.client,c.op.n,0))) →
  (sD r).2.2=0∧EP s c (sD r).1∧jg (sD r).2.1:=fun r h1 h2 h3=>by
  refine ⟨rfl,⟨⟨?_,h1.lock,h1.pair⟩,?_,f2.trans h1.newer,fun hh=>h1.held (f3 hh),?_⟩,h2⟩
  ·show dQ r.1.af (r.1.index+1)
   rw [h1.index];exact h1.dG
  ·show r.1.index+1=_
   rw [h1.index,fi]
  ·rw [←fp];exact h3
 rw [Bh]
 split
 ·obtain ⟨h1,h2⟩:=join_step f1 hti hb.2
  exact key _ h1 h2 (.inl rfl)
 ·split
  ·obtain ⟨h1,h2⟩:=Bl (c:=c.client) f1 hti
   exact key _ h1 h2 (.inl rfl)
  ·have hk:c.kind=2:=by omega
   obtain ⟨h1,h2,h3⟩:=KO f1 hti hk hc;refine key _ h1 h2 ?_
   rcases h3 with h3 | h3
   ·exact .inl h3
   ·exact .inr ⟨hk,h3⟩
def iO:List Bytes→bf→bf×Bool
 | [],s=>(s,true)
 | x::r,s=>if (iJ s x).2.2≠0 then (gu,false) else iO r (iJ s x).1
def applied (l:List Bytes):bf×Bool:=iO l gu
theorem Hy:mO gu:=by
 refine ⟨dQ.of (by simp [gu]) (by simp [gu]) (by simp [gu]) (by simp [gu]) (by simp [gu,rising]),Mg,⟨by simp [gu],by simp [gu],by simp [gu,xA]⟩⟩
theorem xU:∀(l:List Bytes) (s:bf),mO s→(∀x∈l,dI x=0)→s.index+l.length≤1073741824→Held s.au s.af →
 ∃t,iO l s=(t,true)∧mO t∧t.index=s.index+l.length∧Held t.au t.af
 | [],s,h,_,_,hh=>⟨s,rfl,h,by simp,hh⟩
 | x::r,s,h,hx,hi,hh=>by
   rw [List.length_cons] at hi;obtain ⟨h1,h2,_⟩:=BQ h (by omega) (hx x (by simp));obtain ⟨t,t1,t2,t3,t4⟩:=xU r (iJ s x).1 h2.ok (fun y hy=>hx y (by simp [hy])) (by have:=h2.index;omega) (h2.held hh);refine ⟨t,?_,t2,?_,t4⟩
   ·rw [iO,if_neg (by simp [h1])];exact t1
   ·rw [t3,h2.index,List.length_cons];omega
theorem BR {l:List Bytes} (h:∀x∈l,dI x=0) (hl:l.length≤1000000):∃t,applied l=(t,true)∧mO t∧t.index=l.length∧Held t.au t.af:=by
 obtain ⟨t,h1,h2,h3,h4⟩:=xU l gu Hy h (by simp [gu];omega) (fun k hk=>by simp [gu] at hk);exact ⟨t,h1,h2,by simpa [gu] using h3,h4⟩
theorem nZ:∀(a b:List Bytes) (s t:bf),iO a s=(t,true)→iO (a++b) s=iO b t
 | [],b,s,t,h=>by simp only [iO,Prod.mk.injEq,and_true] at h;subst h;rfl
 | x::a,b,s,t,h=>by
   rw [iO] at h
   split at h;· cases h
   rename_i h1
   rw [List.cons_append,iO,if_neg h1];exact nZ a b _ t h
def pQ:List UInt8→Nat→Nat→Nat×Nat
 | [],x,y=>(x,y)
 | c::r,x,y=>pQ r ((x+c.toNat) % 65521) ((y+(x+c.toNat) % 65521) % 65521)
def LM (p:Nat×Nat):Bytes:=[(p.2 / 256).toUInt8,p.2.toUInt8,(p.1 / 256).toUInt8,p.1.toUInt8]
def jI (s:Bytes):Bytes:=LM (pQ s 1 0)
theorem Fh (s:Bytes):(jI s).length=4:=rfl
theorem vF:∀(a b:Bytes) (x y:Nat),pQ (a++b) x y=pQ b (pQ a x y).1 (pQ a x y).2
 | [],_,_,_=>rfl
 | c::a,b,x,y=>by rw [List.cons_append,pQ,pQ];exact vF a b _ _
def bY (n:Int):Bytes:=(number n).1
def jG (s:Bytes):Bytes:=(text s).1
def cK (l:List Int):Bytes:=l.flatMap bY
def gT (k:aN):Bytes:=jG k.name++(bY k.holder++(bY k.fence++(bY k.line.length++cK k.line)))
def fF (p:fB):Bytes:=jG p.name++(jG p.value++bY p.version)
def fO (k:lK):Bytes:=bY k.seq++(bY k.aI.code++(bY k.aI.n++jG k.aI.text))
def bI (x:aG):Bytes:=bY x.client++(bY x.id++(bY x.aH++(bY x.last++(bY x.aA.length++x.aA.flatMap fO))))
def bn (s:bf):Bytes :=
 bY s.index++(bY s.au.length++(s.au.flatMap gT++(bY s.pairs.length++(s.pairs.flatMap fF++(bY s.af.length++s.af.flatMap bI)))))
structure Rd where
 s:Bytes
 e:Int
def rdNum (r:Rd):Int×Rd:=if r.e≠0 then (0,r) else ((aL r.s).1,⟨(aL r.s).2.1,(aL r.s).2.2⟩)
def Hq (r:Rd):Bytes×Rd:=if r.e≠0 then ([],r) else ((dn r.s).1,⟨(dn r.s).2.1,(dn r.s).2.2⟩)
theorem Hr {n:Int} (h0:0≤n) (hn:n≤1099511627776) (t:Bytes):rdNum ⟨bY n++t,0⟩=(n,⟨t,0⟩):=by
 have:=zo n h0 hn t;simp [rdNum,bY,this]
theorem Fy {s:Bytes} (h:s.length≤5000) (t:Bytes):Hq ⟨jG s++t,0⟩=(s,⟨t,0⟩):=by
 have:=vI s t h;simp [Hq,jG,this]
theorem gK (n:Int):(bY n).length≤7:=jy n
theorem rM {s:Bytes} (h:s.length≤5000):(jG s).length≤s.length+7:=wT s h
theorem kR {α:Type} {f:α→Bytes} {m:Nat}:∀(l:List α),(∀x∈l,(f x).length≤m)→(l.flatMap f).length≤l.length*m
 | [],_=>by simp
 | x::l,h=>by
   have:=kR l (fun y hy=>h y (by simp [hy]));have h1:=h x (by simp);rw [List.flatMap_cons,List.length_append,List.length_cons,Nat.add_mul];omega
theorem sI {s:bf} (h:mO s):(bn s).length≤4000:=by
 have h2:=h.lock.len;have h3:=h.pair.len;have h4:=h.dG.len;have a1:(s.au.flatMap gT).length≤s.au.length*60:=kR _ fun k hk=>by
  have ho:=h.lock.one k hk;have g1:=rM (s:=k.name) (by have:=(jA ho.name).2;omega);have g2:=(jA ho.name).2;have g3:=gK k.holder;have g4:=gK k.fence;have g5:=gK k.line.length;have g6:(cK k.line).length≤k.line.length*7:=kR _ fun x _=>gK x
  have g7:=ho.line.len;simp only [gT,List.length_append];omega
 have a2:(s.pairs.flatMap fF).length≤s.pairs.length*60:=kR _ fun p hp=>by
  have ho:=h.pair.one p hp;have g0:=(jA ho.name).2;have g1:=rM (s:=p.name) (by omega);have g2:=ho.size;have g3:=rM (s:=p.value) (by omega);have g4:=gK p.version;simp only [fF,List.length_append];omega
 have a3:(s.af.flatMap bI).length≤s.af.length*300:=kR _ fun x hx=>by
  have hr:=fU.1 (h.dG.rep x hx);have g1:=gK x.client;have g2:=gK x.id;have g3:=gK x.aH;have g4:=gK x.last;have g5:=gK x.aA.length;have g6:(x.aA.flatMap fO).length≤x.aA.length*50:=kR _ fun k hk=>by
   have:=hr.one k hk;have q1:=gK k.seq;have q2:=gK k.aI.code;have q3:=gK k.aI.n;have q4:=rM (s:=k.aI.text) (by omega);simp only [fO,List.length_append];omega
  have g7:=iA (h.dG.rep x hx);simp only [bI,List.length_append];omega
 have b1:=gK s.index;have b2:=gK s.au.length;have b3:=gK s.pairs.length;have b4:=gK s.af.length;simp only [bn,List.length_append];omega
theorem dB (n m:Int) (hm:0<m):0≤picked n m∧picked n m<m:=by
 unfold picked
 split
 ·exact ⟨Int.emod_nonneg _ (by omega),Int.emod_lt_of_pos _ hm⟩
 ·exact ⟨Int.emod_nonneg _ (by omega),Int.emod_lt_of_pos _ hm⟩
def kinds:List Int:=[1,2,2,3,3,4,5,5,6]
def kindOf (r:kX):Int:=kinds.getD (picked r.kind 9).toNat 0
def ow (n:Int):List UInt8:=118::Lib.decDigits (picked n 90).toNat
def zK (r:kX):zC:=if kindOf r=5 then ⟨5,jM r.a,ow r.b,1+picked r.c 4⟩ else ⟨kindOf r,jM r.a,[],0⟩
theorem Kq:∀i:Fin 9,1≤kinds.getD i.val 0∧kinds.getD i.val 0≤6:=by decide
theorem Dr (r:kX):1≤kindOf r∧kindOf r≤6:=by
 have h:=dB r.kind 9 (by decide);exact Kq ⟨(picked r.kind 9).toNat,by omega⟩
theorem vR (n:Nat) (h:n<100):(Lib.decDigits n).length≤2:=by
 rw [Lib.decDigits]
 split
 ·simp
 ·rw [Lib.decDigits,dif_pos (by omega)];simp
theorem JX (n:Int):(ow n).length≤3:=by
 have h:=dB n 90 (by decide);have:=vR (picked n 90).toNat (by omega);simp [ow];omega
theorem Jq (r:kX):wJ (zK r):=by
 have hk:=Dr r;have hv:=JX r.b;have hp:=dB r.c 4 (by decide);unfold zK
 split
 ·exact ⟨⟨by simp,by simp⟩,FY _,by simp,by show (ow r.b).length≤12;omega,⟨fun _=>⟨by show (1:Int)≤1+picked r.c 4;omega,by show 1+picked r.c 4≤(1073741824:Int);omega⟩,by simp⟩⟩
 ·rename_i h
  exact ⟨hk,FY _,fun _=>rfl,by simp,⟨fun h'=>absurd h' h,fun _=>rfl⟩⟩
structure Nz where
 out:List aQ
 next:Int→Int
 lW:Int→Int
def upd (f:Int→Int) (c v:Int):Int→Int:=fun x=>if x=c then v else f x
theorem upd_same (f:Int→Int) (c v:Int):upd f c v c=v:=by simp [upd]
theorem pE (f:Int→Int) {c x:Int} (v:Int) (h:x≠c):upd f c v x=f x:=by simp [upd,h]
def rz (r:kX):Int:=1+picked r.c 4
def MM (r:kX):Int:=picked (r.kind.tdiv 9) 16
def Dz (c:Int):aQ:=⟨1,c,0,0,0,bP⟩
def Iy (c:Int):aQ:=⟨3,c,0,0,0,bP⟩
def KG (n:Int) (r:kX):Int:=max 1 (n - 1 - picked r.b 3)
def sH (c s n:Int) (r:kX):aQ:=⟨2,c,s,KG n r,max 0 (KG n r - 2),zK r⟩
def xI (c s n:Int) (r:kX):aQ:=⟨2,c,s,n,max 0 (n - 1 - picked r.a 3),zK r⟩
def JH (g:Nz) (r:kX):Nz :=
 if g.lW (rz r)=0 then ⟨g.out++[Dz (rz r)],upd g.next (rz r) 1,upd g.lW (rz r) (g.out.length+1:Nat)⟩
 else if MM r=0 then ⟨g.out++[Dz (rz r)],g.next,g.lW⟩
 else if MM r=1 then ⟨g.out++[Iy (rz r)],g.next,upd g.lW (rz r) 0⟩
 else if MM r<5∧1<g.next (rz r) then ⟨g.out++[sH (rz r) (g.lW (rz r)) (g.next (rz r)) r],g.next,g.lW⟩
 else ⟨g.out++[xI (rz r) (g.lW (rz r)) (g.next (rz r)) r],upd g.next (rz r) (g.next (rz r)+1),g.lW⟩
structure Cm (n:Nat) (g:Nz):Prop where
 len:g.out.length=n
 all:∀c∈g.out,qy c
 lW:∀c,g.lW c≠0→(1≤g.lW c∧g.lW c≤n)∧1≤g.next c
 pos:∀c,0≤g.lW c∧g.lW c≤n∧0≤g.next c∧g.next c≤n
theorem OE (r:kX):1≤rz r∧rz r≤4:=by
 have:=dB r.c 4 (by decide);unfold rz;omega
theorem Cm.step {n:Nat} {g:Nz} (h:Cm n g) (hn:n≤1000) (r:kX):Cm (n+1) (JH g r):=by
 have hw:=OE r;have hs:=h.pos (rz r);have hb:=dB r.b 3 (by decide);have ha:=dB r.a 3 (by decide);have hop:=Jq r;have hl:=h.len;have hall:∀x,qy x→∀c∈g.out++[x],qy c:=fun x hx c hc=>by
  rcases List.mem_append.1 hc with hc | hc
  ·exact h.all c hc
  ·rw [List.mem_singleton.1 hc];exact hx
 have hkeep:∀c,g.lW c≠0→(1≤g.lW c∧g.lW c≤(n+1:Nat))∧1≤g.next c:=fun c hc=>by have:=h.lW c hc;omega
 have hpos:∀c,0≤g.lW c∧g.lW c≤(n+1:Nat)∧0≤g.next c∧g.next c≤(n+1:Nat):=fun c=>by have:=h.pos c;omega
 generalize hc:rz r=c at *;unfold JH;rw [hc]
 split
 ·rename_i h0
  refine ⟨by simp [hl],hall _ (.plain (by simp [Dz]) (by simp only [Dz];omega) rfl rfl rfl rfl),fun x=>?_,fun x=>?_⟩
  ·by_cases hx:x=c
   ·subst hx;simp only [upd_same];intro _;omega
   ·simp only [pE _ _ hx];exact hkeep x
  ·by_cases hx:x=c
   ·subst hx;simp only [upd_same];omega
   ·simp only [pE _ _ hx];exact hpos x
 ·rename_i h0
  have h1:=h.lW c h0
  split
  ·exact ⟨by simp [hl],hall _ (.plain (by simp [Dz]) (by simp only [Dz];omega) rfl rfl rfl rfl),hkeep,hpos⟩
  ·split
   ·refine ⟨by simp [hl],hall _ (.plain (by simp [Iy]) (by simp only [Iy];omega) rfl rfl rfl rfl),fun x=>?_,fun x=>?_⟩
    ·by_cases hx:x=c
     ·subst hx;simp only [upd_same];simp
     ·simp only [pE _ _ hx];exact hkeep x
    ·by_cases hx:x=c
     ·subst hx;simp only [upd_same];have:=hpos x;omega
     ·simp only [pE _ _ hx];exact hpos x
   ·split
    ·rename_i h2
     refine ⟨by simp [hl],hall _ (.call rfl ⟨by simp only [sH];omega,by simp only [sH];omega⟩ ⟨by simp only [sH];omega,by simp only [sH];omega⟩ ⟨by simp only [sH,KG];omega,by simp only [sH,KG];omega⟩ ⟨by simp only [sH,KG];omega,by simp only [sH,KG];omega⟩ hop),hkeep,hpos⟩
    ·refine ⟨by simp [hl],hall _ (.call rfl ⟨by simp only [xI];omega,by simp only [xI];omega⟩ ⟨by simp only [xI];omega,by simp only [xI];omega⟩ ⟨by simp only [xI];omega,by simp only [xI];omega⟩ ⟨by simp only [xI];omega,by simp only [xI];omega⟩ hop),fun x=>?_,fun x=>?_⟩
     ·by_cases hx:x=c
      ·subst hx;simp only [upd_same];intro hx';have:=hkeep x hx';omega
      ·simp only [pE _ _ hx];exact hkeep x
     ·by_cases hx:x=c
      ·subst hx;simp only [upd_same];have:=hpos x;omega
      ·simp only [pE _ _ hx];exact hpos x
theorem Cm.run:∀(l:List kX) (n:Nat) (g:Nz),Cm n g→n+l.length≤1000→Cm (n+l.length) (l.foldl JH g)
 | [],n,g,h,_=>h
 | r::l,n,g,h,hn=>by
   have:=Cm.run l (n+1) (JH g r) (h.step (by simp at hn;omega) r) (by simp at hn⊢;omega);rw [List.foldl_cons,List.length_cons,show n+(l.length+1)=n+1+l.length by omega];exact this
end Go.Tk
