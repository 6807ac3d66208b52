/- A part of the proof, laid together from: CustP, CustQ, LogQ, RepQ, CluM, CluQ. -/
import Derived.Test.YtbngpjdflblffaaGreatDoorPa04
set_option linter.all false
set_option maxRecDepth 100000
namespace Go.Tk
open Go Go.RowKit
structure oH where
 seq:Int
 op:zC
structure bA where
 id:Int
 session:Int
 next:Int
 waits:List oH
structure kM where
 client:Int
 seq:Int
 aI:eX
def gP:oH:=⟨0,bP⟩
def fu:bA:=⟨0,0,0,[]⟩
def o7 (c:bA) (i:Nat):Prop :=
 (c.waits.getD i gP).seq<1∨c.next≤(c.waits.getD i gP).seq∨(0<i∧(c.waits.getD i gP).seq≤(c.waits.getD (i - 1) gP).seq)∨(c.waits.getD 0 gP).seq+3<(c.waits.getD i gP).seq
instance (c:bA) (i:Nat):Decidable (o7 c i):=by unfold o7;infer_instance
def EA (c:bA) (i:Nat):Int:=if o7 c i then 9 else lu (c.waits.getD i gP).op
def kG (c:bA):Int :=
 if c.id<1∨9<c.id∨c.session<0∨1073741824<c.session∨c.next<1∨1048577<c.next then 2
 else if 4<c.waits.length∨(c.session=0∧0<c.waits.length) then 9
 else bU (EA c) c.waits.length
structure gB (c:bA):Prop where
 id:1≤c.id∧c.id≤9
 session:0≤c.session∧c.session≤1073741824
 next:1≤c.next∧c.next≤1048577
 len:c.waits.length≤4
 away:c.session=0→c.waits=[]
 all:∀i,i<c.waits.length→¬ o7 c i∧wJ (c.waits.getD i gP).op
theorem lF {c:bA}:kG c=0↔gB c:=by
 rw [kG];constructor
 ·intro h
  split at h;· cases h
  split at h;· cases h
  rename_i h1 h2
  refine ⟨by omega,by omega,by omega,by omega,fun h0=>?_,fun i hi=>?_⟩
  ·exact List.length_eq_zero_iff.1 (by omega)
  ·have:=eu.1 h i hi
   rw [EA] at this
   split at this
   ·cases this
   ·rename_i hb
    exact ⟨hb,mq.1 this⟩
 ·intro h
  have h1:=h.id;have h2:=h.session;have h3:=h.next;have h4:=h.len;rw [if_neg (by omega),if_neg]
  ·refine eu.2 fun i hi=>?_
   rw [EA,if_neg (h.all i hi).1];exact mq.2 (h.all i hi).2
  ·rintro (h5 | ⟨h5,h6⟩)
   ·omega
   ·rw [h.away h5] at h6;simp at h6
def gq (c:bA):Int:=if 0<c.waits.length then (c.waits.getD 0 gP).seq - 1 else c.next - 1
def iX (c:bA) (o:zC):bA×Int :=
 if kG c≠0 then (fu,kG c)
 else if c.session=0 then (fu,11)
 else if lu o≠0 then (fu,lu o)
 else if 1048576<c.next∨gq c+4<c.next then (fu,8)
 else (⟨c.id,c.session,c.next+1,c.waits++[⟨c.next,o⟩]⟩,0)
def iY (c:bA):List UInt8×Int:=if kG c≠0 then ([],kG c) else ig ⟨1,c.id,0,0,0,bP⟩
def gp (c:bA) (k:Int):List UInt8×Int :=
 if kG c≠0 then ([],kG c)
 else if k<0∨c.waits.length≤k then ([],6)
 else ig ⟨2,c.id,c.session,(c.waits.getD k.toNat gP).seq,gq c,(c.waits.getD k.toNat gP).op⟩
def oK (l:List oH) (n:Int):Nat:=l.findIdx fun w=>w.seq == n
def kE (c:bA) (m:kM):bA×Int :=
 if kG c≠0 then (fu,kG c)
 else if m.client≠c.id then (fu,6)
 else if m.seq=0 then
  if 0<c.session then (fu,12)
  else if m.aI.code≠0∧m.aI.code≠7 then (c,0)
  else if m.aI.n<1∨1073741824<m.aI.n then (fu,2)
  else (⟨c.id,m.aI.n,c.next,c.waits⟩,0)
 else if c.waits.length≤oK c.waits m.seq then (fu,12)
 else if m.aI.code=11 then (⟨c.id,0,c.next,[]⟩,0)
 else (⟨c.id,c.session,c.next,c.waits.eraseIdx (oK c.waits m.seq)⟩,0)
theorem J7 {l:pq} {n:Int} (h:l.base≤n) (m:List Bytes):jH l n m=0:=by rw [jH,if_neg (by omega)]
theorem put_eq {l:pq} {k:Int} {b:List Bytes} (h:uO l) (h0:l.base≤k) (h1:k≤dH l) (hb:b.length≤400) :
 oM l k b=if (jD b (k - l.base).toNat l.entries).2≠0 then (ku,(jD b (k - l.base).toNat l.entries).2)
  else if 400<(jD b (k - l.base).toNat l.entries).1.length then (ku,8) else (⟨l.base,(jD b (k - l.base).toNat l.entries).1⟩,0):=by
 have hc:=jX.2 h;have hl:=h.len;have hb0:=h.base;have h2:dH l≤l.base+400:=by rw [dH];omega
 rw [oM,J7 h0,if_neg (by simp [hc]),if_neg (by omega),if_neg (by omega),if_neg (by omega)];simp only [List.drop_zero,Int.natCast_zero,Int.add_zero]
def eD (s:bf):Bytes:=bn s++jI (bn s)
def dF (K:List Bytes) (i:Nat):bf:=(applied (K.take i)).1
structure dL where
 log:pq
 snap:Bytes
 state:bf
def yB:dL:=⟨ku,[],gu⟩
def wI (base:Int) (snap:Bytes) (ks:bf):Prop:=(base=0∧snap=[]∧ks=gu)∨(base≠0∧mO ks∧ks.index=base∧snap=eD ks)
structure qY (r:dL) (ks:bf):Prop where
 log:uO r.log
 st:mO r.state
 at_:r.log.base≤r.state.index∧r.state.index≤dH r.log
 kept:wI r.log.base r.snap ks
theorem Ez {s:Bytes} (h:dI s=0):s.length≤5000:=by
 apply Classical.byContradiction
 intro hn;rw [dI,bM,if_pos (by omega)] at h;cases h
theorem uO.small {l:pq} (h:uO l):∀s∈l.entries,s.length≤1000000:=fun s hs=>by have:=Ez (h.all s hs);omega
structure RA where
 b:Nat
 es:List Bytes
 i:Nat
def Jm:RA:=⟨0,[],0⟩
def bQ (a:RA):Nat:=a.b+a.es.length
def pV (K:List Bytes) (a:RA):Bytes:=if a.b=0 then [] else eD (dF K a.b)
structure tL (K:List Bytes):Prop where
 dec:∀s∈K,dI s=0
 len:K.length≤400
structure lJ (K:List Bytes) (n:Nat) (a:RA):Prop where
 bi:a.b≤a.i
 iK:a.i≤K.length
 il:a.i≤bQ a
 ln:bQ a≤n
 U5:a.es.take (a.i - a.b)=(K.drop a.b).take (a.i - a.b)
 dec:∀s∈a.es,dI s=0
theorem D8 {K:List Bytes} (h:∀s∈K,dI s=0) (hl:K.length≤1000000) {i:Nat} (hi:i≤K.length):applied (K.take i)=(dF K i,true)∧mO (dF K i)∧(dF K i).index=i∧Held (dF K i).au (dF K i).af:=by
 obtain ⟨t,h1,h2,h3,h4⟩:=BR (l:=K.take i) (fun x hx=>h x (List.mem_of_mem_take hx)) (by rw [List.length_take];omega);have e:dF K i=t:=by rw [dF,h1]
 rw [e];exact ⟨h1,h2,by rw [h3,List.length_take];omega,h4⟩
theorem tY {K:List Bytes} (h:tL K) {i:Nat} (hi:i≤K.length):mO (dF K i)∧(dF K i).index=i:=by
 have:=h.len;obtain ⟨-,h2,h3,-⟩:=D8 h.dec (by omega) hi;exact ⟨h2,h3⟩
theorem LF (K:List Bytes):dF K 0=gu:=rfl
theorem Fa {K K':List Bytes} (h:K <+: K') {i:Nat} (hi:i≤K.length):dF K' i=dF K i:=by
 obtain ⟨t,rfl⟩:=h;rw [dF,dF,List.take_append_of_le_length hi]
theorem LG {K:List Bytes} (h:∀s∈K,dI s=0) (hl:K.length≤1000000) {i:Nat} (hi:i<K.length):(iJ (dF K i) (K.getD i [])).2.2=0∧dF K (i+1)=(iJ (dF K i) (K.getD i [])).1 ∧
 EP (dF K i) (bM (K.getD i [])).1 (dF K (i+1))∧jg (iJ (dF K i) (K.getD i [])).2.1:=by
 obtain ⟨h1,h2,h3,-⟩:=D8 h hl (Nat.le_of_lt hi);have hd:dI (K.getD i [])=0:=h _ (kC K i [] hi);obtain ⟨h4,h5,h6⟩:=BQ h2 (by omega) hd;have e:K.take (i+1)=K.take i++[K.getD i []]:=by rw [List.take_succ_eq_append_getElem hi];simp [List.getD,hi]
 have e2:dF K (i+1)=(iJ (dF K i) (K.getD i [])).1:=by
  rw [dF,e,applied,nZ _ _ _ _ h1,iO,if_neg (by rw [h4];simp),iO]
 exact ⟨h4,e2,by rw [e2];exact h5,h6⟩
theorem lJ.len {K:List Bytes} {n:Nat} {a:RA} (h:lJ K n a):a.es.length≤n:=by have:=h.ln;unfold bQ at this;omega
theorem lJ.log {K:List Bytes} {n:Nat} {a:RA} (h:lJ K n a) (hn:n≤400):uO ⟨a.b,a.es⟩:=by
 have h1:=h.len;have h2:=h.ln;unfold bQ at h2;exact ⟨⟨by simp,by simp only;omega⟩,by simp only;omega,h.dec⟩
theorem lJ.state {K:List Bytes} {n:Nat} {a:RA} (h:lJ K n a) (hK:tL K):mO (dF K a.i)∧(dF K a.i).index=a.i:=tY hK h.iK
theorem lJ.more {K K':List Bytes} {n n':Nat} {a:RA} (h:lJ K n a) (hK:K <+: K') (hn:n≤n'):lJ K' n' a:=by
 have h1:=h.bi;have h2:=h.iK;have h3:=h.il;have h4:=h.ln;obtain ⟨t,rfl⟩:=hK;refine ⟨h1,by rw [List.length_append];omega,h3,by omega,?_,h.dec⟩;rw [h.U5,List.drop_append_of_le_length (by omega),List.take_append_of_le_length (by rw [List.length_drop];omega)]
theorem Fz {K K':List Bytes} (h:K <+: K') {a:RA} (hi:a.b≤K.length):pV K' a=pV K a:=by
 rw [pV,pV,Fa h hi]
theorem Qg (K:List Bytes) (n:Nat):lJ K n Jm:=⟨by simp [Jm],by simp [Jm],by simp [Jm],by simp [Jm,bQ],by simp [Jm],by simp [Jm]⟩
def dw (K:List Bytes) (a:RA):dL:=⟨⟨a.b,a.es⟩,pV K a,dF K a.i⟩
theorem lJ.fine {K:List Bytes} {n:Nat} {a:RA} (h:lJ K n a) (hK:tL K) (hn:n≤400):qY (dw K a) (dF K a.b):=by
 have h1:=h.bi;have h2:=h.iK;have h3:=h.il;have h4:=h.ln;obtain ⟨s1,s2⟩:=h.state hK;obtain ⟨k1,k2⟩:=tY hK (i:=a.b) (by omega);unfold bQ at h3;refine ⟨h.log hn,s1,?_,?_⟩
 ·show (a.b:Int)≤(dF K a.i).index∧(dF K a.i).index≤(a.b:Int)+a.es.length
  rw [s2];omega
 ·show wI (a.b:Int) (pV K a) (dF K a.b)
  by_cases hb:a.b=0
  ·rw [pV,if_pos hb,hb];exact .inl ⟨rfl,rfl,LF K⟩
  ·rw [pV,if_neg hb];exact .inr ⟨by omega,k1,k2,rfl⟩
def lX (a:RA) (from_:Nat) (more:List Bytes):RA:=⟨a.b,(jD more (from_ - a.b) a.es).1,a.i⟩
def gZ (a:RA):RA:=⟨a.i,a.es.drop (a.i - a.b),a.i⟩
def fV (a:RA):RA:=⟨a.b,a.es,a.b⟩
def gY (a:RA) (lb:Nat):RA:=⟨lb,if lb≤bQ a then a.es.drop (lb - a.b) else [],lb⟩
def kK (a:RA) (upto:Nat):RA:=⟨a.b,a.es,upto⟩
def Mf (K:List Bytes) (j:Nat):kM:=⟨(bM (K.getD j [])).1.client,(bM (K.getD j [])).1.seq,(iJ (dF K j) (K.getD j [])).2.1⟩
def mD (K:List Bytes) (i upto:Nat):List kM:=(List.range (upto - i)).map fun j=>Mf K (i+j)
theorem Hz (K:List Bytes) (i u:Nat):(mD K i u).length=u - i:=by simp [mD]
theorem FQ (K:List Bytes) {i u:Nat} (h:i≤u):mD K i (u+1)=mD K i u++[Mf K u]:=by
 rw [mD,show u+1 - i=(u - i)+1 by omega,List.range_succ,List.map_append,List.map_cons,List.map_nil,mD,show i+(u - i)=u by omega]
theorem lJ.put {K:List Bytes} {n n':Nat} {a:RA} (h:lJ K n a) {f:Nat} {more:List Bytes} (hm:∀s∈more,dI s=0) (hf:a.i≤f) (hfl:f≤bQ a) (hn:n≤n') (hl:f+more.length≤n') :
 lJ K n' (lX a f more)∧(jD more (f - a.b) a.es).2=0∧f+more.length≤bQ (lX a f more)∧(lX a f more).es.take (f - a.b+more.length)=a.es.take (f - a.b)++more:=by
 have h1:=h.bi;have h2:=h.iK;have h3:=h.il;have h4:=h.ln;unfold bQ at *;obtain ⟨o,o1,o2,o3,o4,o5⟩:=pW more (f - a.b) a.es hm (by omega);have e:lX a f more=⟨a.b,o,a.i⟩:=by rw [lX,o1]
 rw [e,o1];refine ⟨⟨h1,h2,by show a.i≤a.b+o.length;omega,by show a.b+o.length≤_;omega,?_,fun s hs=>(o5 s hs).elim (h.dec s) (hm s)⟩,rfl,by show _≤a.b+o.length;omega,o4⟩
 show o.take (a.i - a.b)=_
 rw [←h.U5];have:=congrArg (List.take (a.i - a.b)) o4;rw [List.take_take,List.take_append_of_le_length (by rw [List.length_take];omega),List.take_take] at this;rw [show min (a.i - a.b) (f - a.b+more.length)=a.i - a.b by omega,show min (a.i - a.b) (f - a.b)=a.i - a.b by omega] at this;exact this
theorem lJ.compact {K:List Bytes} {n:Nat} {a:RA} (h:lJ K n a):lJ K n (gZ a):=by
 have h1:=h.bi;have h2:=h.iK;have h3:=h.il;have h4:=h.ln;unfold bQ at *;refine ⟨Nat.le_refl _,h2,by simp [gZ,bQ],?_,by simp [gZ],fun s hs=>h.dec s (List.mem_of_mem_drop hs)⟩;simp only [gZ,bQ,List.length_drop];omega
theorem lJ.Am {K:List Bytes} {n:Nat} {a:RA} (h:lJ K n a):lJ K n (fV a):=by
 have h1:=h.bi;have h2:=h.iK;have h3:=h.il;have h4:=h.ln;unfold bQ at *;exact ⟨Nat.le_refl _,by simp only [fV];omega,by simp [fV,bQ],by simp only [fV,bQ];omega,by simp [fV],h.dec⟩
theorem lJ.install {K:List Bytes} {n:Nat} {a:RA} (h:lJ K n a) {lb:Nat} (hb:a.i<lb) (hK:lb≤K.length) (hn:lb≤n):lJ K n (gY a lb):=by
 have h1:=h.bi;have h2:=h.iK;have h3:=h.il;have h4:=h.ln;unfold bQ at *;refine ⟨Nat.le_refl _,hK,by simp [gY,bQ],?_,by simp [gY],fun s hs=>?_⟩
 ·show lb+(if lb≤a.b+a.es.length then List.drop (lb - a.b) a.es else []).length≤n
  by_cases hc:lb≤a.b+a.es.length
  ·rw [if_pos hc,List.length_drop];omega
  ·rw [if_neg hc,List.length_nil];omega
 ·simp only [gY] at hs
  split at hs
  ·exact h.dec s (List.mem_of_mem_drop hs)
  ·cases hs
theorem lJ.apply {K:List Bytes} {n:Nat} {a:RA} (h:lJ K n a) {u:Nat} (hi:a.i≤u) (hK:u≤K.length) (hl:u≤bQ a) (he:a.es.take (u - a.b)=(K.drop a.b).take (u - a.b)):lJ K n (kK a u) :=
 ⟨by have:=h.bi;simp only [kK];omega,hK,hl,h.ln,he,h.dec⟩
theorem MP {K es:List Bytes} {b u j:Nat} (he:es.take (u - b)=(K.drop b).take (u - b)) (h1:b≤j) (h2:j<u) (hl:u≤b+es.length):es.getD (j - b) []=K.getD j []:=by
 have h:=congrArg (fun l=>l[j - b]?) he;simp only [List.getElem?_take,List.getElem?_drop] at h;rw [if_pos (by omega),if_pos (by omega),show b+(j - b)=j by omega] at h;simp [List.getD,h]
structure dK where
 kind:Int
 c:Int
 r:Int
 k:Int
 op:zC
structure bS where
 kP:List RA
 bu:List bA
 bD:List kM
 K:List Bytes
 lead:Nat
def wm:kM:=⟨0,0,dP⟩
def aU (x:bS) (r:Nat):RA:=x.kP.getD r Jm
def aP (x:bS):RA:=aU x x.lead
def oJ (K:List Bytes) (l:RA) (a:Nat):Bytes:=if a<K.length then K.getD a [] else l.es.getD (a - l.b) []
def jf (K:List Bytes) (l:RA):List Bytes→Nat→Nat
 | [],a=>a
 | s::r,a=>if s=oJ K l a then jf K l r (a+1) else a
def bN (x:bS) (r:Nat):Nat:=jf x.K (aP x) (aU x r).es (aU x r).b
def nO (x:bS):Nat→Nat
 | 0=>0
 | n+1=>if n=x.lead then nO x n else max (nO x n) (bN x n)
def nE (x:bS):bS:={ x with K:=x.K++((aP x).es.drop (x.K.length - (aP x).b)).take (nO x 3 - x.K.length) }
def kU (x:bS) (l:List kM):bS:={ x with bD:=x.bD++l.take (60 - x.bD.length) }
def jU (x:bS) (r:Nat) (a:RA):bS:={ x with kP:=x.kP.set r a }
def lH (x:bS) (p:Bytes×Int):bS×Int:=if p.2≠0 then (x,p.2) else (jU x x.lead (lX (aP x) (bQ (aP x)) [p.1]),0)
def jw (l:RA) (f many:Nat):List Bytes:=(l.es.drop (f - l.b)).take many
def xQ (x:bS) (r:Nat) (many:Int):bS×Int :=
 if r=x.lead∨many<0 then (x,2)
 else if bN x r<(aP x).b then (nE (jU x r (gY (aU x r) (aP x).b)),0)
 else (nE (jU x r (lX (aU x r) (bN x r) (jw (aP x) (bN x r) many.toNat))),0)
def nD (x:bS) (r:Nat) (many:Int):Nat:=min ((aU x r).i+min many.toNat 400) (min x.K.length (bN x r))
def nY (x:bS) (r:Nat) (many:Int):bS×Int :=
 if many<0 then (x,2)
 else if r=x.lead then (kU (jU x r (kK (aU x r) (nD x r many))) (mD x.K (aU x r).i (nD x r many)),0)
 else (jU x r (kK (aU x r) (nD x r many)),0)
def uG (x:bS) (r:Nat):bS×Int:=if bN x r<x.K.length then (x,9) else (nE { x with lead:=r },0)
def qp (x:bS) (r:Nat):bS×Int:=if (aU x r).i=(aU x r).b then (x,12) else (jU x r (gZ (aU x r)),0)
def KP (x:bS) (a:dK):bS×Int :=
 if a.r<0∨3≤a.r then (x,6)
 else if a.kind=4 then xQ x a.r.toNat a.k
 else if a.kind=5 then nY x a.r.toNat a.k
 else if a.kind=8 then uG x a.r.toNat
 else if a.kind=6 then qp x a.r.toNat
 else (jU x a.r.toNat (fV (aU x a.r.toNat)),0)
def iq (x:bS) (i:Nat):bA:=x.bu.getD i fu
def qV (x:bS) (i:Nat) (p:bA×Int):bS×Int:=if p.2=0 then ({ x with bu:=x.bu.set i p.1 },0) else (x,p.2)
def ND (x:bS) (a:dK):bS×Int :=
 if a.c<0∨(x.bu.length:Int)≤a.c then (x,6)
 else if a.kind=1 then lH x (iY (iq x a.c.toNat))
 else if a.kind=3 then lH x (gp (iq x a.c.toNat) a.k)
 else qV x a.c.toNat (iX (iq x a.c.toNat) a.op)
def nX (x:bS) (m:kM):Nat:=x.bu.findIdx fun c=>c.id == m.client
def yR (x:bS) (i:Nat):bS:={ x with bD:=x.bD.eraseIdx i }
def qW (x:bS) (a:dK):bS×Int :=
 if a.k<0∨(x.bD.length:Int)≤a.k then (x,6)
 else if a.kind=11 then (if x.bD.length=60 then (x,8) else (kU x [x.bD.getD a.k.toNat wm],0))
 else if a.kind=10 then (yR x a.k.toNat,0)
 else if x.bu.length≤nX x (x.bD.getD a.k.toNat wm) then (yR x a.k.toNat,6)
 else qV (yR x a.k.toNat) (nX x (x.bD.getD a.k.toNat wm)) (kE (iq x (nX x (x.bD.getD a.k.toNat wm))) (x.bD.getD a.k.toNat wm))
def nG (x:bS) (a:dK):bS×Int :=
 if a.kind<1∨11<a.kind then (x,3)
 else if a.kind≤3 then ND x a
 else if a.kind≤8 then KP x a
 else qW x a
def o9 (n:Nat):bS:=⟨[Jm,Jm,Jm],(List.range n).map fun i:Nat=>⟨(i:Int)+1,0,1,[]⟩,[],[],0⟩
def vS:List dK→bS×List Int→bS×List Int
 | [],p=>p
 | a::l,p=>vS l ((nG p.1 a).1,p.2++[(nG p.1 a).2])
def kT (n:Nat) (l:List dK):bS×List Int:=vS l (o9 n,[])
theorem wE:∀(a b:List dK) (p:bS×List Int),vS (a++b) p=vS b (vS a p)
 | [],_,_=>rfl
 | x::a,b,p=>by rw [List.cons_append,vS,vS];exact wE a b _
theorem M0 (l:List dK) (k:Nat) (hk:k<l.length) (p:bS×List Int):vS (l.take (k+1)) p=((nG (vS (l.take k) p).1 l[k]).1,(vS (l.take k) p).2++[(nG (vS (l.take k) p).1 l[k]).2]):=by
 rw [List.take_succ_eq_append_getElem hk,wE,vS,vS]
theorem DJ:∀(l:List dK) (p:bS×List Int),(vS l p).2.length=p.2.length+l.length
 | [],p=>by simp [vS]
 | a::l,p=>by rw [vS,DJ l _];simp;omega
theorem BS (K:List Bytes) (l:RA):∀(es:List Bytes) (a:Nat),a≤jf K l es a∧jf K l es a≤a+es.length
 | [],a=>by simp [jf]
 | s::r,a=>by
   rw [jf,List.length_cons]
   split
   ·have:=BS K l r (a+1);omega
   ·omega
theorem BV (K:List Bytes) (l:RA):∀(es:List Bytes) (a j:Nat),a≤j→j<jf K l es a→es.getD (j - a) []=oJ K l j
 | [],a,j,h1,h2=>by simp [jf] at h2;omega
 | s::r,a,j,h1,h2=>by
   rw [jf] at h2
   split at h2
   ·rename_i hs
    by_cases hj:j=a
    ·subst hj;simpa using hs
    ·have:=BV K l r (a+1) j (by omega) h2
     rw [show j - a=(j - (a+1))+1 by omega,List.getD_cons_succ];exact this
   ·omega
theorem uJ (K:List Bytes) (l:RA):∀(es:List Bytes) (a m:Nat),m≤es.length→(∀j,a≤j→j<a+m→es.getD (j - a) []=oJ K l j)→a+m≤jf K l es a
 | [],a,m,h,_=>by simp at h;subst h;simp [jf]
 | s::r,a,0,_,_=>by have:=(BS K l (s::r) a).1;omega
 | s::r,a,m+1,h,he=>by
   have h0:=he a (Nat.le_refl _) (by omega);simp only [Nat.sub_self,List.getD_cons_zero] at h0;rw [jf,if_pos h0];have:=uJ K l r (a+1) m (by simpa using h) (fun j h1 h2=>by
    have:=he j (by omega) (by omega)
    rwa [show j - a=(j - (a+1))+1 by omega,List.getD_cons_succ] at this)
   omega
theorem OH:dI ([]:Bytes)≠0:=by simp [dI,bM]
theorem Gg {α:Type} {l:List α} {i:Nat} {d:α} (h:l.length≤i):l.getD i d=d:=by simp [List.getD,List.getElem?_eq_none h]
structure aT (m n:Nat) (x:bS):Prop where
 len:x.kP.length=3
 lead:x.lead<3
 dec:∀s∈x.K,dI s=0
 n4:n≤400
 rep:∀r,r<3→lJ x.K n (aU x r)
 qK:x.K.length≤bQ (aP x)
 vP:x.K.drop (aP x).b=(aP x).es.take (x.K.length - (aP x).b)
 tK:x.bu.length=m
 bu:∀i,i<m→gB (iq x i)∧(iq x i).id=i+1∧(iq x i).next≤n+1
 bD:x.bD.length≤60
section
variable {m n:Nat} {x:bS}
theorem aT.kQ (h:aT m n x):lJ x.K n (aP x):=h.rep _ h.lead
theorem aT.CE (h:aT m n x):x.K.length≤n:=by have:=h.kQ.ln;have:=h.qK;omega
theorem aT.tL (h:aT m n x):tL x.K:=⟨h.dec,by have:=h.CE;have:=h.n4;omega⟩
theorem aT.oN (h:aT m n x):(aP x).b≤x.K.length:=by have:=h.kQ.bi;have:=h.kQ.iK;omega
theorem xR (hl:x.kP.length=3) {r:Nat} (a:RA) (hr:r<3) (s:Nat):aU (jU x r a) s=if s=r then a else aU x s:=by
 unfold aU jU;simp only [List.getD,List.getElem?_set]
 by_cases h:s=r
 ·subst h;rw [if_pos rfl,if_pos rfl,if_pos (by omega)];rfl
 ·rw [if_neg (by omega),if_neg h]
theorem aT.Lv {j:Nat} (hj:j<x.K.length) (l:RA):oJ x.K l j=x.K.getD j []:=by rw [oJ,if_pos hj]
theorem aT.qx (_h:aT m n x) {r:Nat} (_hr:r<3):(aU x r).b≤bN x r∧bN x r≤bQ (aU x r):=BS _ _ _ _
theorem aT.uI (h:aT m n x) {r:Nat} (hr:r<3):(aU x r).i≤bN x r:=by
 have o:=h.rep r hr;have h1:=o.bi;have h2:=o.iK;have h3:=o.il;unfold bQ at h3;have:=uJ x.K (aP x) (aU x r).es (aU x r).b ((aU x r).i - (aU x r).b) (by omega) (fun j j1 j2=>by
  rw [aT.Lv (by omega)];exact MP o.U5 j1 (by omega) h3)
 unfold bN;omega
theorem aT.wG (h:aT m n x) {r:Nat} (hr:r<3):bN x r≤bQ (aP x):=by
 have hK:=h.qK;have hb:=h.oN
 by_cases hc:bN x r≤x.K.length
 ·omega
 ·obtain ⟨a1,a2⟩:=h.qx hr
  have o:=h.rep r hr;have h1:=o.bi;have h2:=o.iK;unfold bQ at a2;have e:=BV x.K (aP x) (aU x r).es (aU x r).b (bN x r - 1) (by omega) (by show _<bN x r;omega);have hd:=o.dec _ (kC (aU x r).es (bN x r - 1 - (aU x r).b) [] (by omega));rw [e,oJ,if_neg (by omega)] at hd
  by_cases hl:bN x r - 1 - (aP x).b<(aP x).es.length
  ·unfold bQ;omega
  ·rw [Gg (by omega)] at hd
   exact absurd hd OH
theorem aT.wH (h:aT m n x) {r:Nat} (hr:r<3) {u:Nat} (h1:u≤x.K.length) (h2:u≤bN x r):(aU x r).es.take (u - (aU x r).b)=(x.K.drop (aU x r).b).take (u - (aU x r).b):=by
 obtain ⟨a1,a2⟩:=h.qx hr;unfold bQ at a2
 by_cases hub:u≤(aU x r).b
 ·rw [show u - (aU x r).b=0 by omega];simp
 apply List.ext_getElem?
 intro j;rw [List.getElem?_take,List.getElem?_take,List.getElem?_drop]
 split
 ·rename_i hj
  have e:=BV x.K (aP x) (aU x r).es (aU x r).b ((aU x r).b+j) (by omega) (by show _<bN x r;omega);rw [aT.Lv (by omega),show (aU x r).b+j - (aU x r).b=j by omega] at e;have l1:j<(aU x r).es.length:=by omega
  have l2:(aU x r).b+j<x.K.length:=by omega
  simp only [List.getD,List.getElem?_eq_getElem l1,List.getElem?_eq_getElem l2,Option.getD_some] at e;rw [List.getElem?_eq_getElem l1,List.getElem?_eq_getElem l2,e]
 ·rfl
theorem xP (h:aT m n x):∀k,k≤3→nO x k≤bQ (aP x)
 | 0,_=>by simp [nO]
 | k+1,hk=>by
   have h1:=xP h k (by omega);have h2:=h.wG (r:=k) (by omega);rw [nO]
   split
   ·exact h1
   ·omega
theorem yS (x:bS):x.K <+: (nE x).K:=⟨_,rfl⟩
theorem aT.IC (h:aT m n x):aT m n (nE x):=by
 have hu:=xP h 3 (Nat.le_refl _);have hb:=h.oN;have hK:=h.qK;obtain ⟨c,hc⟩:∃c,c=((aP x).es.drop (x.K.length - (aP x).b)).take (nO x 3 - x.K.length):=⟨_,rfl⟩;have hcl:c.length=nO x 3 - x.K.length:=by rw [hc,List.length_take,List.length_drop];unfold bQ at hK hu;omega
 have hx:nE x={ x with K:=x.K++c }:=by rw [hc];rfl
 rw [hx];refine ⟨h.len,h.lead,fun s hs=>?_,h.n4,fun r hr=>(h.rep r hr).more ⟨c,rfl⟩ (Nat.le_refl _),?_,?_,h.tK,h.bu,h.bD⟩
 ·rcases List.mem_append.1 hs with hs | hs
  ·exact h.dec s hs
  ·rw [hc] at hs
   exact h.kQ.dec s (List.mem_of_mem_drop (List.mem_of_mem_take hs))
 ·show (x.K++c).length≤bQ (aP x)
  rw [List.length_append];omega
 ·show (x.K++c).drop (aP x).b=(aP x).es.take ((x.K++c).length - (aP x).b)
  rw [List.drop_append_of_le_length hb,h.vP,List.length_append,hcl,show x.K.length+(nO x 3 - x.K.length) - (aP x).b=(x.K.length - (aP x).b)+(nO x 3 - x.K.length) by omega,List.take_add,hc]
theorem aT.set (h:aT m n x) {r:Nat} {a:RA} (hr:r<3) (ha:lJ x.K n a) (hl:r=x.lead→x.K.length≤bQ a∧x.K.drop a.b=a.es.take (x.K.length - a.b)):aT m n (jU x r a):=by
 have hlead:aP (jU x r a)=if x.lead=r then a else aP x:=xR h.len a hr x.lead
 refine ⟨by simp [jU,h.len],h.lead,h.dec,h.n4,fun s hs=>?_,?_,?_,h.tK,h.bu,h.bD⟩
 ·rw [xR h.len a hr]
  split
  ·exact ha
  ·exact h.rep s hs
 ·show x.K.length≤_
  rw [hlead]
  split
  ·rename_i e;exact (hl e.symm).1
  ·exact h.qK
 ·show x.K.drop (aP (jU x r a)).b=(aP (jU x r a)).es.take (x.K.length - _)
  rw [hlead]
  split
  ·rename_i e;exact (hl e.symm).2
  ·exact h.vP
theorem aT.post (h:aT m n x) (l:List kM):aT m n (kU x l):=by
 have hm:=h.bD;exact ⟨h.len,h.lead,h.dec,h.n4,h.rep,h.qK,h.vP,h.tK,h.bu,by simp only [kU,List.length_append,List.length_take];omega⟩
theorem aT.step (h:aT m n x) (hn:n<400):aT m (n+1) x :=
 ⟨h.len,h.lead,h.dec,hn,fun r hr=>(h.rep r hr).more ⟨[],by simp⟩ (by omega),h.qK,h.vP,h.tK,fun i hi=>⟨(h.bu i hi).1,(h.bu i hi).2.1,by have:=(h.bu i hi).2.2;omega⟩,h.bD⟩
theorem aT.append (h:aT m n x) (hn:n<400) {p:Bytes×Int} (hp:p.2=0→dI p.1=0):aT m (n+1) (lH x p).1∧(lH x p).1.K=x.K:=by
 rw [lH]
 split
 ·exact ⟨h.step hn,rfl⟩
 rename_i h0
 have hd:=hp (by omega);have o:=h.kQ;have hl:=o.ln;obtain ⟨p1,p2,p3,p4⟩:=(o.more ⟨[],List.append_nil _⟩ (Nat.le_succ n)).put (f:=bQ (aP x)) (more:=[p.1]) (n':=n+1) (by simpa using hd) o.il (Nat.le_refl _) (Nat.le_refl _) (by simp;omega);refine ⟨(h.step hn).set h.lead p1 fun _=>⟨?_,?_⟩,rfl⟩
 ·have:=h.qK;simp at p3;omega
 ·have hK:=h.qK
  have hb:=h.oN;have e:(lX (aP x) (bQ (aP x)) [p.1]).b=(aP x).b:=rfl;rw [e,h.vP];have:=congrArg (List.take (x.K.length - (aP x).b)) p4;unfold bQ at *;rw [List.take_take,List.take_append_of_le_length (by rw [List.length_take];omega),List.take_take] at this;rw [show min (x.K.length - (aP x).b) ((aP x).b+(aP x).es.length - (aP x).b+[p.1].length)=x.K.length - (aP x).b by omega,show min (x.K.length - (aP x).b) ((aP x).b+(aP x).es.length - (aP x).b)=x.K.length - (aP x).b by omega] at this;exact this.symm
theorem aT.wU (h:aT m n x) {r:Nat} (hr:r<3) (hl:r≠x.lead) (hb:bN x r<(aP x).b):aT m n (jU x r (gY (aU x r) (aP x).b)) :=
 h.set hr ((h.rep r hr).install (by have:=h.uI hr;omega) h.oN (by have:=h.oN;have:=h.CE;omega)) fun e=>absurd e hl
theorem aT.behind (h:aT m n x) {r:Nat} (hr:r<3) (many:Nat):(∀s∈jw (aP x) (bN x r) many,dI s=0)∧(bN x r+(jw (aP x) (bN x r) many).length≤n∨jw (aP x) (bN x r) many=[])∧(jw (aP x) (bN x r) many).length≤400:=by
 have o:=h.kQ;have hln:=o.ln;have hn:=h.n4;have ht:=h.wG hr;unfold bQ at *;refine ⟨fun s hs=>o.dec s (List.mem_of_mem_drop (List.mem_of_mem_take hs)),?_,by simp only [jw,List.length_take,List.length_drop];omega⟩
 by_cases hz:(jw (aP x) (bN x r) many)=[]
 ·exact .inr hz
 ·refine .inl ?_
  have:0<(jw (aP x) (bN x r) many).length:=List.length_pos_iff.2 hz;simp only [jw,List.length_take,List.length_drop] at this⊢;omega
theorem aT.Df (h:aT m n x) {r:Nat} (hr:r<3) (hl:r≠x.lead) (many:Nat):aT m n (jU x r (lX (aU x r) (bN x r) (jw (aP x) (bN x r) many))) ∧
 (jD (jw (aP x) (bN x r) many) (bN x r - (aU x r).b) (aU x r).es).2=0:=by
 obtain ⟨b1,b2,-⟩:=h.behind hr many;have o:=h.rep r hr;have ha:=(h.qx hr).2;have hln:=o.ln;obtain ⟨p1,p2,-,-⟩:=o.put (f:=bN x r) b1 (h.uI hr) ha (Nat.le_refl n) (by
  rcases b2 with b2 | b2
  ·exact b2
  ·rw [b2];simp only [List.length_nil];omega)
 exact ⟨h.set hr p1 fun e=>absurd e hl,p2⟩
theorem aT.ship (h:aT m n x) {r:Nat} (hr:r<3) (many:Int):aT m n (xQ x r many).1∧x.K <+: (xQ x r many).1.K:=by
 rw [xQ]
 split
 ·exact ⟨h,List.prefix_refl _⟩
 rename_i h1
 have hl:r≠x.lead:=fun e=>h1 (.inl e)
 split
 ·rename_i h2
  exact ⟨(h.wU hr hl h2).IC,yS (jU x r (gY (aU x r) (aP x).b))⟩
 ·exact ⟨(h.Df hr hl _).1.IC,yS (jU x r (lX (aU x r) (bN x r) (jw (aP x) (bN x r) many.toNat)))⟩
theorem aT.till (h:aT m n x) {r:Nat} (hr:r<3) (many:Int):(aU x r).i≤nD x r many∧nD x r many≤x.K.length∧nD x r many≤bN x r∧nD x r many≤bQ (aU x r):=by
 have o:=h.rep r hr;have h1:=o.iK;have h2:=h.uI hr;have h3:=(h.qx hr).2;unfold nD;omega
theorem aT.Dh (h:aT m n x) {r:Nat} (hr:r<3) (many:Int):aT m n (jU x r (kK (aU x r) (nD x r many))):=by
 obtain ⟨t1,t2,t3,t4⟩:=h.till hr many;have o:=h.rep r hr;refine h.set hr (o.apply t1 t2 t4 (h.wH hr t2 t3)) fun e=>?_
 subst e;exact ⟨h.qK,h.vP⟩
theorem aT.apply (h:aT m n x) {r:Nat} (hr:r<3) (many:Int):aT m n (nY x r many).1∧(nY x r many).1.K=x.K:=by
 rw [nY]
 split
 ·exact ⟨h,rfl⟩
 split
 ·exact ⟨(h.Dh hr many).post _,rfl⟩
 ·exact ⟨h.Dh hr many,rfl⟩
theorem aT.leads (h:aT m n x) {r:Nat} (hr:r<3) (hk:x.K.length≤bN x r):aT m n { x with lead:=r }:=by
 obtain ⟨a1,a2⟩:=h.qx hr;refine ⟨h.len,hr,h.dec,h.n4,h.rep,Nat.le_trans hk a2,?_,h.tK,h.bu,h.bD⟩
 show x.K.drop (aU x r).b=(aU x r).es.take (x.K.length - (aU x r).b)
 rw [h.wH hr (Nat.le_refl _) hk,List.take_of_length_le (by rw [List.length_drop];omega)]
theorem aT.Sw (h:aT m n x) {r:Nat} (hr:r<3):aT m n (uG x r).1∧x.K <+: (uG x r).1.K:=by
 rw [uG]
 split
 ·exact ⟨h,List.prefix_refl _⟩
 ·rename_i h1
  exact ⟨(h.leads hr (by omega)).IC,yS ({ x with lead:=r }:bS)⟩
theorem aT.compact (h:aT m n x) {r:Nat} (hr:r<3):aT m n (jU x r (gZ (aU x r))):=by
 have o:=h.rep r hr;have h1:=o.bi;have h2:=o.iK;have h3:=o.il;unfold bQ at h3;refine h.set hr o.compact fun e=>?_
 subst e;have hK:=h.qK;have hE:=h.vP;unfold aP bQ at hK;unfold aP at hE;simp only [gZ,bQ,List.length_drop];refine ⟨by omega,?_⟩;have:=congrArg (List.drop ((aU x x.lead).i - (aU x x.lead).b)) hE;rw [List.drop_drop,show (aU x x.lead).b+((aU x x.lead).i - (aU x x.lead).b)=(aU x x.lead).i by omega,List.drop_take,show x.K.length - (aU x x.lead).b - ((aU x x.lead).i - (aU x x.lead).b)=x.K.length - (aU x x.lead).i by omega] at this;exact this
theorem aT.Am (h:aT m n x) {r:Nat} (hr:r<3):aT m n (jU x r (fV (aU x r))) :=
 h.set hr (h.rep r hr).Am fun e=>by subst e;exact ⟨h.qK,h.vP⟩
theorem aT.at_ (h:aT m n x) (a:dK):aT m n (KP x a).1∧x.K <+: (KP x a).1.K:=by
 rw [KP]
 split
 ·exact ⟨h,List.prefix_refl _⟩
 rename_i hr
 have hr':a.r.toNat<3:=by omega
 split
 ·exact h.ship hr' _
 split
 ·obtain ⟨h1,h2⟩:=h.apply hr' a.k
  exact ⟨h1,h2▸List.prefix_refl _⟩
 split
 ·exact h.Sw hr'
 split
 ·rw [qp]
  split
  ·exact ⟨h,List.prefix_refl _⟩
  ·exact ⟨h.compact hr',List.prefix_refl _⟩
 ·exact ⟨h.Am hr',List.prefix_refl _⟩
end
end Go.Tk
