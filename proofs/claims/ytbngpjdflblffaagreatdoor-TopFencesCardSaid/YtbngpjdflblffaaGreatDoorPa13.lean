/- A part of the proof, laid together from: TopP, ActK, App, Codec, ActB, Itoa, Names. -/
import Derived.Test.YtbngpjdflblffaaGreatDoorPa12
import Derived.Deep.Upon
import Derived.Lib.AppendZerosOnto
import Derived.Lib.ItoaWalk
set_option linter.all false
set_option maxRecDepth 100000
set_option maxHeartbeats 3200000
namespace Go.Tk
open Go Go.RowKit
def sM (n:Nat):List dK:=(List.range n).map (fun c:Nat=>(⟨1,(c:Int),0,0,bP⟩:dK))++[⟨4,0,1,20,bP⟩,⟨5,0,0,20,bP⟩]++List.replicate n ⟨9,0,0,0,bP⟩
def Cb (r:kX) (cl:Int):dK :=
 if picked r.kind 42<8 then ⟨2,picked r.a cl,0,0,zK ⟨r.kind.tdiv 42,r.b,r.c,r.c.tdiv 7⟩⟩
 else if picked r.kind 42<16 then ⟨3,picked r.a cl,picked r.b 3,picked r.c 3,bP⟩
 else if picked r.kind 42<22 then ⟨4,0,picked r.b 3,1+picked r.c 6,bP⟩
 else if picked r.kind 42<29 then ⟨5,0,picked r.b 3*picked r.c 2,1+picked r.c 6,bP⟩
 else if picked r.kind 42=29 then ⟨6,picked r.a cl,picked r.b 3,picked r.c 3,bP⟩
 else if picked r.kind 42=30 then ⟨7,picked r.a cl,picked r.b 3,picked r.c 3,bP⟩
 else if picked r.kind 42=31 then ⟨8,picked r.a cl,picked r.b 3,picked r.c 3,bP⟩
 else if picked r.kind 42=32 then ⟨1,picked r.a cl,picked r.b 3,picked r.c 3,bP⟩
 else if picked r.kind 42=33 then ⟨10,picked r.a cl,picked r.b 3,picked r.c 3,bP⟩
 else if picked r.kind 42=34 then ⟨11,picked r.a cl,picked r.b 3,picked r.c 3,bP⟩
 else ⟨9,picked r.a cl,picked r.b 3,picked r.c 3,bP⟩
def vU (l:List kX) (most:Nat) (cl:Int):List dK:=(l.take most).map fun r=>Cb r cl
def gJ (l:List kX) (most:Nat):List dK:=sM 3++vU l most 3
theorem xS:sM 3=[⟨1,0,0,0,bP⟩,⟨1,1,0,0,bP⟩,⟨1,2,0,0,bP⟩,⟨4,0,1,20,bP⟩,⟨5,0,0,20,bP⟩,⟨9,0,0,0,bP⟩,⟨9,0,0,0,bP⟩,⟨9,0,0,0,bP⟩]:=rfl
theorem fC.of {a:dK} (h1:-100≤a.kind∧a.kind≤100) (h2:-100≤a.c∧a.c≤100) (h3:-100≤a.r∧a.r≤100) (h4:-100≤a.k∧a.k≤400) (h5:a.kind=2→wJ a.op):fC a:=⟨by omega,by omega,by omega,by omega,h5⟩
theorem KT:∀a∈sM 3,fC a:=by
 intro a ha;rw [xS] at ha;simp only [List.mem_cons,List.not_mem_nil,or_false] at ha
 rcases ha with rfl | rfl | rfl | rfl | rfl | rfl | rfl | rfl<;>exact fC.of (by simp) (by simp) (by simp) (by simp) (by simp)
theorem Ng (r:kX):fC (Cb r 3):=by
 have ha:=dB r.a 3 (by decide);have hb:=dB r.b 3 (by decide);have hc:=dB r.c 3 (by decide);have hd:=dB r.c 6 (by decide);have he:=dB r.c 2 (by decide);have hm:0≤picked r.b 3*picked r.c 2∧picked r.b 3*picked r.c 2≤2:=by
  rcases (show picked r.c 2=0∨picked r.c 2=1 by omega) with h | h<;>rw [h]<;>omega
 unfold Cb
 repeat' split
 ·exact fC.of (by simp) (by simp only;omega) (by simp) (by simp) (fun _=>Jq _)
 all_goals exact fC.of (by simp) (by simp only;omega) (by simp only;omega) (by simp only;omega) (by simp)
theorem Nf (l:List kX) (most:Nat):∀a∈vU l most 3,fC a:=by
 intro a ha;obtain ⟨r,-,rfl⟩:=List.mem_map.1 ha;exact Ng r
theorem nP (l:List kX) (most:Nat):∀a∈gJ l most,fC a:=fun a ha=>(List.mem_append.1 ha).elim (KT a) (Nf l most a)
theorem mF (l:List kX) (most:Nat):(gJ l most).length=8+min most l.length:=by rw [gJ,List.length_append,vU,List.length_map,List.length_take,xS];rfl
theorem zx (m:Nat) (a b:List dK):kT m (a++b)=vS b (kT m a):=wE a b _
theorem qo (m:Nat) (l:List dK):(kT m l).2.length=l.length:=by rw [kT,DJ];simp
theorem II {l:List dK} (ha:∀a∈l,fC a) (hl:l.length≤400) (k:Nat):(kT 3 (l.take k)).1.K <+: (kT 3 l).1.K∧(kT 3 (l.take k)).2 <+: (kT 3 l).2:=by
 have h:=o8 (m:=3) (by omega) (l:=l.take k) (fun a h=>ha a (List.mem_of_mem_take h)) (by rw [List.length_take];omega);have e:kT 3 l=vS (l.drop k) (kT 3 (l.take k)):=by rw [←zx,List.take_append_drop]
 have:=(IL (l.drop k) _ (kT 3 (l.take k)) h (fun a h=>ha a (List.mem_of_mem_drop h)) (by rw [List.length_take,List.length_drop];omega)).2;rw [e];exact this
theorem zi {α:Type} {a b:List α} (h:a <+: b):b.take a.length=a:=by
 obtain ⟨t,rfl⟩:=h;simp
theorem Kj {α:Type} {a b:List α} (h:a <+: b):a.length≤b.length:=by
 obtain ⟨t,rfl⟩:=h;simp
theorem IJ {l:List dK} (ha:∀a∈l,fC a) (hl:l.length≤300) {k:Nat} (hk:k<3) :
 (kT 3 (l++[⟨7,0,(k:Int),0,bP⟩,⟨5,0,(k:Int),400,bP⟩])).1.K=(kT 3 l).1.K ∧
 (aU (kT 3 l).1 k).i≤(aU (kT 3 (l++[⟨7,0,(k:Int),0,bP⟩,⟨5,0,(k:Int),400,bP⟩])).1 k).i:=by
 have h:=o8 (m:=3) (by omega) ha (by omega);obtain ⟨x,hx⟩:∃x,(kT 3 l).1=x:=⟨_,rfl⟩;rw [zx,vS,vS,vS];rw [hx] at h⊢;have e1:(nG x ⟨7,0,(k:Int),0,bP⟩).1=jU x k (fV (aU x k)):=by
  rw [nG,if_neg (by simp),if_neg (by simp),if_pos (by simp),KP,if_neg (by simp only;omega),if_neg (by simp),if_neg (by simp),if_neg (by simp),if_neg (by simp)];simp
 have h1:aT 3 l.length (jU x k (fV (aU x k))):=h.Am hk;rw [e1];obtain ⟨y,hy⟩:∃y,jU x k (fV (aU x k))=y:=⟨_,rfl⟩;have UY:y.K=x.K:=by rw [←hy];rfl
 have X9:aU y k=fV (aU x k):=by rw [←hy,xR h.len _ hk,if_pos rfl]
 rw [hy] at h1⊢;have e2:(nG y ⟨5,0,(k:Int),400,bP⟩).1=(nY y k 400).1:=by
  rw [nG,if_neg (by simp),if_neg (by simp),if_pos (by simp),KP,if_neg (by simp only;omega),if_neg (by simp),if_pos rfl];simp
 rw [e2];obtain ⟨g1,g2⟩:=h1.apply hk 400;refine ⟨g2.trans UY,?_⟩;have hr:aU (nY y k 400).1 k=kK (aU y k) (nD y k 400):=by
  have h3:aU (jU y k (kK (aU y k) (nD y k 400))) k=kK (aU y k) (nD y k 400):=by rw [xR h1.len _ hk,if_pos rfl]
  rw [nY,if_neg (by omega)]
  split
  ·exact h3
  ·exact h3
 rw [hr]
 show (aU x k).i≤nD y k 400
 have o:=h.rep k hk;have hlen:=h.CE;have hi:=o.iK;have hag:(aU x k).i≤bN y k:=by
  have h2:=o.bi;have h3:=o.il;unfold bQ at h3;have hK1:y.K.length=x.K.length:=by rw [UY]
  have this:=uJ y.K (aP y) (aU x k).es (aU x k).b ((aU x k).i - (aU x k).b) (by omega) (fun j j1 j2=>by
   rw [aT.Lv (by omega),UY];exact MP o.U5 j1 (by omega) h3)
  show _≤jf y.K (aP y) (aU y k).es (aU y k).b
  rw [X9]
  show _≤jf y.K (aP y) (aU x k).es (aU x k).b
  omega
 unfold nD;rw [X9,UY];have e:(fV (aU x k)).i=(aU x k).b:=rfl;rw [e]
 show _≤min ((aU x k).b+min 400 400) _
 omega
def Fs (kind:Int):List dK:=[⟨12+picked kind 9,0,0,0,bP⟩,⟨3,3,0,0,bP⟩,⟨4,0,3,0,bP⟩,⟨9,0,0,-1,bP⟩,⟨5,0,0,-1,bP⟩]
theorem Qd {m n:Nat} {x:bS} (h:aT m n x) (hm:m=3) (kind:Int) (codes:List Int):vS (Fs kind) (x,codes)=(x,codes++[3,6,6,6,2]):=by
 have hp:=dB kind 9 (by decide);have hc:=h.tK;have e1:nG x ⟨12+picked kind 9,0,0,0,bP⟩=(x,3):=by rw [nG,if_pos (by simp only;omega)]
 have e2:nG x ⟨3,3,0,0,bP⟩=(x,6):=by rw [nG,if_neg (by simp),if_pos (by simp),ND,if_pos (by simp only;omega)]
 have e3:nG x ⟨4,0,3,0,bP⟩=(x,6):=by rw [nG,if_neg (by simp),if_neg (by simp),if_pos (by simp),KP,if_pos (by simp)]
 have e4:nG x ⟨9,0,0,-1,bP⟩=(x,6):=by rw [nG,if_neg (by simp),if_neg (by simp),if_neg (by simp),qW,if_pos (by simp)]
 have e5:nG x ⟨5,0,0,-1,bP⟩=(x,2):=by rw [nG,if_neg (by simp),if_neg (by simp),if_pos (by simp),KP,if_neg (by simp),if_neg (by simp),if_pos rfl,nY,if_pos (by simp)]
 rw [Fs,vS,e1,vS,e2,vS,e3,vS,e4,vS,e5,vS];simp
end Go.Tk
namespace Go.Tk
open Go Go.RowKit
theorem Gi {k:Nat}:∀(rs:List (List Value)),(∀r∈rs,r.length=k)→rs.flatten.length=rs.length*k
 | [],_=>by simp
 | r::rs,h=>by
   rw [List.flatten_cons,List.length_append,List.length_cons,Gi rs fun r hr=>h r (by simp [hr]),h r (by simp),Nat.add_mul];omega
theorem zA {P:Program} {T E k bytes ty:Nat} (hT:dM P T E k bytes) {α:Type} {R:Rel α} (hR:cu R k) (hany:∀(w:World) (cs:List Value) (x:α) (S S':Nat→Prop),R w cs x S→R w cs x S')
 {w:World} {v v2:Value} {l l2:List α} {S2:Nat→Prop} (h:bZ E k R w v l (fun _=>False)) (h2:aZ k R w v2 l2 S2) (hlen:(l.length+l2.length)*(bytes+1)≤140737488355328) :
 ∃v' w',(Builtin.append_ #[T,T] ty #[v,v2]).run P w=.ok v' w'∧bZ E k R w' v' (l++l2) (fun _=>False)∧w.grownBy w' v.ownBlock∧(v'.ownBlock=v.ownBlock∨∃g,v'.ownBlock=some g∧w.heap.size≤g):=by
 obtain ⟨a0,c0,e0,hl0,-,hn0,-⟩:=id h2;obtain ⟨a,cap,Jj,e2,-,-,hrl,hrel,hcells⟩:=h2.rows hR hT.pos;rw [e2] at e0;simp only [Value.slice.injEq,true_and] at e0;obtain ⟨rfl,rfl⟩:=e0;subst e2;cases a with
 | none =>
   have h0:=hn0 rfl;have hl:l2=[]:=List.eq_nil_of_length_eq_zero (by omega);subst hl;obtain ⟨i,z,hi,-,-,-,-⟩:=hT.parts;obtain ⟨a,c,hv⟩:=h.shape;subst hv;refine ⟨_,w,run_append_nothing w T T ty E i hT.under hi a l.length c h.room.1 _ (Src.ofNil w hT.under cap),by simpa using h,grownBy_refl _ _, .inl rfl⟩
 | some a =>
   obtain ⟨rows,r1,r2,r3⟩:=h;have Tg:=bZ.jq (E:=E) (v:=.slice (some a) l2.length cap) (S:=S2) hR hrl (fun i r x hr hx=>hany _ _ _ _ _ (hrel i r x hr hx));have hone:=bZ.qm (E:=E) hR hrl hrel;have hfl:Jj.flatten.length=l2.length*k:=by rw [Gi Jj Tg,hrl]
   obtain ⟨v',w',hrun,g1,g2,g3⟩:=gD (P:=P) (ty:=ty) w hT v l.length rows.flatten r2 a l2.length cap Jj.flatten hfl (fun j u hu=>by
    obtain ⟨b,off,ha,_,hc⟩:=hcells j u hu;simp only [Option.some.injEq] at ha;subst ha;rw [Addr.add_lit];exact hc) hone hlen
   refine ⟨v',w',hrun,⟨rows++Jj,by simp [r1,hrl],by simpa using g1,fun i r x hr hx=>?_⟩,g2,g3⟩
   rcases Nat.lt_or_ge i l.length with hi | hi
   ·rw [List.getElem?_append_left (by omega)] at hr
    rw [List.getElem?_append_left hi] at hx;exact hR.move (hany _ _ _ _ (fun _=>False) (r3 i r x hr hx)) fun b hb=>hb.elim
   ·rw [List.getElem?_append_right (by omega)] at hr
    rw [List.getElem?_append_right hi] at hx;rw [r1] at hr;exact hR.move (hany _ _ _ _ (fun _=>False) (hrel _ r x hr hx)) fun b hb=>hb.elim
theorem bZ.fresh {α:Type} {E k:Nat} {R:Rel α} {w:World} {cur:Array Value} {cap:Nat} (hs:cur.size=cap*k) (hc:cap≤maxLen):bZ E k R (w.alloc (.cells cur E)) (.slice (some ⟨w.heap.size,0,none⟩) 0 cap) [] (fun _=>False) :=
 ⟨[],rfl,⟨by simp, .inr ⟨w.heap.size,cap,cur,rfl,Nat.zero_le _,heap_alloc_new w _,Nat.zero_le _,hc,hs,by simp⟩⟩,by simp⟩
structure GrowAt (E:Nat) (w wr:World) (v:Value) (l:List dK):Prop where
 own:bZ E 8 qA wr v l (fun _=>False)
 lo:∀q,v.ownBlock=some q→w.heap.size≤q
 below:Below w.heap.size w wr
theorem GrowAt.nil (E:Nat) (w:World):GrowAt E w w (iN) []:=⟨bZ.nil _ _,by simp [Value.ownBlock],iB⟩
theorem GrowAt.step {E:Nat} {w wr w':World} {v:Value} {l:List dK} (h:GrowAt E w wr v l) (hb:Below wr.heap.size wr w'):GrowAt E w w' v l:=⟨h.own.below fo hb,h.lo,ah h.below hb⟩
theorem GrowAt.next {E:Nat} {w wr w':World} {v v':Value} {l l':List dK} (h:GrowAt E w wr v l) (ho:bZ E 8 qA w' v' l' (fun _=>False)) (hg:wr.grownBy w' v.ownBlock) (hv:v'.ownBlock=v.ownBlock∨∃g,v'.ownBlock=some g∧wr.heap.size≤g):GrowAt E w w' v' l':=by
 have hs:=h.below.size;refine ⟨ho,fun q hq=>?_,h.below.grown hg (by omega) fun k hk=>h.lo k hk⟩
 rcases hv with e | ⟨g,e,hl⟩
 ·exact h.lo q (e▸hq)
 ·rw [e] at hq;cases hq;omega
theorem GrowAt.read {E:Nat} {w wr:World} {v:Value} {l:List dK} (h:GrowAt E w wr v l):aZ 8 qA wr v l (fun b=>w.heap.size≤b):=(h.own.forget Bc).read fo (by decide) h.lo
theorem Jg {E:Nat} (w:World) (a b:dK):aZ 8 qA (w.alloc (.cells (iQ a++iQ b).toArray E)) (.slice (some ⟨w.heap.size,0,none⟩) 2 2) [a,b] (fun _=>True) :=
 ⟨_,2,rfl,by simp,by simp [maxLen],by simp,fun i x hx=>by
  have hbx:∀j u,(iQ a++iQ b)[j]?=some u→(w.alloc (.cells (iQ a++iQ b).toArray E)).cell? ⟨w.heap.size,j,none⟩=some u:=fun j u hu=>(aD.new (w:=w) (cs:=iQ a++iQ b) (E:=E)).cell j u hu
  match i,hx with
  | 0,hx =>
    cases hx;refine ⟨w.heap.size,0,iQ a,rfl,trivial,rfl,fun j u hu=>?_⟩;rw [show 0+0*8+j=j by omega];exact hbx j u (by rw [List.getElem?_append_left (by have:=(List.getElem?_eq_some_iff.1 hu).1;exact this)];exact hu)
  | 1,hx =>
    cases hx;refine ⟨w.heap.size,0,iQ b,rfl,trivial,rfl,fun j u hu=>?_⟩;rw [show 0+1*8+j=8+j by omega];exact hbx (8+j) u (by rw [List.getElem?_append_right (by simp [iQ])];simpa [iQ] using hu)⟩
theorem Gp (j:Nat):(List.range (j+1)).map (fun c:Nat=>(⟨1,(c:Int),0,0,bP⟩:dK))=(List.range j).map (fun c:Nat=>(⟨1,(c:Int),0,0,bP⟩:dK))++[⟨1,(j:Int),0,0,bP⟩]:=by simp [List.range_succ]
theorem J2 {α:Type} (ls:List (List α)) (k:Nat) (hk:k<ls.length):(ls.take (k+1)).flatten=(ls.take k).flatten++ls[k]:=by rw [List.take_succ_eq_append_getElem hk,List.flatten_append,List.flatten_cons,List.flatten_nil,List.append_nil]
theorem D5 {α:Type} (ls:List (List α)) (k:Nat):(ls.take k).flatten.length≤ls.flatten.length:=by
 have:=congrArg (fun l=>(List.flatten l).length) (List.take_append_drop k ls);simp only [List.flatten_append,List.length_append] at this;omega
def M8 (j q:Nat):List dK:=(List.range j).map (fun c:Nat=>(⟨1,(c:Int),0,0,bP⟩:dK))++[⟨4,0,1,20,bP⟩,⟨5,0,0,20,bP⟩]++List.replicate q ⟨9,0,0,0,bP⟩
theorem OP (j q:Nat):(M8 j q).length=j+2+q:=by simp [M8];omega
theorem M7 (j q:Nat):M8 j (q+1)=M8 j q++[⟨9,0,0,0,bP⟩]:=by rw [M8,List.replicate_succ',←List.append_assoc];rfl
theorem M6 (j:Nat):M8 j 0=(List.range j).map (fun c:Nat=>(⟨1,(c:Int),0,0,bP⟩:dK))++[⟨4,0,1,20,bP⟩,⟨5,0,0,20,bP⟩]:=by rw [M8,List.replicate_zero,List.append_nil]
end Go.Tk
namespace Go.Tk
open Go Go.RowKit
theorem dW {P:Program} {ops:Array Oper} {rest:List Oper} {o:Oper} {a:Act} {Q:Exit→Act→World→Prop} {wr:World} {cs:Array Value} {E:Nat} {T k bytes:Nat} (hT:dM P T E k bytes)
 (s x:Operand) (hgd:o.guard=none) (ho:o.op=.call { callee:=.builtin .append,args:=#[s,x],argTypes:=#[T,T] })
 {α:Type} {R:Rel α} (hR:cu R k) {v:Value} {l:List α} {S:Nat→Prop} (y:α)
 (hv:a.eval s=v) {n0:Nat} (hx:a.eval x=.slice (some ⟨n0,0,none⟩) 1 1) (hn0:n0=wr.heap.size)
 (hown:bZ E k R wr v l S) (hy:R wr cs.toList y (fun b=>S b∧some b≠v.ownBlock)) (hlen:(l.length+1)*(bytes+1)≤140737488355328)
 (h:∀v' w',bZ E k R w' v' (l++[y]) S→wr.grownBy w' v.ownBlock→(v'.ownBlock=v.ownBlock∨∃g,v'.ownBlock=some g∧wr.heap.size≤g)→wpList P ops Q rest (a.put o.dst v') w') :
 wpList P ops Q (o::rest) a (wr.alloc (.cells cs E)):=by
 subst hn0;obtain ⟨rows,h1,h2,h3⟩:=hown;have hcs:cs.toList.length=1*k:=by rw [hR.len hy];omega
 obtain ⟨v',w',hr,g1,g2,g3⟩:=gD (P:=P) (ty:=o.type) (wr.alloc (.cells cs E)) hT v l.length rows.flatten (h2.alloc _) ⟨wr.heap.size,0,none⟩ 1 1 cs.toList hcs
  (fun j u hu=>by rw [Addr.add_lit];simp only [Nat.zero_add];rw [World.cell?_alloc_new];simpa using hu) (hR.one hy) hlen
 have hkeep:∀b,b<wr.heap.size→some b≠v.ownBlock→w'.heap[b]?=wr.heap[b]?:=fun b hl hne=>by
  exact (g2.block b (by simp;omega) hne).trans (heap_alloc_old wr _ hl)
 have hS:∀b,S b∧some b≠v.ownBlock→b<wr.heap.size→w'.heap[b]?=wr.heap[b]?∧S b∧some b≠v'.ownBlock:=by
  rintro b ⟨hs,hne⟩ hl;refine ⟨hkeep b hl hne,hs,?_⟩
  rcases g3 with e | ⟨g,e,hge⟩
  ·rw [e];exact hne
  ·rw [e];intro hbg;cases hbg;simp at hge;omega
 refine wpList_plain hgd fun K hK=>?_
 unfold Oper.wp execOp;simp only [ho,resolve,invoke,builtin,Sem.run_bind,Sem.run_pure,Result.andThen_ok,List.map_toArray,List.map_cons,List.map_nil,hv,hx,hr];refine hK _ _ (h v' w' ⟨rows++[cs.toList],by simp [h1],?_,?_⟩ ⟨g2.os,g2.tape,g2.output,by have:=g2.size;simp at this;omega,hkeep⟩ ?_)
 ·simpa using g1
 ·intro i r y' hr' hy'
  rcases Nat.lt_or_ge i l.length with hi | hi
  ·rw [List.getElem?_append_left (by omega)] at hr'
   rw [List.getElem?_append_left hi] at hy';exact hR.move (h3 i r y' hr' hy') hS
  ·rw [List.getElem?_append_right (by omega)] at hr'
   rw [List.getElem?_append_right hi] at hy'
   rcases Nat.eq_zero_or_pos (i - l.length) with h0 | h0
   ·rw [h0] at hy';rw [h1,h0] at hr'
    simp at hr' hy';subst hr' hy';exact hR.move hy hS
   ·rw [List.getElem?_eq_none (by simp;omega)] at hy';cases hy'
 ·rcases g3 with e | ⟨g',e,hge⟩
  ·exact .inl e
  ·exact .inr ⟨g',e,by simp at hge;omega⟩
end Go.Tk
namespace Go.Proofs.YtbngpjdflblffaaGreatDoor
open Go.RowKit Go.Tk
theorem nQ (s:List UInt8) (hs:s.length≤9223372036854775807) (w:World) :
 Calls Tryz.prog 114 #[iS s] w fun e w'=>e=.returned (.tuple #[iI (aL s).1, .string ⟨(aL s).2.1.toArray⟩, iI (aL s).2.2])∧∃q,w'=w.drewN q:=by
 go_enter Tryz.func114,Tryz.ntmps114
 go_wp2
 go_loopw [5,6] (fun n i wr=>∃k m:Nat,k≤6∧k≤s.length∧i=iI k∧n=iI m∧m<128 ^ k∧uh s (6 - k) k m=aL s∧wr=w)
  (fun _ i _=>6 - (intOf i).toNat)
 case atStart=>exact ⟨0,0,by omega,by omega,rfl,rfl,by decide,rfl,rfl⟩
 case round =>
  obtain ⟨k,m,hk,hks,rfl,rfl,hm,hr,rfl⟩:=hrel
  by_cases h6:k<6
  ·by_cases hl:k<s.length
   ·obtain ⟨x,hx⟩:∃x:Nat,(s[k]'hl).toNat=x:=⟨_,rfl⟩
    have hx1:({ data:=s.toArray }:ByteArray)[k]'hl=s[k]'hl:=rfl;have hxl:x<256:=by rw [←hx];exact UInt8.toNat_lt _
    have hg:(s.getD k 0).toNat=x:=by rw [←hx];simp [List.getD,hl]
    obtain ⟨hor,hnext⟩:=MU m x k hm h6 hxl;have hg:(s.getD k 0).toNat=x:=by rw [←hx];simp [List.getD,hl]
    have hr3:uh s (6 - k) k m=if 128≤x then uh s (6 - (k+1)) (k+1) (m+x % 128*128 ^ k)
     else if x=0∧0<k∨1099511627776<m+x % 128*128 ^ k then (0,[],4) else ((m+x % 128*128 ^ k:Nat),s.drop (k+1),0):=by
     rw [show 6 - k=(6 - (k+1))+1 from by omega];rw [uh,if_pos hl,hg]
    rw [hr] at hr3;clear hm hr hg
    by_cases hb:128≤x
    ·rw [if_pos hb] at hr3
     have HR:=iH hr3;clear hr3;go_wp2
     go_roundw
     case rel=>refine ⟨k+1,m+x % 128*128 ^ k,by omega,by omega,by go_num,by first | rfl | go_num,hnext,HR.out.symm,trivial⟩
     case measure=>simp [intOf];omega
    ·rw [if_neg hb] at hr3
     generalize m+x % 128*128 ^ k=y at *
     by_cases hz:x=0∧0<k
     ·rw [if_pos (.inl hz)] at hr3
      have h0:((x:Int) == 0)=true:=by simp [hz.1]
      have h1:=hz.2;have HR:=iH hr3;clear hr3 hz;go_wp2
      go_ret3
      exact ⟨by rw [HR.out];rfl,0,rfl⟩
     ·by_cases hy:1099511627776<y
      ·rw [if_pos (.inr hy)] at hr3
       have HR:=iH hr3;have HZ:=iH hz;clear hr3 hz;go_wp2
       all_goals go_ret3
       all_goals exact ⟨by rw [HR.out];rfl,0,rfl⟩
      ·rw [if_neg (by omega)] at hr3
       have HR:=iH hr3;have HZ:=iH hz;clear hr3 hz
       by_cases hx0:x=0
       ·have h0:((x:Int) == 0)=true:=by simp [hx0]
        have hk0:¬ 0<k:=fun h=>HZ.out ⟨hx0,h⟩
        clear hx0;go_wp2
        go_quiet (fail)
        go_wp2
        go_ret3
        exact ⟨by rw [HR.out];exact MQ rfl rfl rfl,_,rfl⟩
       ·go_wp2
        go_quiet (fail)
        go_wp2
        go_ret3
        exact ⟨by rw [HR.out];exact MQ rfl rfl rfl,_,rfl⟩
   ·have hr3:uh s (6 - k) k m=(0,[],5):=by
     rw [show 6 - k=(6 - (k+1))+1 from by omega];rw [uh,if_neg hl]
    have HR:=iH (hr.symm.trans hr3);clear hr hr3 hm;obtain rfl:k=s.length:=by omega
    go_wp2
    go_ret3
    exact ⟨by rw [HR.out];rfl,0,rfl⟩
  ·obtain rfl:k=6:=by omega
   have HR:=iH hr;clear hr hm;go_wp2
   go_ret3
   exact ⟨by rw [←HR.out];rfl,0,rfl⟩
theorem Tryz.Je:dM Tryz.prog 39 5 1 1:=⟨Tryz.underlying39,by kernel_rfl,by decide⟩
theorem Hu (m0:Nat) (hm0:m0≤1099511627776) (w:World) :
 Calls Tryz.prog 73 #[iI (m0:Int)] w fun e w'=>e=.returned (.tuple #[.string ⟨(rQ 6 m0).toArray⟩, iI 0])∧Below w.heap.size w w':=by
 go_enter Tryz.func73,Tryz.ntmps73
 go_wp2
 go_loopw [0,4] (fun n v wr=>∃(m f:Nat) (ds:List UInt8),n=iI (m:Int)∧m≤1099511627776∧f+ds.length=6∧m<128 ^ (f+1)∧rQ 6 m0=ds++rQ f m ∧
  bZ 5 1 xh wr v ds (fun _=>True)∧(∀g,v.ownBlock=some g→w.heap.size≤g)∧Below w.heap.size w wr)
  (fun n _ _=>(intOf n).toNat)
 case atStart=>exact ⟨m0,6,[],rfl,hm0,rfl,by omega,rfl,bZ.nil _ _,by simp [Value.ownBlock],iB⟩
 case round =>
  obtain ⟨m,f,ds,rfl,hm,hf,Yi,hd,hown,hvb,hb⟩:=hrel;have HD:=iH hd;clear hd
  by_cases h128:128≤m
  ·have hor:=OL m (by omega)
   go_wp2_with (at_builtin;refine kJ Tryz.Je (.tmp 13) (.tmp 18) rfl rfl xg ((m % 128+128).toUInt8) rfl rfl rfl hown hb hvb rfl (by omega) ?_;intro v' w' hown' hb' Kt)
   go_roundw
   case rel =>
    obtain ⟨f,rfl⟩:∃f',f=f'+1:=by
     rcases f with _ | f
     ·simp at Yi;omega
     ·exact ⟨f,rfl⟩
    refine ⟨m / 128,f,ds++[(m % 128+128).toUInt8],by go_num,by omega,by simp;omega,?_,?_,hown',Kt,hb'⟩
    ·rw [Nat.pow_succ] at Yi;omega
    ·rw [HD.out,xL f m h128];simp
   case measure=>simp [intOf];omega
  ·have HD2:=iH (HD.out.trans (by rw [nU f m (by omega)]))
   clear HD
   go_wp2_with (at_builtin;refine kJ Tryz.Je (.tmp 22) (.tmp 25) rfl rfl xg (m.toUInt8) rfl rfl rfl hown hb hvb (by simp [xh];omega) (by omega) ?_;intro v' w' hown' hb' Kt;have hcv:=lN (P:=Tryz.prog) Tryz.underlying39 Tryz.underlying5 Tryz.underlying9 (hown'.read xg (by decide) (fun _ _=>trivial)))
   go_ret2
   exact ⟨by rw [HD2.out];exact qg rfl rfl,hb'⟩
theorem Ko (n:Int) (hn:n<0∨1099511627776<n) (w:World) :
 Calls Tryz.prog 73 #[iI n] w fun e w'=>e=.returned (.tuple #[.string ⟨#[]⟩, iI 2])∧Below w.heap.size w w':=by
 rcases hn with h | h
 ·go_enter Tryz.func73,Tryz.ntmps73
  go_wp2
  go_ret2
  exact ⟨rfl,iB⟩
 ·have h':¬ n<0:=by omega
  go_enter Tryz.func73,Tryz.ntmps73
  go_wp2
  go_ret2
  exact ⟨rfl,iB⟩
theorem sw (n:Int) (w:World) :
 Calls Tryz.prog 73 #[iI n] w fun e w'=>e=.returned (.tuple #[.string ⟨(number n).1.toArray⟩, iI (number n).2])∧Below w.heap.size w w':=by
 by_cases h:n<0∨1099511627776<n
 ·rw [number,if_pos h];exact Ko n h w
 ·rw [number,if_neg h]
  obtain ⟨m,rfl⟩:=Int.eq_ofNat_of_zero_le (show 0≤n by omega);exact Hu m (by omega) w
theorem AQ (s:List UInt8) (hs:s.length≤9223372036854775807) (w:World) :
 Calls Tryz.prog 74 #[iS s] w fun e w'=>e=.returned (.tuple #[.string ⟨(text s).1.toArray⟩, iI (text s).2])∧Below w.heap.size w w':=by
 by_cases h:5000<s.length
 ·rw [text,if_pos h]
  go_enter Tryz.func74,Tryz.ntmps74
  go_wp2
  go_ret2
  exact ⟨rfl,iB⟩
 ·rw [text,if_neg h]
  have hnl:=jy s.length
  go_enter Tryz.func74,Tryz.ntmps74
  go_wp2_with (go_at_call 73;refine (sw _ _).mono ?_;rintro e w' ⟨rfl,hb⟩)
  go_ret2
  exact ⟨qg rfl rfl,hb⟩
theorem ug (s:List UInt8) (hs:s.length≤9223372036854775807) (w:World) :
 Calls Tryz.prog 115 #[iS s] w fun e w'=>e=.returned (.tuple #[.string ⟨(dn s).1.toArray⟩, .string ⟨(dn s).2.1.toArray⟩, iI (dn s).2.2])∧∃q,w'=w.drewN q:=by
 go_enter Tryz.func115,Tryz.ntmps115
 go_wp2_with (go_at_call 114;refine (nQ s hs _).mono ?_;rintro e w' ⟨rfl,q,rfl⟩)
 ·have h1:(aL s).2.2≠0:=by simpa using ‹((aL s).2.2 != 0)=true›
  go_ret3
  exact ⟨by rw [dn,if_pos h1];rfl,q,rfl⟩
 ·have h1:¬ (aL s).2.2≠0:=by simpa using ‹((aL s).2.2 != 0)=false›
  have h2:5000<(aL s).1:=by assumption
  go_ret3
  exact ⟨by rw [dn,if_neg h1,if_pos h2];rfl,q,rfl⟩
 ·have h1:¬ (aL s).2.2≠0:=by simpa using ‹((aL s).2.2 != 0)=false›
  have h2:(aL s).1≤5000:=by assumption
  have h3:((aL s).2.1.length:Int)<(aL s).1:=by assumption
  go_ret3
  exact ⟨by rw [dn,if_neg h1,if_neg (by omega),if_pos h3];rfl,q,rfl⟩
 ·have h1:¬ (aL s).2.2≠0:=by simpa using ‹((aL s).2.2 != 0)=false›
  have h2:(aL s).1≤5000:=by assumption
  have h3:(aL s).1≤((aL s).2.1.length:Int):=by assumption
  have HR:=iH (show dn s=((aL s).2.1.take (aL s).1.toNat,(aL s).2.1.drop (aL s).1.toNat,0) by rw [dn,if_neg h1,if_neg (by omega),if_neg (by omega)]);have h0:=wY s;clear h1
  go_quiet (fail)
  go_wp2
  go_ret3
  exact ⟨by rw [HR.out];exact MQ rfl rfl rfl,_,by rw [World.drewN_drewN]⟩
theorem fM (n m:Int) (hm:0<m) (hm2:m≤4611686018427387904) (hn:-9223372036854775808≤n) (hn2:n≤9223372036854775807) (w:World) :
 Calls Tryz.prog 15 #[iI n, iI m] w fun e w'=>e=.returned (iI (picked n m))∧w=w':=by
 by_cases h:n<0
 ·rw [picked,if_pos h]
  go_enter Tryz.func15,Tryz.ntmps15
  go_wp2;go_ret;have e:(n+1).tmod m=-(-(n+1) % m):=by
   rw [←Int.tmod_eq_emod_of_nonneg (by omega),Int.neg_tmod,Int.neg_neg]
  exact ⟨qP (by simp [e]),rfl⟩
 ·rw [picked,if_neg h]
  go_enter Tryz.func15,Tryz.ntmps15
  go_wp2;go_ret;exact ⟨rfl,rfl⟩
end Go.Proofs.YtbngpjdflblffaaGreatDoor
namespace Go.Proofs.YtbngpjdflblffaaGreatDoor
open Go.RowKit Go.Tk
theorem Tryz.oU:dM Tryz.prog 56 70 8 80:=⟨Tryz.underlying56,by kernel_rfl,by decide⟩
theorem CG (n:Nat) (h0:0<n) (hn:n≤100000) (w:World) :
 Calls Tryz.prog 72 #[iN, iI (n:Int)] w fun e w'=>∃v',e=.returned v'∧GrowAt 70 w w' v' []:=by
 obtain ⟨i0,z,hi0,hz0,hs0,hby,hzs⟩:=Tryz.oU.parts;have U1:decide ((n:Int)<0)=false:=decide_eq_false (by omega);have hrz:∀ty,(Builtin.append_ #[56,3] ty #[iN, iI (n:Int)]).run Tryz.prog w =
  .ok (.slice (some ⟨w.heap.size,0,none⟩) n (grownCap w n 0 70)) (w.drew.alloc (.cells (Builtin.zeroCells z.cells n++Builtin.zeroCells z.cells (grownCap w n 0 70 - n)) 70)):=fun ty=>by
  have h:=Lib.run_append_grow_zeros w 56 3 ty 70 i0 z .i64 .i64 Tryz.underlying56 Tryz.underlying3 hi0 hz0 none 0 0 [] (run_firstCells_none w.drew i0.size 0 0 0) n h0 (by omega) (by omega) (by omega)
   (by rw [hby];omega) (by rw [hby];exact growslice_fits (by omega) (by omega))
  simpa using h
 have hGn:n≤grownCap w n 0 70:=grownCap_ge w _ _ _;have WY:=grownCap_le_maxLen w n 0 70 (by unfold maxLen;omega);obtain ⟨G,hG⟩:∃G,G=grownCap w n 0 70:=⟨_,rfl⟩;rw [←hG] at hrz hGn WY;have HG:Hid (GrowAt 70 w (w.drew.alloc (.cells (Builtin.zeroCells z.cells n++Builtin.zeroCells z.cells (G - n)) 70)) (.slice (some ⟨w.heap.size,0,none⟩) 0 G) []):=by
  refine iH ⟨?_,fun q hq=>by cases hq;exact Nat.le_refl _,(Below.drew iB).alloc (Nat.le_refl _) _⟩;refine bZ.fresh (w:=w.drew) ?_ WY;rw [Array.size_append,size_zeroCells,size_zeroCells,hzs,←Nat.add_mul]
  congr 1;omega
 unfold maxLen at WY;clear hG hi0 hz0 hs0 hby hzs;obtain ⟨cur,MG⟩:∃cur,Builtin.zeroCells z.cells n++Builtin.zeroCells z.cells (G - n)=cur:=⟨_,rfl⟩;rw [MG] at hrz HG;clear MG
 go_enter Tryz.func72,Tryz.ntmps72
 go_wp2_with (at_builtin;refine Lib.wpList_append_run _ rfl _ _ _ _ rfl _ _ rfl rfl _ _ (hrz _) ?_)
 go_ret;exact ⟨_,rfl,HG.out⟩
theorem xO (ls:List (List dK)) (v:Value) (S:Nat→Prop) (w:World) (h:aZ 1 (UU 8 qA) w v ls S) (h10:ls.length≤10) (hz:0<ls.flatten.length) (hn:ls.flatten.length≤1000) :
 Calls Tryz.prog 39 #[v] w fun e w'=>∃v',e=.returned v'∧aZ 8 qA w' v' ls.flatten (fun b=>w.heap.size≤b)∧Below w.heap.size w w':=by
 obtain ⟨la,lc,rfl,hlc,hlm,-,-⟩:=id h;unfold maxLen at hlm;have HS:=iH h;have gG:=iH (Qb fo (show 0<8 by decide));obtain ⟨FL,TF⟩:∃FL:Nat→List dK,(fun k=>(ls.take k).flatten)=FL:=⟨_,rfl⟩;have h0:FL 0=[]:=by rw [←TF];rfl
 have H1:=iH (show ∀k (hk:k<ls.length),FL (k+1)=FL k++ls[k] from fun k hk=>by rw [←TF];exact J2 ls k hk);have hend:FL ls.length=ls.flatten:=by rw [←TF];show (ls.take ls.length).flatten=_;rw [List.take_length]
 have H2:=iH (show ∀k,(FL k).length≤(FL ls.length).length from fun k=>by rw [hend,←TF];exact D5 ls k);rw [←hend] at hz hn⊢;have H0:=iH h0;clear h hend TF h0;obtain ⟨N,hN⟩:∃N,(FL ls.length).length=N:=⟨_,rfl⟩;rw [hN] at hz hn H2;have HN':=iH hN;clear hN
 go_enter Tryz.func39,Tryz.ntmps39
 go_upto_region 3 with (fail)
 go_loopw [3,5,11] (fun sz _ i wr=>∃k:Nat,k≤ls.length∧i=iI k∧sz=iI ((FL k).length:Nat)∧Hid (wr=w)) (fun _ _ i _=>ls.length - (intOf i).toNat)
 case atStart=>exact ⟨0,by omega,rfl,by rw [H0.out];rfl,iH rfl⟩
 case round =>
  obtain ⟨k,hk,rfl,rfl,hwr⟩:=hrel;obtain rfl:=hwr.out
  by_cases hlt:k<ls.length
  case neg =>
   obtain ⟨F,hF⟩:∃F,(FL k).length=F:=⟨_,rfl⟩;rw [hF];have hFN:F=N:=by rw [←hF,←HN'.out,show k=ls.length by omega]
   subst hFN;clear hF;go_upto_region 9 with (fail);clear hwr hlt hk
   go_wp2_with fail
   refine (CG F hz (by omega) wr).mono ?_;rintro e w1 ⟨v6,rfl,hg0⟩;have Zv:=iH hg0;obtain ⟨ga0,gc0,rfl⟩:=hg0.own.shape;clear hg0;go_upto_region 11 with (fail)
   go_loopw [6,8,27] (fun v6 _ i w2=>∃k:Nat,k≤ls.length∧i=iI k∧Hid (GrowAt 70 wr w2 v6 (FL k))) (fun _ _ i _=>ls.length - (intOf i).toNat)
   case atStart=>exact ⟨0,by omega,rfl,by rw [H0.out];exact Zv⟩
   case round =>
    clear Zv;obtain ⟨k2,hk2,rfl,hG⟩:=hrel;obtain ⟨ga,gc,hga⟩:=hG.out.own.shape;subst hga
    by_cases hlt2:k2<ls.length
    case neg =>
     obtain rfl:k2=ls.length:=by omega
     go_wp2;go_ret;exact ⟨_,rfl,hG.out.read,hG.out.below⟩
    obtain ⟨b,off,cap',row,hv,hSb,hrow,hcells⟩:=(HS.out.below gG.out (by decide) hG.out.below).row k2 hlt2;simp only [Value.slice.injEq] at hv;obtain ⟨rfl,-,rfl⟩:=hv;obtain ⟨vk,rfl,hvk⟩:=hrow;have q0:=hcells 0 _ rfl;simp only [Nat.add_zero,Nat.mul_one] at q0;clear hcells;have HT:=iH (H1.out k2 hlt2);have hle:=H2.out (k2+1);rw [HT.out,List.length_append] at hle;generalize ls[k2]=la2 at *;obtain ⟨ka,kc,rfl,hkl,hkm,-,-⟩:=id hvk;unfold maxLen at hkm;obtain ⟨v8,w8,hrun,nu,kN,qM⟩:=zA (P:=Tryz.prog) (ty:=56) Tryz.oU fo Bc hG.out.own hvk (by omega);have HN:=iH (hG.out.next nu kN qM);obtain ⟨ga8,gc8,Tp⟩:=nu.shape;rw [List.length_append] at Tp;subst Tp;clear nu kN qM hle hvk
    go_wp2_with (at_builtin;refine wpList_append_run rfl _ _ _ _ rfl _ _ rfl rfl hrun ?_)
    go_roundw
    case rel=>exact ⟨k2+1,by omega,by go_num,by rw [HT.out];exact HN⟩
    case measure=>simp [intOf];omega
  obtain ⟨b,off,cap',row,hv,hSb,hrow,hcells⟩:=HS.out.row k hlt;simp only [Value.slice.injEq] at hv;obtain ⟨rfl,-,rfl⟩:=hv;obtain ⟨vk,rfl,hvk⟩:=hrow;have q0:=hcells 0 _ rfl;simp only [Nat.add_zero,Nat.mul_one] at q0;clear hcells;have HT:=iH (show (FL (k+1)).length=(FL k).length+ls[k].length by rw [H1.out k hlt,List.length_append]);have hle:=H2.out (k+1);rw [HT.out] at hle;generalize ls[k]=lk at *;obtain ⟨ka,kc,rfl,hkl,hkm,-,-⟩:=id hvk;unfold maxLen at hkm;obtain ⟨F,hF⟩:∃F,(FL k).length=F:=⟨_,rfl⟩;rw [hF] at hle HT⊢;have hneg:decide (((F:Int)+(lk.length:Int))<0)=false:=decide_eq_false (by omega);clear hvk hwr hF;go_wp2
  go_roundw
  case rel=>exact ⟨k+1,by omega,by go_num,by rw [HT.out];go_num,by first | exact iH rfl | exact iH trivial⟩
  case measure=>simp [intOf];omega
theorem rV (n:Nat) (hn:n≤9) (w:World) :
 Calls Tryz.prog 23 #[iI (n:Int)] w fun e w'=>∃v',e=.returned v'∧GrowAt 70 w w' v' (sM n):=by
 go_enter Tryz.func23,Tryz.ntmps23
 go_upto_region 3 with (fail)
 go_loopw [3,4,6] (fun v3 _ i wr=>∃j:Nat,j≤n∧i=iI j∧Hid (GrowAt 70 w wr v3 ((List.range j).map (fun c:Nat=>(⟨1,(c:Int),0,0,bP⟩:dK))))) (fun _ _ i _=>n - (intOf i).toNat)
 case atStart=>exact ⟨0,by omega,rfl,iH (GrowAt.nil _ _)⟩
 case round =>
  obtain ⟨j,hj,rfl,hG⟩:=hrel
  by_cases hlt:j<n
  case neg =>
   obtain rfl:j=n:=by omega
   have hl:((List.range j).map (fun c:Nat=>(⟨1,(c:Int),0,0,bP⟩:dK))).length=j:=by simp
   obtain ⟨ga,gc,hga⟩:=hG.out.own.shape;rw [hl] at hga;subst hga;have hb2:=aj wr (.cells (iQ ⟨4,0,1,20,bP⟩++iQ ⟨5,0,0,20,bP⟩).toArray 70);obtain ⟨v5,w5,hrun,vQ,hg5,hv5⟩:=zA (P:=Tryz.prog) (ty:=56) Tryz.oU fo Bc (hG.out.own.below fo hb2) (Jg (E:=70) wr ⟨4,0,1,20,bP⟩ ⟨5,0,0,20,bP⟩) (by rw [hl];simp only [List.length_cons,List.length_nil];omega);have HN:=iH ((hG.out.step hb2).next vQ hg5 hv5);obtain ⟨ga5,gc5,Tq⟩:=vQ.shape;rw [List.length_append,hl] at Tq;subst Tq;clear hb2 vQ hg5 hv5 hG hl;go_upto_region 9 with (at_builtin;refine wpList_append_run rfl _ _ _ _ rfl _ _ rfl rfl hrun ?_);clear hrun hlt
   go_loopw [3,21] (fun v3 i wr=>∃q:Nat,q≤j∧i=iI q∧Hid (GrowAt 70 w wr v3 (M8 j q))) (fun _ i _=>j - (intOf i).toNat)
   case atStart=>exact ⟨0,by omega,rfl,by rw [M6];exact HN⟩
   case round =>
    clear HN;obtain ⟨q,hq,rfl,hG⟩:=hrel;have hL0:(M8 j q).length≤30:=by rw [OP];omega
    have HS:=iH (M7 j q);have HE:=iH (show q=j→M8 j q=sM j from fun e=>by rw [e];rfl);generalize M8 j q=L at *;obtain ⟨ga,gc,hga⟩:=hG.out.own.shape;subst hga
    by_cases hlt:q<j
    case neg =>
     have HE2:=iH (HE.out (by omega));clear HE;go_wp2;go_ret;exact ⟨_,rfl,by rw [←HE2.out];exact hG.out⟩
    go_wp2_with (at_builtin;refine dW Tryz.oU (.tmp 23) (.tmp 25) rfl rfl fo (⟨9,0,0,0,bP⟩:dK) rfl rfl rfl hG.out.own rfl (by omega) ?_;intro v4 w4 kY hg4 hv4;have HN:=iH (hG.out.next kY hg4 hv4);obtain ⟨Lg,Lf,kz⟩:=kY.shape;rw [List.length_append,List.length_singleton] at kz;subst kz;clear kY hg4 hv4)
    go_roundw
    case rel=>exact ⟨q+1,by omega,by go_num,by rw [HS.out];exact HN⟩
    case measure=>simp [intOf];omega
  have hL0:((List.range j).map (fun c:Nat=>(⟨1,(c:Int),0,0,bP⟩:dK))).length≤30:=by simp only [List.length_map,List.length_range];omega
  have HS:=iH (Gp j);generalize (List.range j).map (fun c:Nat=>(⟨1,(c:Int),0,0,bP⟩:dK))=L at *;obtain ⟨ga,gc,hga⟩:=hG.out.own.shape;subst hga
  go_wp2_with (at_builtin;refine dW Tryz.oU (.tmp 9) (.tmp 12) rfl rfl fo (⟨1,(j:Int),0,0,bP⟩:dK) rfl rfl rfl hG.out.own rfl (by omega) ?_;intro v4 w4 kY hg4 hv4;have HN:=iH (hG.out.next kY hg4 hv4);obtain ⟨Lg,Lf,kz⟩:=kY.shape;rw [List.length_append,List.length_singleton] at kz;subst kz;clear kY hg4 hv4)
  go_roundw
  case rel=>exact ⟨j+1,by omega,by go_num,by rw [HS.out];exact HN⟩
  case measure=>simp [intOf];omega
theorem vM (n m:Int) (hm:0<m) (hm2:m≤4611686018427387904) (hn:-9223372036854775808≤n) (hn2:n≤9223372036854775807) (w:World) :
 Calls Tryz.prog 37 #[iI n, iI m] w fun e w'=>e=.returned (iI (picked n m))∧w'=w:=by
 go_enter Tryz.func37,Tryz.ntmps37
 go_wp2_with fail
 refine (fM n m hm hm2 hn hn2 w).mono ?_;rintro e w' ⟨rfl,rfl⟩;go_wp2;go_ret;exact ⟨rfl,rfl⟩
end Go.Proofs.YtbngpjdflblffaaGreatDoor
namespace Go.Tk
theorem small_ba (x:ByteArray) (l:List UInt8) (h:x.data.toList=l):x=⟨l.toArray⟩:=by
 subst h;cases x;simp
end Go.Tk
namespace Go.Proofs.YtbngpjdflblffaaGreatDoor
open Go.RowKit Go.Tk
theorem Fe (i:Nat) (h:i<100) (w:World):Calls Tryz.prog 169 #[iI i] w fun e w'=>e=.returned (.string ⟨(Lib.decDigits i).toArray⟩)∧w=w':=by
 go_enter Tryz.func169,Tryz.ntmps169
 go_name_bytes_deep 45 SM hSM
 have eSM:SM=Lib.smalls:=by rw [←hSM];decide +kernel
 subst eSM;clear hSM
 go_name_bytes_deep 30 DG hDG
 have eDG:DG=Lib.digits36:=by rw [←hDG];decide +kernel
 subst eDG;clear hDG
 by_cases h10:i<10
 ·have hsl:∀w,(Instr.slice 9 (.string Lib.digits36) (some (iI (i:Int))) (some (iI ((i:Int)+1))) none).run Tryz.prog w=.ok (.string (Lib.digits36.extract i (i+1))) w:=fun w=>by
   rw [run_slice_string w 9 Lib.digits36 .i64 .i64 _ _ Tryz.underlying9 (by omega) (by omega) (by rw [Lib.digits36_size];omega),show ((i:Int)).toNat=i by omega,show ((i:Int)+1).toNat=i+1 by omega]
  go_wp2;go_ret;refine ⟨?_,rfl⟩
  show Ending.returned (Value.string (Lib.digits36.extract i (i+1)))=_
  rw [small_ba (Lib.digits36.extract i (i+1)) (Lib.decDigits i) (by rw [Lib.extract_data];exact Lib.digits36_piece h10)]
 ·have hsl:∀w,(Instr.slice 9 (.string Lib.smalls) (some (iI ((i:Int)*2))) (some (iI ((i:Int)*2+2))) none).run Tryz.prog w=.ok (.string (Lib.smalls.extract (i*2) (i*2+2))) w:=fun w=>by
   rw [run_slice_string w 9 Lib.smalls .i64 .i64 _ _ Tryz.underlying9 (by omega) (by omega) (by rw [Lib.smalls_size];omega),show ((i:Int)*2).toNat=i*2 by omega,show ((i:Int)*2+2).toNat=i*2+2 by omega]
  go_wp2;go_ret;refine ⟨?_,rfl⟩
  show Ending.returned (Value.string (Lib.smalls.extract (i*2) (i*2+2)))=_
  rw [small_ba (Lib.smalls.extract (i*2) (i*2+2)) (Lib.decDigits i) (by rw [Lib.extract_data];exact Lib.smalls_piece h10 h)]
theorem Aa (i:Nat) (h:i<100) (w:World):Calls Tryz.prog 153 #[iI i, iI 10] w fun e w'=>e=.returned (.string ⟨(Lib.decDigits i).toArray⟩)∧w=w':=by
 go_enter Tryz.func153,Tryz.ntmps153
 go_wp2_with fail
 refine (Fe i h _).mono ?_;rintro e w' ⟨rfl,rfl⟩;go_wp2;go_ret;exact ⟨rfl,rfl⟩
theorem F5 (i:Nat) (h:i<100) (w:World):Calls Tryz.prog 119 #[iI i] w fun e w'=>e=.returned (.string ⟨(Lib.decDigits i).toArray⟩)∧w=w':=by
 go_enter Tryz.func119,Tryz.ntmps119
 go_wp2_with fail
 refine (Aa i h _).mono ?_;rintro e w' ⟨rfl,rfl⟩;go_wp2;go_ret;exact ⟨rfl,rfl⟩
theorem Ij (i:Nat) (h:i<100) (w:World):Calls Tryz.prog 76 #[iI i] w fun e w'=>e=.returned (.string ⟨(Lib.decDigits i).toArray⟩)∧w=w':=by
 go_enter Tryz.func76,Tryz.ntmps76
 go_wp2_with fail
 refine (F5 i h _).mono ?_;rintro e w' ⟨rfl,rfl⟩;go_wp2;go_ret;exact ⟨rfl,rfl⟩
end Go.Proofs.YtbngpjdflblffaaGreatDoor
namespace Go.Proofs.YtbngpjdflblffaaGreatDoor
open Go.RowKit Go.Tk
theorem FZ (n:Int) (hn:-9223372036854775808≤n) (hn2:n≤9223372036854775807) (w:World) :
 Calls Tryz.prog 75 #[iI n] w fun e w'=>e=.returned (.string ⟨(jM n).toArray⟩)∧Below w.heap.size w w':=by
 obtain ⟨p,hp,hp0,hp1⟩:∃p,picked n 3=p∧0≤p∧p<3:=⟨_,rfl,by unfold picked;split<;>omega,by unfold picked;split<;>omega⟩;have HP:=iH hp;have HK:=iH (show jM n=if picked n 3=0 then [97] else if picked n 3=1 then [98] else [107,101,121] from rfl);clear hp
 rcases (show p=0∨p=1∨p=2 by omega) with rfl | rfl | rfl
 all_goals
  clear hp0 hp1
  go_enter Tryz.func75,Tryz.ntmps75
  go_wp2_with fail
  refine (fM n _ (by omega) (by omega) hn hn2 _).mono ?_;rw [HP.out];rintro e w' ⟨rfl,rfl⟩;go_wp2;go_ret;exact ⟨by rw [HK.out,HP.out];rfl,aj w _⟩
end Go.Proofs.YtbngpjdflblffaaGreatDoor
