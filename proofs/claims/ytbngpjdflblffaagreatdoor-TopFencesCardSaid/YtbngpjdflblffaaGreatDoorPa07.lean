/- A part of the proof, laid together from: CloneKept, CopySess, BSearchSess, InsG, InsSess. -/
import Derived.Test.YtbngpjdflblffaaGreatDoorPa06
set_option linter.all false
set_option maxRecDepth 100000
set_option maxHeartbeats 800000
namespace Go.Tk
open Go Go.RowKit
abbrev JM (E K:Nat) (w:World) (v:Value) (n:Nat) (ys:List Value) (e:Ending) (w':World):Prop :=
 ∃v',e=.returned v'∧w'.ownsRow 0 E K v' (n+1) ys∧w.grownBy w' v.ownBlock∧(v'.ownBlock=v.ownBlock∨∃g,v'.ownBlock=some g∧w.heap.size≤g)
def Cg (P:Program) (f E K:Nat):Prop:=∀(w:World) (v:Value) (n:Nat) (xs:List Value) (cs:Array Value) (_:w.ownsRow 0 E K v n xs) (_:cs.size=K) (_:∀u∈cs.toList,u.oneCell'=true) (_:n≤1000000),
 Calls P f #[v, iI n, .slice (some ⟨w.heap.size,0,none⟩) 1 1] (w.alloc (.cells cs E)) (JM E K w v n (xs++cs.toList))
abbrev vV (P:Program) (f E K:Nat) (w:World) (g n cap i:Nat) (xs:List Value) (cs:Array Value):Prop :=
 Calls P f #[.slice (some ⟨g,0,none⟩) n cap, iI i, .slice (some ⟨w.heap.size,0,none⟩) 1 1] (w.alloc (.cells cs E)) (JM E K w (.slice (some ⟨g,0,none⟩) n cap) n (xs.take (i*K)++cs.toList++xs.drop (i*K)))
def xW (P:Program) (f E K:Nat):Prop:=∀(w:World) (g n i:Nat) (xs:List Value) (cs:Array Value) (_:w.ownsRow 0 E K (.slice (some ⟨g,0,none⟩) n n) n xs) (_:i<n) (_:cs.size=K) (_:∀u∈cs.toList,u.oneCell'=true)
 (_:∀u∈xs,u.oneCell'=true) (_:n≤1000000),vV P f E K w g n n i xs cs
def uP (P:Program) (f E K:Nat):Prop:=∀(w:World) (g n cap i:Nat) (xs:List Value) (cs:Array Value) (_:w.ownsRow 0 E K (.slice (some ⟨g,0,none⟩) n cap) n xs) (_:i<n) (_:n+1≤cap) (_:cs.size=K) (_:∀u∈cs.toList,u.oneCell'=true)
 (_:∀u∈xs,u.oneCell'=true) (_:n≤1000000),vV P f E K w g n cap i xs cs
section
variable {P:Program} {T E K B I ty:Nat}
theorem Ap (hT:dM P T E K B) (hB:B≤100) {w:World} {v:Value} {n:Nat} {xs:List Value} {cs:Array Value} (hown:w.ownsRow 0 E K v n xs) (hcs:cs.size=K) (h1:∀u∈cs.toList,u.oneCell'=true) (hn:n≤1000000) :
 ∃v' w',(Builtin.append_ #[T,T] ty #[v, .slice (some ⟨w.heap.size,0,none⟩) 1 1]).run P (w.alloc (.cells cs E))=.ok v' w' ∧
  w'.ownsRow 0 E K v' (n+1) (xs++cs.toList)∧w.grownBy w' v.ownBlock∧(v'.ownBlock=v.ownBlock∨∃g,v'.ownBlock=some g∧w.heap.size≤g):=by
 have hm:=Nat.mul_le_mul (show n+1≤1000001 by omega) (show B+1≤101 by omega);obtain ⟨v',w',hr,g1,g2,g3⟩:=gD (P:=P) (ty:=ty) (w.alloc (.cells cs E)) hT v n xs (hown.alloc _) ⟨w.heap.size,0,none⟩ 1 1 cs.toList (by simpa using hcs)
  (fun j u hu=>by rw [Addr.add_lit];simp only [Nat.zero_add];rw [World.cell?_alloc_new];simpa using hu) h1 (by omega)
 refine ⟨v',w',hr,g1,grownBy_trans (World.grownBy_alloc w _ _) g2,?_⟩
 rcases g3 with e | ⟨g,e,h⟩
 ·exact .inl e
 ·exact .inr ⟨g,e,by simp at h;omega⟩
theorem xC (hT:dM P T E K B) (hI:P.underlying I=some (.int .i64)) (hB0:0<B) (hB:B≤100) {w:World} {g n i:Nat} {xs:List Value} {cs:Array Value} (hown:w.ownsRow 0 E K (.slice (some ⟨g,0,none⟩) n n) n xs) (hi:i<n) (hcs:cs.size=K) (h1:∀u∈cs.toList,u.oneCell'=true)
 (h1x:∀u∈xs,u.oneCell'=true) (hn:n≤1000000) :
 ∃w1 w2 w3 b1 nc,(Builtin.append_ #[T,I] ty #[.slice (some ⟨g,0,none⟩) i n, iI ((n:Int)+1 - (i:Int))]).run P (w.alloc (.cells cs E))=.ok (.slice (some ⟨b1,0,none⟩) (n+1) nc) w1 ∧
  (Builtin.copy_ #[T,T] I #[.slice (some ⟨b1,i*K,none⟩) (n+1 - i) (nc - i), .slice (some ⟨w.heap.size,0,none⟩) 1 1]).run P w1=.ok (goInt (Nat.min 1 (n+1 - i))) w2 ∧
  (Builtin.copy_ #[T,T] I #[.slice (some ⟨b1,(i+1)*K,none⟩) (n+1 - (i+1)) (nc - (i+1)), .slice (some ⟨g,i*K,none⟩) (n - i) (n - i)]).run P w2.drew=.ok (goInt (Nat.min (n - i) (n+1 - (i+1)))) w3 ∧
  w3.ownsRow 0 E K (.slice (some ⟨b1,0,none⟩) (n+1) nc) (n+1) (xs.take (i*K)++cs.toList++xs.drop (i*K))∧w.grownBy w3 (some g)∧n+1≤nc∧nc≤maxLen∧w.heap.size≤b1:=by
 have hm:=Nat.mul_le_mul (show n+1≤1000001 by omega) (show B+1≤101 by omega);have m1:(i+1)*K=i*K+K:=Nat.succ_mul i K;have m2:(n+1)*K=n*K+K:=Nat.succ_mul n K;have m3:i*K+(n - i)*K=n*K:=by rw [←Nat.add_mul,Nat.add_sub_cancel' (Nat.le_of_lt hi)]
 have Ev:g<w.heap.size:=(hown.lt g rfl).2;have hxl:xs.length=n*K:=hown.1;have hcell:=hown.cells (g:=g) rfl;have hcell0:∀j v,xs[j]?=some v→(w.alloc (.cells cs E)).cell? ((⟨g,0,none⟩:Addr).add j)=some v:=fun j v hj=>by
  have:=hcell j v hj;rw [Addr.add_lit] at this⊢;rw [World.cell?_alloc_past _ _ _ Ev];exact this
 obtain ⟨w1,cur,nc,hr1,hg1,hc1,hc2,Ky,Ga,Kw⟩:=uY (P:=P) (ty:=ty) (w.alloc (.cells cs E)) hT hI g i n (n+1 - i) (xs.take (i*K)) (by simp;omega)
  (fun j v hj=>hcell0 j v (by rw [List.getElem?_take] at hj;split at hj;exact hj;cases hj)) (by omega) (by rw [show i+(n+1 - i)=n+1 by omega];omega) hB0
 rw [show i+(n+1 - i)=n+1 by omega] at hr1 Ga;have m4:=Nat.mul_le_mul_right K Ga;obtain ⟨b1,hb1⟩:∃b1,b1=(w.alloc (.cells cs E)).heap.size:=⟨_,rfl⟩;rw [←hb1] at hr1 hg1;rw [show ((n+1 - i:Nat):Int)=(n:Int)+1 - (i:Int) by omega] at hr1;have hb1':b1=w.heap.size+1:=by rw [hb1];simp
 have Bz:cs.toList.length=K:=by simpa using hcs
 have hcl:cur.toList.length=nc*K:=by simpa using hc1
 have Mq:∀b,b<w.heap.size+1→w1.heap[b]?=(w.alloc (.cells cs E)).heap[b]?:=fun b hb=>Ky.block b (by simpa using hb) (by simp)
 have hr2:=qG (P:=P) (ty:=I) w1 hT b1 (i*K) (n+1 - i) (nc - i) (some ⟨w.heap.size,0,none⟩) 1 1 cur cs.toList hg1 (by rw [Bz,show Nat.min 1 (n+1 - i)=1 from Nat.min_eq_left (by omega),Nat.one_mul])
  (fun _=>⟨_,rfl,fun j v hj=>by
   rw [Addr.add_lit,World.cell?_of_block (w:=w.alloc (.cells cs E)) (Mq w.heap.size (by omega))];simp only [Nat.zero_add];rw [World.cell?_alloc_new];simpa using hj⟩) (by omega) h1
 have hl2:(splice cur.toList (i*K) cs.toList).length=nc*K:=by rw [length_splice _ _ _ (by omega)];exact hcl
 obtain ⟨w2,hw2⟩:∃w2,w2=w1.setRow b1 (splice cur.toList (i*K) cs.toList).toArray:=⟨_,rfl⟩;rw [←hw2] at hr2;have hg2:w2.drew.heap[b1]?=some (.cells (splice cur.toList (i*K) cs.toList).toArray E (0,0)):=by rw [hw2];exact setRow_heap w1 b1 _ _ _ _ hg1
 have Qp:∀b,b<w.heap.size+1→w2.drew.heap[b]?=(w.alloc (.cells cs E)).heap[b]?:=fun b hb=>by
  rw [hw2];exact (setRow_other w1 b1 b _ (by omega)).trans (Mq b hb)
 have hr3:=qG (P:=P) (ty:=I) w2.drew hT b1 ((i+1)*K) (n+1 - (i+1)) (nc - (i+1)) (some ⟨g,i*K,none⟩) (n - i) (n - i) _ (xs.drop (i*K)) hg2
  (by rw [List.length_drop,hxl,show Nat.min (n - i) (n+1 - (i+1))=n - i by rw [show n+1 - (i+1)=n - i by omega];exact Nat.min_self _,Nat.sub_mul])
  (fun _=>⟨_,rfl,fun j v hj=>by
   rw [Addr.add_lit,World.cell?_of_block (w:=w.alloc (.cells cs E)) (Qp g (by omega))];have:=hcell0 (i*K+j) v (by rwa [List.getElem?_drop] at hj)
   rwa [Addr.add_lit,Nat.zero_add] at this⟩) (by rw [List.size_toArray,hl2,List.length_drop];omega) (fun u hu=>h1x u (List.mem_of_mem_drop hu))
 obtain ⟨w3,hw3⟩:∃w3,w3=w2.drew.setRow b1 (splice (splice cur.toList (i*K) cs.toList).toArray.toList ((i+1)*K) (xs.drop (i*K))).toArray:=⟨_,rfl⟩;rw [←hw3] at hr3;have hg3:w3.heap[b1]?=some (.cells (splice (splice cur.toList (i*K) cs.toList).toArray.toList ((i+1)*K) (xs.drop (i*K))).toArray E (0,0)):=by rw [hw3];exact setRow_heap w2.drew b1 _ _ _ _ hg2
 have hfin:w3.ownsRow 0 E K (.slice (some ⟨b1,0,none⟩) (n+1) nc) (n+1) (xs.take (i*K)++cs.toList++xs.drop (i*K))∧w.grownBy w3 (some g):=by
  have hyl:(xs.drop (i*K)).length=(n - i)*K:=by rw [List.length_drop,hxl,Nat.sub_mul]
  refine ⟨⟨by simp [Bz,hxl,Nat.min_eq_left (Nat.le_of_lt hi)];omega, .inr ⟨b1,nc,_,rfl,Nat.zero_le _,hg3,Ga,Kw,?_,?_⟩⟩,?_⟩
  ·rw [List.size_toArray,length_splice _ _ _ (by simp only [hl2,hyl];omega)];exact hl2
  ·have:=G9 cur.toList (i*K) cs.toList (xs.drop (i*K)) (by rw [Bz,hyl];omega)
   rw [Bz,hyl,hc2,show i*K+K=(i+1)*K by omega,show (i+1)*K+(n - i)*K=(n+1)*K by omega] at this;exact this
  ·have h0:w.grownBy w1 (some g):=grownBy_trans (World.grownBy_alloc w _ _) ⟨Ky.os,Ky.tape,Ky.output,Ky.size,fun k hk _=>Ky.block k hk (by simp)⟩
   refine ⟨by rw [hw3,hw2];exact h0.os,by rw [hw3,hw2];exact h0.tape,by rw [hw3,hw2];exact h0.output,?_,fun k hk hne=>?_⟩
   ·rw [hw3,hw2];simpa using h0.size
   ·rw [hw3,hw2]
    exact (setRow_other _ b1 k _ (by omega)).trans ((setRow_other _ b1 k _ (by omega)).trans (h0.block k hk hne))
 exact ⟨w1,w2,w3,b1,nc,hr1,hr2,hr3,hfin.1,hfin.2,Ga,Kw,by omega⟩
theorem uU (hT:dM P T E K B) {w:World} {g n cap i:Nat} {xs:List Value} {cs:Array Value} (hown:w.ownsRow 0 E K (.slice (some ⟨g,0,none⟩) n cap) n xs) (hi:i<n) (hcap:n+1≤cap) (hcs:cs.size=K) (h1:∀u∈cs.toList,u.oneCell'=true)
 (h1x:∀u∈xs,u.oneCell'=true) :
 ∃cur w1 w2,(w.alloc (.cells cs E)).heap[g]?=some (.cells cur E (0,0))∧cur.size=cap*K∧g<w.heap.size∧cap≤maxLen ∧
  (Builtin.copy_ #[T,T] I #[.slice (some ⟨g,(i+1)*K,none⟩) (n+1 - (i+1)) (cap - (i+1)), .slice (some ⟨g,i*K,none⟩) (n+1 - i) (cap - i)]).run P (w.alloc (.cells cs E)).drew=.ok (goInt (Nat.min (n+1 - i) (n+1 - (i+1)))) w1 ∧
  (Builtin.copy_ #[T,T] I #[.slice (some ⟨g,i*K,none⟩) (n+1 - i) (cap - i), .slice (some ⟨w.heap.size,0,none⟩) 1 1]).run P w1=.ok (goInt (Nat.min 1 (n+1 - i))) w2 ∧
  w2.ownsRow 0 E K (.slice (some ⟨g,0,none⟩) (n+1) cap) (n+1) (xs.take (i*K)++cs.toList++xs.drop (i*K))∧w.grownBy w2 (some g):=by
 have m1:(i+1)*K=i*K+K:=Nat.succ_mul i K;have m2:(n+1)*K=n*K+K:=Nat.succ_mul n K;have m3:i*K+(n - i)*K=n*K:=by rw [←Nat.add_mul,Nat.add_sub_cancel' (Nat.le_of_lt hi)]
 have m4:=Nat.mul_le_mul_right K hcap;have Ev:g<w.heap.size:=(hown.lt g rfl).2;have hxl:xs.length=n*K:=hown.1;have hcell:=hown.cells (g:=g) rfl;obtain ⟨_,cur,hg,hcm,hcsz,htake⟩:∃u:Unit,∃cur:Array Value,w.heap[g]?=some (.cells cur E (0,0))∧cap≤maxLen∧cur.size=cap*K∧cur.toList.take (n*K)=xs:=by
  rcases hown.2 with ⟨h,_⟩ | ⟨g',cap',cur,h,_,hg,_,hm,hs,ht⟩
  ·simp at h
  ·simp only [Value.slice.injEq,Option.some.injEq,Addr.mk.injEq,and_true,true_and] at h
   obtain ⟨rfl,rfl⟩:=h;exact ⟨(),cur,hg,hm,hs,ht⟩
 have hg0:(w.alloc (.cells cs E)).heap[g]?=some (.cells cur E (0,0)):=(heap_alloc_old w _ Ev).trans hg;have hcl:cur.toList.length=cap*K:=by simpa using hcsz
 have Bz:cs.toList.length=K:=by simpa using hcs
 have hyl:(xs.drop (i*K)).length=(n - i)*K:=by rw [List.length_drop,hxl,Nat.sub_mul]
 have hr1:=qG (P:=P) (ty:=I) (w.alloc (.cells cs E)).drew hT g ((i+1)*K) (n+1 - (i+1)) (cap - (i+1)) (some ⟨g,i*K,none⟩) (n+1 - i) (cap - i) cur (xs.drop (i*K)) hg0
  (by rw [hyl,show Nat.min (n+1 - i) (n+1 - (i+1))=n - i by rw [show n+1 - (i+1)=n - i by omega];exact Nat.min_eq_right (by omega)])
  (fun _=>⟨_,rfl,fun j v hj=>by
   rw [Addr.add_lit,World.cell?_drew,World.cell?_alloc_past _ _ _ Ev];have:=hcell (i*K+j) v (by rwa [List.getElem?_drop] at hj)
   rwa [Addr.add_lit,Nat.zero_add] at this⟩) (by rw [hyl,hcsz];omega) (fun u hu=>h1x u (List.mem_of_mem_drop hu))
 have hl1:(splice cur.toList ((i+1)*K) (xs.drop (i*K))).length=cap*K:=by rw [length_splice _ _ _ (by omega)];exact hcl
 obtain ⟨w1,hw1⟩:∃w1,w1=(w.alloc (.cells cs E)).drew.setRow g (splice cur.toList ((i+1)*K) (xs.drop (i*K))).toArray:=⟨_,rfl⟩;rw [←hw1] at hr1;have hg1:w1.heap[g]?=some (.cells (splice cur.toList ((i+1)*K) (xs.drop (i*K))).toArray E (0,0)):=by rw [hw1];exact setRow_heap _ g _ _ _ _ hg0
 have hr2:=qG (P:=P) (ty:=I) w1 hT g (i*K) (n+1 - i) (cap - i) (some ⟨w.heap.size,0,none⟩) 1 1 _ cs.toList hg1 (by rw [Bz,show Nat.min 1 (n+1 - i)=1 from Nat.min_eq_left (by omega),Nat.one_mul])
  (fun _=>⟨_,rfl,fun j v hj=>by
   rw [Addr.add_lit,World.cell?_of_block (w:=w.alloc (.cells cs E)) (by rw [hw1];exact setRow_other _ g _ _ (by simp;omega))];simp only [Nat.zero_add];rw [World.cell?_alloc_new];simpa using hj⟩) (by rw [List.size_toArray,hl1,Bz];omega) h1
 obtain ⟨w2,hw2⟩:∃w2,w2=w1.setRow g (splice (splice cur.toList ((i+1)*K) (xs.drop (i*K))).toArray.toList (i*K) cs.toList).toArray:=⟨_,rfl⟩;rw [←hw2] at hr2;have hg2:w2.heap[g]?=some (.cells (splice (splice cur.toList ((i+1)*K) (xs.drop (i*K))).toArray.toList (i*K) cs.toList).toArray E (0,0)):=by rw [hw2];exact setRow_heap _ g _ _ _ _ hg1
 have hfin:w2.ownsRow 0 E K (.slice (some ⟨g,0,none⟩) (n+1) cap) (n+1) (xs.take (i*K)++cs.toList++xs.drop (i*K))∧w.grownBy w2 (some g):=by
  refine ⟨⟨by simp [Bz,hxl,Nat.min_eq_left (Nat.le_of_lt hi)];omega, .inr ⟨g,cap,_,rfl,Nat.zero_le _,hg2,hcap,hcm,?_,?_⟩⟩,?_⟩
  ·rw [List.size_toArray,length_splice _ _ _ (by simp only [hl1,Bz];omega)];exact hl1
  ·have:=Fb cur.toList (i*K) cs.toList (xs.drop (i*K)) (by rw [Bz,hyl,hcl];omega)
   rw [Bz,hyl,show i*K+K=(i+1)*K by omega,show (i+1)*K+(n - i)*K=(n+1)*K by omega] at this;rw [←htake,List.take_take,Nat.min_eq_left (by omega)];rw [←htake] at this;exact this
  ·rw [hw2,hw1]
   exact grownBy_trans (grownBy_trans (grownBy_drew (World.grownBy_alloc w _ _)) (jQ _ g _)) (jQ _ g _)
 exact ⟨cur,w1,w2,hg0,hcsz,Ev,hcm,hr1,hr2,hfin.1,hfin.2⟩
theorem uV {f:Nat} (hE:Cg P f E K) (hG:xW P f E K) (hS:uP P f E K) {α:Type} {R:Rel α} (hR:cu R K) (l:List α) (i:Nat) (hi:i≤l.length) (x:α) (cs:Array Value) (w:World) (v:Value) (S:Nat→Prop) (hown:bZ E K R w v l S)
 (hx:R w cs.toList x (fun b=>S b∧some b≠v.ownBlock)) (hn:l.length≤1000000) :
 Calls P f #[v, iI i, .slice (some ⟨w.heap.size,0,none⟩) 1 1] (w.alloc (.cells cs E)) fun e w'=>∃v',e=.returned v' ∧
  bZ E K R w' v' (l.take i++x::l.drop i) S∧w.grownBy w' v.ownBlock∧(v'.ownBlock=v.ownBlock∨∃g,v'.ownBlock=some g∧w.heap.size≤g):=by
 obtain ⟨rows,h1,h2,h3⟩:=hown;have hcs:cs.size=K:=by simpa using hR.len hx
 have hone:=bZ.qm (E:=E) hR h1 h3;have kL:=hR.one hx;have hv:∀g,v.ownBlock=some g→g<w.heap.size:=fun g hg=>(h2.lt g hg).2
 have fin:∀(e:Ending) (w':World),(∃v',e=.returned v'∧w'.ownsRow 0 E K v' (l.length+1) (rows.flatten.take (i*K)++cs.toList++rows.flatten.drop (i*K))∧w.grownBy w' v.ownBlock∧(v'.ownBlock=v.ownBlock∨∃g,v'.ownBlock=some g∧w.heap.size≤g)) →
  ∃v',e=.returned v'∧bZ E K R w' v' (l.take i++x::l.drop i) S∧w.grownBy w' v.ownBlock∧(v'.ownBlock=v.ownBlock∨∃g,v'.ownBlock=some g∧w.heap.size≤g):=by
  rintro e w' ⟨v',he,g1,g2,g3⟩;exact ⟨v',he,bZ.insert hR hi h1 hv h3 hx g1 g2 g3,g2,g3⟩
 by_cases hil:i=l.length
 ·subst hil
  refine (hE w v l.length rows.flatten cs h2 hcs kL hn).mono fun e w' h=>fin e w' ?_
  have hfl:rows.flatten.length=l.length*K:=h2.1;rw [List.take_of_length_le (by omega),List.drop_of_length_le (by omega),List.append_nil];exact h
 ·rcases id h2.2 with ⟨rfl,hl0⟩ | ⟨g,cap,cur,rfl,-,hg,hnc,-,-,-⟩
  ·omega
  ·by_cases hcap:l.length+1≤cap
   ·exact (hS w g l.length cap i rows.flatten cs h2 (by omega) hcap hcs kL hone hn).mono fin
   ·obtain rfl:cap=l.length:=by omega
    exact (hG w g l.length i rows.flatten cs h2 (by omega) hcs kL hone hn).mono fin
end
end Go.Tk
namespace Go.Proofs.YtbngpjdflblffaaGreatDoor
open Go.RowKit Go.Tk
theorem Tryz.Jc:dM Tryz.prog 113 117 4 40:=⟨Tryz.underlying113,by kernel_rfl,by decide⟩
theorem Af {α:Type} {R:Rel α} (hR:cu R 4) (w:World) (v:Value) (l:List α) (S:Nat→Prop) (h:aZ 4 R w v l S) (hn:l.length≤1000000) :
 Calls Tryz.prog 136 #[v] w fun e w'=>∃v',e=.returned v'∧bZ 117 4 R w' v' l S∧Below w.heap.size w w'∧(∀g,v'.ownBlock=some g→w.heap.size≤g):=by
 obtain ⟨a,cap,hv,hl,hm,hnil,hr⟩:=id h;subst hv;have hm':=hm;unfold maxLen at hm';cases a with
 | none =>
   have h0:=hnil rfl;subst h0;have hl0:l=[]:=List.eq_nil_of_length_eq_zero (by omega);subst hl0;have he:=Lib.run_eql_slice_nil (P:=Tryz.prog) (t:=113)
   go_enter Tryz.func136,Tryz.ntmps136
   go_wp2;go_ret;exact ⟨_,rfl,bZ.nil w S,iB,by simp [Value.ownBlock]⟩
 | some a =>
   obtain ⟨a',cap',rows,hv,-,-,hrl,hrel,hcells⟩:=h.rows hR (by decide);simp only [Value.slice.injEq] at hv;obtain ⟨rfl,-,rfl⟩:=hv;have hlen:=bZ.jq (E:=117) (v:=.slice (some a) l.length cap) hR hrl hrel;have hone:=bZ.qm (E:=117) hR hrl hrel;have hfl:rows.flatten.length=l.length*4:=by
    have:∀(rs:List (List Value)),(∀r∈rs,r.length=4)→rs.flatten.length=rs.length*4:=by
     intro rs
     induction rs with
     | nil=>intro _;rfl
     | cons r rs ih=>intro hk;rw [List.flatten_cons,List.length_append,hk r (by simp),ih (fun r hr=>hk r (by simp [hr]))];simp;omega
    rw [this rows hlen,hrl]
   have hown0:(w.alloc (.cells #[] 117)).ownsRow 0 117 4 (.slice (some ⟨w.heap.size,0,none⟩) 0 0) 0 [] :=
    ⟨rfl, .inr ⟨w.heap.size,0,#[],rfl,Nat.zero_le _,heap_alloc_new w _,Nat.le_refl _,by decide,rfl,rfl⟩⟩
   obtain ⟨v',w',hrun,g1,g2,g3⟩:=gD (P:=Tryz.prog) (ty:=113) (w.alloc (.cells #[] 117)) Tryz.Jc _ 0 [] hown0 a l.length cap rows.flatten hfl (fun j u hu=>by
    obtain ⟨b,off,ha,_,hc⟩:=hcells j u hu;simp only [Option.some.injEq] at ha;subst ha;have hlt:=World.block_lt_of_cell? w _ hc;rw [Addr.add_lit,World.cell?_alloc_past _ _ _ hlt];exact hc) hone (by omega)
   have hvb:∀g,v'.ownBlock=some g→w.heap.size≤g:=by
    intro g hg
    rcases g3 with e | ⟨g',e,h⟩
    ·rw [e] at hg;cases hg;exact Nat.le_refl _
    ·rw [e] at hg;cases hg;simp at h;omega
   have hb:Below w.heap.size w w':=(iB.alloc (Nat.le_refl _) _).grown g2 (by simp) (fun k hk=>by cases hk;exact Nat.le_refl _);have hfin:bZ 117 4 R w' v' l S:=by
    refine ⟨rows,hrl,by simpa using g1,fun i r x hr hx=>hR.move (hrel i r x hr hx) fun b hs hlt=>⟨hb.block b hlt,hs,?_⟩⟩;intro hbg;have:=hvb b hbg.symm;omega
   have HF:=iH hfin;have HV:=iH hvb;have he:=Lib.run_eql_slice_nil (P:=Tryz.prog) (t:=113);clear hfin hvb g1 g2 g3 hcells hrel hlen hone hfl hown0 hr h hrl
   go_enter Tryz.func136,Tryz.ntmps136
   go_wp2_with (at_builtin;refine wpList_append_run rfl _ _ _ _ rfl _ _ rfl rfl hrun ?_)
   go_ret;exact ⟨v',rfl,HF.out,hb,HV.out⟩
theorem Tryz.DW:dM Tryz.prog 25 115 5 56:=⟨Tryz.underlying25,by kernel_rfl,by decide⟩
theorem CP {EK E:Nat} {w wr w2:World} {v rv:Value} {l2:List (aG×(Nat→Prop))} {x:aG} (hown:bZ E 5 (rG (jJ EK)) wr v l2 (fun b=>w.heap.size≤b)) (hb:Below w.heap.size w wr) (X:Obj)
 (hb2:Below (wr.alloc X).heap.size (wr.alloc X) w2) (ho2:bZ EK 4 mX w2 rv x.aA (fun _=>False)) (hf2:∀g,rv.ownBlock=some g→(wr.alloc X).heap.size≤g) :
 bZ E 5 (rG (jJ EK)) (w2.setCell ⟨wr.heap.size,4,none⟩ rv) v l2 (fun b=>w.heap.size≤b)∧Below w.heap.size w (w2.setCell ⟨wr.heap.size,4,none⟩ rv) ∧
 rG (jJ EK) (w2.setCell ⟨wr.heap.size,4,none⟩ rv) [iI x.client, iI x.id, iI x.aH, iI x.last,rv] (x,fun b=>rv.ownBlock=some b) (fun b=>w.heap.size≤b∧some b≠v.ownBlock) ∧
 (∀y∈l2,∀b,y.2 b→¬ rv.ownBlock=some b):=by
 have hws:=hb.size;have hbw:Below wr.heap.size wr (w2.setCell ⟨wr.heap.size,4,none⟩ rv):=((iB.alloc (Nat.le_refl _) X).trans (hb2.mono (by simp))).setCell (Nat.le_refl _) _;have hne:∀g,rv.ownBlock=some g→g≠wr.heap.size:=fun g hg=>by have:=hf2 g hg;simp at this;omega
 refine ⟨hown.below (xe (dX EK)) hbw,hb.trans (hbw.mono hws),⟨⟨rv,rfl,?_,fun g hg=>hg⟩,fun b hbg=>⟨⟨?_,?_⟩,?_⟩⟩,fun y hy b hyb hrb=>?_⟩
 ·exact ho2.move aS (fun g hg=>Below.heap_setCell _ _ _ _ (hne g hg)) (fun b hb=>hb.elim)
 ·have:=hf2 b hbg;simp at this;omega
 ·intro hbv
  have:=hown.lt b hbv.symm;have:=hf2 b hbg;simp at this;omega
 ·simpa using ho2.lt b hbg
 ·have h1:=hown.TL y hy b hyb
  have:=hf2 b hrb;simp at this;omega
theorem iF (w:World) (v:Value) (l:List aG) (S:Nat→Prop) (h:aZ 5 bR w v l S) (hn:l.length≤1000000) (hin:∀x∈l,x.aA.length≤1000000) :
 Calls Tryz.prog 93 #[v] w fun e w'=>∃v',e=.returned v'∧lT 115 5 (jJ 117) w' v' l (fun b=>w.heap.size≤b)∧Below w.heap.size w w'∧(∀g,v'.ownBlock=some g→w.heap.size≤g):=by
 obtain ⟨a,cap,hv,hl,hm,hnil,-⟩:=id h;subst hv;unfold maxLen at hm
 go_enter Tryz.func93,Tryz.ntmps93
 go_wp2
 go_loopw [3,5,8] (fun v _ i wr=>∃(k:Nat) (l2:List (aG×(Nat→Prop))),k≤l.length∧i=iI k∧Hid (l2.map (·.1)=l.take k)∧Hid (Apart l2)∧bZ 115 5 (rG (jJ 117)) wr v l2 (fun b=>w.heap.size≤b) ∧
  Below w.heap.size w wr∧(∀g,v.ownBlock=some g→w.heap.size≤g))
  (fun _ _ i _=>l.length - (intOf i).toNat)
 case atStart=>exact ⟨0,[],by omega,rfl,rfl,Apart.nil,bZ.nil _ _,iB,by simp [Value.ownBlock]⟩
 case round =>
  obtain ⟨k,l2,hk,rfl,hmap,hap,hown,hb,hvb⟩:=hrel;have hws:=hb.size;have hll:l2.length=k:=by have:=congrArg List.length hmap.out;simpa [Nat.min_eq_left hk] using this
  by_cases hlt:k<l.length
  ·obtain ⟨b,off,cap',row,hv,hS,hrow,hcells⟩:=(h.below aF (by decide) hb).row k hlt
   simp only [Value.slice.injEq] at hv;obtain ⟨rfl,_,rfl⟩:=hv;have Qo:=hin l[k] (List.getElem_mem hlt);have HM:Hid (l.take (k+1)=l.take k++[l[k]]):=by show _=_;rw [List.take_succ_eq_append_getElem hlt]
   generalize l[k]=x at *;obtain ⟨rv,rfl,jd⟩:=hrow;obtain ⟨ra,wZ,rfl,-⟩:=id jd;have q0:=hcells 0 _ rfl;have q1:=hcells 1 _ rfl;have q2:=hcells 2 _ rfl;have q3:=hcells 3 _ rfl;have q4:=hcells 4 _ rfl;simp only [Nat.add_zero] at q0;clear hcells;have hbl:b<wr.heap.size:=World.block_lt_of_cell? wr _ q0;have HL:=iH hll;clear hll h hS hin hnil
   go_wp2_with (first
    | (go_at_call 136;refine (Af aS _ _ _ _ (jd.below aS (by decide) (iB.alloc (Nat.le_refl _) _)) Qo).mono ?_;rintro e w2 ⟨rv',rfl,ho2,hb2,hz⟩;obtain ⟨hc2,hz2⟩:=qX hb2;have hs2:=hb2.size;obtain ⟨N7,ES,rfl⟩:=ho2.shape)
    | (at_builtin;obtain ⟨k1,k2,k3,k4⟩:=CP (x:=x) hown hb _ hb2 (ho2.forget (fun _ _ _ _ _ h=>h)) hz;refine kJ Tryz.DW (.tmp 16) (.tmp 18) rfl rfl (xe (dX _)) (x,_) rfl rfl (by simp) k1 k2 hvb k3 (by rw [HL.out];omega) ?_;intro v' w' hown' hb' Kt))
   go_roundw
   case rel =>
    refine ⟨k+1,_,by omega,by go_num,?_,?_,hown',hb',Kt⟩
    ·show _=_
     rw [HM.out,List.map_append,hmap.out];rfl
    ·exact hap.out.snoc _ fun y hy b hyb=>by
      have h1:=hown.TL y hy b hyb;intro hrb;have:=hz b hrb;simp at this;omega
   case measure=>simp [intOf];omega
  ·obtain rfl:k=l.length:=by omega
   have hF:Hid (l2.map (·.1)=l):=by have:=hmap.out;rw [List.take_length] at this;exact this
   clear hmap h hnil;go_wp2;go_ret;exact ⟨_,rfl,⟨l2,hF.out,hap.out,hown⟩,hb,hvb⟩
theorem rC (w:World) (x:aG) (t:Int) (rv:Value) (jd:rv.oneCell'=true) (hb:-9223372036854775808≤x.client - t∧x.client - t≤9223372036854775807) :
 Calls Tryz.prog 142 #[.agg #[iI x.client, iI x.id, iI x.aH, iI x.last,rv], iI t] w fun e w'=>e=.returned (iI (x.client - t))∧Below w.heap.size w w':=by
 obtain ⟨b1,b2⟩:=hb
 go_enter Tryz.func142,Tryz.ntmps142
 go_wp2;go_ret;exact ⟨rfl,iB.alloc (Nat.le_refl _) _⟩
theorem yg (w:World) (v:Value) (l:List aG) (S:Nat→Prop) (h:aZ 5 bR w v l S) (hn:l.length≤1000000) (t:Int) (ht:-1000000000000≤t∧t≤1000000000000) (hb0:∀x∈l,-1000000000000≤x.client∧x.client≤1000000000000) :
 Calls Tryz.prog 141 #[v, iI t, .func (.func 142) #[] #[]] w fun e w' =>
  e=.returned (.tuple #[iI (bs (fun i=>gI (l.getD i aR) t) l.length:Nat), .bool (di (fun i=>gI (l.getD i aR) t) l.length)])∧Below w.heap.size w w':=by
 obtain ⟨a,cap,hv,hl,hm,hnil,-⟩:=id h;subst hv;unfold maxLen at hm
 go_enter Tryz.func141,Tryz.ntmps141
 go_wp2
 go_loopw [9,10,11] (fun i j _ wr=>∃p q:Nat,p≤q∧q≤l.length∧i=iI p∧j=iI q∧Hid (bsGo (fun i=>gI (l.getD i aR) t) (q - p) p q=bs (fun i=>gI (l.getD i aR) t) l.length)∧Below w.heap.size w wr)
  (fun i j _ _=>(intOf j).toNat - (intOf i).toNat)
 case atStart=>exact ⟨0,l.length,by omega,by omega,rfl,rfl,rfl,iB⟩
 case round =>
  obtain ⟨p,q,hpq,zY,rfl,rfl,hgo,hb⟩:=hrel
  by_cases hlt:p<q
  ·have hml:(p+q) / 2<l.length:=by omega
   obtain ⟨b,off,cap',row,hv,hS,hrow,hcells⟩:=(h.below aF (by decide) hb).row ((p+q) / 2) hml;simp only [Value.slice.injEq] at hv;obtain ⟨rfl,_,rfl⟩:=hv;have hg:l.getD ((p+q) / 2) aR=l[(p+q) / 2]:=by simp [List.getD,hml]
   have hxb:=hb0 l[(p+q) / 2] (List.getElem_mem hml);have HL:Hid (gI l[(p+q) / 2] t<0→bsGo (fun i=>gI (l.getD i aR) t) (q - ((p+q) / 2+1)) ((p+q) / 2+1) q=bs (fun i=>gI (l.getD i aR) t) l.length):=fun hf=>by
    rw [←rU _ hlt (by show gI (l.getD ((p+q) / 2) aR) t<0;rw [hg];exact hf)];exact hgo.out
   have HM:Hid (¬ gI l[(p+q) / 2] t<0→bsGo (fun i=>gI (l.getD i aR) t) ((p+q) / 2 - p) p ((p+q) / 2)=bs (fun i=>gI (l.getD i aR) t) l.length):=fun hf=>by
    rw [←rT _ hlt (by show ¬ gI (l.getD ((p+q) / 2) aR) t<0;rw [hg];exact hf)];exact hgo.out
   clear hgo hg;generalize l[(p+q) / 2]=x at *;obtain ⟨rv,rfl,jd⟩:=hrow;obtain ⟨ra,wZ,rfl,-⟩:=id jd;have q0:=hcells 0 _ rfl;have q1:=hcells 1 _ rfl;have q2:=hcells 2 _ rfl;have q3:=hcells 3 _ rfl;have q4:=hcells 4 _ rfl;simp only [Nat.add_zero] at q0;clear hcells;have hws:=hb.size
   by_cases hf:gI x t<0
   all_goals (have HF:=iH hf;unfold gI at hf)
   ·go_wp2_with (go_at_call 142;refine (rC _ x t _ rfl (by omega)).mono ?_;rintro e w2 ⟨rfl,hb2⟩)
    go_roundw
    case rel=>exact ⟨(p+q) / 2+1,q,by omega,zY,by go_num,rfl,HL.out HF.out,hb.trans (hb2.mono hws)⟩
    case measure=>simp [intOf];omega
   ·go_wp2_with (go_at_call 142;refine (rC _ x t _ rfl (by omega)).mono ?_;rintro e w2 ⟨rfl,hb2⟩)
    go_roundw
    case rel=>exact ⟨p,(p+q) / 2,by omega,by omega,rfl,by go_num,HM.out HF.out,hb.trans (hb2.mono hws)⟩
    case measure=>simp [intOf];omega
  ·obtain rfl:p=q:=by omega
   have HP:Hid (bs (fun i=>gI (l.getD i aR) t) l.length=p):=by have:=hgo.out;rw [Nat.sub_self] at this;exact this.symm
   clear hgo;have hws:=hb.size
   by_cases hml:p<l.length
   ·obtain ⟨b,off,cap',row,hv,hS,hrow,hcells⟩:=(h.below aF (by decide) hb).row p hml
    simp only [Value.slice.injEq] at hv;obtain ⟨rfl,_,rfl⟩:=hv;have HG:Hid (di (fun i=>gI (l.getD i aR) t) l.length=(gI l[p] t == 0)):=by
     show _=_
     rw [di,HP.out,decide_eq_true hml,show l.getD p aR=l[p] by simp [List.getD,hml]];rfl
    have hxb:=hb0 l[p] (List.getElem_mem hml);clear h;generalize l[p]=x at *;obtain ⟨rv,rfl,jd⟩:=hrow;obtain ⟨ra,wZ,rfl,-⟩:=id jd;have q0:=hcells 0 _ rfl;have q1:=hcells 1 _ rfl;have q2:=hcells 2 _ rfl;have q3:=hcells 3 _ rfl;have q4:=hcells 4 _ rfl;simp only [Nat.add_zero] at q0;clear hcells
    go_wp2_with (go_at_call 142;refine (rC _ x t _ rfl (by omega)).mono ?_;rintro e w2 ⟨rfl,hb2⟩)
    go_ret2
    exact ⟨qg (by rw [HP.out];rfl) (by rw [HG.out];rfl),hb.trans (hb2.mono hws)⟩
   ·have HG:Hid (di (fun i=>gI (l.getD i aR) t) l.length=false):=by
     show _=_
     rw [di,HP.out,decide_eq_false hml];rfl
    clear h;go_wp2
    go_ret2
    exact ⟨qg (by rw [HP.out];rfl) (by rw [HG.out];rfl),hb⟩
theorem Tryz.DY:dM Tryz.prog 25 115 5 56:=⟨Tryz.underlying25,by kernel_rfl,by decide⟩
theorem Br:Cg Tryz.prog 100 115 5:=by
 intro w v n xs cs hown hcs h1 hn;obtain ⟨v',w',hr,g1,g2,g3⟩:=Ap (ty:=25) Tryz.DY (by decide) hown hcs h1 hn;have HF:=iH (And.intro g2 g3);have G1:=iH g1;clear g1 g2 g3
 rcases hown.2 with ⟨rfl,rfl⟩ | ⟨g,cap,cur,rfl,-,hg,hnc,hcm,hcs2,htake⟩
 ·clear hown
  go_enter Tryz.func100,Tryz.ntmps100
  go_wp2_with (at_builtin;refine wpList_append_run rfl _ _ _ _ rfl _ _ rfl rfl hr ?_)
  go_ret;exact ⟨v',rfl,G1.out,HF.out⟩
 ·unfold maxLen at hcm
  clear hown htake hg hcs2
  by_cases hcap:cap=n
  ·subst hcap
   go_enter Tryz.func100,Tryz.ntmps100
   go_wp2_with (at_builtin;refine wpList_append_run rfl _ _ _ _ rfl _ _ rfl rfl hr ?_)
   go_ret;exact ⟨v',rfl,G1.out,HF.out⟩
  ·go_enter Tryz.func100,Tryz.ntmps100
   go_wp2_with (at_builtin;refine wpList_append_run rfl _ _ _ _ rfl _ _ rfl rfl hr ?_)
   go_ret;exact ⟨v',rfl,G1.out,HF.out⟩
theorem zR:xW Tryz.prog 100 115 5:=by
 intro w g n i xs cs hown hi hcs h1 h1x hn;unfold vV;obtain ⟨w1,w2,w3,b1,nc,hr1,hr2,hr3,f1,f2,Ga,Kw,f3⟩:=xC (ty:=25) Tryz.DY Tryz.underlying3 (by decide) (by decide) hown hi hcs h1 h1x hn;have HF:=iH (And.intro f1 f2);have H1:=iH f3;clear f1 f2 f3 h1 h1x hown hcs
 go_enter Tryz.func100,Tryz.ntmps100
 go_wp2_with (at_builtin;refine wpList_append_run rfl (.tmp 34) (.tmp 39) _ _ rfl _ _ rfl rfl hr1 ?_)
 have q1:IntKind.i64.wrap ((i:Int)+1)=(i:Int)+1:=IntWalk.i64_in _ (by omega);have q2:(0:Int)≤(i:Int)+1:=by omega
 have q3:((i:Int)+1).toNat=i+1:=by omega
 have q4:¬ (nc=i+1):=by omega
 have q5:¬ (n=i):=by omega
 have q6:(i:Int)+1≤(n:Int)+1:=by omega
 have q7:i≤n:=by omega
 go_region_law (refine iR rfl _ _ 25 25 rfl _ _ (by simp [Act.eval,Act.put]) (by simp [Act.eval,Act.put]) hr3 ?_)
 clear q1 q2 q3 q4 q5 q6 q7;go_wp2;go_ret;exact ⟨_,rfl,HF.out.1,HF.out.2, .inr ⟨_,rfl,H1.out⟩⟩
theorem yE:uP Tryz.prog 100 115 5:=by
 intro w g n cap i xs cs hown hi hcap hcs h1 h1x hn;unfold vV;obtain ⟨cur,w1,w2,hg0,hcsz,Ev,hcm,hr1,hr2,f1,f2⟩:=uU (I:=3) Tryz.DY hown hi hcap hcs h1 h1x;have HF:=iH (And.intro f1 f2);have hov:(callFunc 143 #[.slice (some ⟨w.heap.size,0,none⟩) 1 1, .slice (some ⟨g,(i+1)*5,none⟩) (n - i) (cap - (i+1))]).run Tryz.prog (w.alloc (.cells cs 115))=.ok (.value (.bool false)) (w.alloc (.cells cs 115)):=by
  rw [run_callFunc_extern Tryz.func143 (by kernel_rfl) (by kernel_rfl) (by kernel_rfl) (e:=Extern.SlicesOverlaps.overlaps #[25,25] #[4]) (by kernel_rfl),
   Lib.run_overlaps_apart (w.alloc (.cells cs 115)) 25 4 115 Tryz.underlying25 5 (fun _=>by kernel_rfl) ⟨w.heap.size,0,none⟩ ⟨g,(i+1)*5,none⟩ 1 1 _ _ (by simp;omega) 115 115 5 (cap*5)
    (by simp only [World.shape?];rw [heap_alloc_new];simp [hcs]) (by simp only [World.shape?];rw [hg0];simp [hcsz]) (by omega) (World.frozen?_alloc_new w cs _ _) (World.frozen?_alloc_new w cs _ _)]
  rfl
 unfold maxLen at hcm;clear f1 f2 hg0 hcsz h1 h1x hown hcs
 go_enter Tryz.func100,Tryz.ntmps100
 have p4:¬ (cap=i+1):=by omega
 have p5:¬ (cap=i):=by omega
 go_wp2_with (simp only [hov])
 clear hov;have q1:IntKind.i64.wrap ((i:Int)+1)=(i:Int)+1:=IntWalk.i64_in _ (by omega);have q2:(0:Int)≤(i:Int)+1:=by omega
 have q3:((i:Int)+1).toNat=i+1:=by omega
 have q6:(i:Int)+1≤(n:Int)+1:=by omega
 have q7:i≤n:=by omega
 have q8:(i:Int)≤(n:Int)+1:=by omega
 go_region_law (refine iR rfl _ _ 25 25 rfl _ _ (by simp [Act.eval,Act.put]) (by simp [Act.eval,Act.put]) hr1 ?_)
 clear q1 q2 q3 q6 q7 q8 hr1;go_wp2;go_ret;exact ⟨_,rfl,HF.out.1,HF.out.2, .inl rfl⟩
def yF {α:Type} {R:Rel α}:=uV (α:=α) (R:=R) Br zR yE
end Go.Proofs.YtbngpjdflblffaaGreatDoor
