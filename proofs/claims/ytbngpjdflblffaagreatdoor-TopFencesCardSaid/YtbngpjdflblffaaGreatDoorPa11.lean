/- A part of the proof, laid together from: MachA, RepK, OwF, CustD. -/
import Derived.Test.YtbngpjdflblffaaGreatDoorPa09
import Derived.Test.YtbngpjdflblffaaGreatDoorPa10
import Derived.Deep.DeepCutAuto
set_option linter.all false
set_option maxRecDepth 100000
set_option maxHeartbeats 1600000
namespace Go.Tk
open Go Go.RowKit
structure fT (w:World) (s:bf) (vl vp vs:Value) (S:Nat→Prop):Prop where
 lock:aZ 4 fZ w vl s.au S
 pair:aZ 3 jC w vp s.pairs S
 dG:aZ 5 bR w vs s.af S
theorem fT.below {w w':World} {s:bf} {vl vp vs:Value} {S:Nat→Prop} (h:fT w s vl vp vs S) (hb:Below w.heap.size w w'):fT w' s vl vp vs S :=
 ⟨h.lock.below aM (by decide) hb,h.pair.below bg (by decide) hb,h.dG.below aF (by decide) hb⟩
theorem fT.sub {w:World} {s:bf} {vl vp vs:Value} {S S':Nat→Prop} (h:fT w s vl vp vs S) (hs:∀b,S b→b<w.heap.size→S' b):fT w s vl vp vs S' :=
 ⟨h.lock.sub aM (by decide) hs,h.pair.sub bg (by decide) hs,h.dG.sub aF (by decide) hs⟩
theorem fT.move {w w':World} {s:bf} {vl vp vs:Value} {S S':Nat→Prop} (h:fT w s vl vp vs S) (hs:∀b,S b→b<w.heap.size→w'.heap[b]?=w.heap[b]?∧S' b):fT w' s vl vp vs S' :=
 ⟨h.lock.move aM (by decide) hs,h.pair.move bg (by decide) hs,h.dG.move aF (by decide) hs⟩
structure Fits (s:bf):Prop where
 line:∀x∈s.au,x.line.length≤1000000
 value:∀x∈s.pairs,x.value.length≤1000000
 kP:∀x∈s.af,x.aA.length≤1000000
 au:s.au.length≤1000000
 pairs:s.pairs.length≤1000000
 dG:s.af.length≤1000000
theorem mO.fits {s:bf} (h:mO s):Fits s :=
 ⟨fun x hx=>by have:=(h.lock.line x hx).len;omega,fun x hx=>by have:=(h.pair.one x hx).size;omega,fun x hx=>by have:=iA (h.dG.rep x hx);omega,
  by have:=h.lock.len;omega,by have:=h.pair.len;omega,by have:=h.dG.len;omega⟩
theorem aD.store {w:World} {b:Nat}:∀(us cs:List Value) (o:Nat) {w:World},aD w b cs→o+us.length≤cs.length→aD (w.setCells b o us) b (cs.take o++us++cs.drop (o+us.length))
 | [],cs,o,w,h,_=>by simpa [World.setCells] using h
 | u::us,cs,o,w,h,hl=>by
   rw [List.length_cons] at hl;have:=aD.store (w:=w) us (cs.set o u) (o+1) (h.set o (by omega) u) (by rw [List.length_set];omega);have e:(cs.set o u).take (o+1)++us++(cs.set o u).drop (o+1+us.length)=cs.take o++(u::us)++cs.drop (o+(us.length+1)):=by
    rw [List.take_succ_eq_append_getElem (by rw [List.length_set];omega),List.getElem_set_self,List.take_set_of_le (Nat.le_refl _),List.drop_set_of_lt (by omega)];simp [Nat.add_assoc,Nat.add_comm 1]
   rw [e] at this;exact this
theorem aD.storeAll {w:World} {b:Nat} {cs:List Value} (h:aD w b cs) (us:List Value) (hl:us.length=cs.length):aD (w.setCells b 0 us) b us:=by
 have:=aD.store (w:=w) us cs 0 h (by omega);simpa [List.drop_of_length_le (show cs.length≤us.length by omega)] using this
theorem aD.fK {b c:Nat} {cs:List Value} (hne:b≠c) (us:List Value) (o:Nat) {w:World} (h:aD w b cs):aD (w.setCells c o us) b cs:=h.keep (iW hne us o w)
structure dh (w:World) (r:dL) (ve vl vp vs:Value) (S:Nat→Prop):Prop where
 lD:aZ 1 iw w ve r.log.entries S
 st:fT w r.state vl vp vs S
def AZ (r:dL) (ve vl vp vs:Value):List Value:=[iI r.log.base,ve, iS r.snap, iI r.state.index,vl,vp,vs]
theorem dh.below {w w':World} {r:dL} {ve vl vp vs:Value} {S:Nat→Prop} (h:dh w r ve vl vp vs S) (hb:Below w.heap.size w w'):dh w' r ve vl vp vs S :=
 ⟨h.lD.below aK (by decide) hb,h.st.below hb⟩
theorem dh.sub {w:World} {r:dL} {ve vl vp vs:Value} {S S':Nat→Prop} (h:dh w r ve vl vp vs S) (hs:∀b,S b→b<w.heap.size→S' b):dh w r ve vl vp vs S' :=
 ⟨h.lD.sub aK (by decide) hs,h.st.sub hs⟩
theorem dh.move {w w':World} {r:dL} {ve vl vp vs:Value} {S S':Nat→Prop} (h:dh w r ve vl vp vs S) (hs:∀b,S b→b<w.heap.size→w'.heap[b]?=w.heap[b]?∧S' b):dh w' r ve vl vp vs S' :=
 ⟨h.lD.move aK (by decide) hs,h.st.move hs⟩
theorem dh.store {w:World} {r:dL} {ve vl vp vs:Value} {S S':Nat→Prop} (h:dh w r ve vl vp vs S) {b:Nat} (o:Nat) (us:List Value) (hs:∀k,S k→k≠b∧S' k):dh (w.setCells b o us) r ve vl vp vs S' :=
 h.move fun k hk _=>⟨iW (hs k hk).1 us o w,(hs k hk).2⟩
theorem fT.store {w:World} {s:bf} {vl vp vs:Value} {S S':Nat→Prop} (h:fT w s vl vp vs S) {b:Nat} (o:Nat) (us:List Value) (hs:∀k,S k→k≠b∧S' k):fT (w.setCells b o us) s vl vp vs S' :=
 h.move fun k hk _=>⟨iW (hs k hk).1 us o w,(hs k hk).2⟩
theorem aZ.store {α:Type} {k:Nat} {R:Rel α} (hR:cu R k) (hk:0<k) {w:World} {v:Value} {l:List α} {S S':Nat→Prop} (h:aZ k R w v l S) {b:Nat} (o:Nat) (us:List Value) (hs:∀k,S k→k≠b∧S' k):aZ k R (w.setCells b o us) v l S' :=
 h.move hR hk fun q hq _=>⟨iW (hs q hq).1 us o w,(hs q hq).2⟩
def Qh:Rel dL:=fun w cs r S=>∃ve vl vp vs,cs=AZ r ve vl vp vs∧dh w r ve vl vp vs S
theorem dh.ones {w:World} {r:dL} {ve vl vp vs:Value} {S:Nat→Prop} (h:dh w r ve vl vp vs S):ve.oneCell'=true∧vl.oneCell'=true∧vp.oneCell'=true∧vs.oneCell'=true :=
 ⟨h.lD.oneCell,h.st.lock.oneCell,h.st.pair.oneCell,h.st.dG.oneCell⟩
theorem Ei:cu Qh 7 where
 len:=by rintro w cs x S ⟨ve,vl,vp,vs,rfl,h⟩;rfl
 one:=by
  rintro w cs x S ⟨ve,vl,vp,vs,rfl,h⟩ u hu;obtain ⟨h1,h2,h3,h4⟩:=h.ones;simp only [AZ,List.mem_cons,List.not_mem_nil,or_false] at hu
  rcases hu with rfl | rfl | rfl | rfl | rfl | rfl | rfl
  ·rfl
  ·exact h1
  ·rfl
  ·rfl
  ·exact h2
  ·exact h3
  ·exact h4
 move:=by rintro w w' cs x S S' ⟨ve,vl,vp,vs,rfl,h⟩ hm;exact ⟨ve,vl,vp,vs,rfl,h.move hm⟩
theorem dh.none (w:World) (S:Nat→Prop):dh w yB (iN) (iN) (iN) (iN) S:=⟨aZ.nil _ _,aZ.nil _ _,aZ.nil _ _,aZ.nil _ _⟩
def yV (w:World) (r:dL) (c:Int):Ending→World→Prop:=fun e w'=>∃ve vl vp vs,e=.returned (.tuple #[.agg #[iI r.log.base,ve, iS r.snap, iI r.state.index,vl,vp,vs], iI c])∧dh w' r ve vl vp vs (fun b=>w.heap.size≤b)∧Below w.heap.size w w'
def jV:Rel kM:=fun _ cs m _=>cs=[iI m.client, iI m.seq, iI m.aI.code, iI m.aI.n, iS m.aI.text]
theorem bT:cu jV 5:=⟨by rintro w cs x S rfl;rfl,by rintro w cs x S rfl u hu;simp at hu;rcases hu with rfl | rfl | rfl | rfl | rfl<;>rfl,fun h _=>h⟩
theorem Dp (w:World) (cs:List Value) (x:kM) (S S':Nat→Prop) (h:jV w cs x S):jV w cs x S':=h
def Nl (w:World) (r:dL) (ms:List kM):Ending→World→Prop:=fun e w'=>∃ve vl vp vs vm,e=.returned (.tuple #[.agg #[iI r.log.base,ve, iS r.snap, iI r.state.index,vl,vp,vs],vm, iI 0]) ∧
 dh w' r ve vl vp vs (fun b=>w.heap.size≤b)∧aZ 5 jV w' vm ms (fun b=>w.heap.size≤b)∧Below w.heap.size w w'
def nJ {α:Type} (E k:Nat) (R:Rel α) (w:World) (v:Value) (l:List α) (S:Nat→Prop):Prop :=
 (v=iN∧l=[])∨∃(g off cap:Nat) (cur:Array Value) (rows:List (List Value)),v=.slice (some ⟨g,off,none⟩) l.length cap∧w.heap[g]?=some (.cells cur E (0,0))∧l.length≤cap∧cap≤maxLen∧off+cap*k≤cur.size ∧
  rows.length=l.length∧(∀(i:Nat) (r:List Value),rows[i]?=some r→∀(j:Nat) (u:Value),r[j]?=some u→cur[off+i*k+j]?=some u)∧∀(i:Nat) (r:List Value) (x:α),rows[i]?=some r→l[i]?=some x→R w r x (fun b=>S b∧b≠g)
theorem nJ.nil {α:Type} {E k:Nat} {R:Rel α} (w:World) (S:Nat→Prop):nJ E k R w (iN) [] S:=.inl ⟨rfl,rfl⟩
theorem nJ.move {α:Type} {E k:Nat} {R:Rel α} (h:cu R k) {w w':World} {v:Value} {l:List α} {S S':Nat→Prop} (ho:nJ E k R w v l S)
 (hv:∀g,v.ownBlock=some g→w'.heap[g]?=w.heap[g]?) (hm:∀b,S b→some b≠v.ownBlock→b<w.heap.size→w'.heap[b]?=w.heap[b]?∧S' b):nJ E k R w' v l S':=by
 rcases ho with h0 | ⟨g,off,cap,cur,rows,rfl,hg,h1,h2,h3,h4,h5,h6⟩
 ·exact .inl h0
 ·refine .inr ⟨g,off,cap,cur,rows,rfl,(hv g rfl).trans hg,h1,h2,h3,h4,h5,fun i r x hr hx=>h.move (h6 i r x hr hx) fun b hb hl=>?_⟩
  have:=hm b hb.1 (fun e=>hb.2 (by simpa [Value.ownBlock] using e)) hl;exact ⟨this.1,this.2,hb.2⟩
theorem nJ.below {α:Type} {E k:Nat} {R:Rel α} (h:cu R k) {w w':World} {v:Value} {l:List α} {S:Nat→Prop} (ho:nJ E k R w v l S) (hb:Below w.heap.size w w'):nJ E k R w' v l S:=by
 refine ho.move h (fun g hg=>?_) (fun b hs _ hl=>⟨hb.block b hl,hs⟩)
 rcases ho with ⟨rfl,_⟩ | ⟨g',off,cap,cur,rows,rfl,hg',_⟩
 ·cases hg
 ·cases hg;exact hb.block _ (Array.getElem?_eq_some_iff.1 hg').1
theorem nJ.lt {α:Type} {E k:Nat} {R:Rel α} {w:World} {v:Value} {l:List α} {S:Nat→Prop} (ho:nJ E k R w v l S):∀g,v.ownBlock=some g→g<w.heap.size:=by
 intro g hg
 rcases ho with ⟨rfl,_⟩ | ⟨g',off,cap,cur,rows,rfl,hg',_⟩
 ·cases hg
 ·cases hg;exact (Array.getElem?_eq_some_iff.1 hg').1
theorem nJ.shape {α:Type} {E k:Nat} {R:Rel α} {w:World} {v:Value} {l:List α} {S:Nat→Prop} (h:nJ E k R w v l S):∃a cap,v=.slice a l.length cap:=by
 rcases h with ⟨rfl,rfl⟩ | ⟨g',off,cap,cur,rows,rfl,_⟩
 ·exact ⟨none,0,rfl⟩
 ·exact ⟨_,_,rfl⟩
theorem nJ.oneCell {α:Type} {E k:Nat} {R:Rel α} {w:World} {v:Value} {l:List α} {S:Nat→Prop} (h:nJ E k R w v l S):v.oneCell'=true:=by
 obtain ⟨a,cap,rfl⟩:=h.shape;rfl
theorem nJ.forget {α:Type} {E k:Nat} {R:Rel α} (hR:∀(w:World) (cs:List Value) (x:α) (S S':Nat→Prop),R w cs x S→R w cs x S') {w:World} {v:Value} {l:List α} {S S':Nat→Prop} (h:nJ E k R w v l S):nJ E k R w v l S':=by
 rcases h with h0 | ⟨g,off,cap,cur,rows,rfl,hg,h1,h2,h3,h4,h5,h6⟩
 ·exact .inl h0
 ·exact .inr ⟨g,off,cap,cur,rows,rfl,hg,h1,h2,h3,h4,h5,fun i r x hr hx=>hR _ _ _ _ _ (h6 i r x hr hx)⟩
theorem nJ.read {α:Type} {E k:Nat} {R:Rel α} (h:cu R k) {w:World} {v:Value} {l:List α} {S:Nat→Prop} (ho:nJ E k R w v l S) (hS:∀g,v.ownBlock=some g→S g):aZ k R w v l S:=by
 rcases ho with ⟨rfl,rfl⟩ | ⟨g,off,cap,cur,rows,rfl,hg,h1,h2,h3,h4,h5,h6⟩
 ·exact aZ.nil w S
 ·refine ⟨_,cap,rfl,h1,h2,(fun h=>by cases h),fun i x hx=>?_⟩
  have hi:i<l.length:=by
   rcases Nat.lt_or_ge i l.length with h | h
   ·exact h
   ·rw [List.getElem?_eq_none h] at hx;cases hx
  have hr:rows[i]?=some (rows[i]'(by omega)):=List.getElem?_eq_getElem (by omega);exact ⟨g,off,rows[i]'(by omega),rfl,hS g rfl,h.sub (h6 i _ x hr hx) fun b hb _=>hb.1,fun j u hu=>by rw [dN hg];exact h5 i _ hr j u hu⟩
theorem bZ.Pk {α:Type} {E k:Nat} {R:Rel α} (h:cu R k) {w:World} {v:Value} {l:List α} {S:Nat→Prop} (ho:bZ E k R w v l S):nJ E k R w v l S:=by
 obtain ⟨rows,h1,h2,h3⟩:=ho;have hlen:=bZ.jq (E:=E) (v:=v) h h1 h3
 rcases h2.2 with ⟨rfl,hn⟩ | ⟨g,cap,cur,rfl,hb,hgg,hc1,hc2,hc3,hc4⟩
 ·exact .inl ⟨rfl,List.eq_nil_of_length_eq_zero hn⟩
 ·refine .inr ⟨g,0,cap,cur,rows,rfl,hgg,hc1,hc2,by omega,h1,fun i r hr j u hu=>?_,fun i r x hr hx=>h.sub (h3 i r x hr hx) fun b hb _=>⟨hb.1,fun e=>hb.2 (by rw [e];rfl)⟩⟩
  have:=h2.cells (g:=g) rfl (i*k+j) u (flatten_getElem? rows hlen i j r u hr hu);rw [Addr.add_lit,dN hgg] at this;rw [Nat.add_assoc];exact this
theorem nJ.drop {α:Type} {E k:Nat} {R:Rel α} {w:World} {g off n cap:Nat} {l:List α} {S:Nat→Prop} (h:nJ E k R w (.slice (some ⟨g,off,none⟩) n cap) l S) (i:Nat) (hi:i≤l.length) :
 nJ E k R w (.slice (some ⟨g,off+i*k,none⟩) (n - i) (cap - i)) (l.drop i) S:=by
 rcases h with ⟨h,_⟩ | ⟨g',off',cap',cur,rows,hv,hg,h1,h2,h3,h4,h5,h6⟩
 ·cases h
 ·simp only [Value.slice.injEq,Option.some.injEq,Addr.mk.injEq,and_true] at hv
  obtain ⟨⟨rfl,rfl⟩,rfl,rfl⟩:=hv;have hk:=Nat.mul_le_mul_right k (show i≤cap by omega);refine .inr ⟨g,off+i*k,cap - i,cur,rows.drop i,by rw [List.length_drop],hg,by rw [List.length_drop];omega,by omega,?_,by rw [List.length_drop,List.length_drop];omega,fun q r hr j u hu=>?_,fun q r x hr hx=>?_⟩
  ·rw [Nat.sub_mul];omega
  ·rw [List.getElem?_drop] at hr
   have:=h5 _ r hr j u hu;rw [Nat.add_mul] at this;rw [show off+i*k+q*k+j=off+(i*k+q*k)+j by omega];exact this
  ·rw [List.getElem?_drop] at hr hx
   exact h6 _ r x hr hx
theorem BO {w:World} {g:Nat} {cur:Array Value} {E:TypeId} (hg:w.heap[g]?=some (.cells cur E (0,0))) (o:Nat) (vs:List Value) (hfit:o+vs.length≤cur.size) :
 ∃cur',(w.setCells g o vs).heap[g]?=some (.cells cur' E (0,0))∧cur'.size=cur.size∧(∀j,j<o∨o+vs.length≤j→cur'[j]?=cur[j]?)∧∀j (hj:j<vs.length),cur'[o+j]?=some vs[j]:=by
 obtain ⟨cur',h1,h2⟩:=(bW.sets vs o (bW.refl g w)) cur E _ hg;refine ⟨cur',h1,h2,fun j hj=>?_,fun j hj=>?_⟩
 ·rw [←dN h1 j,←dN hg j]
  exact World.cell?_setCells_out _ _ _ _ _ fun _ _=>hj
 ·rw [←dN h1 (o+j)]
  refine World.cell?_setCells_in g vs o w (fun q hq=>?_) j hj;rw [dN hg,Array.getElem?_eq_getElem (by omega)];rfl
theorem He {β:Type} (L:List β) (o:Nat) (cs:List β) (j:Nat) (hj:j<o) (ho:o≤L.length):(splice L o cs)[j]?=L[j]?:=by
 unfold splice;rw [List.getElem?_append_left (by rw [List.length_take];omega),List.getElem?_take_of_lt hj]
theorem nJ.erase {α:Type} {E k:Nat} {R:Rel α} (hR:cu R k) {w:World} {g off n cap:Nat} {l:List α} {S:Nat→Prop} (h:nJ E k R w (.slice (some ⟨g,off,none⟩) n cap) l S) {i:Nat} (hi:i<l.length) :
 ∃(cur:Array Value) (news:List Value),w.heap[g]?=some (.cells cur E (0,0))∧n=l.length∧n≤cap∧cap≤maxLen∧off+cap*k≤cur.size∧news.length=(n - (i+1))*k∧(∀u∈news,u.oneCell'=true) ∧
  (∀(j:Nat) (u:Value),news[j]?=some u→w.cell? ⟨g,off+(i+1)*k+j,none⟩=some u) ∧
  ∃cur',(w.setCells g (off+i*k) news).heap[g]?=some (.cells cur' E (0,0))∧cur'.size=cur.size ∧
   ∀zs:List Value,zs.length=k→nJ E k R ((w.setCells g (off+i*k) news).setRow g (splice cur'.toList (off+(n - 1)*k) zs).toArray) (.slice (some ⟨g,off,none⟩) (n - 1) cap) (l.eraseIdx i) S:=by
 rcases h with ⟨h,_⟩ | ⟨g',off',cap',cur,rows,hv,hg,h1,h2,h3,h4,h5,h6⟩
 ·cases h
 simp only [Value.slice.injEq,Option.some.injEq,Addr.mk.injEq,and_true] at hv;obtain ⟨⟨rfl,rfl⟩,rfl,rfl⟩:=hv;have hlen:=bZ.jq (E:=E) (v:=.slice (some ⟨g,0,none⟩) 0 0) hR h4 h6;have V4:∀r∈rows.drop (i+1),r.length=k:=fun r hr=>hlen r (List.mem_of_mem_drop hr)
 have hnl:(rows.drop (i+1)).flatten.length=(l.length - (i+1))*k:=by
  have:∀(rs:List (List Value)),(∀r∈rs,r.length=k)→rs.flatten.length=rs.length*k:=by
   intro rs;induction rs with
   | nil=>intro _;simp
   | cons r rs ih=>intro hh;simp only [List.flatten_cons,List.length_append,List.length_cons];rw [ih fun r hr=>hh r (by simp [hr]),hh r (by simp),Nat.add_mul];omega
  rw [this _ V4,List.length_drop,h4]
 have e1:(l.length - (i+1))*k+i*k=(l.length - 1)*k:=by rw [←Nat.add_mul];congr 1;omega
 have e2:(l.length - 1)*k+k=l.length*k:=by rw [←Nat.succ_mul];congr 1;omega
 have e3:=Nat.mul_le_mul_right k h1;obtain ⟨cur',c1,c2,c3,c4⟩:=BO hg (off+i*k) (rows.drop (i+1)).flatten (by rw [hnl];omega);refine ⟨cur,(rows.drop (i+1)).flatten,hg,rfl,h1,h2,h3,hnl,?_,?_,cur',c1,c2,fun zs hzs=>?_⟩
 ·intro u hu
  obtain ⟨r,hr,hur⟩:=List.mem_flatten.1 hu;obtain ⟨q,hq,rfl⟩:=List.getElem_of_mem (List.mem_of_mem_drop hr);exact hR.one (h6 q rows[q] (l[q]'(by omega)) (List.getElem?_eq_getElem hq) (List.getElem?_eq_getElem (by omega))) u hur
 ·intro j u hu
  have hkp:0<k:=by
   rcases Nat.eq_zero_or_pos k with h | h
   ·subst h
    rw [List.getElem?_eq_none (by rw [hnl];omega)] at hu;cases hu
   ·exact h
  obtain ⟨r,hr,Ou⟩:=qd hkp _ V4 j u hu;rw [List.getElem?_drop] at hr;have:=h5 _ r hr _ u Ou;rw [dN hg];have e:=Nat.div_add_mod j k;rw [Nat.add_mul,Nat.mul_comm (j / k) k] at this;rw [show off+(i+1)*k+j=off+((i+1)*k+k*(j / k))+j % k by omega];exact this
 ·have hcl:cur'.toList.length=cur'.size:=Array.length_toList
  have hsz:(splice cur'.toList (off+(l.length - 1)*k) zs).length=cur'.size:=by
   rw [length_splice _ _ _ (by omega),hcl]
  have hrow:((w.setCells g (off+i*k) (rows.drop (i+1)).flatten).setRow g (splice cur'.toList (off+(l.length - 1)*k) zs).toArray).heap[g]?=some (.cells (splice cur'.toList (off+(l.length - 1)*k) zs).toArray E (0,0)):=setRow_heap _ g _ _ E _ c1;have hel:(l.eraseIdx i).length=l.length - 1:=List.length_eraseIdx_of_lt hi;refine .inr ⟨g,off,cap,_,rows.eraseIdx i,by rw [hel],hrow,by rw [hel];omega,h2,by rw [List.size_toArray,hsz];omega,by rw [List.length_eraseIdx_of_lt (by omega),hel,h4],fun q r hr j u hu=>?_,fun q r x hr hx=>?_⟩
  ·have hq:q<l.length - 1:=by
    rcases Nat.lt_or_ge q (rows.eraseIdx i).length with h | h
    ·rw [List.length_eraseIdx_of_lt (by omega)] at h;omega
    ·rw [List.getElem?_eq_none h] at hr;cases hr
   have hjk:j<k:=by
    have:r.length=k:=by
     rw [List.getElem?_eraseIdx] at hr
     split at hr<;>exact hlen r (List.mem_of_getElem? hr)
    rcases Nat.lt_or_ge j r.length with h | h
    ·omega
    ·rw [List.getElem?_eq_none h] at hu;cases hu
   have e4:=Nat.mul_le_mul_right k (show q+1≤l.length - 1 by omega);rw [Nat.add_mul] at e4;rw [List.getElem?_toArray,He _ _ _ _ (by omega) (by omega),Array.getElem?_toList];rw [List.getElem?_eraseIdx] at hr
   split at hr
   ·rename_i hqi
    have e5:=Nat.mul_le_mul_right k (show q+1≤i by omega);rw [Nat.add_mul] at e5;rw [c3 _ (.inl (by omega))];exact h5 q r hr j u hu
   ·rename_i hqi
    have e6:q*k=i*k+(q - i)*k:=by rw [←Nat.add_mul];congr 1;omega
    have hf:(rows.drop (i+1)).flatten[(q - i)*k+j]?=some u:=flatten_getElem? _ V4 (q - i) j r u (by rw [List.getElem?_drop,show i+1+(q - i)=q+1 by omega];exact hr) hu;have hlt:(q - i)*k+j<(rows.drop (i+1)).flatten.length:=by
     rcases Nat.lt_or_ge ((q - i)*k+j) (rows.drop (i+1)).flatten.length with h | h
     ·exact h
     ·rw [List.getElem?_eq_none h] at hf;cases hf
    rw [show off+q*k+j=off+i*k+((q - i)*k+j) by omega,c4 _ hlt];rw [List.getElem?_eq_getElem hlt] at hf;exact hf
  ·have hS:∀b,S b∧b≠g→b<w.heap.size→((w.setCells g (off+i*k) (rows.drop (i+1)).flatten).setRow g (splice cur'.toList (off+(l.length - 1)*k) zs).toArray).heap[b]?=w.heap[b]?∧S b∧b≠g:=fun b hb _ =>
    ⟨(setRow_other _ g b _ hb.2).trans (iW hb.2 _ _ _),hb⟩
   rw [List.getElem?_eraseIdx] at hr hx
   split at hr
   ·rename_i hqi;rw [if_pos hqi] at hx;exact hR.move (h6 q r x hr hx) hS
   ·rename_i hqi;rw [if_neg hqi] at hx;exact hR.move (h6 _ r x hr hx) hS
def fI:Rel oH:=fun _ cs x _=>cs=[iI x.seq, iI x.op.kind, iS x.op.a, iS x.op.b, iI x.op.n]
theorem aV:cu fI 5:=⟨by rintro w cs x S rfl;rfl,by rintro w cs x S rfl u hu;simp at hu;rcases hu with rfl | rfl | rfl | rfl | rfl<;>rfl,fun h _=>h⟩
theorem yt (w:World) (cs:List Value) (x:oH) (S S':Nat→Prop) (h:fI w cs x S):fI w cs x S':=h
def rR (c:bA) (v:Value):List Value:=[iI c.id, iI c.session, iI c.next,v]
def Al (c:bA) (v:Value):Value:=.agg #[iI c.id, iI c.session, iI c.next,v]
def OT (w:World) (r:bA×Int):Ending→World→Prop:=fun e w'=>∃v',e=.returned (.tuple #[Al r.1 v', iI r.2])∧aZ 5 fI w' v' r.1.waits (fun b=>w.heap.size≤b)∧Below w.heap.size w w'
def Nk (E:Nat) (w:World) (r:bA×Int):Ending→World→Prop:=fun e w'=>∃v',e=.returned (.tuple #[Al r.1 v', iI r.2])∧bZ E 5 fI w' v' r.1.waits (fun _=>False)∧(∀g,v'.ownBlock=some g→w.heap.size≤g)∧Below w.heap.size w w'
theorem bZ.tV {E:Nat} {w:World} {v:Value} {l:List oH} {S S':Nat→Prop} (h:bZ E 5 fI w v l S) (hS:∀g,v.ownBlock=.some g→S' g):aZ 5 fI w v l S' :=
 (h.forget yt).read aV (by decide) hS
theorem nJ.JW {E:Nat} {w:World} {v:Value} {l:List oH} {S S':Nat→Prop} (h:nJ E 5 fI w v l S) (hS:∀g,v.ownBlock=.some g→S' g):aZ 5 fI w v l S' :=
 (h.forget yt).read aV hS
theorem EX (l:List oH) (n:Int):kD (fun w=>w.seq == n) l=if oK l n<l.length then (oK l n:Int) else -1:=by
 by_cases h:oK l n<l.length
 ·rw [if_pos h]
  refine qO h (List.findIdx_getElem (w:=h)) fun j hj hlt=>?_
  have:=List.not_of_lt_findIdx hlt;simpa using this
 ·rw [if_neg h]
  refine mH fun j hj=>?_
  have:=List.not_of_lt_findIdx (p:=fun w:oH=>w.seq == n) (xs:=l) (i:=j) (by unfold oK at h;omega);simpa using this
end Go.Tk
namespace Go.Proofs.YtbngpjdflblffaaGreatDoor
open Go.RowKit Go.Tk
theorem wC (w:World) (v:Value) (l:List aG) (S:Nat→Prop) (h:aZ 5 bR w v l S) (hn:l.length≤1000000) (c:Nat) (cap:Value) (hcap:cap.oneCell'=true) (p:aG→Bool) (r:Option Nat) (hin:∀args w,(callFunc c args).run Tryz.prog w=.ok (.enter c args) w) (hp:rW w r S c cap p) :
 Calls Tryz.prog 96 #[v, .func (.func c) #[] #[cap]] w fun e w'=>e=.returned (.bool (l.any p))∧Below w.heap.size w w':=by
 have HF:=iH (BH p l);have hone:=h.oneCell;have HC:=iH (oO w v l S h hn c cap p r hin hp);clear hin hp h
 go_enter Tryz.func96,Tryz.ntmps96
 go_wp2_with fail
 refine HC.out.mono ?_;rintro e w2 ⟨rfl,hb⟩;go_wp2;go_ret;exact ⟨by rw [←HF.out];rfl,hb⟩
theorem oh (s:bf) (vl vp vs:Value) (S:Nat→Prop) (w:World) (h:fT w s vl vp vs S) (hf:Fits s) :
 Calls Tryz.prog 43 #[.agg #[iI s.index,vl,vp,vs]] w fun e w'=>e=.returned (iI (ng s))∧Below w.heap.size w w':=by
 have o1:=h.lock.oneCell;have o2:=h.pair.oneCell;have o3:=h.dG.oneCell;have HS:=iH h;have HF:=iH hf;clear h hf
 go_enter Tryz.func43,Tryz.ntmps43
 go_wp2_with fail
 have HX:=iH (aD.new (w:=w) (cs:=[iI s.index,vl,vp,vs]) (E:=27));have HB:=iH (aj w (.cells #[iI s.index,vl,vp,vs] 27));replace HS:=iH (HS.out.below HB.out);refine (eH s.af s.index vs S _ HS.out.dG).mono ?_;generalize w.alloc (.cells #[iI s.index,vl,vp,vs] 27)=w0 at *;rintro e w1 ⟨rfl,hb1⟩
 by_cases h1:bC s.af s.index=0
 case neg =>
  have HV:=iH (show ng s=bC s.af s.index by rw [ng,if_pos h1]);have h1':(bC s.af s.index != 0)=true:=by simpa using h1
  clear h1;go_wp2;go_ret;exact ⟨by rw [HV.out];rfl,ah HB.out hb1⟩
 rw [h1];have x0:=(HX.out.below hb1).cell 1 _ rfl
 go_wp2_with fail
 refine (om s.au vl S _ (HS.out.lock.below aM (by decide) hb1) HF.out.line).mono ?_;rintro e w2 ⟨rfl,hb2⟩
 by_cases h2:dU s.au=0
 case neg =>
  have HV:=iH (show ng s=dU s.au by rw [ng,if_neg (by simp [h1]),if_pos h2]);have h2':(dU s.au != 0)=true:=by simpa using h2
  clear h1 h2 x0;go_wp2;go_ret;exact ⟨by rw [HV.out];rfl,ah HB.out (ah hb1 hb2)⟩
 have HV:=iH (show ng s=j3 s.pairs by rw [ng,if_neg (by simp [h1]),if_neg (by simp [h2])]);rw [h2];clear x0 h1 h2;have x0:=(HX.out.below (ah hb1 hb2)).cell 2 _ rfl
 go_wp2_with fail
 refine (ry s.pairs vp S _ (HS.out.pair.below bg (by decide) (ah hb1 hb2)) HF.out.value).mono ?_;rintro e w3 ⟨rfl,hb3⟩;go_wp2;go_ret;exact ⟨by rw [HV.out];rfl,ah HB.out (ah (ah hb1 hb2) hb3)⟩
theorem xz (s:bf) (vl vp vs:Value) (S:Nat→Prop) (w:World) (h:fT w s vl vp vs S) (hf:Fits s) :
 Calls Tryz.prog 58 #[.agg #[iI s.index,vl,vp,vs]] w fun e w'=>∃Cn K9 vs',e=.returned (.agg #[iI s.index,Cn,K9,vs'])∧fT w' s Cn K9 vs' (fun b=>w.heap.size≤b)∧Below w.heap.size w w':=by
 have o1:=h.lock.oneCell;have o2:=h.pair.oneCell;have o3:=h.dG.oneCell;have HS:=iH h;have HF:=iH hf;clear h hf
 go_enter Tryz.func58,Tryz.ntmps58
 go_upto_region 1 with (fail);have HX:=iH ((aD.new (w:=w) (cs:=[iI s.index,vl,vp,vs]) (E:=27)).below (aj _ (.cells #[iI 0, iN, iN, iN] 27)));have hr:=aD.new (w:=w.alloc (.cells #[iI s.index,vl,vp,vs] 27)) (cs:=[iI 0, iN, iN, iN]) (E:=27);rw [World.size_alloc] at hr;have HR:=iH hr;have HB:=iH (below_alloc2 w (.cells #[iI s.index,vl,vp,vs] 27) (.cells #[iI 0, iN, iN, iN] 27));replace HS:=iH (HS.out.below HB.out);have hlt:=hr.lt;clear hr;have go:∀(A:Nat) (wz:World) (e:wz=(w.alloc (.cells #[iI s.index,vl,vp,vs] 27)).alloc (.cells #[iI 0, iN, iN, iN] 27)),True:=fun _ _ _=>trivial
 clear go;generalize (w.alloc (.cells #[iI s.index,vl,vp,vs] 27)).alloc (.cells #[iI 0, iN, iN, iN] 27)=w0 at *;refine bH 11 (fun wx=>Below w0.heap.size w0 wx) (fun wx wy=>Below wx.heap.size wx wy) [aW (iP (w.heap.size) 0),aW (iI s.index),aW (iP (w.heap.size) 1),aW (vl),fun v wx=>aZ 4 fZ wx v s.au (fun b=>w0.heap.size≤b),aW (iP (w.heap.size) 2),aW (vp),fun v wx=>aZ 3 jC wx v s.pairs (fun b=>w0.heap.size≤b),aW (iP (w.heap.size) 3),aW (vs),fun v wx=>aZ 5 bR wx v s.af (fun b=>w0.heap.size≤b)] (by kernel_rfl) (by kernel_rfl) rfl ?hJ ?jP ?hst ?ek ?hend
 case hJ=>exact Below.drew iB
 case jP =>
  exact fun wx wy h1 h2=>ah h1 h2
 case hst=>exact bX _ ⟨ax _,ax _,ax _,ax _,(by rintro v wx wy - h2 h3;exact h3.below aM (by decide) h2),ax _,ax _,(by rintro v wx wy - h2 h3;exact h3.below bg (by decide) h2),ax _,ax _,(by rintro v wx wy - h2 h3;exact h3.below aF (by decide) h2),trivial⟩
 case ek =>
  simp only [dY,aJ,Act.put,Nat.reduceAdd,Nat.zero_add,pS];refine ⟨?_,?_,?_,?_,?_,?_,?_,?_,?_,?_,?_,trivial⟩
  all_goals
   intro vs1 wx hJ hn K hK;simp [dA,mJ,aW,Region.binds] at hn;simp only [mJ,aW,Act.put,Nat.reduceAdd,Nat.zero_add,pS] at hK
  ·go_wp2
   exact hK _ _ iB rfl
  ·simp only [hn] at hK⊢
   have x0:=(HX.out.below hJ).cell 0 _ rfl;go_wp2;exact hK _ _ iB rfl
  ·go_wp2
   exact hK _ _ iB rfl
  ·simp only [hn] at hK⊢
   have x1:=(HX.out.below hJ).cell 1 _ rfl;go_wp2;exact hK _ _ iB rfl
  ·simp only [hn] at hK⊢
   have hsx:=HS.out.below hJ
   go_wp2_with fail
   refine (qi wx _ s.au _ hsx.lock HF.out.au HF.out.line).mono ?_;rintro e w2 ⟨v2,rfl,ho2,hb2,hg2⟩;have kL:=(ho2.A8 hg2).oneCell;go_wp2;exact hK _ _ hb2 ((ho2.A8 hg2).sub aM (by decide) fun b hb _=>Nat.le_trans hJ.size hb)
  ·go_wp2
   exact hK _ _ iB rfl
  ·simp only [hn] at hK⊢
   have x2:=(HX.out.below hJ).cell 2 _ rfl;go_wp2;exact hK _ _ iB rfl
  ·simp only [hn] at hK⊢
   have hsx:=HS.out.below hJ
   go_wp2_with fail
   refine (sZ bg wx _ s.pairs _ hsx.pair HF.out.pairs).mono ?_;rintro e w2 ⟨v2,rfl,ho2,hb2,hg2⟩;have kL:=ho2.oneCell;go_wp2;exact hK _ _ hb2 ((ho2.forget (S':=fun b=>wx.heap.size≤b) (fun _ _ _ _ _ h=>h)).read bg (by decide) hg2 |>.sub bg (by decide) fun b hb _=>Nat.le_trans hJ.size hb)
  ·go_wp2
   exact hK _ _ iB rfl
  ·simp only [hn] at hK⊢
   have x3:=(HX.out.below hJ).cell 3 _ rfl;go_wp2;exact hK _ _ iB rfl
  ·simp only [hn] at hK⊢
   have hsx:=HS.out.below hJ
   go_wp2_with fail
   refine (iF wx _ s.af _ hsx.dG HF.out.dG HF.out.kP).mono ?_;rintro e w2 ⟨v2,rfl,ho2,hb2,hg2⟩;have kL:=(ho2.kr hg2).oneCell;go_wp2;exact hK _ _ hb2 ((ho2.kr hg2).sub aF (by decide) fun b hb _=>Nat.le_trans hJ.size hb)
 case hend =>
  intro vs1 wx hJ hv;simp [eF,aW] at hv;obtain ⟨e0,e1,e2,e3,h4,e5,e6,h7,e8,e9,h10⟩:=hv;simp only [aJ,Act.put,Nat.reduceAdd,Nat.zero_add,pS];rw [e0,e1,e2,e3,e5,e6,e8,e9];clear e0 e1 e2 e3 e5 e6 e8 e9;generalize vs1 4=v4 at *;generalize vs1 7=v7 at *;generalize vs1 10=v10 at *;obtain ⟨a4,k4,e4,-⟩:=id h4;obtain ⟨a7,k7,e7,-⟩:=id h7;obtain ⟨uK,k10,e10,-⟩:=id h10;subst e4;subst e7;subst e10;have hr:=HR.out.below hJ;have hlt2:w.heap.size+1<wx.heap.size:=hr.lt;have HP:=iH ((((hr.set 0 (by simp) (iI s.index)).set 1 (by simp) (.slice a4 s.au.length k4)).set 2 (by simp) (.slice a7 s.pairs.length k7)).set 3 (by simp) (.slice uK s.af.length k10));obtain ⟨z0,z1,z2,z3⟩:=dJ hr;obtain ⟨f0,f1,f2,f3⟩:=nH hr;have mP:=iH ((HB.out.trans (hJ.mono HB.out.size)).trans (Below.mono (ay (ay (ay (ay (Below.refl (w.heap.size+1) wx) (Nat.le_refl _) 0 (iI s.index)) (Nat.le_refl _) 1 (.slice a4 s.au.length k4)) (Nat.le_refl _) 2 (.slice a7 s.pairs.length k7)) (Nat.le_refl _) 3 (.slice uK s.af.length k10)) (Nat.le_succ _)));have hsz:=HB.out.size
  have far:∀b,w0.heap.size≤b→((((wx.setCell ⟨w.heap.size+1,0,none⟩ (iI s.index)).setCell ⟨w.heap.size+1,1,none⟩ (.slice a4 s.au.length k4)).setCell ⟨w.heap.size+1,2,none⟩ (.slice a7 s.pairs.length k7)).setCell ⟨w.heap.size+1,3,none⟩ (.slice uK s.af.length k10)).heap[b]?=wx.heap[b]?:=fun b hb=>(aC (by omega)).trans ((aC (by omega)).trans ((aC (by omega)).trans (aC (by omega))))
  have OY:=iH (fT.move (w:=wx) (w':=(((wx.setCell ⟨w.heap.size+1,0,none⟩ (iI s.index)).setCell ⟨w.heap.size+1,1,none⟩ (.slice a4 s.au.length k4)).setCell ⟨w.heap.size+1,2,none⟩ (.slice a7 s.pairs.length k7)).setCell ⟨w.heap.size+1,3,none⟩ (.slice uK s.af.length k10)) (s:=s) (S':=fun b=>w.heap.size≤b) (show fT wx s (.slice a4 s.au.length k4) (.slice a7 s.pairs.length k7) (.slice uK s.af.length k10) (fun b=>w0.heap.size≤b) from ⟨h4,h7,h10⟩) fun b hb _=>⟨far b hb,by show _≤_;have:w0.heap.size≤b:=hb;omega⟩);clear hr far h4 h7 h10 HR;go_wp2;generalize (((wx.setCell ⟨w.heap.size+1,0,none⟩ (iI s.index)).setCell ⟨w.heap.size+1,1,none⟩ (.slice a4 s.au.length k4)).setCell ⟨w.heap.size+1,2,none⟩ (.slice a7 s.pairs.length k7)).setCell ⟨w.heap.size+1,3,none⟩ (.slice uK s.af.length k10)=wf at *;obtain ⟨p0,p1,p2,p3⟩:=dJ HP.out;refine bodyPost_ret (v:=.agg #[iI s.index,(.slice a4 s.au.length k4),(.slice a7 s.pairs.length k7),(.slice uK s.af.length k10)]) (by simp [results,Tryz.results58,go_sem,p0,p1,p2,p3]) rfl ⟨_,_,_,rfl,OY.out,mP.out⟩
end Go.Proofs.YtbngpjdflblffaaGreatDoor
