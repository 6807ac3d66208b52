/- A part of the proof, laid together from: Plan, Deep, Box. -/
import Derived.StillTail
import Derived.Test.YtbngpjdflblffaaGreatDoorPa08
set_option linter.all false
set_option maxRecDepth 100000
namespace Go.Tk
open Go Go.RowKit
theorem pS {α:Type}:(type_of% (@List.getD_cons_zero α))∧(type_of% (@List.getD_cons_succ α))∧(type_of% (@List.setIfInBounds_toArray α))∧(type_of% (@List.set_cons_zero α))∧(type_of% (@List.set_cons_succ α))∧(type_of% (@List.take_succ_cons α))∧(type_of% (@List.take_zero α))∧(type_of% (@List.drop_succ_cons α))∧(type_of% (@List.drop_zero α)):=⟨List.getD_cons_zero,List.getD_cons_succ,List.setIfInBounds_toArray,List.set_cons_zero,List.set_cons_succ,List.take_succ_cons,List.take_zero,List.drop_succ_cons,List.drop_zero⟩
abbrev VP:=Value→World→Prop
def mJ (V:List VP) (i:Nat):VP:=V.getD i (fun _ _=>True)
def aJ (vs:Nat→Value):Nat→List Oper→Act→Act
 | _,[],a=>a
 | i,o::r,a=>aJ vs (i+1) r (a.put o.dst (vs i))
def dA (n:Nat) (V:List VP) (vs:Nat→Value) (w:World):List Edge→Prop
 | []=>True
 | e::r=>(Region.binds .any e=true→e.on<n→mJ V e.on (vs e.on) w)∧dA n V vs w r
def Jp (P:Program) (ops:Array Oper) (J:World→Prop) (S:World→World→Prop) (n:Nat) (V:List VP) (F:(Nat→Value)→Act) (i:Nat) (o:Oper):Prop :=
 ∀(vs:Nat→Value) (w:World),J w→dA n V vs w o.after.toList→∀K:Exit→Act→World→Prop,(∀v w',S w w'→mJ V i v w'→K .normal ((F vs).put o.dst v) w')→wpList P ops K [o] (F vs) w
def dY (P:Program) (ops:Array Oper) (J:World→Prop) (S:World→World→Prop) (n:Nat) (V:List VP) (F:(Nat→Value)→Act):Nat→List Oper→Prop
 | _,[]=>True
 | i,o::r=>Jp P ops J S n V F i o∧dY P ops J S n V F (i+1) r
def eF (vs:Nat→Value) (w:World):Nat→List VP→Prop
 | _,[]=>True
 | i,V::r=>V (vs i) w∧eF vs w (i+1) r
theorem N8 (a:Act) (d:Option Tmp) (u v:Value):(a.put d u).put d v=a.put d v:=by
 cases d<;>simp [Act.put]
theorem LZ (a:Act) (t:Tmp):a.put (some t) (a.tmps.getD t undef)=a:=by
 obtain ⟨x,df⟩:=a;simp only [Act.put]
 congr 1
 apply Array.ext
 ·simp
 ·intro j h1 h2
  by_cases hj:t=j
  ·subst hj;simp [h2]
  ·rw [Array.getElem_setIfInBounds_ne h2 hj]
theorem vK:∀(r:List Oper) (k:Nat) (a:Act) (vs vs':Nat→Value),(∀j,k≤j→vs j=vs' j)→aJ vs k r a=aJ vs' k r a
 | [],_,_,_,_,_=>rfl
 | o::r,k,a,vs,vs',h=>by
   rw [aJ,aJ,h k (Nat.le_refl _)];exact vK r (k+1) _ vs vs' fun j hj=>h j (by omega)
theorem vJ (vs:Nat→Value) (d:Option Tmp) (v:Value):∀(r:List Oper) (k:Nat) (b:Act),(∀o∈r,∀t,d=some t→o.dst≠some t)→(aJ vs k r b).put d v=aJ vs k r (b.put d v)
 | [],_,_,_=>rfl
 | o::r,k,b,h=>by
   rw [aJ,aJ,vJ vs d v r (k+1) _ fun o' ho'=>h o' (by simp [ho']),Act.put_comm b v (vs k) fun t ht=>h o (by simp) t ht]
def dm (vs:Nat→Value) (i:Nat) (v:Value):Nat→Value:=fun j=>if j=i then v else vs j
theorem qJ (vs:Nat→Value) (v:Value):∀(l:List Oper) (k i:Nat) (a:Act) (o:Oper),l[i]?=some o→(l.filterMap (·.dst)).Nodup→aJ (dm vs (k+i) v) k l a=(aJ vs k l a).put o.dst v
 | [],_,_,_,_,h,_=>by simp at h
 | o'::r,k,0,a,o,h,hn=>by
   simp only [List.getElem?_cons_zero,Option.some.injEq] at h;subst h;have hfr:∀o∈r,∀t,o'.dst=some t→o.dst≠some t:=fun o ho t ht he=>by
    rw [List.filterMap_cons,ht] at hn;exact (List.nodup_cons.1 hn).1 (List.mem_filterMap.2 ⟨o,ho,he⟩)
   rw [aJ,aJ,vJ vs o'.dst v r (k+1) _ hfr,N8];rw [show dm vs (k+0) v k=v by simp [dm]];exact vK r (k+1) _ _ _ fun j hj=>by simp only [dm];rw [if_neg (by omega)]
 | o'::r,k,i+1,a,o,h,hn=>by
   simp only [List.getElem?_cons_succ] at h;have hn':(r.filterMap (·.dst)).Nodup:=by
    rw [List.filterMap_cons] at hn
    split at hn
    ·exact hn
    ·exact (List.nodup_cons.1 hn).2
   rw [aJ,aJ];have:=qJ vs v r (k+1) i (a.put o'.dst (vs k)) o h hn';rw [show k+(i+1)=k+1+i by omega,show dm vs (k+1+i) v k=vs k by simp only [dm];rw [if_neg (by omega)]];exact this
theorem oW (a:Act):∀(l:List Oper) (k:Nat) (vs:Nat→Value),(∀j o t,l[j]?=some o→o.dst=some t→vs (k+j)=a.tmps.getD t undef)→aJ vs k l a=a
 | [],_,_,_=>rfl
 | o::r,k,vs,h=>by
   rw [aJ];have e:a.put o.dst (vs k)=a:=by
    cases hd:o.dst with
    | none=>rfl
    | some t=>rw [show vs k=a.tmps.getD t undef from h 0 o t rfl hd];exact LZ a t
   rw [e];exact oW a r (k+1) vs fun j o t hj ht=>by rw [show k+1+j=k+(j+1) by omega];exact h (j+1) o t hj ht
theorem xq {n:Nat} {V:List VP} {vs:Nat→Value} {w:World}:∀(l:List Edge),(∀e∈l,Region.binds .any e=true→e.on<n→mJ V e.on (vs e.on) w)→dA n V vs w l
 | [],_=>trivial
 | e::r,h=>⟨h e (by simp),xq r fun e he=>h e (by simp [he])⟩
theorem zl {vs:Nat→Value} {w:World}:∀(V:List VP) (k:Nat),(∀i,i<V.length→mJ V i (vs (k+i)) w)→eF vs w k V
 | [],_,_=>trivial
 | V::r,k,h=>⟨h 0 (by simp),zl r (k+1) fun i hi=>by
    have:=h (i+1) (by simp;omega);rw [show k+(i+1)=k+1+i by omega] at this;exact this⟩
theorem zk {P:Program} {ops:Array Oper} {J:World→Prop} {S:World→World→Prop} {n:Nat} {V:List VP} {F:(Nat→Value)→Act}:∀(l:List Oper) (k i:Nat) (o:Oper),dY P ops J S n V F k l→l[i]?=some o→Jp P ops J S n V F (k+i) o
 | [],_,_,_,_,h=>by simp at h
 | o'::r,k,0,o,h,ho=>by simp only [List.getElem?_cons_zero,Option.some.injEq] at ho;subst ho;exact h.1
 | o'::r,k,i+1,o,h,ho=>by
   have:=zk r (k+1) i o h.2 (by simpa using ho)
   rwa [show k+1+i=k+(i+1) by omega] at this
theorem Aw {P:Program} {o:Oper} {a:Act} {K K':Act→World→Prop} {Q Q':Exit→Act→World→Prop} (hK:∀a w,K a w→K' a w) (hQ:∀c a w,Q (.panic c) a w→Q' (.panic c) a w) (hL:LetsOut Q→LetsOut Q') :
 ∀r,o.upon P a K Q r→o.upon P a K' Q' r:=by
 intro r hh;cases r with
 | ok n w' =>
   cases n<;>simp only [Oper.upon] at hh⊢ <;>
    first
     | exact hK _ _ hh
     | exact Calls.mono hh (fun e w'' he=>by cases e<;>first | exact hK _ _ he | exact hQ _ _ _ he | exact hL he)
     | exact Rows.mono hh (fun _ _ he=>hK _ _ he)
 | halt x w'=>cases x<;>simp only [Oper.upon] at hh⊢<;>first | exact hQ _ _ _ hh | exact hh
def todo (n:Nat) (listed:Array Bool):Nat:=(List.range n).countP fun i=>!listed.getD i false
theorem count_one {p p':Nat→Bool} {i:Nat} (hp:p i=true) (hp':p' i=false) (ho:∀j,j≠i→p' j=p j):∀(l:List Nat),l.Nodup→i∈l→l.countP p'+1=l.countP p
 | [],_,h=>by simp at h
 | x::l,hn,h=>by
   have hn':=List.nodup_cons.1 hn
   by_cases hx:x=i
   ·subst hx
    have e:l.countP p'=l.countP p:=List.countP_congr fun j hj=>by
     rw [ho j (by rintro rfl;exact hn'.1 hj)]
    rw [List.countP_cons,List.countP_cons,hp,hp',e];simp
   ·have hi:i∈l:=by
     rcases List.mem_cons.1 h with h | h
     ·exact absurd h.symm hx
     ·exact h
    have:=count_one hp hp' ho l hn'.2 hi;rw [List.countP_cons,List.countP_cons,ho x hx];omega
theorem AP {n i:Nat} {listed:Array Bool} (hi:i<n) (hs:i<listed.size) (h:listed.getD i false=false):todo n (listed.setIfInBounds i true)+1=todo n listed:=by
 refine count_one (i:=i) (by simp [h]) (by simp [hs]) (fun j hj=>?_) _ List.nodup_range (List.mem_range.2 hi);rw [getD_set_ne false (Ne.symm hj)]
def sS (l:List Oper) (n:Nat):Bool :=
 decide (n≤l.length) && decide (((l.take n).filterMap (·.dst)).Nodup) && (List.range n).all (fun i=>((l[i]?).map fun o=>o.after.all fun e=>!Region.binds .any e || decide (e.on<i)).getD true) &&
  (decide (n=l.length) || (Region.sinkB .any l.toArray n && Region.chainB .any l.toArray n)) && Region.seqB .any l.toArray (l.length - n) n ((Array.replicate n true)++Array.replicate (l.length - n) false)
theorem GX {P:Program} {l:List Oper} {n:Nat} {Q:Exit→Act→World→Prop} {a0:Act} {J:World→Prop} {S:World→World→Prop} {V:List VP} (hB:sS l n=true) (_hV:V.length=n)
 (jP:∀w w',J w→S w w'→J w') (hst:∀i v w w',J w→S w w'→mJ V i v w→mJ V i v w')
 (ek:dY P l.toArray J S n V (fun vs=>aJ vs 0 (l.take n) a0) 0 (l.take n))
 (hend:∀vs w,J w→(∀i,i<n→mJ V i (vs i) w)→wpList P l.toArray Q (l.drop n) (aJ vs 0 (l.take n) a0) w) :
 ∀(f:Nat) (listed:Array Bool) (vs:Nat→Value) (w:World),HeadInv .any l.toArray n listed→todo n listed=f→J w→(∀i,i<n→listed.getD i false=true→mJ V i (vs i) w) →
  wpAny P .any l.toArray Q (f+(l.length - n)) listed (aJ vs 0 (l.take n) a0) w:=by
 simp only [sS,Bool.and_eq_true,decide_eq_true_eq,Bool.or_eq_true] at hB;obtain ⟨⟨⟨⟨hn,hnd⟩,F8⟩,htl⟩,hseq⟩:=hB;have htk:(l.take n).length=n:=by simp;omega
 intro f
 induction f with
 | zero =>
   intro listed vs w inv ht hJ hv;have hall:∀i,i<n→listed.getD i false=true:=fun i hi=>by
    have:=List.countP_eq_zero.1 ht i (List.mem_range.2 hi);simpa using this
   have hle:listed=(Array.replicate n true)++Array.replicate (l.length - n) false:=by
    have hsz:listed.size=l.length:=by rw [inv.size];simp
    apply Array.ext
    ·simp;omega
    ·intro j h1 h2
     by_cases hj:j<n
     ·have:=hall j hj
      simp [h1] at this;rw [this,Array.getElem_append_left (by simpa using hj)];simp
     ·have:=inv.tail j (by omega) (by simpa [hsz] using h1)
      simp [h1] at this;rw [this,Array.getElem_append_right (by simpa using hj)];simp
   have hdl:(l.drop n).length=l.length - n:=by simp
   have:=wpAny_of_seq (md:=.any) (Q':=Q) (l.drop n) n listed (aJ vs 0 (l.take n) a0) w (fun j=>by simp [List.getElem?_drop]) (by rw [hdl,hle];exact hseq) (hend vs w hJ fun i hi=>hv i hi (hall i hi));rw [hdl] at this;rw [Nat.zero_add];exact this
 | succ f ih =>
   intro listed vs w inv ht hJ hv;have hsz:listed.size=l.length:=by rw [inv.size];simp
   obtain ⟨i0,hi0,F7,hmin⟩:∃i,i<n∧listed.getD i true=false∧∀j,j<i→listed.getD j false=true:=by
    have hex:∃i,i<n∧listed.getD i false=false:=by
     have hpos:0<(List.range n).countP fun i=>!listed.getD i false:=by rw [todo] at ht;omega
     obtain ⟨i,hi,hp⟩:=List.countP_pos_iff.1 hpos;exact ⟨i,List.mem_range.1 hi,by simpa using hp⟩
    have key:∀m i,i<n→listed.getD i false=false→i≤m→∃i,i<n∧listed.getD i false=false∧∀j,j<i→listed.getD j false=true:=by
     intro m
     induction m with
     | zero=>intro i hi hf hm;exact ⟨i,hi,hf,fun j hj=>by omega⟩
     | succ m Sz =>
       intro i hi hf hm
       by_cases hsm:∃j,j<i∧listed.getD j false=false
       ·obtain ⟨j,hj,Tj⟩:=hsm
        exact Sz j (by omega) Tj (by omega)
       ·refine ⟨i,hi,hf,fun j hj=>?_⟩
        cases hc:listed.getD j false with
        | true=>rfl
        | false=>exact absurd ⟨j,hj,hc⟩ hsm
    obtain ⟨i,hi,hf⟩:=hex;obtain ⟨i,hi,hf,hmin⟩:=key i i hi hf (Nat.le_refl _);exact ⟨i,hi,getD_in (by omega) hf,hmin⟩
   have hlow:∀t,n≤t→t∉Region.ready .any l.toArray listed:=fun t ht' hr=>by
    rcases htl with htl | htl
    ·obtain ⟨_,o,ho,_⟩:=mem_ready.1 hr
     have:=(Array.getElem?_eq_some_iff.1 ho).1;simp at this;omega
    ·by_cases hnl:n<l.length
     ·exact tail_waits htl.1 htl.2 (by simpa using hnl) inv _ i0 rfl hi0 F7 t ht' hr
     ·obtain ⟨_,o,ho,_⟩:=mem_ready.1 hr
      have:=(Array.getElem?_eq_some_iff.1 ho).1;simp at this;omega
   have uu:i0∈Region.ready .any l.toArray listed:=by
    have hlt:i0<l.length:=by omega
    refine mem_ready.2 ⟨F7,l[i0],by simp,fun e he hb=>?_⟩;have h1:=List.all_eq_true.1 F8 i0 (List.mem_range.2 hi0);rw [List.getElem?_eq_getElem hlt] at h1;simp only [Option.map_some,Option.getD_some] at h1;have h2:=Array.all_eq_true'.1 h1 e he;simp only [Bool.or_eq_true,Bool.not_eq_eq_eq_not,Bool.not_true,decide_eq_true_eq] at h2
    rcases h2 with h2 | h2
    ·rw [hb] at h2;cases h2
    ·exact hmin _ h2
   rw [show f+1+(l.length - n)=(f+(l.length - n))+1 by omega];refine ⟨fun h=>(by rw [h] at uu;cases uu),fun i hi=>?_⟩;have hin:i<n:=by
    rcases Nat.lt_or_ge i n with h | h
    ·exact h
    ·exact absurd hi (hlow i h)
   obtain ⟨hun,o,ho,MF⟩:=mem_ready.1 hi;have hlo:l[i]?=some o:=by simpa using ho
   have hto:(l.take n)[i]?=some o:=by rw [List.getElem?_take_of_lt hin];exact hlo
   have hb:=zk (l.take n) 0 i o ek hto;rw [Nat.zero_add] at hb;have F9:dA n V vs w o.after.toList:=xq _ fun e he hbd hlt=>hv e.on hlt (MF e (by simpa using he) hbd)
   have hgo:∀v w',S w w'→mJ V i v w'→wpAny P .any l.toArray Q (f+(l.length - n)) (listed.setIfInBounds i true) ((aJ vs 0 (l.take n) a0).put o.dst v) w':=fun v w' hS hV=>by
    have e:=qJ vs v (l.take n) 0 i a0 o hto hnd;rw [Nat.zero_add] at e;rw [←e];refine ih _ (dm vs i v) w' (inv.set hi hin) ?_ (jP w w' hJ hS) fun j hj hl=>?_
    ·have:=AP (listed:=listed) hin (by omega) (getD_both hun);omega
    ·by_cases hji:j=i
     ·subst hji;simpa [dm] using hV
     ·rw [getD_set_ne false (Ne.symm hji)] at hl
      have:=hst j (vs j) w w' hJ hS (hv j hj hl);simpa [dm,hji] using this
   have hw:=hb vs w hJ F9 (fun x a' w'=>match x with | .normal=>wpAny P .any l.toArray Q (f+(l.length - n)) (listed.setIfInBounds i true) a' w' | e=>Q e a' w') hgo;simp only [wpOp,ho];simp only [wpList] at hw
   split
   ·rename_i hwt
    rw [if_pos hwt] at hw;have hL:LetsOut (fun (x:Exit) a' w'=>match x with | .normal=>wpAny P .any l.toArray Q (f+(l.length - n)) (listed.setIfInBounds i true) a' w' | e=>Q e a' w')→LetsOut Q:=fun ⟨a,w,h⟩=>⟨a,w,h⟩
    rcases hw with hw | ⟨hw,MC⟩
    ·exact .inl (Aw (fun _ _ h=>h) (fun _ _ _ h=>h) hL _ hw)
    ·exact .inr ⟨hw,hL MC⟩
   ·rename_i hwt
    rw [if_neg hwt] at hw;exact hw
theorem bH {P:Program} {id:Nat} {Q:Exit→Act→World→Prop} {a:Act} {w:World} {l:List Oper} (n:Nat) (J:World→Prop) (S:World→World→Prop) (V:List VP) (hm:P.follows .mixedOrders=true) (hB:sS l n=true) (hV:V.length=n)
 (hJ:J { w with drawn:=w.drawn+1 }) (jP:∀w w',J w→S w w'→J w') (hst:∀i v w w',J w→S w w'→mJ V i v w→mJ V i v w')
 (ek:dY P l.toArray J S n V (fun vs=>aJ vs 0 (l.take n) a) 0 (l.take n))
 (hend:∀vs w,J w→eF vs w 0 V→wpList P l.toArray Q (l.drop n) (aJ vs 0 (l.take n) a) w):(Code.region id l.toArray true).wp P Q a w:=by
 refine wp_region_any hm ?_;have hB':=hB;simp only [sS,Bool.and_eq_true,decide_eq_true_eq,Bool.or_eq_true] at hB;obtain ⟨⟨⟨⟨hn,hnd⟩,F8⟩,htl⟩,hseq⟩:=hB;obtain ⟨LA,hsame⟩:∃LA,aJ LA 0 (l.take n) a=a:=⟨fun i=>match (l[i]?).bind (·.dst) with | some t=>a.tmps.getD t undef | none=>undef,oW a _ _ _ fun j o t hj ht=>by
  have hjn:j<n:=by
   rcases Nat.lt_or_ge j (l.take n).length with h | h
   ·simp at h;omega
   ·rw [List.getElem?_eq_none h] at hj;cases hj
  rw [List.getElem?_take_of_lt hjn] at hj;rw [Nat.zero_add,hj];simp [ht]⟩
 have inv0:HeadInv .any l.toArray n (Array.replicate l.toArray.size false) :=
  ⟨by simp,fun j oj _ hl=>(by rw [getD_replicate_false] at hl;cases hl),fun t _ ht=>getD_in (by simpa using ht) (getD_replicate_false _ _)⟩
 have ht0:todo n (Array.replicate l.toArray.size false)=n:=by
  rw [todo,List.countP_eq_length.2 fun i _=>by rw [getD_replicate_false];rfl,List.length_range]
 have:=GX (Q:=Q) (a0:=a) hB' hV jP hst ek (fun vs w hJ h=>hend vs w hJ (zl V 0 fun i hi=>by rw [Nat.zero_add];exact h i (by omega))) n _ LA _ inv0 ht0 hJ (fun i _ hl=>by rw [getD_replicate_false] at hl;cases hl);rw [hsame] at this;have hfu:n+(l.length - n)=l.toArray.size:=by simp;omega
 rw [hfu] at this;exact this
def aW (c:Value):VP:=fun v _=>v=c
theorem ax {J:World→Prop} {S:World→World→Prop} (c:Value):∀v w w',J w→S w w'→aW c v w→aW c v w':=fun _ _ _ _ _ h=>h
def FH (J:World→Prop) (S:World→World→Prop):List VP→Prop
 | []=>True
 | V::r=>(∀v w w',J w→S w w'→V v w→V v w')∧FH J S r
theorem bX {J:World→Prop} {S:World→World→Prop}:∀(V:List VP),FH J S V→∀i v w w',J w→S w w'→mJ V i v w→mJ V i v w'
 | [],_,i,_,_,_,_,_,h=>by simp [mJ]
 | V::r,hs,0,v,w,w',hJ,hS,h=>hs.1 v w w' hJ hS h
 | V::r,hs,i+1,v,w,w',hJ,hS,h=>by
   have:=bX r hs.2 i v w w' hJ hS (by simpa [mJ] using h);simpa [mJ] using this
theorem bZ.put {α:Type} {E k:Nat} {R:Rel α} (hR:cu R k) {w w':World} {g cap n:Nat} {l:List α} {S S':Nat→Prop} (h:bZ E k R w (.slice (some ⟨g,0,none⟩) n cap) l S) {i:Nat} (hi:i<l.length) {x:α} {cs:List Value}
 (hx':R w' cs x (fun b=>S' b∧b≠g)) (hrow:bW g w w') (hout:∀j,j<i*k∨i*k+k≤j→w'.cell? ⟨g,j,none⟩=w.cell? ⟨g,j,none⟩) (hin:∀(j:Nat) (u:Value),cs[j]?=some u→w'.cell? ⟨g,i*k+j,none⟩=some u)
 (hoth:∀(q:Nat) (r:List Value) (y:α),q≠i→l[q]?=some y→R w r y (fun b=>S b∧b≠g)→R w' r y (fun b=>S' b∧b≠g)):bZ E k R w' (.slice (some ⟨g,0,none⟩) n cap) (l.set i x) S':=by
 obtain ⟨rows,h1,h2,h3⟩:=h;have hcs:=hR.len hx';have hlen:=bZ.jq (E:=E) (v:=.slice (some ⟨g,0,none⟩) n cap) hR h1 h3
 rcases h2.2 with ⟨h,_⟩ | ⟨g',cap',cur,hv,hb0,hg,hc,hm,hsz,htk⟩
 ·simp at h
 simp only [Value.slice.injEq,Option.some.injEq,Addr.mk.injEq,and_true] at hv;obtain ⟨rfl,rfl,rfl⟩:=hv;obtain ⟨cur',hg',hs'⟩:=hrow cur E _ hg;have hlen':∀r∈rows.set i cs,r.length=k:=by
  intro r hr
  rcases List.mem_or_eq_of_mem_set hr with h | h
  ·exact hlen r h
  ·rw [h];exact hcs
 have hfl:(rows.set i cs).flatten.length=l.length*k:=by
  have:∀(rs:List (List Value)),(∀r∈rs,r.length=k)→rs.flatten.length=rs.length*k:=by
   intro rs;induction rs with
   | nil=>intro _;simp
   | cons r rs ih=>intro hh;simp only [List.flatten_cons,List.length_append,List.length_cons];rw [ih fun r hr=>hh r (by simp [hr]),hh r (by simp),Nat.add_mul];omega
  rw [this _ hlen',List.length_set,h1]
 refine ⟨rows.set i cs,by simp [h1],⟨by rw [hfl,List.length_set], .inr ⟨g,cap,cur',?_,hb0,hg',?_,hm,by rw [hs'];exact hsz,?_⟩⟩,fun q r y hr hy=>?_⟩
 ·rw [List.length_set]
 ·rw [List.length_set];exact hc
 ·rw [List.length_set]
  refine List.ext_getElem? fun j=>?_
  rcases Nat.lt_or_ge j (l.length*k) with hj | hj
  ·rw [List.getElem?_take_of_lt hj]
   have hkp:0<k:=by rcases Nat.eq_zero_or_pos k with h | h;(subst h;omega);exact h
   obtain ⟨u,hu⟩:∃u,(rows.set i cs).flatten[j]?=some u:=⟨_,List.getElem?_eq_getElem (by rw [hfl];exact hj)⟩;rw [hu];obtain ⟨r,hr,Ou⟩:=qd hkp _ hlen' j u hu;have hjj:j / k*k+j % k=j:=by rw [Nat.mul_comm];exact Nat.div_add_mod j k
   have hmod:=Nat.mod_lt j hkp;rw [Array.getElem?_toList,←dN hg' j]
   by_cases hq:j / k=i
   ·rw [hq,List.getElem?_set_self (by omega)] at hr
    cases hr;have:=hin (j % k) u Ou;rw [hq] at hjj
    rwa [hjj] at this
   ·rw [List.getElem?_set_ne (Ne.symm hq)] at hr
    rw [hout j ?_,dN hg j,←Array.getElem?_toList]
    ·have:=flatten_getElem? rows hlen (j / k) (j % k) r u hr Ou
     rw [hjj,←htk,List.getElem?_take_of_lt hj] at this;exact this
    ·rcases Nat.lt_or_ge (j / k) i with h | h
     ·left
      have:=Nat.mul_le_mul_right k (show j / k+1≤i by omega);rw [Nat.add_mul] at this;omega
     ·right
      have:=Nat.mul_le_mul_right k (show i+1≤j / k by omega);rw [Nat.add_mul] at this;omega
  ·rw [List.getElem?_eq_none (by rw [List.length_take];omega),List.getElem?_eq_none (by rw [hfl];exact hj)]
 ·have hS:∀b,S b∧some b≠(Value.slice (some ⟨g,0,none⟩) l.length cap).ownBlock→b<w.heap.size→S b∧b≠g:=fun b hb _=>⟨hb.1,fun e=>hb.2 (by rw [e];rfl)⟩
  have hS':∀b,S' b∧b≠g→b<w'.heap.size→S' b∧some b≠(Value.slice (some ⟨g,0,none⟩) (l.set i x).length cap).ownBlock:=fun b hb _=>⟨hb.1,fun e=>hb.2 (by simpa [Value.ownBlock] using e)⟩
  by_cases hq:q=i
  ·subst hq
   rw [List.getElem?_set_self (by omega)] at hr;rw [List.getElem?_set_self hi] at hy;cases hr;cases hy;exact hR.sub hx' fun b hb _=>⟨hb.1,fun e=>hb.2 (by simpa [Value.ownBlock] using e)⟩
  ·rw [List.getElem?_set_ne (Ne.symm hq)] at hr hy
   exact hR.sub (hoth q r y hq hy (hR.sub (h3 q r y hr hy) hS)) fun b hb _=>⟨hb.1,fun e=>hb.2 (by simpa [Value.ownBlock] using e)⟩
theorem CB {w w':World} {b:Nat} (h:w'.heap[b]?=w.heap[b]?) (hb:b<w.heap.size):b<w'.heap.size:=by
 have h3:w.heap[b]?=some (w.heap[b]'hb):=Array.getElem?_eq_getElem _;rw [h3] at h;exact (Array.getElem?_eq_some_iff.1 h).1
theorem lT.upd {α:Type} {E k:Nat} {R:Rel α} (hR:cu R k) {w:World} {g cap n:Nat} {l:List α} {S:Nat→Prop} (h:lT E k R w (.slice (some ⟨g,0,none⟩) n cap) l S) (i:Nat) (hi:i<l.length) :
 ∃row G,R w row l[i] G∧(∀b,G b→S b∧b≠g∧b<w.heap.size)∧(∀(j:Nat) (u:Value),row[j]?=some u→w.cell? ⟨g,i*k+j,none⟩=some u) ∧
  ∀(w':World) (S' G':Nat→Prop) (row':List Value) (x':α),bW g w w' →
   (∀j,j<i*k∨i*k+k≤j→w'.cell? ⟨g,j,none⟩=w.cell? ⟨g,j,none⟩)→(∀(j:Nat) (u:Value),row'[j]?=some u→w'.cell? ⟨g,i*k+j,none⟩=some u) →
   (∀b,S b→b≠g→¬ G b→b<w.heap.size→w'.heap[b]?=w.heap[b]?)→(∀b,S b→S' b)→(∀b,G' b→(G b∨w.heap.size≤b)∧S' b∧b≠g∧b<w'.heap.size)→R w' row' x' G' →
   lT E k R w' (.slice (some ⟨g,0,none⟩) n cap) (l.set i x') S':=by
 obtain ⟨l2,hm,hap,ho⟩:=h;have hl2:l2.length=l.length:=by rw [←hm,List.length_map]
 have hx2:l2[i]?=some (l2[i]'(by omega)):=List.getElem?_eq_getElem (by omega);obtain ⟨row,hrow,hcells⟩:=ho.at (xe hR) (show i<l2.length by omega);have Wp:(l2[i]'(by omega)).1=l[i]:=by
  have:(l2.map (·.1))[i]?=l[i]?:=by rw [hm]
  rw [List.getElem?_map,hx2,List.getElem?_eq_getElem hi] at this;simpa using this
 refine ⟨row,(l2[i]'(by omega)).2,Wp▸hrow.1,fun b hb=>⟨(hrow.2 b hb).1.1,(hrow.2 b hb).1.2,(hrow.2 b hb).2⟩,hcells,?_⟩;intro w' S' G' row' x' hkr hout hin hblk hSS hG' hx';have hgl:∀(q:Nat) (y:α×(Nat→Prop)),l2[q]?=some y→∀b,y.2 b→b<w.heap.size:=fun q y hy b hb=>ho.TL y (List.mem_of_getElem? hy) b hb
 refine ⟨l2.set i (x',G'),?_,?_,?_⟩
 ·rw [List.map_set,hm]
 ·have key:∀(q:Nat) (y:α×(Nat→Prop)),(l2.set i (x',G'))[q]?=some y→(q=i∧y=(x',G'))∨(q≠i∧l2[q]?=some y):=by
   intro q y hy
   by_cases hq:q=i
   ·subst hq
    rw [List.getElem?_set_self (by omega)] at hy;exact .inl ⟨rfl,by simpa using hy.symm⟩
   ·rw [List.getElem?_set_ne (Ne.symm hq)] at hy
    exact .inr ⟨hq,hy⟩
  intro p q x y b hp hq hxb hyb
  rcases key p x hp with ⟨h1,rfl⟩ | ⟨h1,h1'⟩<;>rcases key q y hq with ⟨h2,rfl⟩ | ⟨h2,h2'⟩
  ·omega
  ·rcases (hG' b hxb).1 with h | h
   ·exact absurd (hap q i y _ b h2' hx2 hyb h) h2
   ·have:=hgl q y h2' b hyb;omega
  ·rcases (hG' b hyb).1 with h | h
   ·exact absurd (hap p i x _ b h1' hx2 hxb h) h1
   ·have:=hgl p x h1' b hxb;omega
  ·exact hap p q x y b h1' h2' hxb hyb
 ·refine ho.put (xe hR) (by omega) (cs:=row') ⟨hx',fun b hb=>⟨⟨(hG' b hb).2.1,(hG' b hb).2.2.1⟩,(hG' b hb).2.2.2⟩⟩ hkr hout hin ?_
  intro q r y hq hy hr;have hne:∀b,y.2 b→¬ (l2[i]'(by omega)).2 b:=fun b hb hG=>hq (hap q i y _ b hy hx2 hb hG)
  refine ⟨hR.move hr.1 fun b hb hl=>⟨hblk b (hr.2 b hb).1.1 (hr.2 b hb).1.2 (hne b hb) hl,hb⟩,fun b hb=>?_⟩;have h4:=hr.2 b hb;exact ⟨⟨hSS b h4.1.1,h4.1.2⟩,CB (hblk b h4.1.1 h4.1.2 (hne b hb) h4.2) h4.2⟩
theorem bZ.sub {α:Type} {E k:Nat} {R:Rel α} (h:cu R k) {w:World} {v:Value} {l:List α} {S S':Nat→Prop} (ho:bZ E k R w v l S) (hs:∀b,S b→b<w.heap.size→S' b):bZ E k R w v l S' :=
 ho.move h (fun _ _=>rfl) fun b hb _ hl=>⟨rfl,hs b hb hl⟩
theorem lT.sub {α:Type} {E k:Nat} {R:Rel α} (hR:cu R k) {w:World} {v:Value} {l:List α} {S S':Nat→Prop} (h:lT E k R w v l S) (hs:∀b,S b→b<w.heap.size→S' b):lT E k R w v l S':=by
 obtain ⟨l2,hm,ha,ho⟩:=h;exact ⟨l2,hm,ha,ho.sub (xe hR) hs⟩
theorem lT.thaw {α:Type} {E k:Nat} {R:Rel α} {w:World} {g n cap:Nat} {l:List α} {S:Nat→Prop} (h:lT E k R w (.slice (some ⟨g,0,none⟩) n cap) l S) (hl:0<l.length) (j:Nat):w.frozen? ⟨g,j,none⟩=false:=by
 obtain ⟨g',cap',e,_,_,_,hf⟩:=h.pO hl;simp only [Value.slice.injEq,Option.some.injEq,Addr.mk.injEq,and_true] at e;rw [e.1];exact hf j
theorem Lt {P:Program} {c:Code} {K:Exit→Act→World→Prop} {a:Act} {w:World} (F:World→Prop) (h:F w) (k:∀w',F w'→Code.wp P c K a w'):Code.wp P c K a w:=k w h
theorem eZ {K:Act→World→Prop} {Q:Exit→Act→World→Prop} {a:Act} {w:World} (F:World→Prop) (h:F w) (k:∀w',F w'→Exit.then K Q Exit.normal a w'):Exit.then K Q Exit.normal a w:=k w h
theorem heap_drewN (w:World) (q b:Nat):(w.drewN q).heap[b]?=w.heap[b]?:=rfl
theorem below_alloc2 (w:World) (o o':Obj):Below w.heap.size w ((w.alloc o).alloc o'):=(aj w o).alloc (by rw [World.size_alloc];omega) o'
theorem fq (w:World) (o o':Obj):((w.alloc o).alloc o').heap.size=w.heap.size+2:=by rw [World.size_alloc,World.size_alloc]
theorem ic {w w':World} {c d:Array Value} {t t':TypeId} (h:Below (w.heap.size+2) ((w.alloc (.cells c t)).alloc (.cells d t')) w') :
 (∀i,w'.cell? ⟨w.heap.size,i,none⟩=c[i]?)∧(∀i,w'.frozen? ⟨w.heap.size,i,none⟩=false)∧(∀i,w'.cell? ⟨w.heap.size+1,i,none⟩=d[i]?)∧(∀i,w'.frozen? ⟨w.heap.size+1,i,none⟩=false)∧w.heap.size+1<w'.heap.size:=by
 have h1:(w.alloc (.cells c t)).heap.size=w.heap.size+1:=World.size_alloc _ _;have hb:Below (w.heap.size+1) (w.alloc (.cells c t)) w':=((h1▸aj (w.alloc (.cells c t)) (.cells d t')):Below (w.heap.size+1) _ _).trans (h.mono (by omega));obtain ⟨a1,a2,a3⟩:=fresh hb;have hb2:Below ((w.alloc (.cells c t)).heap.size+1) ((w.alloc (.cells c t)).alloc (.cells d t')) w':=by rw [h1];exact h
 obtain ⟨b1,b2,b3⟩:=fresh hb2;rw [h1] at b1 b2 b3;exact ⟨a1,a2,b1,b2,b3⟩
structure aD (w:World) (b:Nat) (cs:List Value):Prop where
 cell:∀(j:Nat) (u:Value),cs[j]?=some u→w.cell? ⟨b,j,none⟩=some u
 thaw:∀j,w.frozen? ⟨b,j,none⟩=false
 lt:b<w.heap.size
theorem aD.keep {w w':World} {b:Nat} {cs:List Value} (h:aD w b cs) (hb:w'.heap[b]?=w.heap[b]?):aD w' b cs :=
 ⟨fun j u hu=>aB (h.cell j u hu) hb,fun j=>(World.frozen?_of_block (a:=⟨b,j,none⟩) hb).trans (h.thaw j),by
  have hs:w.heap[b]?=some (w.heap[b]'h.lt):=Array.getElem?_eq_getElem h.lt;rw [←hb] at hs;exact (Array.getElem?_eq_some_iff.1 hs).1⟩
theorem aD.below {w w':World} {b:Nat} {cs:List Value} (h:aD w b cs) (hb:Below w.heap.size w w'):aD w' b cs:=h.keep (hb.block b h.lt)
theorem aD.set {w:World} {b:Nat} {cs:List Value} (h:aD w b cs) (i:Nat) (hi:i<cs.length) (u:Value):aD (w.setCell ⟨b,i,none⟩ u) b (cs.set i u):=by
 refine ⟨fun j v hv=>?_,fun j=>(World.frozen?_setCell _ _ _ _).trans (h.thaw j),by rw [World.size_setCell];exact h.lt⟩
 by_cases hij:i=j
 ·subst hij
  rw [List.getElem?_set_self hi] at hv;cases hv;exact World.cell?_setCell_same w ⟨b,i,none⟩ u (h.cell i _ (List.getElem?_eq_getElem hi))
 ·rw [List.getElem?_set_ne hij] at hv
  exact (bK hij).trans (h.cell j v hv)
theorem aD.new {w:World} {cs:List Value} {E:Nat}:aD (w.alloc (.cells cs.toArray E)) w.heap.size cs :=
 ⟨fun j u hu=>(World.cell?_alloc_at _ _ _ _ rfl).trans (by simpa using hu),fun j=>World.frozen?_alloc_at _ _ _ _ rfl,by rw [World.size_alloc];omega⟩
theorem aD.grown {w w':World} {b:Nat} {cs:List Value} {r:Option Nat} (h:aD w b cs) (hg:w.grownBy w' r) (hne:some b≠r):aD w' b cs:=h.keep (hg.block b h.lt hne)
theorem aD.far {w:World} {b c:Nat} {cs:List Value} (h:aD w b cs) (hne:b≠c) (o:Nat) (u:Value):aD (w.setCell ⟨c,o,none⟩ u) b cs:=h.keep (aC hne)
theorem aD.drew {w:World} {b:Nat} {cs:List Value} (h:aD w b cs):aD w.drew b cs:=h.keep rfl
theorem bZ.inBlock {α:Type} {E k:Nat} {R:Rel α} {w:World} {a:Option Addr} {n cap:Nat} {l:List α} {S:Nat→Prop} (h:bZ E k R w (.slice a n cap) l S) (hl:0<l.length):∃g,a=some ⟨g,0,none⟩:=by
 obtain ⟨rows,h1,h2,h3⟩:=h
 rcases h2.2 with ⟨hv,h0⟩ | ⟨g,cap',cur,hv,_⟩
 ·simp only [Value.slice.injEq] at hv;omega
 ·simp only [Value.slice.injEq] at hv
  exact ⟨g,hv.1⟩
theorem bZ.D9 {α:Type} {E k:Nat} {R:Rel α} {w:World} {v:Value} {l:List α} {S:Nat→Prop} (h:bZ E k R w v l S):(v=iN∧l=[])∨∃g cap,v=.slice (some ⟨g,0,none⟩) l.length cap:=by
 obtain ⟨rows,h1,h2,h3⟩:=h
 rcases h2.2 with ⟨hv,h0⟩ | ⟨g,cap',cur,hv,_⟩
 ·exact .inl ⟨hv,List.eq_nil_of_length_eq_zero (by omega)⟩
 ·exact .inr ⟨g,cap',hv⟩
theorem FM {v v':Value} {B:Nat} {w:World} (h:∀g,v.ownBlock=some g→B<g) (hB:B<w.heap.size) (hv:v'.ownBlock=v.ownBlock∨∃x,v'.ownBlock=some x∧w.heap.size≤x):∀g,v'.ownBlock=some g→B<g:=fun g hg=>by
 rcases hv with e | ⟨y,e,hy⟩
 ·exact h g (by rw [←e];exact hg)
 ·rw [e] at hg;cases hg;omega
theorem bZ.room {α:Type} {E k:Nat} {R:Rel α} {w:World} {a:Option Addr} {n cap:Nat} {l:List α} {S:Nat→Prop} (h:bZ E k R w (.slice a n cap) l S):l.length≤cap∧cap≤maxLen:=by
 obtain ⟨rows,h1,h2,h3⟩:=h
 rcases h2.2 with ⟨hv,h0⟩ | ⟨g,cap',cur,hv,-,-,h4,h5,-⟩
 ·simp only [Value.slice.injEq] at hv
  exact ⟨by omega,by unfold maxLen;omega⟩
 ·simp only [Value.slice.injEq] at hv
  obtain ⟨-,-,rfl⟩:=hv;exact ⟨h4,h5⟩
theorem qw {w:World} {b:Nat} {a0 a1:Value} {r:List Value} (h:aD w b (a0::a1::r)):w.cell? ⟨b,0,none⟩=some a0∧w.cell? ⟨b,1,none⟩=some a1:=⟨h.cell 0 _ rfl,h.cell 1 _ rfl⟩
theorem OO {w:World} {b:Nat} {cs:List Value} (h:aD w b cs):w.frozen? ⟨b,0,none⟩=false∧w.frozen? ⟨b,1,none⟩=false:=⟨h.thaw 0,h.thaw 1⟩
theorem gV {w:World} {b:Nat} {a0 a1 a2:Value} {r:List Value} (h:aD w b (a0::a1::a2::r)):w.cell? ⟨b,0,none⟩=some a0∧w.cell? ⟨b,1,none⟩=some a1∧w.cell? ⟨b,2,none⟩=some a2:=⟨h.cell 0 _ rfl,h.cell 1 _ rfl,h.cell 2 _ rfl⟩
theorem rH {w:World} {b:Nat} {cs:List Value} (h:aD w b cs):w.frozen? ⟨b,0,none⟩=false∧w.frozen? ⟨b,1,none⟩=false∧w.frozen? ⟨b,2,none⟩=false:=⟨h.thaw 0,h.thaw 1,h.thaw 2⟩
theorem dJ {w:World} {b:Nat} {a0 a1 a2 a3:Value} {r:List Value} (h:aD w b (a0::a1::a2::a3::r)):w.cell? ⟨b,0,none⟩=some a0∧w.cell? ⟨b,1,none⟩=some a1∧w.cell? ⟨b,2,none⟩=some a2∧w.cell? ⟨b,3,none⟩=some a3:=⟨h.cell 0 _ rfl,h.cell 1 _ rfl,h.cell 2 _ rfl,h.cell 3 _ rfl⟩
theorem nH {w:World} {b:Nat} {cs:List Value} (h:aD w b cs):w.frozen? ⟨b,0,none⟩=false∧w.frozen? ⟨b,1,none⟩=false∧w.frozen? ⟨b,2,none⟩=false∧w.frozen? ⟨b,3,none⟩=false:=⟨h.thaw 0,h.thaw 1,h.thaw 2,h.thaw 3⟩
theorem IP {w:World} {b:Nat} {a0 a1 a2 a3 a4:Value} {r:List Value} (h:aD w b (a0::a1::a2::a3::a4::r)):w.cell? ⟨b,0,none⟩=some a0∧w.cell? ⟨b,1,none⟩=some a1∧w.cell? ⟨b,2,none⟩=some a2∧w.cell? ⟨b,3,none⟩=some a3∧w.cell? ⟨b,4,none⟩=some a4:=⟨h.cell 0 _ rfl,h.cell 1 _ rfl,h.cell 2 _ rfl,h.cell 3 _ rfl,h.cell 4 _ rfl⟩
theorem Xb {w:World} {b:Nat} {cs:List Value} (h:aD w b cs):w.frozen? ⟨b,0,none⟩=false∧w.frozen? ⟨b,1,none⟩=false∧w.frozen? ⟨b,2,none⟩=false∧w.frozen? ⟨b,3,none⟩=false∧w.frozen? ⟨b,4,none⟩=false:=⟨h.thaw 0,h.thaw 1,h.thaw 2,h.thaw 3,h.thaw 4⟩
theorem IM {w:World} {b:Nat} {a0 a1 a2 a3 a4 a5:Value} {r:List Value} (h:aD w b (a0::a1::a2::a3::a4::a5::r)):w.cell? ⟨b,0,none⟩=some a0∧w.cell? ⟨b,1,none⟩=some a1∧w.cell? ⟨b,2,none⟩=some a2∧w.cell? ⟨b,3,none⟩=some a3∧w.cell? ⟨b,4,none⟩=some a4∧w.cell? ⟨b,5,none⟩=some a5:=⟨h.cell 0 _ rfl,h.cell 1 _ rfl,h.cell 2 _ rfl,h.cell 3 _ rfl,h.cell 4 _ rfl,h.cell 5 _ rfl⟩
theorem TP {w:World} {b:Nat} {cs:List Value} (h:aD w b cs):w.frozen? ⟨b,0,none⟩=false∧w.frozen? ⟨b,1,none⟩=false∧w.frozen? ⟨b,2,none⟩=false∧w.frozen? ⟨b,3,none⟩=false∧w.frozen? ⟨b,4,none⟩=false∧w.frozen? ⟨b,5,none⟩=false:=⟨h.thaw 0,h.thaw 1,h.thaw 2,h.thaw 3,h.thaw 4,h.thaw 5⟩
theorem gM {w:World} {b:Nat} {a0 a1 a2 a3 a4 a5 a6:Value} {r:List Value} (h:aD w b (a0::a1::a2::a3::a4::a5::a6::r)):w.cell? ⟨b,0,none⟩=some a0∧w.cell? ⟨b,1,none⟩=some a1∧w.cell? ⟨b,2,none⟩=some a2∧w.cell? ⟨b,3,none⟩=some a3∧w.cell? ⟨b,4,none⟩=some a4∧w.cell? ⟨b,5,none⟩=some a5∧w.cell? ⟨b,6,none⟩=some a6:=⟨h.cell 0 _ rfl,h.cell 1 _ rfl,h.cell 2 _ rfl,h.cell 3 _ rfl,h.cell 4 _ rfl,h.cell 5 _ rfl,h.cell 6 _ rfl⟩
theorem sK {w:World} {b:Nat} {cs:List Value} (h:aD w b cs):w.frozen? ⟨b,0,none⟩=false∧w.frozen? ⟨b,1,none⟩=false∧w.frozen? ⟨b,2,none⟩=false∧w.frozen? ⟨b,3,none⟩=false∧w.frozen? ⟨b,4,none⟩=false∧w.frozen? ⟨b,5,none⟩=false∧w.frozen? ⟨b,6,none⟩=false:=⟨h.thaw 0,h.thaw 1,h.thaw 2,h.thaw 3,h.thaw 4,h.thaw 5,h.thaw 6⟩
theorem wF {w:World} {b:Nat} {a0 a1 a2 a3 a4 a5 a6 a7:Value} {r:List Value} (h:aD w b (a0::a1::a2::a3::a4::a5::a6::a7::r)):w.cell? ⟨b,0,none⟩=some a0∧w.cell? ⟨b,1,none⟩=some a1∧w.cell? ⟨b,2,none⟩=some a2∧w.cell? ⟨b,3,none⟩=some a3∧w.cell? ⟨b,4,none⟩=some a4∧w.cell? ⟨b,5,none⟩=some a5∧w.cell? ⟨b,6,none⟩=some a6∧w.cell? ⟨b,7,none⟩=some a7:=⟨h.cell 0 _ rfl,h.cell 1 _ rfl,h.cell 2 _ rfl,h.cell 3 _ rfl,h.cell 4 _ rfl,h.cell 5 _ rfl,h.cell 6 _ rfl,h.cell 7 _ rfl⟩
theorem OM {w:World} {b:Nat} {cs:List Value} (h:aD w b cs):w.frozen? ⟨b,0,none⟩=false∧w.frozen? ⟨b,1,none⟩=false∧w.frozen? ⟨b,2,none⟩=false∧w.frozen? ⟨b,3,none⟩=false∧w.frozen? ⟨b,4,none⟩=false∧w.frozen? ⟨b,5,none⟩=false∧w.frozen? ⟨b,6,none⟩=false∧w.frozen? ⟨b,7,none⟩=false:=⟨h.thaw 0,h.thaw 1,h.thaw 2,h.thaw 3,h.thaw 4,h.thaw 5,h.thaw 6,h.thaw 7⟩
theorem tQ {w w1:World} {o:Obj} (h:w.alloc o=w1):Below w.heap.size w w1:=h▸aj w o
theorem tO {w w1:World} {cs:List Value} {E:Nat} (h:w.alloc (.cells cs.toArray E)=w1):aD w1 w.heap.size cs:=h▸aD.new
end Go.Tk
