/- A part of the proof, laid together from: CmdC, CustC, CloneWait, CustE, PlanD, PlanE, SnapA. -/
import Derived.Test.YtbngpjdflblffaaGreatDoorPa13
set_option linter.all false
set_option maxRecDepth 100000
set_option maxHeartbeats 8000000
namespace Go.Tk
open Go Go.RowKit
abbrev VD:=(Nat→Value)→Value→World→Prop
def vv (V:List VD) (i:Nat):VD:=V.getD i (fun _ _ _=>True)
def su (n:Nat) (V:List VD) (vs:Nat→Value) (w:World):List Edge→Prop
 | []=>True
 | e::r=>(Region.binds .any e=true→e.on<n→vv V e.on vs (vs e.on) w)∧su n V vs w r
def FJ (P:Program) (ops:Array Oper) (J:World→Prop) (S:Nat→World→World→Prop) (n:Nat) (V:List VD) (F:(Nat→Value)→Act) (i:Nat) (o:Oper):Prop :=
 ∀(vs:Nat→Value) (w:World),J w→su n V vs w o.after.toList→∀K:Exit→Act→World→Prop,(∀v w',S i w w'→vv V i vs v w'→K .normal ((F vs).put o.dst v) w')→wpList P ops K [o] (F vs) w
def uT (P:Program) (ops:Array Oper) (J:World→Prop) (S:Nat→World→World→Prop) (n:Nat) (V:List VD) (F:(Nat→Value)→Act):Nat→List Oper→Prop
 | _,[]=>True
 | i,o::r=>FJ P ops J S n V F i o∧uT P ops J S n V F (i+1) r
def yx (vs:Nat→Value) (w:World):Nat→List VD→Prop
 | _,[]=>True
 | i,V::r=>V vs (vs i) w∧yx vs w (i+1) r
theorem vL {n:Nat} {V:List VD} {vs:Nat→Value} {w:World}:∀(l:List Edge),(∀e∈l,Region.binds .any e=true→e.on<n→vv V e.on vs (vs e.on) w)→su n V vs w l
 | [],_=>trivial
 | e::r,h=>⟨h e (by simp),vL r fun e he=>h e (by simp [he])⟩
theorem xw {vs:Nat→Value} {w:World}:∀(V:List VD) (k:Nat),(∀i,i<V.length→vv V i vs (vs (k+i)) w)→yx vs w k V
 | [],_,_=>trivial
 | V::r,k,h=>⟨h 0 (by simp),xw r (k+1) fun i hi=>by
    have:=h (i+1) (by simp;omega);rw [show k+(i+1)=k+1+i by omega] at this;exact this⟩
theorem xm {P:Program} {ops:Array Oper} {J:World→Prop} {S:Nat→World→World→Prop} {n:Nat} {V:List VD} {F:(Nat→Value)→Act}:∀(l:List Oper) (k i:Nat) (o:Oper),uT P ops J S n V F k l→l[i]?=some o→FJ P ops J S n V F (k+i) o
 | [],_,_,_,_,h=>by simp at h
 | o'::r,k,0,o,h,ho=>by simp only [List.getElem?_cons_zero,Option.some.injEq] at ho;subst ho;exact h.1
 | o'::r,k,i+1,o,h,ho=>by
   have:=xm r (k+1) i o h.2 (by simpa using ho)
   rwa [show k+1+i=k+(i+1) by omega] at this
theorem EW {P:Program} {l:List Oper} {n:Nat} {Q:Exit→Act→World→Prop} {a0:Act} {J:World→Prop} {S:Nat→World→World→Prop} {V:List VD} (hB:sS l n=true) (_hV:V.length=n)
 (jP:∀i w w',i<n→J w→S i w w'→J w') (hst:∀i j vs x w w',i<n→j<n→i≠j→Region.waitsFor .any l.toArray j i=false→J w→S i w w'→vv V j vs (vs j) w→vv V j (dm vs i x) (vs j) w')
 (wB:∀i vs v w,i<n→vv V i vs v w→vv V i (dm vs i v) v w)
 (ek:uT P l.toArray J S n V (fun vs=>aJ vs 0 (l.take n) a0) 0 (l.take n))
 (hend:∀vs w,J w→(∀i,i<n→vv V i vs (vs i) w)→wpList P l.toArray Q (l.drop n) (aJ vs 0 (l.take n) a0) w) :
 ∀(f:Nat) (listed:Array Bool) (vs:Nat→Value) (w:World),HeadInv .any l.toArray n listed→todo n listed=f→J w→(∀i,i<n→listed.getD i false=true→vv V i vs (vs i) w) →
  wpAny P .any l.toArray Q (f+(l.length - n)) listed (aJ vs 0 (l.take n) a0) w:=by
 simp only [sS,Bool.and_eq_true,decide_eq_true_eq,Bool.or_eq_true] at hB;obtain ⟨⟨⟨⟨hn,hnd⟩,F8⟩,htl⟩,hseq⟩:=hB;have htk:(l.take n).length=n:=by simp;omega
 intro f
 induction f with
 | zero =>
   intro listed vs w inv ht hJ hv;have hall:∀i,i<n→listed.getD i false=true:=fun i hi=>by
    have:=List.countP_eq_zero.1 ht i (List.mem_range.2 hi);simpa using this
   have hle:listed=(Array.replicate n true)++Array.replicate (l.length - n) false:=by
    have hsz:listed.size=l.length:=by rw [inv.size];simp
    apply Array.ext
    ·simp;omega
    ·intro j h1 h2
     by_cases hj:j<n
     ·have:=hall j hj
      simp [h1] at this;rw [this,Array.getElem_append_left (by simpa using hj)];simp
     ·have:=inv.tail j (by omega) (by simpa [hsz] using h1)
      simp [h1] at this;rw [this,Array.getElem_append_right (by simpa using hj)];simp
   have hdl:(l.drop n).length=l.length - n:=by simp
   have:=wpAny_of_seq (md:=.any) (Q':=Q) (l.drop n) n listed (aJ vs 0 (l.take n) a0) w (fun j=>by simp [List.getElem?_drop]) (by rw [hdl,hle];exact hseq) (hend vs w hJ fun i hi=>hv i hi (hall i hi));rw [hdl] at this;rw [Nat.zero_add];exact this
 | succ f ih =>
   intro listed vs w inv ht hJ hv;have hsz:listed.size=l.length:=by rw [inv.size];simp
   obtain ⟨i0,hi0,F7,hmin⟩:∃i,i<n∧listed.getD i true=false∧∀j,j<i→listed.getD j false=true:=by
    have hex:∃i,i<n∧listed.getD i false=false:=by
     have hpos:0<(List.range n).countP fun i=>!listed.getD i false:=by rw [todo] at ht;omega
     obtain ⟨i,hi,hp⟩:=List.countP_pos_iff.1 hpos;exact ⟨i,List.mem_range.1 hi,by simpa using hp⟩
    have key:∀m i,i<n→listed.getD i false=false→i≤m→∃i,i<n∧listed.getD i false=false∧∀j,j<i→listed.getD j false=true:=by
     intro m
     induction m with
     | zero=>intro i hi hf hm;exact ⟨i,hi,hf,fun j hj=>by omega⟩
     | succ m Sz =>
       intro i hi hf hm
       by_cases hsm:∃j,j<i∧listed.getD j false=false
       ·obtain ⟨j,hj,Tj⟩:=hsm
        exact Sz j (by omega) Tj (by omega)
       ·refine ⟨i,hi,hf,fun j hj=>?_⟩
        cases hc:listed.getD j false with
        | true=>rfl
        | false=>exact absurd ⟨j,hj,hc⟩ hsm
    obtain ⟨i,hi,hf⟩:=hex;obtain ⟨i,hi,hf,hmin⟩:=key i i hi hf (Nat.le_refl _);exact ⟨i,hi,getD_in (by omega) hf,hmin⟩
   have hlow:∀t,n≤t→t∉Region.ready .any l.toArray listed:=fun t ht' hr=>by
    rcases htl with htl | htl
    ·obtain ⟨_,o,ho,_⟩:=mem_ready.1 hr
     have:=(Array.getElem?_eq_some_iff.1 ho).1;simp at this;omega
    ·by_cases hnl:n<l.length
     ·exact tail_waits htl.1 htl.2 (by simpa using hnl) inv _ i0 rfl hi0 F7 t ht' hr
     ·obtain ⟨_,o,ho,_⟩:=mem_ready.1 hr
      have:=(Array.getElem?_eq_some_iff.1 ho).1;simp at this;omega
   have uu:i0∈Region.ready .any l.toArray listed:=by
    have hlt:i0<l.length:=by omega
    refine mem_ready.2 ⟨F7,l[i0],by simp,fun e he hb=>?_⟩;have h1:=List.all_eq_true.1 F8 i0 (List.mem_range.2 hi0);rw [List.getElem?_eq_getElem hlt] at h1;simp only [Option.map_some,Option.getD_some] at h1;have h2:=Array.all_eq_true'.1 h1 e he;simp only [Bool.or_eq_true,Bool.not_eq_eq_eq_not,Bool.not_true,decide_eq_true_eq] at h2
    rcases h2 with h2 | h2
    ·rw [hb] at h2;cases h2
    ·exact hmin _ h2
   rw [show f+1+(l.length - n)=(f+(l.length - n))+1 by omega];refine ⟨fun h=>(by rw [h] at uu;cases uu),fun i hi=>?_⟩;have hin:i<n:=by
    rcases Nat.lt_or_ge i n with h | h
    ·exact h
    ·exact absurd hi (hlow i h)
   obtain ⟨hun,o,ho,MF⟩:=mem_ready.1 hi;have hlo:l[i]?=some o:=by simpa using ho
   have hto:(l.take n)[i]?=some o:=by rw [List.getElem?_take_of_lt hin];exact hlo
   have hb:=xm (l.take n) 0 i o ek hto;rw [Nat.zero_add] at hb;have F9:su n V vs w o.after.toList:=vL _ fun e he hbd hlt=>hv e.on hlt (MF e (by simpa using he) hbd)
   have hgo:∀v w',S i w w'→vv V i vs v w'→wpAny P .any l.toArray Q (f+(l.length - n)) (listed.setIfInBounds i true) ((aJ vs 0 (l.take n) a0).put o.dst v) w':=fun v w' hS hV=>by
    have e:=qJ vs v (l.take n) 0 i a0 o hto hnd;rw [Nat.zero_add] at e;rw [←e];refine ih _ (dm vs i v) w' (inv.set hi hin) ?_ (jP i w w' hin hJ hS) fun j hj hl=>?_
    ·have:=AP (listed:=listed) hin (by omega) (getD_both hun);omega
    ·by_cases hji:j=i
     ·subst hji
      have hself:vv V j (dm vs j v) v w':=wB j vs v w' hin hV;simpa [dm] using hself
     ·rw [getD_set_ne false (Ne.symm hji)] at hl
      have hwf:Region.waitsFor .any l.toArray j i=false:=by
       cases hc:Region.waitsFor .any l.toArray j i
       ·rfl
       ·obtain ⟨oj,hoj,e,he,hbe,WA⟩:=Region.waitsFor_spec hc
        have h1:=inv.closed j oj hoj hl e he hbe;rw [WA] at h1;rw [getD_both hun] at h1;cases h1
      have:=hst i j vs v w w' hin hj (Ne.symm hji) hwf hJ hS (hv j hj hl);simpa [dm,hji] using this
   have hw:=hb vs w hJ F9 (fun x a' w'=>match x with | .normal=>wpAny P .any l.toArray Q (f+(l.length - n)) (listed.setIfInBounds i true) a' w' | e=>Q e a' w') hgo;simp only [wpOp,ho];simp only [wpList] at hw
   split
   ·rename_i hwt
    rw [if_pos hwt] at hw;have hL:LetsOut (fun (x:Exit) a' w'=>match x with | .normal=>wpAny P .any l.toArray Q (f+(l.length - n)) (listed.setIfInBounds i true) a' w' | e=>Q e a' w')→LetsOut Q:=fun ⟨a,w,h⟩=>⟨a,w,h⟩
    rcases hw with hw | ⟨hw,MC⟩
    ·exact .inl (Aw (fun _ _ h=>h) (fun _ _ _ h=>h) hL _ hw)
    ·exact .inr ⟨hw,hL MC⟩
   ·rename_i hwt
    rw [if_neg hwt] at hw;exact hw
theorem K8 {P:Program} {id:Nat} {Q:Exit→Act→World→Prop} {a:Act} {w:World} {l:List Oper} (n:Nat) (J:World→Prop) (S:Nat→World→World→Prop) (V:List VD) (hm:P.follows .mixedOrders=true) (hB:sS l n=true) (hV:V.length=n)
 (hJ:J { w with drawn:=w.drawn+1 }) (jP:∀i w w',i<n→J w→S i w w'→J w') (hst:∀i j vs x w w',i<n→j<n→i≠j→Region.waitsFor .any l.toArray j i=false→J w→S i w w'→vv V j vs (vs j) w→vv V j (dm vs i x) (vs j) w')
 (wB:∀i vs v w,i<n→vv V i vs v w→vv V i (dm vs i v) v w)
 (ek:uT P l.toArray J S n V (fun vs=>aJ vs 0 (l.take n) a) 0 (l.take n))
 (hend:∀vs w,J w→yx vs w 0 V→wpList P l.toArray Q (l.drop n) (aJ vs 0 (l.take n) a) w):(Code.region id l.toArray true).wp P Q a w:=by
 refine wp_region_any hm ?_;have hB':=hB;simp only [sS,Bool.and_eq_true,decide_eq_true_eq,Bool.or_eq_true] at hB;obtain ⟨⟨⟨⟨hn,hnd⟩,F8⟩,htl⟩,hseq⟩:=hB;obtain ⟨LA,hsame⟩:∃LA,aJ LA 0 (l.take n) a=a:=⟨fun i=>match (l[i]?).bind (·.dst) with | some t=>a.tmps.getD t undef | none=>undef,oW a _ _ _ fun j o t hj ht=>by
  have hjn:j<n:=by
   rcases Nat.lt_or_ge j (l.take n).length with h | h
   ·simp at h;omega
   ·rw [List.getElem?_eq_none h] at hj;cases hj
  rw [List.getElem?_take_of_lt hjn] at hj;rw [Nat.zero_add,hj];simp [ht]⟩
 have inv0:HeadInv .any l.toArray n (Array.replicate l.toArray.size false) :=
  ⟨by simp,fun j oj _ hl=>(by rw [getD_replicate_false] at hl;cases hl),fun t _ ht=>getD_in (by simpa using ht) (getD_replicate_false _ _)⟩
 have ht0:todo n (Array.replicate l.toArray.size false)=n:=by
  rw [todo,List.countP_eq_length.2 fun i _=>by rw [getD_replicate_false];rfl,List.length_range]
 have:=EW (Q:=Q) (a0:=a) hB' hV jP hst wB ek (fun vs w hJ h=>hend vs w hJ (xw V 0 fun i hi=>by rw [Nat.zero_add];exact h i (by omega))) n _ LA _ inv0 ht0 hJ (fun i _ hl=>by rw [getD_replicate_false] at hl;cases hl);rw [hsame] at this;have hfu:n+(l.length - n)=l.toArray.size:=by simp;omega
 rw [hfu] at this;exact this
abbrev VE:=(Nat→Bool)→(Nat→Value)→Value→World→Prop
def mM (V:List VE) (i:Nat):VE:=V.getD i (fun _ _ _ _=>True)
def bJ (done:Nat→Bool) (i:Nat):Nat→Bool:=fun j=>if j=i then true else done j
abbrev SE:=Nat→(Nat→Value)→Value→World→World→Prop
def FI (P:Program) (ops:Array Oper) (J:(Nat→Bool)→World→Prop) (S:SE) (n:Nat) (V:List VE) (F:(Nat→Value)→Act) (i:Nat) (o:Oper):Prop :=
 ∀(done:Nat→Bool) (vs:Nat→Value) (w:World),J done w→done i=false→(∀j,j<n→done j=true→mM V j done vs (vs j) w)→(∀e∈o.after.toList,Region.binds .any e=true→e.on<n→done e.on=true) →
  ∀K:Exit→Act→World→Prop,(∀v w',S i vs v w w'→mM V i done vs v w'→K .normal ((F vs).put o.dst v) w')→wpList P ops K [o] (F vs) w
def gm (P:Program) (ops:Array Oper) (J:(Nat→Bool)→World→Prop) (S:SE) (n:Nat) (V:List VE) (F:(Nat→Value)→Act):Nat→List Oper→Prop
 | _,[]=>True
 | i,o::r=>FI P ops J S n V F i o∧gm P ops J S n V F (i+1) r
theorem xk {P:Program} {ops:Array Oper} {J:(Nat→Bool)→World→Prop} {S:SE} {n:Nat} {V:List VE} {F:(Nat→Value)→Act}:∀(l:List Oper) (k i:Nat) (o:Oper),gm P ops J S n V F k l→l[i]?=some o→FI P ops J S n V F (k+i) o
 | [],_,_,_,_,h=>by simp at h
 | o'::r,k,0,o,h,ho=>by simp only [List.getElem?_cons_zero,Option.some.injEq] at ho;subst ho;exact h.1
 | o'::r,k,i+1,o,h,ho=>by
   have:=xk r (k+1) i o h.2 (by simpa using ho)
   rwa [show k+1+i=k+(i+1) by omega] at this
def yw (done:Nat→Bool) (vs:Nat→Value) (w:World):Nat→List VE→Prop
 | _,[]=>True
 | i,V::r=>V done vs (vs i) w∧yw done vs w (i+1) r
theorem xu {done:Nat→Bool} {vs:Nat→Value} {w:World}:∀(V:List VE) (k:Nat),(∀i,i<V.length→mM V i done vs (vs (k+i)) w)→yw done vs w k V
 | [],_,_=>trivial
 | V::r,k,h=>⟨h 0 (by simp),xu r (k+1) fun i hi=>by
    have:=h (i+1) (by simp;omega);rw [show k+(i+1)=k+1+i by omega] at this;exact this⟩
theorem EU {P:Program} {l:List Oper} {n:Nat} {Q:Exit→Act→World→Prop} {a0:Act} {J:(Nat→Bool)→World→Prop} {S:SE} {V:List VE} (hB:sS l n=true) (_hV:V.length=n)
 (jP:∀i done vs x w w',i<n→done i=false→J done w→S i vs x w w'→J (bJ done i) w') (hst:∀i j done vs x w w',i<n→j<n→i≠j→done i=false→done j=true→Region.waitsFor .any l.toArray j i=false→J done w→S i vs x w w'→mM V i done vs x w'→mM V j done vs (vs j) w→mM V j (bJ done i) (dm vs i x) (vs j) w')
 (wB:∀i done vs v w,i<n→mM V i done vs v w→mM V i (bJ done i) (dm vs i v) v w)
 (ek:gm P l.toArray J S n V (fun vs=>aJ vs 0 (l.take n) a0) 0 (l.take n))
 (hend:∀done vs w,J done w→(∀i,i<n→done i=true)→(∀i,i<n→mM V i done vs (vs i) w)→wpList P l.toArray Q (l.drop n) (aJ vs 0 (l.take n) a0) w) :
 ∀(f:Nat) (listed:Array Bool) (vs:Nat→Value) (w:World),HeadInv .any l.toArray n listed→todo n listed=f→J (fun j=>listed.getD j false) w→(∀i,i<n→listed.getD i false=true→mM V i (fun j=>listed.getD j false) vs (vs i) w) →
  wpAny P .any l.toArray Q (f+(l.length - n)) listed (aJ vs 0 (l.take n) a0) w:=by
 simp only [sS,Bool.and_eq_true,decide_eq_true_eq,Bool.or_eq_true] at hB;obtain ⟨⟨⟨⟨hn,hnd⟩,F8⟩,htl⟩,hseq⟩:=hB;have htk:(l.take n).length=n:=by simp;omega
 intro f
 induction f with
 | zero =>
   intro listed vs w inv ht hJ hv;have hall:∀i,i<n→listed.getD i false=true:=fun i hi=>by
    have:=List.countP_eq_zero.1 ht i (List.mem_range.2 hi);simpa using this
   have hle:listed=(Array.replicate n true)++Array.replicate (l.length - n) false:=by
    have hsz:listed.size=l.length:=by rw [inv.size];simp
    apply Array.ext
    ·simp;omega
    ·intro j h1 h2
     by_cases hj:j<n
     ·have:=hall j hj
      simp [h1] at this;rw [this,Array.getElem_append_left (by simpa using hj)];simp
     ·have:=inv.tail j (by omega) (by simpa [hsz] using h1)
      simp [h1] at this;rw [this,Array.getElem_append_right (by simpa using hj)];simp
   have hdl:(l.drop n).length=l.length - n:=by simp
   have:=wpAny_of_seq (md:=.any) (Q':=Q) (l.drop n) n listed (aJ vs 0 (l.take n) a0) w (fun j=>by simp [List.getElem?_drop]) (by rw [hdl,hle];exact hseq) (hend (fun j=>listed.getD j false) vs w hJ hall fun i hi=>hv i hi (hall i hi));rw [hdl] at this;rw [Nat.zero_add];exact this
 | succ f ih =>
   intro listed vs w inv ht hJ hv;have hsz:listed.size=l.length:=by rw [inv.size];simp
   obtain ⟨i0,hi0,F7,hmin⟩:∃i,i<n∧listed.getD i true=false∧∀j,j<i→listed.getD j false=true:=by
    have hex:∃i,i<n∧listed.getD i false=false:=by
     have hpos:0<(List.range n).countP fun i=>!listed.getD i false:=by rw [todo] at ht;omega
     obtain ⟨i,hi,hp⟩:=List.countP_pos_iff.1 hpos;exact ⟨i,List.mem_range.1 hi,by simpa using hp⟩
    have key:∀m i,i<n→listed.getD i false=false→i≤m→∃i,i<n∧listed.getD i false=false∧∀j,j<i→listed.getD j false=true:=by
     intro m
     induction m with
     | zero=>intro i hi hf hm;exact ⟨i,hi,hf,fun j hj=>by omega⟩
     | succ m Sz =>
       intro i hi hf hm
       by_cases hsm:∃j,j<i∧listed.getD j false=false
       ·obtain ⟨j,hj,Tj⟩:=hsm
        exact Sz j (by omega) Tj (by omega)
       ·refine ⟨i,hi,hf,fun j hj=>?_⟩
        cases hc:listed.getD j false with
        | true=>rfl
        | false=>exact absurd ⟨j,hj,hc⟩ hsm
    obtain ⟨i,hi,hf⟩:=hex;obtain ⟨i,hi,hf,hmin⟩:=key i i hi hf (Nat.le_refl _);exact ⟨i,hi,getD_in (by omega) hf,hmin⟩
   have hlow:∀t,n≤t→t∉Region.ready .any l.toArray listed:=fun t ht' hr=>by
    rcases htl with htl | htl
    ·obtain ⟨_,o,ho,_⟩:=mem_ready.1 hr
     have:=(Array.getElem?_eq_some_iff.1 ho).1;simp at this;omega
    ·by_cases hnl:n<l.length
     ·exact tail_waits htl.1 htl.2 (by simpa using hnl) inv _ i0 rfl hi0 F7 t ht' hr
     ·obtain ⟨_,o,ho,_⟩:=mem_ready.1 hr
      have:=(Array.getElem?_eq_some_iff.1 ho).1;simp at this;omega
   have uu:i0∈Region.ready .any l.toArray listed:=by
    have hlt:i0<l.length:=by omega
    refine mem_ready.2 ⟨F7,l[i0],by simp,fun e he hb=>?_⟩;have h1:=List.all_eq_true.1 F8 i0 (List.mem_range.2 hi0);rw [List.getElem?_eq_getElem hlt] at h1;simp only [Option.map_some,Option.getD_some] at h1;have h2:=Array.all_eq_true'.1 h1 e he;simp only [Bool.or_eq_true,Bool.not_eq_eq_eq_not,Bool.not_true,decide_eq_true_eq] at h2
    rcases h2 with h2 | h2
    ·rw [hb] at h2;cases h2
    ·exact hmin _ h2
   rw [show f+1+(l.length - n)=(f+(l.length - n))+1 by omega];refine ⟨fun h=>(by rw [h] at uu;cases uu),fun i hi=>?_⟩;have hin:i<n:=by
    rcases Nat.lt_or_ge i n with h | h
    ·exact h
    ·exact absurd hi (hlow i h)
   obtain ⟨hun,o,ho,MF⟩:=mem_ready.1 hi;have hlo:l[i]?=some o:=by simpa using ho
   have hto:(l.take n)[i]?=some o:=by rw [List.getElem?_take_of_lt hin];exact hlo
   have hb:=xk (l.take n) 0 i o ek hto;rw [Nat.zero_add] at hb;have hdn:(fun j=>(listed.setIfInBounds i true).getD j false)=bJ (fun j=>listed.getD j false) i:=funext fun j=>by
    by_cases hji:j=i
    ·subst hji
     simp only [bJ,if_pos];rw [Array.getD_eq_getD_getElem?,Array.getElem?_setIfInBounds_self_of_lt (by omega)];rfl
    ·rw [getD_set_ne false (Ne.symm hji)];simp [bJ,hji]
   have F9:∀e∈o.after.toList,Region.binds .any e=true→e.on<n→listed.getD e.on false=true:=fun e he hbd _=>MF e (by simpa using he) hbd
   have hgo:∀v w',S i vs v w w'→mM V i (fun j=>listed.getD j false) vs v w'→wpAny P .any l.toArray Q (f+(l.length - n)) (listed.setIfInBounds i true) ((aJ vs 0 (l.take n) a0).put o.dst v) w':=fun v w' hS hV=>by
    have e:=qJ vs v (l.take n) 0 i a0 o hto hnd;rw [Nat.zero_add] at e;rw [←e];refine ih _ (dm vs i v) w' (inv.set hi hin) ?_ (by rw [hdn];exact jP i _ vs v w w' hin (getD_both hun) hJ hS) fun j hj hl=>?_
    ·have:=AP (listed:=listed) hin (by omega) (getD_both hun);omega
    ·rw [hdn]
     by_cases hji:j=i
     ·subst hji
      have hself:mM V j (bJ (fun j=>listed.getD j false) j) (dm vs j v) v w':=wB j _ vs v w' hin hV;simpa [dm] using hself
     ·rw [getD_set_ne false (Ne.symm hji)] at hl
      have hwf:Region.waitsFor .any l.toArray j i=false:=by
       cases hc:Region.waitsFor .any l.toArray j i
       ·rfl
       ·obtain ⟨oj,hoj,e,he,hbe,WA⟩:=Region.waitsFor_spec hc
        have h1:=inv.closed j oj hoj hl e he hbe;rw [WA] at h1;rw [getD_both hun] at h1;cases h1
      have:=hst i j (fun j=>listed.getD j false) vs v w w' hin hj (Ne.symm hji) (getD_both hun) hl hwf hJ hS hV (hv j hj hl);simpa [dm,hji] using this
   have hw:=hb (fun j=>listed.getD j false) vs w hJ (getD_both hun) hv F9 (fun x a' w'=>match x with | .normal=>wpAny P .any l.toArray Q (f+(l.length - n)) (listed.setIfInBounds i true) a' w' | e=>Q e a' w') hgo;simp only [wpOp,ho];simp only [wpList] at hw
   split
   ·rename_i hwt
    rw [if_pos hwt] at hw;have hL:LetsOut (fun (x:Exit) a' w'=>match x with | .normal=>wpAny P .any l.toArray Q (f+(l.length - n)) (listed.setIfInBounds i true) a' w' | e=>Q e a' w')→LetsOut Q:=fun ⟨a,w,h⟩=>⟨a,w,h⟩
    rcases hw with hw | ⟨hw,MC⟩
    ·exact .inl (Aw (fun _ _ h=>h) (fun _ _ _ h=>h) hL _ hw)
    ·exact .inr ⟨hw,hL MC⟩
   ·rename_i hwt
    rw [if_neg hwt] at hw;exact hw
theorem dO {P:Program} {id:Nat} {Q:Exit→Act→World→Prop} {a:Act} {w:World} {l:List Oper} (n:Nat) (J:(Nat→Bool)→World→Prop) (S:SE) (V:List VE) (hm:P.follows .mixedOrders=true) (hB:sS l n=true) (hV:V.length=n)
 (hJ:J (fun _=>false) { w with drawn:=w.drawn+1 }) (jP:∀i done vs x w w',i<n→done i=false→J done w→S i vs x w w'→J (bJ done i) w') (hst:∀i j done vs x w w',i<n→j<n→i≠j→done i=false→done j=true→Region.waitsFor .any l.toArray j i=false→J done w→S i vs x w w'→mM V i done vs x w'→mM V j done vs (vs j) w→mM V j (bJ done i) (dm vs i x) (vs j) w')
 (wB:∀i done vs v w,i<n→mM V i done vs v w→mM V i (bJ done i) (dm vs i v) v w)
 (ek:gm P l.toArray J S n V (fun vs=>aJ vs 0 (l.take n) a) 0 (l.take n))
 (hend:∀done vs w,J done w→(∀i,i<n→done i=true)→yw done vs w 0 V→wpList P l.toArray Q (l.drop n) (aJ vs 0 (l.take n) a) w):(Code.region id l.toArray true).wp P Q a w:=by
 refine wp_region_any hm ?_;have hB':=hB;simp only [sS,Bool.and_eq_true,decide_eq_true_eq,Bool.or_eq_true] at hB;obtain ⟨⟨⟨⟨hn,hnd⟩,F8⟩,htl⟩,hseq⟩:=hB;obtain ⟨LA,hsame⟩:∃LA,aJ LA 0 (l.take n) a=a:=⟨fun i=>match (l[i]?).bind (·.dst) with | some t=>a.tmps.getD t undef | none=>undef,oW a _ _ _ fun j o t hj ht=>by
  have hjn:j<n:=by
   rcases Nat.lt_or_ge j (l.take n).length with h | h
   ·simp at h;omega
   ·rw [List.getElem?_eq_none h] at hj;cases hj
  rw [List.getElem?_take_of_lt hjn] at hj;rw [Nat.zero_add,hj];simp [ht]⟩
 have inv0:HeadInv .any l.toArray n (Array.replicate l.toArray.size false) :=
  ⟨by simp,fun j oj _ hl=>(by rw [getD_replicate_false] at hl;cases hl),fun t _ ht=>getD_in (by simpa using ht) (getD_replicate_false _ _)⟩
 have ht0:todo n (Array.replicate l.toArray.size false)=n:=by
  rw [todo,List.countP_eq_length.2 fun i _=>by rw [getD_replicate_false];rfl,List.length_range]
 have:=EU (Q:=Q) (a0:=a) hB' hV jP hst wB ek (fun done vs w hJ hd h=>hend done vs w hJ hd (xu V 0 fun i hi=>by rw [Nat.zero_add];exact h i (by omega))) n _ LA _ inv0 ht0 (by rw [show (fun j=>(Array.replicate l.toArray.size false).getD j false)=fun _=>false from funext fun j=>getD_replicate_false _ _];exact hJ) (fun i _ hl=>by rw [getD_replicate_false] at hl;cases hl);rw [hsame] at this;have hfu:n+(l.length - n)=l.toArray.size:=by simp;omega
 rw [hfu] at this;exact this
def eP (c:Value):VE:=fun _ _ v _=>v=c
theorem Fj (s:List UInt8) (k:Nat) (hk:k<s.length) {x y:Nat} (h:pQ (s.take k) 1 0=(x,y)) :
 pQ (s.take (k+1)) 1 0=((x+s[k].toNat) % 65521,(y+(x+s[k].toNat) % 65521) % 65521):=by
 rw [List.take_succ_eq_append_getElem hk,vF,h];rfl
theorem J6 {w:World} {b:Nat} {l:List UInt8} (h:aD w b (l.map fun (x:UInt8)=>.int .u8 x.toNat)) (hl:l.length≤maxLen):aZ 1 xh w (.slice (some ⟨b,0,none⟩) l.length l.length) l (fun _=>True) :=
 ⟨_,_,rfl,Nat.le_refl _,hl,(fun h=>by cases h),fun i x hx=>⟨b,0,[.int .u8 x.toNat],rfl,trivial,rfl,fun q u hu=>by
  match q,hu with
  | 0,hu =>
    cases hu;have:=h.cell i (.int .u8 x.toNat) (by rw [List.getElem?_map,hx];rfl);simpa using this⟩⟩
end Go.Tk
namespace Go.Proofs.YtbngpjdflblffaaGreatDoor
open Go.RowKit Go.Tk
theorem ou (o:zC) (w:World):Calls Tryz.prog 57 #[y9 o] w fun e w'=>e=.returned (iI (lu o))∧Below w.heap.size w w':=by
 obtain ⟨k,a,b,n⟩:=o
 show Calls _ _ #[.agg #[iI k, iS a, iS b, iI n]] _ _
 by_cases hk:k<1∨6<k
 ·have HV:=iH (show lu ⟨k,a,b,n⟩=3 by rw [lu,if_pos hk])
  have hcases:k<1∨(¬ k<1∧6<k):=by omega
  clear hk
  rcases hcases with h1 | ⟨h1,h2⟩
  all_goals
   go_enter Tryz.func57,Tryz.ntmps57
   go_wp2;go_ret;exact ⟨by rw [HV.out];rfl,aj w _⟩
 ·have k1:¬ k<1:=by omega
  have k2:¬ 6<k:=by omega
  have HV:=iH (show lu ⟨k,a,b,n⟩=if fD a=false∨(k≠5∧b≠[]) then 4 else if 12<b.length then 1 else if (k=5∧(n<1∨1073741824<n))∨(k≠5∧n≠0) then 2 else 0 by rw [lu,if_neg hk]);clear hk
  go_enter Tryz.func57,Tryz.ntmps57
  go_wp2_with fail
  refine (pX a _).mono ?_;rintro e w2 ⟨rfl,hb2⟩;have hb2':=hb2;rw [World.size_alloc] at hb2';obtain ⟨hz,-,hzs⟩:=Tk.fresh hb2';have z0:=hz 0;have z2:=hz 2;have z3:=hz 3;clear hz;have qc:=ah (aj w _) hb2;clear hb2 hb2';cases hnm:fD a
  case false =>
   have HF:=iH (HV.out.trans (if_pos (.inl hnm)));clear hnm;go_wp2;go_ret;exact ⟨by rw [HF.out];rfl,qc⟩
  case true =>
   by_cases h5:k=5
   ·subst h5
    have HF:=iH (HV.out.trans (if_neg (by rw [hnm];simp)));clear hnm HV
    by_cases hl:12<b.length
    ·have I7:=iH (HF.out.trans (if_pos hl))
     go_wp2;go_ret;exact ⟨by rw [I7.out];rfl,qc⟩
    ·have I7:=iH (HF.out.trans (if_neg hl))
     rcases (show n<1∨(¬ n<1∧1073741824<n)∨(¬ n<1∧¬ 1073741824<n) by omega) with h1 | ⟨h1,h2⟩ | ⟨h1,h2⟩
     ·have Uv:=iH (I7.out.trans (if_pos (by omega)))
      go_wp2;go_ret;exact ⟨by rw [Uv.out];rfl,qc⟩
     ·have Uv:=iH (I7.out.trans (if_pos (by omega)))
      go_wp2;go_ret;exact ⟨by rw [Uv.out];rfl,qc⟩
     ·have Uv:=iH (I7.out.trans (if_neg (by omega)))
      go_wp2;go_ret;exact ⟨by rw [Uv.out];rfl,qc⟩
   ·have h5a:(k == 5)=false:=by simpa using h5
    have Yx:(k != 5)=true:=by simpa using h5
    cases b with
    | cons c r =>
      have HF:=iH (HV.out.trans (if_pos (.inr ⟨h5,by simp⟩)));clear hnm HV h5;go_wp2;go_ret;exact ⟨by rw [HF.out];rfl,qc⟩
    | nil =>
      have HF:=iH ((HV.out.trans (if_neg (by rw [hnm];simp))).trans (if_neg (by simp)));clear hnm HV
      by_cases hn:n=0
      ·have I7:=iH (HF.out.trans (if_neg (by omega)))
       have hn0:(n != 0)=false:=by simpa using hn
       clear hn h5;go_wp2;go_ret;exact ⟨by rw [I7.out];rfl,qc⟩
      ·have I7:=iH (HF.out.trans (if_pos (by omega)))
       have hn0:(n != 0)=true:=by simpa using hn
       clear hn h5;go_wp2;go_ret;exact ⟨by rw [I7.out];rfl,qc⟩
theorem ql (c:aQ) (w:World):Calls Tryz.prog 67 #[dR c] w fun e w'=>e=.returned (iI (dx c))∧Below w.heap.size w w':=by
 obtain ⟨k,cl,se,sq,ak,ok,a,b,n⟩:=c
 show Calls _ _ #[.agg #[iI k, iI cl, iI se, iI sq, iI ak, iI ok, iS a, iS b, iI n]] _ _
 by_cases hk:k<1∨3<k
 ·have HV:=iH (show dx ⟨k,cl,se,sq,ak,ok,a,b,n⟩=3 by rw [dx,if_pos hk])
  have hcases:k<1∨(¬ k<1∧3<k):=by omega
  clear hk
  rcases hcases with h1 | ⟨h1,h2⟩
  all_goals
   go_enter Tryz.func67,Tryz.ntmps67
   go_wp2;go_ret;exact ⟨by rw [HV.out];rfl,aj w _⟩
 have k1:¬ k<1:=by omega
 have k2:¬ 3<k:=by omega
 by_cases hc:cl<1∨9<cl
 ·have HV:=iH (show dx ⟨k,cl,se,sq,ak,ok,a,b,n⟩=2 by rw [dx,if_neg hk,if_pos hc])
  have hcases:cl<1∨(¬ cl<1∧9<cl):=by omega
  clear hk hc
  rcases hcases with h1 | ⟨h1,h2⟩
  all_goals
   go_enter Tryz.func67,Tryz.ntmps67
   go_wp2;go_ret;exact ⟨by rw [HV.out];rfl,aj w _⟩
 have c1:¬ cl<1:=by omega
 have c2:¬ 9<cl:=by omega
 by_cases h2:k=2
 ·subst h2
  by_cases hb:se<1∨1073741824<se∨sq<1∨1048576<sq∨ak<0∨sq≤ak
  ·have HV:=iH (show dx ⟨2,cl,se,sq,ak,ok,a,b,n⟩=2 by rw [dx,if_neg hk,if_neg hc,if_neg (by simp),if_pos hb])
   have hcases:se<1∨(¬ se<1∧1073741824<se)∨(¬ se<1∧¬ 1073741824<se∧sq<1)∨(¬ se<1∧¬ 1073741824<se∧¬ sq<1∧1048576<sq)∨(¬ se<1∧¬ 1073741824<se∧¬ sq<1∧¬ 1048576<sq∧ak<0) ∨
    (¬ se<1∧¬ 1073741824<se∧¬ sq<1∧¬ 1048576<sq∧¬ ak<0∧sq≤ak):=by omega
   clear hk hc hb
   rcases hcases with g1 | ⟨g1,g2⟩ | ⟨g1,g2,g3⟩ | ⟨g1,g2,g3,g4⟩ | ⟨g1,g2,g3,g4,g5⟩ | ⟨g1,g2,g3,g4,g5,g6⟩
   all_goals
    go_enter Tryz.func67,Tryz.ntmps67
    go_wp2;go_ret;exact ⟨by rw [HV.out];rfl,aj w _⟩
  ·have HV:=iH (show dx ⟨2,cl,se,sq,ak,ok,a,b,n⟩=lu ⟨ok,a,b,n⟩ by rw [dx,if_neg hk,if_neg hc,if_neg (by simp),if_neg hb])
   have g1:¬ se<1:=by omega
   have g2:¬ 1073741824<se:=by omega
   have g3:¬ sq<1:=by omega
   have g4:¬ 1048576<sq:=by omega
   have g5:¬ ak<0:=by omega
   have g6:¬ sq≤ak:=by omega
   clear hk hc hb
   go_enter Tryz.func67,Tryz.ntmps67
   go_wp2_with fail
   refine (ou ⟨ok,a,b,n⟩ _).mono ?_;rintro e w2 ⟨rfl,hb2⟩;go_wp2;go_ret;exact ⟨by rw [HV.out];rfl,ah (aj w _) hb2⟩
 ·have hk2:(k != 2)=true:=by simpa using h2
  have HG:Hid (∀(ok:Int) (a b:List UInt8) (n:Int),dx ⟨k,cl,0,0,0,ok,a,b,n⟩=if ok≠0∨a≠[]∨b≠[]∨n≠0 then 4 else 0):=fun ok a b n=>by
   rw [dx,if_neg hk,if_neg hc,if_pos h2];simp
  have HV:=iH (show dx ⟨k,cl,se,sq,ak,ok,a,b,n⟩=if se≠0∨sq≠0∨ak≠0∨ok≠0∨a≠[]∨b≠[]∨n≠0 then 4 else 0 by rw [dx,if_neg hk,if_neg hc,if_pos h2]);clear hk hc h2
  by_cases e1:se=0
  case neg =>
   have HF:=iH (HV.out.trans (if_pos (.inl e1)));have Yy:(se != 0)=true:=by simpa using e1
   clear e1 HV
   go_enter Tryz.func67,Tryz.ntmps67
   go_wp2;go_ret;exact ⟨by rw [HF.out];rfl,aj w _⟩
  subst e1
  by_cases e2:sq=0
  case neg =>
   have HF:=iH (HV.out.trans (if_pos (.inr (.inl e2))));have Yy:(sq != 0)=true:=by simpa using e2
   clear e2 HV
   go_enter Tryz.func67,Tryz.ntmps67
   go_wp2;go_ret;exact ⟨by rw [HF.out];rfl,aj w _⟩
  subst e2
  by_cases e3:ak=0
  case neg =>
   have HF:=iH (HV.out.trans (if_pos (.inr (.inr (.inl e3)))));have Yy:(ak != 0)=true:=by simpa using e3
   clear e3 HV
   go_enter Tryz.func67,Tryz.ntmps67
   go_wp2;go_ret;exact ⟨by rw [HF.out];rfl,aj w _⟩
  subst e3
  go_enter Tryz.func67,Tryz.ntmps67
  go_wp2
  all_goals go_ret
  all_goals refine ⟨qP (congrArg (Value.int .i64) ?_),aj w _⟩
  all_goals (rw [HG.out];simp [*])
theorem l8 (c:bA) (v:Value) (S:Nat→Prop) (w:World) (h:aZ 5 fI w v c.waits S) (hok:gB c) :
 Calls Tryz.prog 27 #[.agg #[iI c.id, iI c.session, iI c.next,v]] w fun e w'=>e=.returned (iI 0)∧Below w.heap.size w w':=by
 obtain ⟨a,cap,hv,hl,hm,hn,hr⟩:=id h;subst hv;unfold maxLen at hm;obtain ⟨i0,i1⟩:=hok.id;obtain ⟨s0,s1⟩:=hok.session;obtain ⟨n0,n1⟩:=hok.next;have hlen:=hok.len;have haw:(c.session == 0)=false∨c.waits.length=0:=by
  by_cases hs:c.session=0
  ·right;rw [hok.away hs];rfl
  ·left;simpa using hs
 have Pf:=iH hok.all;have HS:=iH h;clear hr h hok
 rcases haw with haw | haw
 case inr =>
  by_cases hs:c.session=0
  all_goals
   go_enter Tryz.func27,Tryz.ntmps27
   go_wp2
   go_loopw [3,4,5,52] (fun _ _ _ i wr=>i=iI 0∧Hid (Below w.heap.size w wr)) (fun _ _ _ i _=>0)
   case atStart=>exact ⟨rfl,aj w _⟩
   case round =>
    obtain ⟨rfl,hb⟩:=hrel;go_wp2;go_ret;exact ⟨rfl,hb.out⟩
 case inl =>
 go_enter Tryz.func27,Tryz.ntmps27
 go_wp2
 go_loopw [3,4,5,52] (fun _ _ _ i wr=>∃k:Nat,k≤c.waits.length∧i=iI k∧Hid (Below (w.heap.size+1) (w.alloc (.cells #[iI c.id, iI c.session, iI c.next, .slice a c.waits.length cap] 73)) wr))
  (fun _ _ _ i _=>c.waits.length - (intOf i).toNat)
 case atStart=>exact ⟨0,by omega,rfl,iB⟩
 case round =>
  obtain ⟨k,hk,rfl,hb⟩:=hrel;have DV:=iH (show Below w.heap.size w wr from (aj w _).trans (hb.out.mono (by omega)))
  by_cases hlt:k<c.waits.length
  case neg =>
   go_wp2;go_ret;exact ⟨rfl,DV.out⟩
  obtain ⟨b,off,cap',row,hv,hS,hrow,hcells⟩:=(HS.out.below aV (by decide) DV.out).row k hlt;simp only [Value.slice.injEq] at hv;obtain ⟨rfl,_,rfl⟩:=hv;obtain rfl:=hrow;have q0:=hcells 0 _ rfl;have q1:=hcells 1 _ rfl;have q2:=hcells 2 _ rfl;have q3:=hcells 3 _ rfl;have q4:=hcells 4 _ rfl;simp only [Nat.add_zero] at q0;clear hcells;have hbl:b<wr.heap.size:=World.block_lt_of_cell? wr _ q0;have hfc:wr.cell? ⟨b,off,none⟩=some (iI (c.waits.getD 0 gP).seq):=by
   obtain ⟨b2,off2,cap2,row,hv,hS,hrow,hcells⟩:=(HS.out.below aV (by decide) DV.out).row 0 (by omega);simp only [Value.slice.injEq,Option.some.injEq,Addr.mk.injEq] at hv;obtain ⟨⟨rfl,rfl,_⟩,_,rfl⟩:=hv;obtain rfl:=hrow;rw [show c.waits.getD 0 gP=c.waits[0] by simp [List.getD];rw [List.getElem?_eq_getElem (by omega)];rfl];have:=hcells 0 _ rfl;simpa using this
  have hpc:0<k→wr.cell? ⟨b,off+(k - 1)*5,none⟩=some (iI (c.waits.getD (k - 1) gP).seq):=by
   intro hk0;obtain ⟨b2,off2,cap2,row,hv,hS,hrow,hcells⟩:=(HS.out.below aV (by decide) DV.out).row (k - 1) (by omega);simp only [Value.slice.injEq,Option.some.injEq,Addr.mk.injEq] at hv;obtain ⟨⟨rfl,rfl,_⟩,_,rfl⟩:=hv;obtain rfl:=hrow;rw [show c.waits.getD (k - 1) gP=c.waits[k - 1] by simp [List.getD,show k - 1<c.waits.length by omega]];exact hcells 0 _ rfl
  obtain ⟨hnb,hop⟩:=Pf.out k hlt;have Td:=(Pf.out 0 (by omega)).1;rw [show c.waits.getD k gP=c.waits[k] by simp [List.getD,hlt]] at hop;unfold o7 at hnb Td;rw [show c.waits.getD k gP=c.waits[k] by simp [List.getD,hlt]] at hnb;have Rb:=iH (mq.2 hop);clear hop;generalize c.waits.getD (k - 1) gP=y at *;generalize c.waits.getD 0 gP=f at *;generalize c.waits[k]=x at *;have hx1:1≤x.seq:=by omega
  have hx2:x.seq<c.next:=by omega
  have hx3:0<k→y.seq<x.seq:=by omega
  have hx4:x.seq≤f.seq+3:=by omega
  have hf1:1≤f.seq:=by omega
  have hf2:f.seq<c.next:=by omega
  clear hnb Td i0 i1 s0 s1 haw hlen;obtain ⟨hz,-,hzs⟩:=Tk.fresh hb.out;have z2:=hz 2;have z3:=hz 3;clear hz;have h00:0<c.waits.length:=by omega
  have h01:(0:Int)<(c.waits.length:Int):=by omega
  have e1:IntKind.i64.wrap (f.seq+4)=f.seq+4:=IntWalk.i64_in _ (by omega);have e2:IntKind.i64.wrap (f.seq+4 - 1)=f.seq+3:=(IntWalk.i64_in _ (by omega)).trans (by omega);clear n0 n1 hf1 hf2 hl hm
  by_cases hk0:0<k
  ·have hp0:=hpc hk0
   have hyx:=hx3 hk0;have w1:IntKind.i64.wrap ((k:Int) - 1)=(k:Int) - 1:=IntWalk.i64_in _ (by omega);have w2:0≤(k:Int) - 1:=by omega
   have w3:((k:Int) - 1).toNat=k - 1:=by omega
   have w4:(k:Int) - 1<(c.waits.length:Int):=by omega
   have w5:(1:Int)≤(k:Int):=by omega
   clear hpc hx3
   go_wp2_with fail
   have hb1:decide (x.seq<1)=false:=by simp;omega
   have hb2:decide (c.next≤x.seq)=false:=by simp;omega
   have hb3:decide (f.seq+3<x.seq)=false:=by simp;omega
   have hb4:decide (x.seq≤y.seq)=false:=by simp;omega
   go_quiet (fail)
   go_wp2_with fail
   refine (ou x.op _).mono ?_;rw [Rb.out];rintro e w2 ⟨rfl,hb2⟩;have mP:=iH (hb.out.trans ((ah (below_drewN (aj wr (.cells #[iI x.seq, iI x.op.kind, iS x.op.a, iS x.op.b, iI x.op.n] 138)) _) hb2).mono (by have:=hb.out.size;rw [World.size_alloc] at this;exact this)));clear hb2;go_wp2
   go_roundw
   case rel=>exact ⟨k+1,by omega,by go_num,mP⟩
   case measure=>simp [intOf];omega
  ·obtain rfl:k=0:=by omega
   clear hpc hx3 hk0;simp only [Nat.zero_mul,Nat.add_zero] at q0 q1 q2 q3 q4;have VR:f.seq=x.seq:=by have:=hfc.symm.trans q0;simpa using this
   rw [VR] at e1 e2 hx4;clear hfc VR
   go_wp2_with fail
   clear hx4;have hx4:x.seq≤x.seq+3:=by omega
   have hb1:decide (x.seq<1)=false:=by simp;omega
   have hb2:decide (c.next≤x.seq)=false:=by simp;omega
   have hb3:decide (x.seq+3<x.seq)=false:=by simp;omega
   go_quiet (fail)
   go_wp2_with fail
   refine (ou x.op _).mono ?_;rw [Rb.out];rintro e w2 ⟨rfl,hb2⟩;have mP:=iH (hb.out.trans ((ah (below_drewN (aj wr (.cells #[iI x.seq, iI x.op.kind, iS x.op.a, iS x.op.b, iI x.op.n] 138)) _) hb2).mono (by have:=hb.out.size;rw [World.size_alloc] at this;exact this)));clear hb2;go_wp2
   go_roundw
   case rel=>exact ⟨1,by omega,by first | rfl | go_num,mP⟩
   case measure=>simp [intOf];omega
theorem Tryz.DX:dM Tryz.prog 71 138 5 56:=⟨Tryz.underlying71,by kernel_rfl,by decide⟩
theorem Ae {α:Type} {R:Rel α} (hR:cu R 5) (w:World) (v:Value) (l:List α) (S:Nat→Prop) (h:aZ 5 R w v l S) (hn:l.length≤1000000) :
 Calls Tryz.prog 89 #[v] w fun e w'=>∃v',e=.returned v'∧bZ 138 5 R w' v' l S∧Below w.heap.size w w'∧(∀g,v'.ownBlock=some g→w.heap.size≤g):=by
 obtain ⟨a,cap,hv,hl,hm,hnil,hr⟩:=id h;subst hv;have hm':=hm;unfold maxLen at hm';cases a with
 | none =>
   have h0:=hnil rfl;subst h0;have hl0:l=[]:=List.eq_nil_of_length_eq_zero (by omega);subst hl0;have he:=Lib.run_eql_slice_nil (P:=Tryz.prog) (t:=71)
   go_enter Tryz.func89,Tryz.ntmps89
   go_wp2;go_ret;exact ⟨_,rfl,bZ.nil w S,iB,by simp [Value.ownBlock]⟩
 | some a =>
   obtain ⟨a',cap',rows,hv,-,-,hrl,hrel,hcells⟩:=h.rows hR (by decide);simp only [Value.slice.injEq] at hv;obtain ⟨rfl,-,rfl⟩:=hv;have hlen:=bZ.jq (E:=138) (v:=.slice (some a) l.length cap) hR hrl hrel;have hone:=bZ.qm (E:=138) hR hrl hrel;have hfl:rows.flatten.length=l.length*5:=by
    have:∀(rs:List (List Value)),(∀r∈rs,r.length=5)→rs.flatten.length=rs.length*5:=by
     intro rs
     induction rs with
     | nil=>intro _;rfl
     | cons r rs ih=>intro hk;rw [List.flatten_cons,List.length_append,hk r (by simp),ih (fun r hr=>hk r (by simp [hr]))];simp;omega
    rw [this rows hlen,hrl]
   have hown0:(w.alloc (.cells #[] 138)).ownsRow 0 138 5 (.slice (some ⟨w.heap.size,0,none⟩) 0 0) 0 [] :=
    ⟨rfl, .inr ⟨w.heap.size,0,#[],rfl,Nat.zero_le _,heap_alloc_new w _,Nat.le_refl _,by decide,rfl,rfl⟩⟩
   obtain ⟨v',w',hrun,g1,g2,g3⟩:=gD (P:=Tryz.prog) (ty:=71) (w.alloc (.cells #[] 138)) Tryz.DX _ 0 [] hown0 a l.length cap rows.flatten hfl (fun j u hu=>by
    obtain ⟨b,off,ha,_,hc⟩:=hcells j u hu;simp only [Option.some.injEq] at ha;subst ha;have hlt:=World.block_lt_of_cell? w _ hc;rw [Addr.add_lit,World.cell?_alloc_past _ _ _ hlt];exact hc) hone (by omega)
   have hvb:∀g,v'.ownBlock=some g→w.heap.size≤g:=by
    intro g hg
    rcases g3 with e | ⟨g',e,h⟩
    ·rw [e] at hg;cases hg;exact Nat.le_refl _
    ·rw [e] at hg;cases hg;simp at h;omega
   have hb:Below w.heap.size w w':=(iB.alloc (Nat.le_refl _) _).grown g2 (by simp) (fun k hk=>by cases hk;exact Nat.le_refl _);have hfin:bZ 138 5 R w' v' l S:=by
    refine ⟨rows,hrl,by simpa using g1,fun i r x hr hx=>hR.move (hrel i r x hr hx) fun b hs hlt=>⟨hb.block b hlt,hs,?_⟩⟩;intro hbg;have:=hvb b hbg.symm;omega
   have HF:=iH hfin;have HV:=iH hvb;have he:=Lib.run_eql_slice_nil (P:=Tryz.prog) (t:=71);clear hfin hvb g1 g2 g3 hcells hrel hlen hone hfl hown0 hr h hrl
   go_enter Tryz.func89,Tryz.ntmps89
   go_wp2_with (at_builtin;refine wpList_append_run rfl _ _ _ _ rfl _ _ rfl rfl hrun ?_)
   go_ret;exact ⟨v',rfl,HF.out,hb,HV.out⟩
theorem sW (c:bA) (v:Value) (S:Nat→Prop) (w:World) (h:aZ 5 fI w v c.waits S) (hok:gB c) :
 Calls Tryz.prog 154 #[.agg #[iI c.id, iI c.session, iI c.next,v]] w fun e w'=>e=.returned (iI (gq c))∧Below w.heap.size w w':=by
 obtain ⟨a,cap,hv,hl,hm,-,-⟩:=id h;subst hv;unfold maxLen at hm;obtain ⟨n0,n1⟩:=hok.next;have hlen:=hok.len
 by_cases h0:0<c.waits.length
 ·obtain ⟨b,off,cap',row,hv,hS,hrow,hcells⟩:=(h.below aV (by decide) (aj w (.cells #[iI c.id, iI c.session, iI c.next, .slice a c.waits.length cap] 73))).row 0 h0
  simp only [Value.slice.injEq] at hv;obtain ⟨rfl,_,rfl⟩:=hv;obtain rfl:=hrow;have q0:=hcells 0 _ rfl;simp only [Nat.add_zero,Nat.zero_mul] at q0;clear hcells;have hnb:=(hok.all 0 h0).1;have hgd:c.waits.getD 0 gP=c.waits[0]:=by simp only [List.getD];rw [List.getElem?_eq_getElem h0];rfl
  unfold o7 at hnb;rw [hgd] at hnb;have HF:=iH (show gq c=c.waits[0].seq - 1 by rw [gq,if_pos h0,hgd]);clear h hok hgd;generalize c.waits[0]=x at *;have e1:IntKind.i64.wrap (x.seq - 1)=x.seq - 1:=IntWalk.i64_in _ (by omega);clear hnb
  go_enter Tryz.func154,Tryz.ntmps154
  go_wp2;go_ret;exact ⟨by rw [HF.out];rfl,aj w _⟩
 ·have HF:=iH (show gq c=c.next - 1 by rw [gq,if_neg h0])
  have hl0:c.waits.length=0:=by omega
  clear h hok h0;rw [hl0]
  go_enter Tryz.func154,Tryz.ntmps154
  go_wp2;go_ret;exact ⟨by rw [HF.out];rfl,aj w _⟩
theorem CO (id:Int) (hi:1≤id∧id≤9) (w:World) :
 Calls Tryz.prog 54 #[iI id] w fun e w'=>e=.returned (.tuple #[.agg #[iI id, iI 0, iI 1, iN], iI 0])∧Below w.heap.size w w':=by
 obtain ⟨h0,h1⟩:=hi
 go_enter Tryz.func54,Tryz.ntmps54
 go_wp2;refine bodyPost_ret (v:=.tuple #[.agg #[iI id, iI 0, iI 1, iN], iI 0]) (by simp [results,Tryz.results54,go_sem]) rfl ⟨rfl,?_⟩
 (repeat (first | with_reducible exact aj w _ | with_reducible refine ay ?_ (Nat.le_refl _) _ _))
theorem qh (c:bA) (v:Value) (S:Nat→Prop) (w:World) (h:aZ 5 fI w v c.waits S) (hn:c.waits.length≤1000000) :
 Calls Tryz.prog 56 #[.agg #[iI c.id, iI c.session, iI c.next,v]] w fun e w'=>∃v',e=.returned (.agg #[iI c.id, iI c.session, iI c.next,v'])∧bZ 138 5 fI w' v' c.waits (fun _=>False)∧(∀g,v'.ownBlock=some g→w.heap.size≤g)∧Below w.heap.size w w':=by
 have hone:=h.oneCell;obtain ⟨a,cap,hv,hl,hm,-,-⟩:=id h;subst hv;unfold maxLen at hm;have HS:=iH h;clear h
 go_enter Tryz.func56,Tryz.ntmps56
 go_wp2_with fail
 refine (Ae aV _ _ c.waits _ (HS.out.below aV (by decide) (below_alloc2 w _ _)) hn).mono ?_;rintro e w2 ⟨v2,rfl,ho2,hb2,hg2⟩;rw [fq] at hb2;obtain ⟨ra,rc,rfl⟩:=ho2.shape;have hx:=(aD.new (w:=w) (cs:=[iI c.id, iI c.session, iI c.next, .slice a c.waits.length cap]) (E:=73)).below (aj (w.alloc (.cells #[iI c.id, iI c.session, iI c.next, .slice a c.waits.length cap] 73)) (.cells #[iI 0, iI 0, iI 0, iN] 73));have hy:=aD.new (w:=w.alloc (.cells #[iI c.id, iI c.session, iI c.next, .slice a c.waits.length cap] 73)) (cs:=[iI 0, iI 0, iI 0, iN]) (E:=73);rw [World.size_alloc] at hy;have HX:=iH (hx.keep (hb2.block w.heap.size (by omega)));have HY:=iH (hy.keep (hb2.block (w.heap.size+1) (by omega)));have HG:=iH (show ∀g,(Value.slice ra c.waits.length rc).ownBlock=some g→w.heap.size+2≤g from fun g hg=>by have:=hg2 g hg;rw [fq] at this;exact this);have HO:=iH (ho2.forget yt (S':=fun _=>False));have HB:=iH ((below_alloc2 w (.cells #[iI c.id, iI c.session, iI c.next, .slice a c.waits.length cap] 73) (.cells #[iI 0, iI 0, iI 0, iN] 73)).trans (hb2.mono (by omega)));clear hx hy ho2 hb2 hg2;obtain ⟨x0,x1,x2,x3⟩:=dJ HX.out;obtain ⟨y0,y1,y2,y3⟩:=dJ HY.out;have f3:=HX.out.thaw 3;obtain ⟨g0,g1,g2,g3⟩:=nH HY.out;go_wp2
 have HY3:=HY.out.far (c:=w.heap.size) (by omega) 3 (.slice ra c.waits.length rc);have hp:=((((HY3).set 0 (by simp) (iI c.id)).set 1 (by simp) (iI c.session)).set 2 (by simp) (iI c.next)).set 3 (by simp) (.slice ra c.waits.length rc);have hbf:=ay (ay (ay (ay (Below.refl (w.heap.size) (w2.setCell ⟨w.heap.size,3,none⟩ (.slice ra c.waits.length rc))) (Nat.le_succ _) 0 (iI c.id)) (Nat.le_succ _) 1 (iI c.session)) (Nat.le_succ _) 2 (iI c.next)) (Nat.le_succ _) 3 (.slice ra c.waits.length rc);have hb3:Below w.heap.size w2 (w2.setCell ⟨w.heap.size,3,none⟩ (.slice ra c.waits.length rc)):=ay iB (Nat.le_refl _) 3 _;have wu:bZ 138 5 fI (((((w2.setCell ⟨w.heap.size,3,none⟩ (.slice ra c.waits.length rc)).setCell ⟨w.heap.size+1,0,none⟩ (iI c.id)).setCell ⟨w.heap.size+1,1,none⟩ (iI c.session)).setCell ⟨w.heap.size+1,2,none⟩ (iI c.next)).setCell ⟨w.heap.size+1,3,none⟩ (.slice ra c.waits.length rc)) (.slice ra c.waits.length rc) c.waits (fun _=>False):=HO.out.move aV (fun g hg=>(aC (by have:=HG.out g hg;omega)).trans ((aC (by have:=HG.out g hg;omega)).trans ((aC (by have:=HG.out g hg;omega)).trans ((aC (by have:=HG.out g hg;omega)).trans (aC (by have:=HG.out g hg;omega)))))) (fun b hb=>hb.elim)
 generalize ((((w2.setCell ⟨w.heap.size,3,none⟩ (.slice ra c.waits.length rc)).setCell ⟨w.heap.size+1,0,none⟩ (iI c.id)).setCell ⟨w.heap.size+1,1,none⟩ (iI c.session)).setCell ⟨w.heap.size+1,2,none⟩ (iI c.next)).setCell ⟨w.heap.size+1,3,none⟩ (.slice ra c.waits.length rc)=wf at *;obtain ⟨p0,p1,p2,p3⟩:=dJ hp;refine bodyPost_ret (v:=.agg #[iI c.id, iI c.session, iI c.next, .slice ra c.waits.length rc]) (by simp [results,Tryz.results56,go_sem,p0,p1,p2,p3]) rfl ⟨_,rfl,wu,fun g hg=>by have:=HG.out g hg;omega,HB.out.trans (hb3.trans hbf)⟩
theorem AU (s:List UInt8) (hs:s.length≤1000000) (w:World) :
 Calls Tryz.prog 46 #[iS s] w fun e w'=>e=.returned (.string ⟨(jI s).toArray⟩)∧Below w.heap.size w w':=by
 go_enter Tryz.func46,Tryz.ntmps46
 go_wp2
 go_loopw [3,4,8] (fun vx vy i wr=>∃k x y:Nat,k≤s.length∧i=iI k∧vx=iI x∧vy=iI y∧x<65521∧y<65521∧Hid (pQ (s.take k) 1 0=(x,y))∧wr=w)
  (fun _ _ i _=>s.length - (intOf i).toNat)
 case atStart=>exact ⟨0,1,0,by omega,rfl,rfl,rfl,by omega,by omega,iH rfl,rfl⟩
 case round =>
  obtain ⟨k,x,y,hk,rfl,rfl,rfl,hx,hy,HG,rfl⟩:=hrel
  by_cases hlt:k<s.length
  case neg =>
   have HF:=iH (show jI s=LM (x,y) by rw [jI,←HG.out,List.take_of_length_le (by omega)]);clear HG;have hbx:=aD.new (w:=wr) (cs:=[.int .u8 ((y:Int) / 256), .int .u8 ((y:Int) % 256), .int .u8 ((x:Int) / 256), .int .u8 ((x:Int) % 256)]) (E:=5);have he:[Value.int .u8 ((y:Int) / 256), .int .u8 ((y:Int) % 256), .int .u8 ((x:Int) / 256), .int .u8 ((x:Int) % 256)]=[(y / 256).toUInt8,y.toUInt8,(x / 256).toUInt8,x.toUInt8].map fun (x:UInt8)=>Value.int .u8 x.toNat:=by
    simp only [List.map_cons,List.map_nil,Nat.toUInt8_eq,UInt8.toNat_ofNat',Nat.reducePow,List.cons.injEq,Value.int.injEq,true_and,and_true];refine ⟨?_,?_,?_,?_⟩<;>omega
   have CF:aD (wr.alloc (.cells #[.int .u8 ((y:Int) / 256), .int .u8 ((y:Int) % 256), .int .u8 ((x:Int) / 256), .int .u8 ((x:Int) % 256)] 5)) wr.heap.size ([(y / 256).toUInt8,y.toUInt8,(x / 256).toUInt8,x.toUInt8].map fun (x:UInt8)=>Value.int .u8 x.toNat):=by rw [←he];exact hbx
   have hcv:=lN (P:=Tryz.prog) Tryz.underlying39 Tryz.underlying5 Tryz.underlying9 (J6 (l:=[(y / 256).toUInt8,y.toUInt8,(x / 256).toUInt8,x.toUInt8]) CF (by simp [maxLen]));simp only [List.length_cons,List.length_nil,Nat.reduceAdd,Nat.zero_add] at hcv;clear he hbx CF;go_wp2;go_ret;exact ⟨by rw [HF.out];rfl,aj wr _⟩
  have hc1:({ data:=s.toArray }:ByteArray)[k]'hlt=s[k]'hlt:=rfl;have HN:=iH (Fj s k hlt HG.out);have hcl:=UInt8.toNat_lt (s[k]'hlt);generalize (s[k]'hlt)=ch at *;obtain ⟨c,hc⟩:∃c,ch.toNat=c:=⟨_,rfl⟩;rw [hc] at hcl HN;go_wp2;exact ⟨⟨k+1,(x+c) % 65521,(y+(x+c) % 65521) % 65521,by omega,by go_num,by simp,by simp,by omega,by omega,HN,trivial⟩,by simp [intOf];omega⟩
end Go.Proofs.YtbngpjdflblffaaGreatDoor
