/- A part of the proof, laid together from: PairP, SessI, LockI, PairQ. -/
import Derived.Test.YtbngpjdflblffaaGreatDoorPa02
set_option linter.all false
set_option maxRecDepth 100000
namespace Go.Tk
open Go Go.RowKit
def sQ (l:List fB) (i:Nat):Int :=
 if fD (l.getD i cZ).name=false then 4
 else if 12<(l.getD i cZ).value.length then 1
 else if (l.getD i cZ).version<1∨1073741824<(l.getD i cZ).version then 2
 else if 0<i∧Op.bytesLess (l.getD (i - 1) cZ).name (l.getD i cZ).name=false then 14
 else 0
def j3 (l:List fB):Int:=if 5<l.length then 1 else bU (sQ l) l.length
structure JL (x:fB):Prop where
 name:fD x.name=true
 size:x.value.length≤12
 JY:1≤x.version∧x.version≤1073741824
structure qB (l:List fB):Prop where
 len:l.length≤5
 one:∀x∈l,JL x
 names:xA (l.map (·.name))
theorem getD_at {α:Type} {l:List α} {d:α} {i:Nat} (h:i<l.length):l.getD i d=l[i]:=by simp [List.getD,h]
theorem mh {l:List fB}:j3 l=0↔qB l:=by
 rw [j3];constructor
 ·intro h
  split at h
  ·cases h
  ·have hz:=eu.1 h
   have hg:∀i,i<l.length→JL (l.getD i cZ)∧(0<i→Op.bytesLess (l.getD (i - 1) cZ).name (l.getD i cZ).name=true):=by
    intro i hi;have:=hz i hi;rw [sQ] at this
    split at this;· cases this
    split at this;· cases this
    split at this;· cases this
    split at this;· cases this
    rename_i a b c d
    refine ⟨⟨by simpa using a,by omega,by omega⟩,fun h0=>?_⟩;cases hb:Op.bytesLess (l.getD (i - 1) cZ).name (l.getD i cZ).name
    ·exact absurd ⟨h0,hb⟩ d
    ·rfl
   refine ⟨by omega,fun x hx=>?_,Bi fun i h0 hi=>?_⟩
   ·obtain ⟨i,hi,rfl⟩:=lY l x cZ hx
    exact (hg i hi).1
   ·rw [List.length_map] at hi
    have:=(hg i hi).2 h0;rw [getD_at (show i - 1<l.length by omega),getD_at hi] at this;simpa using this
 ·intro h
  rw [if_neg (by have:=h.len;omega)];refine eu.2 fun i hi=>?_
  have hm:=h.one _ (kC l i cZ hi);rw [sQ,if_neg (by rw [hm.name];decide),if_neg (by have:=hm.size;omega),if_neg (by have:=hm.JY;omega),if_neg];rintro ⟨h0,hb⟩;have:=List.pairwise_iff_getElem.1 h.names (i - 1) i (by rw [List.length_map];omega) (by rw [List.length_map];exact hi) (by omega);rw [getD_at (show i - 1<l.length by omega),getD_at hi] at hb;simp only [List.getElem_map] at this;rw [hb] at this;cases this
def fE (x:fB) (t:List UInt8):Int:=Lib.compareBytes x.name t
def eG (l:List fB) (t:List UInt8):Nat:=bs (fun i=>fE (l.getD i cZ) t) l.length
def mo (l:List fB) (t:List UInt8):Bool:=di (fun i=>fE (l.getD i cZ) t) l.length
theorem rO {l:List fB} {t:List UInt8} (h:mo l t=true):eG l t<l.length:=by
 simp only [mo,di,Bool.and_eq_true,decide_eq_true_eq] at h;exact h.1
theorem Bf {l:List fB} (h:qB l) (t:List UInt8):(∀i (hi:i<l.length),i<eG l t→Op.bytesLess l[i].name t=true)∧(∀i (hi:i<l.length),eG l t≤i→Op.bytesLess l[i].name t=false):=by
 have hn:=List.pairwise_iff_getElem.1 h.names;have hg:∀i (hi:i<l.length),l.getD i cZ=l[i]:=fun i hi=>getD_at hi
 obtain ⟨h1,h2⟩:=EB (f:=fun i=>fE (l.getD i cZ) t) (N:=l.length) fun i j hij hj hf=>by
  have h3:=hn i j (by rw [List.length_map];omega) (by rw [List.length_map];exact hj) hij;simp only [List.getElem_map] at h3;simp only [fE,hg i (by omega),hg j hj] at hf⊢;exact (nk _ _).1 (nS _ _ _ h3 ((nk _ _).2 hf))
 refine ⟨fun i hi hlt=>?_,fun i hi hge=>?_⟩
 ·have:=h1 i hlt
  simp only [fE,hg i hi] at this;exact (nk _ _).2 this
 ·have:=h2 i hge hi
  simp only [fE,hg i hi] at this;cases hb:Op.bytesLess l[i].name t
  ·rfl
  ·exact absurd ((nk _ _).1 hb) this
theorem Km {l:List fB} {t:List UInt8} (h:qB l) (hf:mo l t=false):∀x∈l,x.name≠t:=by
 intro x hx hxt;obtain ⟨j,hj,rfl⟩:=List.getElem_of_mem hx;obtain ⟨h1,h2⟩:=Bf h t;have Tc:Op.bytesLess l[j].name t=false:=by rw [hxt];exact oF _
 have hge:eG l t≤j:=by
  rcases Nat.lt_or_ge j (eG l t) with h3 | h3
  ·rw [h1 j hj h3] at Tc;cases Tc
  ·exact h3
 have heq:eG l t=j:=by
  rcases Nat.lt_or_ge (eG l t) j with h3 | h3
  ·have h4:=List.pairwise_iff_getElem.1 h.names (eG l t) j (by rw [List.length_map];omega) (by rw [List.length_map];exact hj) h3
   simp only [List.getElem_map] at h4;rw [hxt,h2 _ (by omega) (Nat.le_refl _)] at h4;cases h4
  ·omega
 have:mo l t=true:=by
  show (decide (eG l t<l.length) && (fE (l.getD (eG l t) cZ) t == 0))=true
  rw [heq,getD_at hj,fE,hxt,compare_self];simp [hj]
 rw [this] at hf;cases hf
theorem qB.set {l:List fB} (h:qB l) {i:Nat} (hi:i<l.length) {x:fB} (hx:JL x) (hn:x.name=l[i].name):qB (l.set i x):=by
 refine ⟨by rw [List.length_set];exact h.len,fun y hy=>?_,?_⟩
 ·rcases List.mem_or_eq_of_mem_set hy with h1 | h1
  ·exact h.one y h1
  ·rw [h1];exact hx
 ·rw [List.map_set,hn]
  have:(l.map (·.name)).set i l[i].name=l.map (·.name):=by
   rw [show l[i].name=(l.map (·.name))[i]'(by rw [List.length_map];exact hi) by simp];exact List.set_getElem_self _
  rw [this];exact h.names
theorem qB.insert {l:List fB} (h:qB l) {x:fB} (hx:JL x) (hlen:l.length<5) (hno:mo l x.name=false):qB (l.take (eG l x.name)++x::l.drop (eG l x.name)):=by
 obtain ⟨h1,h2⟩:=Bf h x.name;have hne:=Km h hno;have hfl:eG l x.name≤l.length:=zy _ _;refine ⟨by simp;omega,fun y hy=>?_,?_⟩
 ·rcases List.mem_append.1 hy with hy | hy
  ·exact h.one y (List.mem_of_mem_take hy)
  ·rcases List.mem_cons.1 hy with rfl | hy
   ·exact hx
   ·exact h.one y (List.mem_of_mem_drop hy)
 ·have hn:=h.names
  have hd:∀y∈l.drop (eG l x.name),Op.bytesLess x.name y.name=true:=fun y hy=>by
   obtain ⟨j,hj,rfl⟩:=List.getElem_of_mem hy;rw [List.length_drop] at hj;rw [List.getElem_drop];exact wo _ _ (h2 _ (by omega) (by omega)) (hne _ (List.getElem_mem _))
  have ht:∀y∈l.take (eG l x.name),Op.bytesLess y.name x.name=true:=fun y hy=>by
   obtain ⟨j,hj,rfl⟩:=List.getElem_of_mem hy;rw [List.length_take] at hj;rw [List.getElem_take];exact h1 _ (by omega) (by omega)
  rw [List.map_append,List.map_cons];refine List.pairwise_append.2 ⟨?_,List.pairwise_cons.2 ⟨fun n hn'=>?_,?_⟩,fun a ha b hb=>?_⟩
  ·rw [List.map_take];exact hn.sublist (List.take_sublist _ _)
  ·obtain ⟨y,hy,rfl⟩:=List.mem_map.1 hn'
   exact hd y hy
  ·rw [List.map_drop];exact hn.sublist (List.drop_sublist _ _)
  ·obtain ⟨y,hy,rfl⟩:=List.mem_map.1 ha
   rcases List.mem_cons.1 hb with rfl | hb
   ·exact ht y hy
   ·obtain ⟨z,hz,rfl⟩:=List.mem_map.1 hb
    exact nS _ _ _ (ht y hy) (hd z hz)
def ja (l:List fB) (name value:List UInt8):List fB×eX×Int :=
 if j3 l≠0 then ([],dP,j3 l)
 else if fD name=false then ([],dP,4)
 else if 12<value.length then ([],dP,1)
 else if mo l name=false then
  (if l.length=5 then (l,⟨8,0,[]⟩,0) else (l.take (eG l name)++⟨name,value,1⟩::l.drop (eG l name),⟨0,1,[]⟩,0))
 else if (l.getD (eG l name) cZ).version=1073741824 then (l,⟨8,0,[]⟩,0)
 else (l.set (eG l name) ⟨(l.getD (eG l name) cZ).name,value,(l.getD (eG l name) cZ).version+1⟩,⟨0,(l.getD (eG l name) cZ).version+1,[]⟩,0)
def jW (l:List fB) (name:List UInt8):eX×Int :=
 if j3 l≠0 then (dP,j3 l)
 else if mo l name=false then (⟨6,0,[]⟩,0)
 else (⟨0,(l.getD (eG l name) cZ).version,(l.getD (eG l name) cZ).value⟩,0)
theorem Qc {l:List fB} {name value:List UInt8} (h:qB l) (hn:fD name=true) (hv:value.length≤12):qB (ja l name value).1∧(ja l name value).2.2=0:=by
 rw [ja,if_neg (by rw [mh.2 h];simp),if_neg (by rw [hn];decide),if_neg (by omega)]
 split
 ·rename_i ht
  split
  ·exact ⟨h,rfl⟩
  ·exact ⟨h.insert (x:=⟨name,value,1⟩) ⟨hn,hv,by simp⟩ (by have:=h.len;omega) ht,rfl⟩
 ·rename_i ht
  have ht':mo l name=true:=by simpa using ht
  have hlt:=rO ht'
  split
  ·exact ⟨h,rfl⟩
  ·rename_i hm
   rw [getD_at hlt] at hm⊢;have h1:=h.one _ (List.getElem_mem hlt);have h2:=h1.JY;exact ⟨h.set hlt ⟨h1.name,hv,by simp only;omega⟩ rfl,rfl⟩
def rising (ns:List Int):Prop:=ns.Pairwise fun a b=>a<b
theorem Dj {ns:List Int} (h:∀i (h0:0<i) (hi:i<ns.length),(ns[i - 1]'(by omega))<ns[i]):rising ns:=by
 refine List.pairwise_iff_getElem.2 fun i j hi hj hij=>?_
 induction j with
 | zero=>omega
 | succ j ih =>
   have h2:=h (j+1) (by omega) hj;simp only [Nat.add_sub_cancel] at h2
   rcases Nat.lt_or_ge i j with h1 | h1
   ·exact Int.lt_trans (ih (by omega) h1) h2
   ·obtain rfl:i=j:=by omega
    exact h2
theorem Fq {α:Type} {l:List α} {f:α→Int} (h:rising (l.map f)) {x y:α} (hx:x∈l) (hy:y∈l) (he:f x=f y):x=y:=by
 obtain ⟨i,hi,rfl⟩:=List.getElem_of_mem hx;obtain ⟨j,hj,rfl⟩:=List.getElem_of_mem hy;have hp:=List.pairwise_iff_getElem.1 h
 rcases Nat.lt_trichotomy i j with h1 | h1 | h1
 ·have:=hp i j (by rw [List.length_map];omega) (by rw [List.length_map];omega) h1
  simp only [List.getElem_map] at this;omega
 ·subst h1;rfl
 ·have:=hp j i (by rw [List.length_map];omega) (by rw [List.length_map];omega) h1
  simp only [List.getElem_map] at this;omega
theorem za {α:Type} {l:List α} {f:α→Int} {d:α} {F:Nat→Int} {t:Int} (h:rising (l.map f)) (hF:∀i,F i=f (l.getD i d) - t) :
 (∀i (hi:i<l.length),i<bs F l.length→f l[i]<t)∧(∀i (hi:i<l.length),bs F l.length≤i→t≤f l[i]):=by
 have hn:=List.pairwise_iff_getElem.1 h;obtain ⟨h1,h2⟩:=EB (f:=F) (N:=l.length) fun i j hij hj hf=>by
  have h3:=hn i j (by rw [List.length_map];omega) (by rw [List.length_map];exact hj) hij;simp only [List.getElem_map] at h3;rw [hF,getD_at hj] at hf;rw [hF,getD_at (show i<l.length by omega)];omega
 refine ⟨fun i hi hlt=>?_,fun i hi hge=>?_⟩
 ·have:=h1 i hlt
  rw [hF,getD_at hi] at this;omega
 ·have:=h2 i hge hi
  rw [hF,getD_at hi] at this;omega
theorem Dk {α:Type} {l:List α} {f:α→Int} {d:α} {F:Nat→Int} {t:Int} (h:rising (l.map f)) (hF:∀i,F i=f (l.getD i d) - t) (hf:di F l.length=false):∀x∈l,f x≠t:=by
 intro x hx hxt;obtain ⟨j,hj,rfl⟩:=List.getElem_of_mem hx;obtain ⟨h1,h2⟩:=za h hF;have hle:bs F l.length≤j:=by
  rcases Nat.lt_or_ge j (bs F l.length) with h3 | h3
  ·have:=h1 j hj h3;omega
  ·exact h3
 have heq:bs F l.length=j:=by
  rcases Nat.lt_or_ge (bs F l.length) j with h3 | h3
  ·have h4:=List.pairwise_iff_getElem.1 h (bs F l.length) j (by rw [List.length_map];omega) (by rw [List.length_map];exact hj) h3
   simp only [List.getElem_map] at h4;have:=h2 _ (show bs F l.length<l.length by omega) (Nat.le_refl _);omega
  ·omega
 have:di F l.length=true:=by
  rw [di,heq,hF,getD_at hj,hxt];simp [hj]
 rw [this] at hf;cases hf
theorem vG {α:Type} {l:List α} {f:α→Int} {d:α} {F:Nat→Int} {x:α} (h:rising (l.map f)) (hF:∀i,F i=f (l.getD i d) - f x) (hf:di F l.length=false) :
 rising ((l.take (bs F l.length)++x::l.drop (bs F l.length)).map f):=by
 obtain ⟨h1,h2⟩:=za h hF;have hne:=Dk h hF hf;have hd:∀y∈l.drop (bs F l.length),f x<f y:=fun y hy=>by
  obtain ⟨j,hj,rfl⟩:=List.getElem_of_mem hy;rw [List.length_drop] at hj;rw [List.getElem_drop];have a:=h2 (bs F l.length+j) (by omega) (by omega);have b:=hne _ (List.getElem_mem (show bs F l.length+j<l.length by omega));omega
 have ht:∀y∈l.take (bs F l.length),f y<f x:=fun y hy=>by
  obtain ⟨j,hj,rfl⟩:=List.getElem_of_mem hy;rw [List.length_take] at hj;rw [List.getElem_take];exact h1 _ (by omega) (by omega)
 rw [List.map_append,List.map_cons];refine List.pairwise_append.2 ⟨?_,List.pairwise_cons.2 ⟨fun n hn'=>?_,?_⟩,fun a ha b hb=>?_⟩
 ·rw [List.map_take];exact List.Pairwise.sublist (List.take_sublist _ _) h
 ·obtain ⟨y,hy,rfl⟩:=List.mem_map.1 hn'
  exact hd y hy
 ·rw [List.map_drop];exact List.Pairwise.sublist (List.drop_sublist _ _) h
 ·obtain ⟨y,hy,rfl⟩:=List.mem_map.1 ha
  rcases List.mem_cons.1 hb with rfl | hb
  ·exact ht y hy
  ·obtain ⟨z,hz,rfl⟩:=List.mem_map.1 hb
   exact Int.lt_trans (ht y hy) (hd z hz)
theorem mem_insert {α:Type} {l:List α} {x y:α} {i:Nat}:y∈l.take i++x::l.drop i↔y=x∨y∈l:=by
 rw [List.mem_append,List.mem_cons]
 conv=>rhs;rw [←List.take_append_drop i l,List.mem_append]
 constructor
 ·rintro (h | h | h)
  ·exact .inr (.inl h)
  ·exact .inl h
  ·exact .inr (.inr h)
 ·rintro (h | h | h)
  ·exact .inr (.inl h)
  ·exact .inl h
  ·exact .inr (.inr h)
theorem Ic {α:Type} {l:List α} {x:α} {i:Nat} (h:i≤l.length):(l.take i++x::l.drop i).length=l.length+1:=by simp;omega
theorem Ho {α:Type} {l:List α} {f:α→Int} {i:Nat} {x:α} (h:rising (l.map f)) (hi:i<l.length) (hx:f x=f l[i]):rising ((l.set i x).map f):=by
 have:(l.set i x).map f=l.map f:=by
  rw [List.map_set,hx,show f l[i]=(l.map f)[i]'(by rw [List.length_map];exact hi) by simp];exact List.set_getElem_self _
 rw [this];exact h
theorem dQ.pw {l:List aG} {index:Int} (h:dQ l index):rising (l.map (·.client)):=by
 refine Dj fun i h0 hi=>?_
 rw [List.length_map] at hi;have:=h.ord i h0 hi;rw [getD_at (show i - 1<l.length by omega),getD_at hi] at this;simpa using this
theorem dQ.of {l:List aG} {index:Int} (h0:0≤index∧index≤1073741824) (h1:l.length≤4) (h2:∀x∈l,¬ fe index x) (h3:∀x∈l,aA x=true) (h4:rising (l.map (·.client))):dQ l index:=by
 refine ⟨h0,h1,h2,h3,fun i h0 hi=>?_⟩;have:=List.pairwise_iff_getElem.1 h4 (i - 1) i (by rw [List.length_map];omega) (by rw [List.length_map];exact hi) (by omega);rw [getD_at (show i - 1<l.length by omega),getD_at hi];simpa using this
theorem Ea {index:Int} {x:aG} (h:¬ fe index x):¬ fe (index+1) x:=by
 unfold fe at *;omega
theorem dQ.next {l:List aG} {index:Int} (h:dQ l index) (hi:index<1073741824):dQ l (index+1) :=
 dQ.of (by have:=h.idx;omega) h.len (fun x hx=>Ea (h.bad x hx)) h.rep h.pw
theorem dQ.sub {l m:List aG} {index:Int} (h:dQ l index) (hs:m.Sublist l):dQ m index :=
 dQ.of h.idx (Nat.le_trans hs.length_le h.len) (fun x hx=>h.bad x (hs.subset hx)) (fun x hx=>h.rep x (hs.subset hx)) (List.Pairwise.sublist (hs.map _) h.pw)
theorem dQ.put {l:List aG} {index:Int} (h:dQ l index) {i:Nat} (hi:i<l.length) {x:aG} (hb:¬ fe index x) (hr:aA x=true) (hc:x.client=l[i].client):dQ (l.set i x) index:=by
 refine dQ.of h.idx (by rw [List.length_set];exact h.len) (fun y hy=>?_) (fun y hy=>?_) (Ho h.pw hi hc)
 ·rcases List.mem_or_eq_of_mem_set hy with h1 | h1
  ·exact h.bad y h1
  ·rw [h1];exact hb
 ·rcases List.mem_or_eq_of_mem_set hy with h1 | h1
  ·exact h.rep y h1
  ·rw [h1];exact hr
theorem Di {l:List aG} {c:Int} (h:gz l c=true):(l[fH l c]'(iV h)).client=c:=by
 have:=J9 h
 rwa [getD_at (iV h)] at this
theorem J8 {l:List aG} {index c:Int} (h:dQ l index) (hf:gz l c=false):∀x∈l,x.client≠c:=Dk (d:=aR) h.pw (fun _=>rfl) hf
theorem Hl {l:List aG} {index:Int} (h:dQ l index) {x:aG} (hx:x∈l):gz l x.client=true∧l.getD (fH l x.client) aR=x:=by
 have ht:gz l x.client=true:=by
  cases hc:gz l x.client
  ·exact absurd rfl (J8 h hc x hx)
  ·rfl
 refine ⟨ht,?_⟩;rw [getD_at (iV ht)];exact Fq h.pw (List.getElem_mem _) hx (Di ht)
theorem dQ.insert {l:List aG} {index:Int} (h:dQ l index) {x:aG} (hb:¬ fe index x) (hr:aA x=true) (hl:l.length<4) (hno:gz l x.client=false):dQ (l.take (fH l x.client)++x::l.drop (fH l x.client)) index:=by
 have hle:fH l x.client≤l.length:=zy _ _;refine dQ.of h.idx (by rw [Ic hle];omega) (fun y hy=>?_) (fun y hy=>?_) (vG (d:=aR) h.pw (fun _=>rfl) hno)
 ·rcases mem_insert.1 hy with rfl | hy
  ·exact hb
  ·exact h.bad y hy
 ·rcases mem_insert.1 hy with rfl | hy
  ·exact hr
  ·exact h.rep y hy
structure KW (s:aG):Prop where
 seq:∀k∈s.aA,s.aH<k.seq∧k.seq≤s.aH+4
 one:∀k∈s.aA,0≤k.aI.code∧k.aI.code≤15∧0≤k.aI.n∧k.aI.n≤1073741824∧k.aI.text.length≤12
 rise:rising (s.aA.map (·.seq))
theorem fU {s:aG}:aA s=true↔KW s:=by
 constructor
 ·intro h
  have hk:=pR h;refine ⟨fun k hm=>?_,fun k hm=>?_,Dj fun i h0 hi=>?_⟩
  ·obtain ⟨i,hi,rfl⟩:=lY s.aA k dZ hm
   have:=hk i hi;unfold gy at this;omega
  ·obtain ⟨i,hi,rfl⟩:=lY s.aA k dZ hm
   have:=hk i hi;unfold gy at this;omega
  ·rw [List.length_map] at hi
   have:=hk i hi;unfold gy at this;rw [getD_at (show i - 1<s.aA.length by omega),getD_at hi] at this;simp only [List.getElem_map];omega
 ·intro h
  have:pU s=0:=eu.2 fun i hi=>by
   rw [if_neg];have h1:=h.seq _ (kC s.aA i dZ hi);have h2:=h.one _ (kC s.aA i dZ hi);unfold gy;have h3:0<i→(s.aA.getD (i - 1) dZ).seq<(s.aA.getD i dZ).seq:=fun h0=>by
    have:=List.pairwise_iff_getElem.1 h.rise (i - 1) i (by rw [List.length_map];omega) (by rw [List.length_map];exact hi) (by omega);rw [getD_at (show i - 1<s.aA.length by omega),getD_at hi];simpa using this
   omega
  rw [aA,this];rfl
structure jg (r:eX):Prop where
 ok:0≤r.code∧r.code≤15∧0≤r.n∧r.n≤1073741824∧r.text.length≤12
theorem Ec (c id a la:Int):aA ⟨c,id,a,la,[]⟩=true:=fU.2 ⟨by simp,by simp,by simp [rising]⟩
theorem MO {l:List aG} {index:Int} (h:dQ l index):kI l index=(l.filter (fun x=>!yP index x),0):=by
 rw [kI,if_neg (by simp [fA.2 h])]
theorem MN {l:List aG} {index:Int} (h:dQ l index):dQ (kI l index).1 index:=by
 rw [MO h];exact h.sub List.filter_sublist
theorem Oe {l:List aG} {index c:Int} (h:dQ l index) (hi:index<1073741824) (hc:1≤c∧c≤9):dQ (join l index c).1 (index+1)∧(join l index c).2.2=0∧jg (join l index c).2.1:=by
 have h0:=h.idx;rw [join,if_neg (by simp [fA.2 h]),if_neg (by omega)]
 split
 ·rename_i ht
  have hlt:=iV ht;rw [getD_at hlt];have hm:=List.getElem_mem hlt;have hb:=h.bad _ hm;unfold fe at hb;refine ⟨(h.next hi).put hlt (by unfold fe;simp only;omega) ?_ rfl,rfl,⟨by simp;omega⟩⟩;have hr:=fU.1 (h.rep _ hm);exact fU.2 ⟨hr.seq,hr.one,hr.rise⟩
 ·rename_i ht
  split
  ·exact ⟨h.next hi,rfl,⟨by simp⟩⟩
  ·rename_i hl
   have ht':gz l c=false:=by simpa using ht
   exact ⟨(h.next hi).insert (x:=⟨c,index+1,0,index+1,[]⟩) (by unfold fe;simp only;omega) (Ec _ _ _ _) (by have:=h.len;omega) ht',rfl,⟨by simp;omega⟩⟩
def leave (l:List aG) (index client:Int):List aG×eX×Int :=
 if bC l index≠0 then ([],dP,bC l index)
 else if gz l client=false then (l,⟨11,0,[]⟩,0)
 else (l.eraseIdx (fH l client),dP,0)
theorem Mi {l:List aG} {index c:Int} (h:dQ l index) (hi:index<1073741824):dQ (leave l index c).1 (index+1)∧(leave l index c).2.2=0∧jg (leave l index c).2.1:=by
 rw [leave,if_neg (by simp [fA.2 h])]
 split
 ·exact ⟨h.next hi,rfl,⟨by simp⟩⟩
 ·exact ⟨(h.next hi).sub (List.eraseIdx_sublist _ _),rfl,⟨by simp [dP]⟩⟩
theorem ru (s:aG) (index aH:Int):(iC s index aH).client=s.client:=by unfold iC;split<;>rfl
theorem Kc (s:aG) (index aH:Int):(iC s index aH).id=s.id:=by unfold iC;split<;>rfl
theorem Fx (s:aG) (index aH:Int):(iC s index aH).last=index+1:=by unfold iC;split<;>rfl
theorem Kb {s:aG} {index aH:Int} (hi:0≤index) (h1:¬ fe index s) (h2:aA s=true) (ha:aH≤1048576):¬ fe (index+1) (iC s index aH)∧aA (iC s index aH)=true:=by
 unfold fe at *;have hr:=fU.1 h2
 by_cases h:s.aH<aH
 ·rw [wX h]
  refine ⟨by simp only;omega,fU.2 ⟨fun k hk=>?_,fun k hk=>?_,?_⟩⟩
  ·obtain ⟨hk,hp⟩:=List.mem_filter.1 hk
   have:=hr.seq k hk;have:aH<k.seq:=by simpa using hp
   simp only;omega
  ·exact hr.one k (List.mem_filter.1 hk).1
  ·exact List.Pairwise.sublist (List.filter_sublist.map _) hr.rise
 ·rw [zg h]
  exact ⟨by simp only;omega,fU.2 ⟨hr.seq,hr.one,hr.rise⟩⟩
theorem Ka {s:aG} {seq:Int} (h:aA s=true):jg (lQ s seq).1:=by
 rw [lQ]
 split
 ·exact ⟨by simp⟩
 ·split
  ·rename_i hq
   rcases j6 (fun k:lK=>k.seq == seq) s.aA with ⟨h1,_⟩ | ⟨n,hn,h1,_⟩
   ·omega
   ·rw [h1]
    simp only [Int.toNat_natCast];rw [getD_at hn];exact ⟨(fU.1 h).one _ (List.getElem_mem hn)⟩
  ·split
   ·exact ⟨by simp⟩
   ·exact ⟨by simp [dP]⟩
theorem Fw {s:aG} {seq:Int} (h:(lQ s seq).2=true):s.aH<seq∧seq≤s.aH+4∧(∀k∈s.aA,k.seq≠seq)∧(lQ s seq).1=dP:=by
 rw [lQ] at h⊢
 split at h;· cases h
 split at h;· cases h
 split at h;· cases h
 rename_i h1 h2 h3
 rw [if_neg h1,if_neg h2,if_neg h3];refine ⟨by omega,by omega,fun k hk=>?_,rfl⟩
 rcases j6 (fun k:lK=>k.seq == seq) s.aA with ⟨_,hx⟩ | ⟨n,hn,h4,_⟩
 ·simpa using hx k hk
 ·omega
theorem Fu {l:List aG} {index c lW seq aH:Int} (h:dQ l index) (hi:index<1073741824) (hq:1≤seq∧seq≤1048576∧0≤aH∧aH<seq) :
 dQ (ready l index c lW seq aH).1 (index+1)∧(ready l index c lW seq aH).2.2.2=0∧jg (ready l index c lW seq aH).2.1 ∧
  ((ready l index c lW seq aH).2.2.1=true→∃s∈(ready l index c lW seq aH).1,s.client=c∧s.id=lW∧s.last=index+1∧s.aH<seq∧seq≤s.aH+4∧∀k∈s.aA,k.seq≠seq):=by
 rw [ready,if_neg (by simp [fA.2 h]),if_neg (by omega)]
 split
 ·exact ⟨h.next hi,rfl,⟨by simp⟩,fun h=>by cases h⟩
 ·rename_i hn
  obtain ⟨ht,hid⟩:gz l c=true∧(l.getD (fH l c) aR).id=lW:=by
   refine ⟨?_,?_⟩
   ·cases hc:gz l c
    ·exact absurd (.inl hc) hn
    ·rfl
   ·rcases Classical.em ((l.getD (fH l c) aR).id=lW) with h | h
    ·exact h
    ·exact absurd (.inr h) hn
  have hlt:=iV ht;have hcl:=Di ht;rw [getD_at hlt] at hid⊢;have hm:=List.getElem_mem hlt;obtain ⟨hb,hr⟩:=Kb (aH:=aH) h.idx.1 (h.bad _ hm) (h.rep _ hm) (by omega);refine ⟨(h.next hi).put hlt hb hr (ru _ _ _),rfl,Ka hr,fun htd=>?_⟩;obtain ⟨h1,h2,h3,_⟩:=Fw htd;exact ⟨_,List.mem_set hlt _,(ru _ _ _).trans hcl,(Kc _ _ _).trans hid,Fx _ _ _,h1,h2,h3⟩
theorem Dw {s:aG} (h:aA s=true) {q:Int} (hn:∀k∈s.aA,k.seq≠q):yD s.aA q=false:=by
 cases hc:yD s.aA q
 ·rfl
 ·simp only [yD,di,Bool.and_eq_true,decide_eq_true_eq,beq_iff_eq] at hc
  obtain ⟨h1,h2⟩:=hc;rw [iy,getD_at h1] at h2;exact absurd (by omega) (hn _ (List.getElem_mem h1))
theorem Mk {s:aG} {q:Int} {r:eX} (h:aA s=true) (hn:∀k∈s.aA,k.seq≠q) (h1:s.aH<q) (h2:q≤s.aH+4) (hr:jg r):aA (zq s q r)=true:=by
 have h0:=fU.1 h;refine fU.2 ⟨fun k hk=>?_,fun k hk=>?_,?_⟩
 ·rcases mem_insert.1 hk with rfl | hk
  ·exact ⟨h1,h2⟩
  ·exact h0.seq k hk
 ·rcases mem_insert.1 hk with rfl | hk
  ·exact hr.ok
  ·exact h0.one k hk
 ·exact vG (l:=s.aA) (f:=(·.seq)) (d:=dZ) (x:=⟨q,r⟩) h0.rise (fun _=>rfl) (Dw h hn)
theorem Ob {l:List aG} {index c q:Int} {r:eX} (h:dQ l index) {s:aG} (hs:s∈l) (hc:s.client=c) (h1:s.aH<q) (h2:q≤s.aH+4) (hn:∀k∈s.aA,k.seq≠q) (hr:jg r) :
 dQ (keep l index c q r).1 index∧(keep l index c q r).2=0:=by
 subst hc;obtain ⟨ht,hg⟩:=Hl h hs;have hlt:=iV ht;have hk:=Mk (h.rep s hs) hn h1 h2 hr;rw [keep,if_neg (by simp [fA.2 h]),if_neg (by simp [ht]),hg,if_neg (by simp [Dw (h.rep s hs) hn]),if_neg (by simp [hk])];rw [getD_at hlt] at hg;refine ⟨h.put hlt ?_ hk ?_,rfl⟩
 ·have:=h.bad s hs
  unfold fe at *;simp only [zq];exact this
 ·rw [hg];rfl
theorem uF {l:List aG} {i:Nat} {x:aG} (hi:i<l.length) (hx:x.client=l[i].client):(l.set i x).map (·.client)=l.map (·.client):=by
 rw [List.map_set,hx,show l[i].client=(l.map (·.client))[i]'(by rw [List.length_map];exact hi) by simp];exact List.set_getElem_self _
theorem Er {l:List aG} {index c q:Int} {r:eX} (h:(keep l index c q r).2=0):(keep l index c q r).1.map (·.client)=l.map (·.client):=by
 rw [keep] at h⊢
 split at h;· rename_i h1;exact absurd h h1
 split at h;· cases h
 split at h;· cases h
 split at h;· cases h
 rename_i h1 h2 h3 h4
 rw [if_neg h1,if_neg h2,if_neg h3,if_neg h4];have ht:gz l c=true:=by simpa using h2
 have hlt:=iV ht;exact uF hlt (by rw [getD_at hlt];rfl)
theorem Cx {l:List aG} {index c lW seq aH:Int} (h:(ready l index c lW seq aH).2.2.2=0):(ready l index c lW seq aH).1.map (·.client)=l.map (·.client):=by
 rw [ready] at h⊢
 split at h;· rename_i h1;exact absurd h h1
 split at h;· cases h
 rename_i h1 h2
 rw [if_neg h1,if_neg h2]
 split
 ·rfl
 ·rename_i h3
  have ht:gz l c=true:=by
   cases hc:gz l c
   ·exact absurd (.inl hc) h3
   ·rfl
  have hlt:=iV ht;exact uF hlt (by rw [getD_at hlt];exact ru _ _ _)
def jN (k:aN) (c:Int):Prop:=k.holder=c∨c∈k.line
structure Later (k k':aN):Prop where
 name:k'.name=k.name
 fence:k.fence≤k'.fence
 given:k'.holder≠0→k'.holder≠k.holder→k.fence<k'.fence
theorem Later.refl (k:aN):Later k k:=⟨rfl,Int.le_refl _,fun _ h=>absurd rfl h⟩
theorem Later.trans {a b c:aN} (h:Later a b) (k:Later b c):Later a c:=by
 refine ⟨k.name.trans h.name,Int.le_trans h.fence k.fence,fun h0 hn=>?_⟩;have h1:=h.fence;have h2:=k.fence
 by_cases hb:c.holder=b.holder
 ·have:=h.given (by rw [←hb];exact h0) (by rw [←hb];exact hn);omega
 ·have:=k.given h0 hb;omega
def fP (l l':List aN):Prop:=∀k∈l,∃k'∈l',Later k k'
theorem fP.refl (l:List aN):fP l l:=fun k hk=>⟨k,hk,Later.refl k⟩
theorem fP.trans {a b c:List aN} (h:fP a b) (k:fP b c):fP a c:=fun x hx=>by
 obtain ⟨y,hy,h1⟩:=h x hx;obtain ⟨z,hz,h2⟩:=k y hy;exact ⟨z,hz,h1.trans h2⟩
theorem fP.set {l:List aN} {i:Nat} (hi:i<l.length) {x:aN} (h:Later l[i] x):fP l (l.set i x):=by
 intro k hk;obtain ⟨j,hj,rfl⟩:=List.getElem_of_mem hk
 by_cases hij:i=j
 ·subst hij;exact ⟨x,List.mem_set hi _,h⟩
 ·refine ⟨l[j],?_,Later.refl _⟩
  rw [show l[j]=(l.set i x)[j]'(by rw [List.length_set];exact hj) from (List.getElem_set_ne hij _).symm];exact List.getElem_mem _
theorem fP.insert {l:List aN} {i:Nat} {x:aN}:fP l (l.take i++x::l.drop i):=fun k hk=>⟨k,mem_insert.2 (.inr hk),Later.refl k⟩
theorem fP.map {l:List aN} {f:aN→aN} (h:∀k∈l,Later k (f k)):fP l (l.map f):=fun k hk=>⟨f k,List.mem_map.2 ⟨k,hk,rfl⟩,h k hk⟩
theorem zm (k:aN):Later k (mY k):=by
 unfold mY
 split
 ·exact ⟨rfl,by simp only;omega,fun _ _=>by simp only;omega⟩
 ·exact ⟨rfl,Int.le_refl _,fun h=>absurd rfl h⟩
theorem si (k:aN) (who:Int):Later k (gH k who) :=
 ⟨qE _ _,by rw [(qD k who).2];exact Int.le_refl _,fun _ h=>absurd (qD k who).1 h⟩
theorem Gd (k:aN) (who:Int):Later k (jr k who):=by
 unfold jr
 split
 ·exact (si _ _).trans (zm _)
 ·exact si _ _
theorem FK {k:aN} {c:Int} (h:jN (mY k) c) (hc:c≠0):c∈k.line:=by
 unfold mY at h
 split at h
 ·rename_i h1
  obtain ⟨a,r,hl⟩:∃a r,k.line=a::r:=by
   cases hx:k.line with
   | nil=>rw [hx] at h1;simp at h1
   | cons a r=>exact ⟨a,r,rfl⟩
  rw [hl] at h⊢
  rcases h with h | h
  ·simp at h;simp [h]
  ·simp at h;simp [h]
 ·rcases h with h | h
  ·exact absurd h.symm hc
  ·simp at h
theorem GZ {k:aN} {who:Int} (h:k.line.Nodup):who∉(gH k who).line:=by
 unfold gH
 rcases j6 (fun x=>who == x) k.line with ⟨h1,h2⟩ | ⟨n,hn,h1,h2,_⟩
 ·rw [if_neg (by omega)]
  intro hm;have:=h2 _ hm;simp at this
 ·rw [if_pos (by omega),h1]
  simp only [Int.toNat_natCast];intro hm;have hw:k.line[n]=who:=by simpa using (by simpa using h2:who=k.line[n]).symm
  rw [List.mem_eraseIdx_iff_getElem] at hm;obtain ⟨i,hi,hne,he⟩:=hm;have hp:=List.pairwise_iff_getElem.1 h;have hee:k.line[i]=k.line[n]:=he.trans hw.symm
  rcases Nat.lt_trichotomy i n with h3 | h3 | h3
  ·exact hp i n hi hn h3 hee
  ·exact hne h3
  ·exact hp n i hn hi h3 hee.symm
theorem Ay (k:aN) (who y:Int) (hy:y∈(gH k who).line):y∈k.line:=by
 unfold gH at hy
 split at hy
 ·exact List.mem_of_mem_eraseIdx hy
 ·exact hy
theorem ML {k:aN} {who c:Int} (h1:tu k) (hc:c≠0) (h:jN (jr k who) c):jN k c∧c≠who:=by
 have hsub:∀y∈(gH k who).line,y∈k.line:=Ay k who;have hnot:=GZ (who:=who) h1.line.nodup;unfold jr at h
 split at h
 ·have:=FK h hc
  exact ⟨.inr (hsub _ this),fun e=>by subst e;exact hnot this⟩
 ·rename_i hh
  rcases h with h | h
  ·refine ⟨.inl ((qD k who).1.symm.trans h),fun e=>hh (h.trans e)⟩
  ·exact ⟨.inr (hsub _ h),fun e=>by subst e;exact hnot h⟩
theorem og {α:Type} {l:List α} {i:Nat} {x y:α} (h:y∈l.set i x):y∈l∨y=x:=List.mem_or_eq_of_mem_set h
theorem JZ {l:List aN} {name:List UInt8} {who:Int} {wt:Bool} (h:ji l) (hn:fD name=true) (hw:1≤who∧who≤9) :
 fP l (cO l name who wt).1∧(∀k∈(cO l name who wt).1,∀c,c≠0→jN k c→c=who∨∃k0∈l,jN k0 c)∧jg (cO l name who wt).2.1:=by
 have hsame:∀k∈l,∀c,c≠0→jN k c→c=who∨∃k0∈l,jN k0 c:=fun k hk c _ hc=>.inr ⟨k,hk,hc⟩
 rw [cO,if_neg (by rw [uq h hn hw];simp)]
 by_cases ht:eO l name=false
 ·rw [if_pos ht]
  by_cases h5:l.length=5
  ·rw [if_pos h5];exact ⟨fP.refl _,hsame,⟨by simp⟩⟩
  ·rw [if_neg h5]
   refine ⟨fP.insert,fun k hk c hc hin=>?_,⟨by simp⟩⟩
   rcases mem_insert.1 hk with rfl | hk
   ·rcases hin with hin | hin
    ·exact .inl hin.symm
    ·simp at hin
   ·exact hsame k hk c hc hin
 ·rw [if_neg ht]
  have ht':eO l name=true:=by simpa using ht
  have hlt:=jL ht';rw [getD_at hlt];have ho:=h.one _ (List.getElem_mem hlt);have hf:=ho.fence;have hhd:=ho.hold
  split
  ·exact ⟨fP.refl _,hsame,⟨by simp;omega⟩⟩
  ·rename_i hw1
   split
   ·split
    ·exact ⟨fP.refl _,hsame,⟨by simp⟩⟩
    ·rename_i h0 hf'
     refine ⟨fP.set hlt ⟨rfl,by simp only;omega,fun _ _=>by simp only;omega⟩,fun k hk c hc hin=>?_,⟨by simp;omega⟩⟩
     rcases og hk with hk | rfl
     ·exact hsame k hk c hc hin
     ·rcases hin with hin | hin
      ·exact .inl hin.symm
      ·exact .inr ⟨_,List.getElem_mem hlt, .inr hin⟩
   ·rename_i h0
    split
    ·exact ⟨fP.refl _,hsame,⟨by simp;omega⟩⟩
    ·split
     ·exact ⟨fP.refl _,hsame,⟨by simp⟩⟩
     ·refine ⟨fP.set hlt ⟨rfl,Int.le_refl _,fun _ hne=>absurd rfl hne⟩,fun k hk c hc hin=>?_,⟨by simp;omega⟩⟩
      rcases og hk with hk | rfl
      ·exact hsame k hk c hc hin
      ·rcases hin with hin | hin
       ·exact .inr ⟨_,List.getElem_mem hlt, .inl hin⟩
       ·rcases List.mem_append.1 hin with hin | hin
        ·exact .inr ⟨_,List.getElem_mem hlt, .inr hin⟩
        ·exact .inl (by simpa using hin)
theorem KH {l:List aN} {name:List UInt8} {who:Int} (h:ji l) (hn:fD name=true) (hw:1≤who∧who≤9) :
 fP l (fJ l name who).1∧(∀k∈(fJ l name who).1,∀c,c≠0→jN k c→∃k0∈l,jN k0 c)∧jg (fJ l name who).2.1:=by
 have hsame:∀k∈l,∀c,c≠0→jN k c→∃k0∈l,jN k0 c:=fun k hk c _ hc=>⟨k,hk,hc⟩
 rw [fJ,if_neg (by rw [uq h hn hw];simp)]
 by_cases ht:eO l name=false
 ·rw [if_pos ht];exact ⟨fP.refl _,hsame,⟨by simp⟩⟩
 ·rw [if_neg ht]
  have ht':eO l name=true:=by simpa using ht
  have hlt:=jL ht';rw [getD_at hlt];have ho:=h.one _ (List.getElem_mem hlt);have hhd:=ho.hold
  split
  ·have hp:=(yz ho).hold
   refine ⟨fP.set hlt (zm _),fun k hk c hc hin=>?_,⟨by simp;omega⟩⟩
   rcases og hk with hk | rfl
   ·exact hsame k hk c hc hin
   ·exact ⟨_,List.getElem_mem hlt, .inr (FK hin hc)⟩
  ·rename_i hne
   split
   ·refine ⟨fP.set hlt (si _ _),fun k hk c hc hin=>?_,⟨by simp;omega⟩⟩
    rcases og hk with hk | rfl
    ·exact hsame k hk c hc hin
    ·refine ⟨_,List.getElem_mem hlt,?_⟩
     rcases hin with hin | hin
     ·exact .inl ((qD _ _).1.symm.trans hin)
     ·refine .inr ?_
      exact Ay _ _ _ hin
   ·exact ⟨fP.refl _,hsame,⟨by simp;omega⟩⟩
theorem KE {l:List aN} {who:Int} (h:ji l) (hw:1≤who∧who≤9) :
 fP l (kH l who).1∧∀k∈(kH l who).1,∀c,c≠0→jN k c→c≠who∧∃k0∈l,jN k0 c:=by
 obtain ⟨h1,h2⟩:=JG h hw;rw [h2];refine ⟨fP.map fun k _=>Gd k who,fun k hk c hc hin=>?_⟩;obtain ⟨k0,hk0,rfl⟩:=List.mem_map.1 hk;obtain ⟨h3,h4⟩:=ML (h.one k0 hk0) hc hin;exact ⟨h4,k0,hk0,h3⟩
theorem Lu {l:List aN} (h:ji l) (name:List UInt8):(jF l name).2.2=0:=by
 rw [jF,if_neg (by simp [jB.2 h])]
 split<;>rfl
theorem P6 {l:List aN} (h:ji l) (name:List UInt8):0≤(jF l name).1∧(jF l name).1≤9:=by
 rw [jF,if_neg (by simp [jB.2 h])]
 split
 ·simp
 ·rename_i hn
  have ht:eO l name=true:=by
   cases hc:eO l name
   ·exact absurd (.inl hc) hn
   ·rfl
  have hlt:=jL ht;rw [getD_at hlt];exact h.hold _ (List.getElem_mem hlt)
theorem LJ {l:List fB} {name value:List UInt8} (h:qB l) (hn:fD name=true) (hv:value.length≤12):ja l name value =
 if mo l name=false then
  (if l.length=5 then (l,⟨8,0,[]⟩,0) else (l.take (eG l name)++⟨name,value,1⟩::l.drop (eG l name),⟨0,1,[]⟩,0))
 else if (l.getD (eG l name) cZ).version=1073741824 then (l,⟨8,0,[]⟩,0)
 else (l.set (eG l name) ⟨(l.getD (eG l name) cZ).name,value,(l.getD (eG l name) cZ).version+1⟩,⟨0,(l.getD (eG l name) cZ).version+1,[]⟩,0):=by
 have hc:=mh.2 h;rw [ja,if_neg (by simp [hc]),if_neg (by simp [hn]),if_neg (by omega)]
theorem get_eq {l:List fB} {name:List UInt8} (h:qB l):jW l name =
 if mo l name=false then (⟨6,0,[]⟩,0) else (⟨0,(l.getD (eG l name) cZ).version,(l.getD (eG l name) cZ).value⟩,0):=by
 have hc:=mh.2 h;rw [jW,if_neg (by simp [hc])]
end Go.Tk
