/- A part of the proof, laid together from: Join, Chg, LockB0, LockN, LockB. -/
import Derived.Test.YtbngpjdflblffaaGreatDoorPa07
import Derived.Deep.RegionHeld3
set_option linter.all false
set_option maxRecDepth 100000
set_option maxHeartbeats 800000
namespace Go.Tk
open Go Go.RowKit
def bW (g:Nat) (w w':World):Prop:=∀cur E fz,w.heap[g]?=some (.cells cur E fz)→∃cur',w'.heap[g]?=some (.cells cur' E fz)∧cur'.size=cur.size
theorem bW.refl (g:Nat) (w:World):bW g w w:=fun cur _ _ h=>⟨cur,h,rfl⟩
theorem bW.trans {g:Nat} {a b c:World} (h:bW g a b) (k:bW g b c):bW g a c:=fun cur E fz hc=>by
 obtain ⟨c1,h1,h2⟩:=h cur E fz hc;obtain ⟨c2,h3,h4⟩:=k c1 E fz h1;exact ⟨c2,h3,h4.trans h2⟩
theorem bW.same {g:Nat} {w w':World} (h:w'.heap[g]?=w.heap[g]?):bW g w w':=fun cur _ _ hc=>⟨cur,h.trans hc,rfl⟩
theorem bW.set {g:Nat} {a w:World} (h:bW g a w) (b o:Nat) (u:Value):bW g a (w.setCell ⟨b,o,none⟩ u):=h.trans fun cur E fz hc=>by
 by_cases hb:g=b
 ·subst hb
  simp only [World.setCell,Array.getElem?_modify,↓reduceIte,hc,Option.map_some];exact ⟨_,rfl,by simp⟩
 ·exact ⟨cur,(aC hb).trans hc,rfl⟩
theorem bW.drew {g:Nat} {a w:World} (h:bW g a w):bW g a w.drew:=h
theorem bW.alloc {g:Nat} {a w:World} (h:bW g a w) (hg:g<w.heap.size) (o:Obj):bW g a (w.alloc o):=h.trans (.same (Below.heap_alloc w o g hg))
theorem dN {w:World} {g:Nat} {cur:Array Value} {E:TypeId} {fz:Nat×Nat} (h:w.heap[g]?=some (.cells cur E fz)) (j:Nat):w.cell? ⟨g,j,none⟩=cur[j]?:=by
 simp [World.cell?,h]
theorem bZ.set {α:Type} {E k:Nat} {R:Rel α} (hR:cu R k) {w w':World} {g cap n:Nat} {l:List α} {S:Nat→Prop} (h:bZ E k R w (.slice (some ⟨g,0,none⟩) n cap) l S) {i:Nat} (hi:i<l.length) {x:α} {cs:List Value}
 (hx:R w cs x (fun b=>S b∧b≠g)) (hrow:bW g w w') (hout:∀j,j<i*k∨i*k+k≤j→w'.cell? ⟨g,j,none⟩=w.cell? ⟨g,j,none⟩) (hin:∀(j:Nat) (u:Value),cs[j]?=some u→w'.cell? ⟨g,i*k+j,none⟩=some u)
 (hblk:∀b,S b→b≠g→b<w.heap.size→w'.heap[b]?=w.heap[b]?):bZ E k R w' (.slice (some ⟨g,0,none⟩) n cap) (l.set i x) S:=by
 obtain ⟨rows,h1,h2,h3⟩:=h;have hcs:=hR.len hx;have hlen:=bZ.jq (E:=E) (v:=.slice (some ⟨g,0,none⟩) n cap) hR h1 h3;have hx':R w' cs x (fun b=>S b∧b≠g):=hR.move hx fun b hb hl=>⟨hblk b hb.1 hb.2 hl,hb⟩
 rcases h2.2 with ⟨h,_⟩ | ⟨g',cap',cur,hv,hb0,hg,hc,hm,hsz,htk⟩
 ·simp at h
 simp only [Value.slice.injEq,Option.some.injEq,Addr.mk.injEq,and_true] at hv;obtain ⟨rfl,rfl,rfl⟩:=hv;obtain ⟨cur',hg',hs'⟩:=hrow cur E _ hg;have hlen':∀r∈rows.set i cs,r.length=k:=by
  intro r hr
  rcases List.mem_or_eq_of_mem_set hr with h | h
  ·exact hlen r h
  ·rw [h];exact hcs
 have hfl:(rows.set i cs).flatten.length=l.length*k:=by
  have:∀(rs:List (List Value)),(∀r∈rs,r.length=k)→rs.flatten.length=rs.length*k:=by
   intro rs;induction rs with
   | nil=>intro _;simp
   | cons r rs ih=>intro hh;simp only [List.flatten_cons,List.length_append,List.length_cons];rw [ih fun r hr=>hh r (by simp [hr]),hh r (by simp),Nat.add_mul];omega
  rw [this _ hlen',List.length_set,h1]
 refine ⟨rows.set i cs,by simp [h1],⟨by rw [hfl,List.length_set], .inr ⟨g,cap,cur',?_,hb0,hg',?_,hm,by rw [hs'];exact hsz,?_⟩⟩,fun q r y hr hy=>?_⟩
 ·rw [List.length_set]
 ·rw [List.length_set];exact hc
 ·rw [List.length_set]
  refine List.ext_getElem? fun j=>?_
  rcases Nat.lt_or_ge j (l.length*k) with hj | hj
  ·rw [List.getElem?_take_of_lt hj]
   have hkp:0<k:=by rcases Nat.eq_zero_or_pos k with h | h;(subst h;omega);exact h
   obtain ⟨u,hu⟩:∃u,(rows.set i cs).flatten[j]?=some u:=⟨_,List.getElem?_eq_getElem (by rw [hfl];exact hj)⟩;rw [hu];obtain ⟨r,hr,Ou⟩:=qd hkp _ hlen' j u hu;have hjj:j / k*k+j % k=j:=by rw [Nat.mul_comm];exact Nat.div_add_mod j k
   have hmod:=Nat.mod_lt j hkp;rw [Array.getElem?_toList,←dN hg' j]
   by_cases hq:j / k=i
   ·rw [hq,List.getElem?_set_self (by omega)] at hr
    cases hr;have:=hin (j % k) u Ou;rw [hq] at hjj
    rwa [hjj] at this
   ·rw [List.getElem?_set_ne (Ne.symm hq)] at hr
    rw [hout j ?_,dN hg j,←Array.getElem?_toList]
    ·have:=flatten_getElem? rows hlen (j / k) (j % k) r u hr Ou
     rw [hjj,←htk,List.getElem?_take_of_lt hj] at this;exact this
    ·rcases Nat.lt_or_ge (j / k) i with h | h
     ·left
      have:=Nat.mul_le_mul_right k (show j / k+1≤i by omega);rw [Nat.add_mul] at this;omega
     ·right
      have:=Nat.mul_le_mul_right k (show i+1≤j / k by omega);rw [Nat.add_mul] at this;omega
  ·rw [List.getElem?_eq_none (by rw [List.length_take];omega),List.getElem?_eq_none (by rw [hfl];exact hj)]
 ·have hS:∀b,S b∧some b≠(Value.slice (some ⟨g,0,none⟩) l.length cap).ownBlock→b<w.heap.size→w'.heap[b]?=w.heap[b]?∧S b∧some b≠(Value.slice (some ⟨g,0,none⟩) l.length cap).ownBlock:=fun b hb hl =>
   ⟨hblk b hb.1 (fun e=>hb.2 (by rw [e];rfl)) hl,hb⟩
  by_cases hq:q=i
  ·subst hq
   rw [List.getElem?_set_self (by omega)] at hr;rw [List.getElem?_set_self hi] at hy;cases hr;cases hy;exact hR.sub hx' fun b hb _=>⟨hb.1,fun e=>hb.2 (by simpa [Value.ownBlock] using e)⟩
  ·rw [List.getElem?_set_ne (Ne.symm hq)] at hr hy
   exact hR.move (h3 q r y hr hy) hS
theorem bZ.at {α:Type} {E k:Nat} {R:Rel α} (hR:cu R k) {w:World} {g cap n:Nat} {l:List α} {S:Nat→Prop} (h:bZ E k R w (.slice (some ⟨g,0,none⟩) n cap) l S) {i:Nat} (hi:i<l.length) :
 ∃row,R w row l[i] (fun b=>S b∧b≠g)∧∀(j:Nat) (u:Value),row[j]?=some u→w.cell? ⟨g,i*k+j,none⟩=some u:=by
 obtain ⟨rows,h1,h2,h3⟩:=h;have hlen:=bZ.jq (E:=E) (v:=.slice (some ⟨g,0,none⟩) n cap) hR h1 h3;have hr:rows[i]?=some (rows[i]'(by omega)):=List.getElem?_eq_getElem (by omega);refine ⟨_,hR.sub (h3 i _ _ hr (List.getElem?_eq_getElem hi)) fun b hb _=>⟨hb.1,fun e=>hb.2 (by rw [e];rfl)⟩,fun j u hu=>?_⟩;have:=h2.cells (g:=g) rfl (i*k+j) u (flatten_getElem? rows hlen i j _ u hr hu)
 rwa [Addr.add_lit,Nat.zero_add] at this
theorem bZ.cut {α:Type} {E k:Nat} {R:Rel α} (hR:cu R k) {w w':World} {g cap n:Nat} {l:List α} {S:Nat→Prop} (h:bZ E k R w (.slice (some ⟨g,0,none⟩) n cap) l S) {i:Nat} (hi:i≤l.length) (hrow:bW g w w')
 (hout:∀j,j<i*k→w'.cell? ⟨g,j,none⟩=w.cell? ⟨g,j,none⟩) (hblk:∀b,S b→b≠g→b<w.heap.size→w'.heap[b]?=w.heap[b]?):bZ E k R w' (.slice (some ⟨g,0,none⟩) i cap) (l.take i) S:=by
 obtain ⟨rows,h1,h2,h3⟩:=h;have hlen:=bZ.jq (E:=E) (v:=.slice (some ⟨g,0,none⟩) n cap) hR h1 h3
 rcases h2.2 with ⟨h,_⟩ | ⟨g',cap',cur,hv,hb0,hg,hc,hm,hsz,htk⟩
 ·simp at h
 simp only [Value.slice.injEq,Option.some.injEq,Addr.mk.injEq,and_true] at hv;obtain ⟨rfl,rfl,rfl⟩:=hv;obtain ⟨cur',hg',hs'⟩:=hrow cur E _ hg;have hil:(l.take i).length=i:=by rw [List.length_take];omega
 have hik:=Nat.mul_le_mul_right k hi;have hck:=Nat.mul_le_mul_right k hc;have hcl:cur.toList.length=cap*k:=by simpa using hsz
 have hfl:rows.flatten.length=l.length*k:=h2.1;refine ⟨rows.take i,by simp [h1],⟨by rw [oZ rows hlen,hil,List.length_take,hfl];omega, .inr ⟨g,cap,cur',by rw [hil],hb0,hg',by rw [hil];omega,hm,by rw [hs'];exact hsz,?_⟩⟩,fun q r y hr hy=>?_⟩
 ·rw [hil,oZ rows hlen,←htk,List.take_take,Nat.min_eq_left hik]
  refine List.ext_getElem? fun j=>?_
  rcases Nat.lt_or_ge j (i*k) with hj | hj
  ·rw [List.getElem?_take_of_lt hj,List.getElem?_take_of_lt hj,Array.getElem?_toList,Array.getElem?_toList,←dN hg' j,←dN hg j]
   exact hout j hj
  ·rw [List.getElem?_eq_none (by rw [List.length_take];omega),List.getElem?_eq_none (by rw [List.length_take];omega)]
 ·have hqi:q<i:=by
   rcases Nat.lt_or_ge q i with h | h
   ·exact h
   ·rw [List.getElem?_eq_none (by rw [hil];exact h)] at hy;cases hy
  rw [List.getElem?_take_of_lt hqi] at hr hy;exact hR.move (h3 q r y hr hy) fun b hb hl=>⟨hblk b hb.1 (fun e=>hb.2 (by rw [e];rfl)) hl,hb.1,fun e=>hb.2 e⟩
theorem grownBy_set {a w:World} {r:Option Nat} (h:a.grownBy w r) {b:Nat} (hb:r=some b∨a.heap.size≤b) (o:Nat) (u:Value):a.grownBy (w.setCell ⟨b,o,none⟩ u) r :=
 ⟨h.os,h.tape,h.output,by simpa [World.setCell] using h.size,fun k hk hr=>(aC (by rcases hb with e | e;(intro e';exact hr (by rw [e,e']));omega)).trans (h.block k hk hr)⟩
theorem bO {a w:World} {g:Nat} (h:a.grownBy w (some g)) (o:Nat) (u:Value):a.grownBy (w.setCell ⟨g,o,none⟩ u) (some g):=grownBy_set h (.inl rfl) o u
theorem grownBy_alloc {a w:World} {r:Option Nat} (h:a.grownBy w r) (o:Obj):a.grownBy (w.alloc o) r :=
 ⟨h.os,h.tape,h.output,by have:=h.size;simp;omega,fun k hk hr=>(Below.heap_alloc w o k (Nat.lt_of_lt_of_le hk h.size)).trans (h.block k hk hr)⟩
theorem grownBy_below {a w w':World} {r:Option Nat} (h:a.grownBy w r) (hb:Below w.heap.size w w'):a.grownBy w' r :=
 ⟨hb.os.trans h.os,hb.tape.trans h.tape,hb.output.trans h.output,Nat.le_trans h.size hb.size,fun k hk hr=>(hb.block k (Nat.lt_of_lt_of_le hk h.size)).trans (h.block k hk hr)⟩
theorem aY {a w:World} (h:Below a.heap.size a w) (r:Option Nat):a.grownBy w r:=grownBy_below (grownBy_refl a r) h
theorem Bp {α:Type} {p:α→Bool} {l:List α} {n:Nat} (hn:n<l.length) (h:p l[n]=true) (hb:∀(j:Nat) (hj:j<l.length),j<n→p l[j]=false):l.take n=(l.take (n+1)).filter (fun x=>!p x):=by
 rw [List.take_succ_eq_append_getElem hn,List.filter_append];have h1:(l.take n).filter (fun x=>!p x)=l.take n:=List.filter_eq_self.2 fun x hx=>by
  obtain ⟨j,hj,rfl⟩:=List.getElem_of_mem hx;rw [List.length_take] at hj;rw [List.getElem_take,hb j (by omega) (by omega)];rfl
 rw [h1];simp [h]
theorem Du {α:Type} {p:α→Bool} {l m:List α} {a b:Nat} (hb:b<l.length) (h:p l[b]=true) (hm:m.take a=(l.take b).filter (fun x=>!p x)):m.take a=(l.take (b+1)).filter (fun x=>!p x):=by
 rw [List.take_succ_eq_append_getElem hb,List.filter_append,←hm];simp [h]
theorem Dt {α:Type} {p:α→Bool} {l m:List α} {a b:Nat} (hb:b<l.length) (ha:a<m.length) (h:p l[b]=false) (hm:m.take a=(l.take b).filter (fun x=>!p x)):(m.set a l[b]).take (a+1)=(l.take (b+1)).filter (fun x=>!p x):=by
 rw [List.take_succ_eq_append_getElem hb,List.filter_append,←hm,List.take_succ_eq_append_getElem (by simpa using ha),List.take_set_of_le (Nat.le_refl _)];simp [h]
theorem Dv {α:Type} {l m:List α} {a b:Nat} (hab:a<b) (x:α) (hm:m.drop b=l.drop b):(m.set a x).drop (b+1)=l.drop (b+1):=by
 rw [List.drop_set_of_lt (by omega),←List.drop_drop,hm,List.drop_drop]
theorem drop_at {α:Type} {l m:List α} {b:Nat} (hb:b<l.length) (hl:m.length=l.length) (hm:m.drop b=l.drop b):m[b]'(by omega)=l[b]:=by
 have h1:(m.drop b)[0]'(by simp;omega)=(l.drop b)[0]'(by simp;omega):=by simp only [hm]
 simpa using h1
theorem DC {α:Type} {l m:List α} {b:Nat} (hm:m.drop b=l.drop b):m.drop (b+1)=l.drop (b+1):=by
 rw [←List.drop_drop,hm,List.drop_drop]
theorem bW.sets {g b:Nat}:∀(vs:List Value) (o:Nat) {a w:World},bW g a w→bW g a (w.setCells b o vs)
 | [],_,_,_,h=>h
 | v::r,o,_,_,h=>bW.sets r (o+1) (h.set b o v)
theorem iW {b k:Nat} (h:k≠b):∀(vs:List Value) (o:Nat) (w:World),(w.setCells b o vs).heap[k]?=w.heap[k]?
 | [],_,_=>rfl
 | v::r,o,w=>(iW h r (o+1) _).trans (aC h)
theorem j5 {a:World} {r:Option Nat} {b:Nat} (hb:r=some b∨a.heap.size≤b):∀(vs:List Value) (o:Nat) (w:World),a.grownBy w r→a.grownBy (w.setCells b o vs) r
 | [],_,_,h=>h
 | v::vs,o,w,h=>j5 hb vs (o+1) _ (grownBy_set h hb o v)
theorem bG {B b:Nat} {a:World} (hb:B≤b):∀(vs:List Value) (o:Nat) (w:World),Below B a w→Below B a (w.setCells b o vs)
 | [],_,_,h=>h
 | v::vs,o,w,h=>bG hb vs (o+1) _ (ay h hb o v)
theorem bZ.setRow {α:Type} {E k:Nat} {R:Rel α} (hR:cu R k) {w:World} {g cap n:Nat} {l:List α} {S:Nat→Prop} (h:bZ E k R w (.slice (some ⟨g,0,none⟩) n cap) l S) {i:Nat} (hi:i<l.length) {x:α} {cs:List Value}
 (hx:R w cs x (fun b=>S b∧b≠g)):bZ E k R (w.setCells g (i*k) cs) (.slice (some ⟨g,0,none⟩) n cap) (l.set i x) S:=by
 have hlen:=hR.len hx;refine h.set hR hi hx (bW.sets _ _ (bW.refl _ _)) (fun j hj=>?_) (fun j u hu=>?_) (fun b _ hb _=>iW hb _ _ _)
 ·refine World.cell?_setCells_out _ _ _ _ _ fun _ _=>?_
  show j<_∨_≤j;omega
 ·obtain ⟨row,hrow,hc⟩:=h.at hR hi
  have hrl:=hR.len hrow;have hj:j<cs.length:=by
   rcases Nat.lt_or_ge j cs.length with h | h
   ·exact h
   ·rw [List.getElem?_eq_none h] at hu;cases hu
  rw [World.cell?_setCells_in g cs (i*k) w (fun q hq=>?_) j hj]
  ·rw [List.getElem?_eq_getElem hj] at hu;exact hu
  ·have:=hc q _ (List.getElem?_eq_getElem (by omega))
   rw [this];rfl
theorem aZ.take {α:Type} {k:Nat} {R:Rel α} {w:World} {a:Option Addr} {n cap:Nat} {l:List α} {S:Nat→Prop} (h:aZ k R w (.slice a n cap) l S) (i:Nat) (hi:i≤l.length):aZ k R w (.slice a i cap) (l.take i) S:=by
 obtain ⟨a',cap',hv,h1,h2,h3,h4⟩:=h;simp only [Value.slice.injEq] at hv;obtain ⟨rfl,rfl,rfl⟩:=hv;have hl:(l.take i).length=i:=by rw [List.length_take];omega
 refine ⟨a,cap,by rw [hl],by omega,h2,h3,fun j x hx=>?_⟩;have hj:j<i:=by
  rcases Nat.lt_or_ge j i with h | h
  ·exact h
  ·rw [List.getElem?_eq_none (by omega)] at hx;cases hx
 rw [List.getElem?_take_of_lt hj] at hx;exact h4 j x hx
theorem IB {P:Program} (w:World) (src dst e:TypeId) (s:List UInt8) (hs:P.underlying src=some .string) (hd:P.underlying dst=some (.slice e)) (he:P.underlying e=some (.int .u8)) (hl:s.length≤1000000) :
 ∃cap w1,(convert src dst (iS s)).run P w=.ok (.slice (some ⟨w.heap.size,0,none⟩) s.length cap) w1∧aZ 1 xh w1 (.slice (some ⟨w.heap.size,0,none⟩) s.length cap) s (fun _=>True)∧Below w.heap.size w w1:=by
 have hsz:(⟨s.toArray⟩:ByteArray).size=s.length:=by simp [ByteArray.size]
 have hr:=run_bytes_of_string (P:=P) w src dst e ⟨s.toArray⟩ hs hd he;rw [hsz] at hr;refine ⟨_,_,hr,⟨_,_,rfl,grownCap_ge w s.length 0 e,grownCap_le_maxLen w s.length 0 e (by unfold maxLen;omega),(fun h=>by cases h),fun i x hx=>⟨w.heap.size,0,[.int .u8 x.toNat],rfl,trivial,rfl,fun j u hu=>?_⟩⟩,Below.alloc (Below.drew iB) (Nat.le_refl _) _⟩
 ·cases j with
  | succ j=>simp at hu
  | zero =>
    simp at hu;subst hu;refine Eq.trans (dN (w:=w.drew.alloc _) (g:=w.heap.size) (heap_alloc_new w.drew _) _) ?_;have hi:i<s.length:=by
     rcases Nat.lt_or_ge i s.length with h | h
     ·exact h
     ·rw [List.getElem?_eq_none h] at hx;cases hx
    rw [List.getElem?_eq_getElem hi] at hx;simp only [Option.some.injEq] at hx;simp [bytesRow,Array.getElem?_append,hi,hx]
end Go.Tk
namespace Go.Proofs.YtbngpjdflblffaaGreatDoor
open Go.RowKit Go.Tk
theorem nT (w:World) (v:Value) (l:List aG) (S:Nat→Prop) (h:aZ 5 bR w v l S) (hn:l.length≤1000000) (t:Int) (ht:-1000000000000≤t∧t≤1000000000000) (hb0:∀x∈l,-1000000000000≤x.client∧x.client≤1000000000000) :
 Calls Tryz.prog 99 #[v, iI t] w fun e w'=>e=.returned (.tuple #[iI (fH l t:Nat), .bool (gz l t)])∧Below w.heap.size w w':=by
 go_enter Tryz.func99,Tryz.ntmps99
 go_wp2_with (go_at_call 141;refine (yg _ _ l S h hn t ht hb0).mono ?_;rintro e w' ⟨rfl,hb⟩)
 go_ret2
 exact ⟨rfl,hb⟩
theorem Ii (l:List aG) (index client:Int) (v:Value) (S:Nat→Prop) (w:World) (h:aZ 5 bR w v l S) (hc:-1000000000000≤client∧client≤1000000000000) :
 Calls Tryz.prog 61 #[v, iI index, iI client] w fun e w'=>∃v',e=.returned (.tuple #[v', .agg #[iI (join l index client).2.1.code, iI (join l index client).2.1.n, .string ⟨(join l index client).2.1.text.toArray⟩], iI (join l index client).2.2]) ∧
  aZ 5 bR w' v' (join l index client).1 (fun b=>w.heap.size≤b)∧Below w.heap.size w w':=by
 by_cases he:bC l index=0
 case neg =>
  have HJ:=iH (show join l index client=([],dP,bC l index) by rw [join,if_pos he]);have he':(bC l index != 0)=true:=by simpa using he
  clear he
  go_enter Tryz.func61,Tryz.ntmps61
  go_wp2_with (go_at_call 77;refine (eH l index v S _ (h.below aF (by decide) (iB.alloc (Nat.le_refl _) _))).mono ?_;rintro e w1 ⟨rfl,hb1⟩;obtain ⟨hc1,hf1⟩:=qX hb1;have hs1:=hb1.size)
  refine bodyPost_ret (v:=.tuple #[iN, .agg #[iI 0, iI 0, .string ⟨#[]⟩], iI (bC l index)]) (by simp [results,Tryz.results61,go_sem,hc1]) rfl ⟨_,by rw [HJ.out];rfl,?_,?_⟩
  ·rw [HJ.out];exact aZ.nil _ _
  ·repeat (first | exact ah (aj w _) hb1 | refine ay ?_ (Nat.le_refl _) _ _)
 by_cases hcl:client<1∨9<client∨index=1073741824
 case pos =>
  have HJ:=iH (show join l index client=([],dP,2) by rw [join,if_neg (by simpa using he),if_pos hcl]);have he':(bC l index != 0)=false:=by simpa using he
  have hcases:client<1∨(¬ client<1∧9<client)∨(¬ client<1∧¬ 9<client∧(index == 1073741824)=true):=by simp only [beq_iff_eq];omega
  have HE:=iH he;clear he hcl
  rcases hcases with h1 | ⟨h1,h2⟩ | ⟨h1,h2,h3⟩
  all_goals go_enter Tryz.func61,Tryz.ntmps61
  all_goals go_wp2_with (go_at_call 77;refine (eH l index v S _ (h.below aF (by decide) (iB.alloc (Nat.le_refl _) _))).mono ?_;rintro e w1 ⟨rfl,hb1⟩;obtain ⟨hc1,hf1⟩:=qX hb1;have hs1:=hb1.size)
  all_goals refine bodyPost_ret (v:=.tuple #[iN, .agg #[iI 0, iI 0, .string ⟨#[]⟩], iI 2]) (by simp [results,Tryz.results61,go_sem,hc1]) rfl ⟨_,by rw [HJ.out];rfl,?_,?_⟩
  all_goals first
   | (rw [HJ.out];exact aZ.nil _ _)
   | (repeat (first | exact ah (aj w _) hb1 | refine ay ?_ (Nat.le_refl _) _ _))
 have hok:=fA.1 he;have Ir:∀x∈l,-1000000000000≤x.client∧x.client≤1000000000000:=fun x hx=>by have:=hok.bad x hx;unfold fe at this;omega
 have hin:∀x∈l,x.aA.length≤1000000:=fun x hx=>by have:=iA (hok.rep x hx);omega
 have hl4:=hok.len;have hidx:=hok.idx;have hfl:=zy (fun i=>gI (l.getD i aR) client) l.length
 by_cases hth:gz l client=true
 case pos =>
  have HJ:=iH (show join l index client=(l.set (fH l client) { l.getD (fH l client) aR with last:=index+1 },⟨7,(l.getD (fH l client) aR).id,[]⟩,0) by rw [join,if_neg (by simpa using he),if_neg hcl,if_pos hth]);have he':(bC l index != 0)=false:=by simpa using he
  have hi0:(index == 1073741824)=false:=by simp;omega
  have hi1:¬ client<1:=by omega
  have hi2:¬ 9<client:=by omega
  have hlt:=iV hth;have HB:=iH Ir;have HN:=iH hin;have HO:=iH hok;have HT:=iH hth;generalize hfi:fH l client=fi at *;have Rs:=iH hfi;clear hfi Ir hin hok he hcl hth hfl
  go_enter Tryz.func61,Tryz.ntmps61
  go_wp2_with fail
  refine (eH l index v S _ (h.below aF (by decide) (iB.alloc (Nat.le_refl _) _))).mono ?_;rintro e w1 ⟨rfl,hb1⟩;obtain ⟨hc1,hf1⟩:=qX hb1;have hs1:=hb1.size
  go_wp2_with fail
  refine (iF _ v l S (h.below aF (by decide) (ah (aj w _) hb1)) (by omega) HN.out).mono ?_;rintro e w2 ⟨v2,rfl,ho2,hb2,hv2⟩;obtain ⟨hc2,hf2⟩:=qX hb2;have hs2:=hb2.size;have hr2:=ho2.kr hv2
  go_wp2_with fail
  refine (nT _ v2 l _ hr2 (by omega) client hc HB.out).mono ?_;rw [Rs.out,HT.out];rintro e w3 ⟨rfl,hb3⟩;obtain ⟨hc3,hf3⟩:=qX hb3;have hs3:=hb3.size;obtain ⟨g,cap2,rfl,hgc,hgm,hg2,hfz⟩:=ho2.pO (by omega);have hgw:=hv2 g rfl;obtain ⟨row,G,hrow,hG,hcells,hch⟩:=(ho2.below (dX _) hb3).change (dX _) (by decide) fi hlt;have hgd:l.getD fi aR=l[fi]:=by simp [List.getD,hlt]
  rw [hgd] at HJ;clear hgd;generalize l[fi]=x at *;obtain ⟨rv,rfl,jd,hrg⟩:=hrow;obtain ⟨ra,rc,rfl⟩:=jd.shape;have q0:=hcells 0 _ rfl;have q1:=hcells 1 _ rfl;have q2:=hcells 2 _ rfl;have q3:=hcells 3 _ rfl;have q4:=hcells 4 _ rfl;have q3w:=(hc3 g _ hg2).symm.trans q3;have q1w:=(hc3 g _ hg2).symm.trans q1;clear hcells;have HC:=iH hch;clear hch;have hb:=ah (ah (aj w _) hb1) (ah (ah iB hb2) hb3);have hb4:=ay (ah hb1 (ah (ah iB hb2) hb3)) (b:=g) (by omega) (fi*5+3) (iI (index+1));simp only [World.size_alloc] at hb4;have hgw':w.heap.size<g:=by rw [World.size_alloc] at hs1;omega
  have hw13:w1.heap.size≤w3.heap.size:=by omega
  have Oh:w.heap.size<w1.heap.size:=by rw [World.size_alloc] at hs1;omega
  obtain ⟨hz,jm,hzs⟩:=fresh hb4;have z0:=hz 0;have z1:=hz 1;have z2:=hz 2;have uR:=jm 0;have uQ:=jm 1;have tN:=jm 2;have q1':=(World.cell?_setCell_other w3 ⟨g,fi*5+3,none⟩ ⟨g,fi*5+1,none⟩ (iI (index+1)) (by simp)).trans q1;clear hz jm;go_wp2;go_region;go_wp2;refine bodyPost_ret (v:=.tuple #[.slice (some ⟨g,0,none⟩) l.length cap2, .agg #[iI 7, iI x.id, .string ⟨#[]⟩], iI 0]) (by simp [results,Tryz.results61,go_sem,z0,z1,z2,uR,uQ,tN]) rfl ⟨_,by rw [HJ.out],?_,?_⟩
  ·rw [HJ.out]
   refine HC.out _ _ _ [iI x.client, iI x.id, iI x.aH, iI (index+1), .slice ra x.aA.length rc] _ rfl (fun _ _ _ _ hr=>hr.read) ?_ ?_ ?_ ?_ ?_ ?_
   ·intro j hj;(repeat (first | with_reducible rfl | with_reducible assumption | with_reducible refine (Go.Tk.pI _ _).trans ?_ | with_reducible refine (Go.Tk.cell_far (by omega)).trans ?_ | with_reducible refine (Go.Tk.bK (by omega)).trans ?_ | with_reducible exact World.cell?_setCell_same _ _ _ (by with_reducible assumption)))
   ·intro j u hu
    have q3':=World.cell?_setCell_same w3 ⟨g,fi*5+3,none⟩ (iI (index+1)) q3
    match j,hu with
    | 0,hu=>cases hu;(repeat (first | with_reducible rfl | with_reducible assumption | with_reducible refine (Go.Tk.pI _ _).trans ?_ | with_reducible refine (Go.Tk.cell_far (by omega)).trans ?_ | with_reducible refine (Go.Tk.bK (by omega)).trans ?_ | with_reducible exact World.cell?_setCell_same _ _ _ (by with_reducible assumption)))
    | 1,hu=>cases hu;(repeat (first | with_reducible rfl | with_reducible assumption | with_reducible refine (Go.Tk.pI _ _).trans ?_ | with_reducible refine (Go.Tk.cell_far (by omega)).trans ?_ | with_reducible refine (Go.Tk.bK (by omega)).trans ?_ | with_reducible exact World.cell?_setCell_same _ _ _ (by with_reducible assumption)))
    | 2,hu=>cases hu;(repeat (first | with_reducible rfl | with_reducible assumption | with_reducible refine (Go.Tk.pI _ _).trans ?_ | with_reducible refine (Go.Tk.cell_far (by omega)).trans ?_ | with_reducible refine (Go.Tk.bK (by omega)).trans ?_ | with_reducible exact World.cell?_setCell_same _ _ _ (by with_reducible assumption)))
    | 3,hu=>cases hu;(repeat (first | with_reducible rfl | with_reducible assumption | with_reducible refine (Go.Tk.pI _ _).trans ?_ | with_reducible refine (Go.Tk.cell_far (by omega)).trans ?_ | with_reducible refine (Go.Tk.bK (by omega)).trans ?_ | with_reducible exact World.cell?_setCell_same _ _ _ (by with_reducible assumption)))
    | 4,hu=>cases hu;(repeat (first | with_reducible rfl | with_reducible assumption | with_reducible refine (Go.Tk.pI _ _).trans ?_ | with_reducible refine (Go.Tk.cell_far (by omega)).trans ?_ | with_reducible refine (Go.Tk.bK (by omega)).trans ?_ | with_reducible exact World.cell?_setCell_same _ _ _ (by with_reducible assumption)))
   ·intro b hb h1 h2 h3
    have hb':w1.heap.size≤b:=hb
    (repeat (first | with_reducible rfl | with_reducible assumption | with_reducible refine (Go.Tk.heap_drew _ _).trans ?_ | with_reducible refine (Go.Tk.aC (by omega)).trans ?_))
   ·intro b hb;show _≤_ ;omega
   ·show _≤_ ;omega
   ·refine jJ.read (EK:=117) ⟨_,rfl,jd.move aS (fun g' hg'=>?_) (fun b hb=>hb.elim),fun g' hg'=>?_⟩
    ·have:=hG g' (hrg g' hg')
     (repeat (first | with_reducible rfl | with_reducible assumption | with_reducible refine (Go.Tk.heap_drew _ _).trans ?_ | with_reducible refine (Go.Tk.aC (by omega)).trans ?_))
    ·have:=hG g' (hrg g' hg')
     show _≤_;omega
  ·(repeat (first | with_reducible exact (aj w _).trans (hb4.mono (Nat.le_succ _)) | with_reducible refine Below.drew ?_ | with_reducible refine ay ?_ (by omega) _ _ | with_reducible refine Below.alloc ?_ (by omega) _))
 case neg =>
  have Wz:fH l client≤l.length:=hfl;have he':(bC l index != 0)=false:=by simpa using he
  have hi0:(index == 1073741824)=false:=by simp;omega
  have hi1:¬ client<1:=by omega
  have hi2:¬ 9<client:=by omega
  have Ku:gz l client=false:=by simpa using hth
  have KZ:=iH (show join l index client=if l.length=4 then (l,⟨8,0,[]⟩,0) else (l.take (fH l client)++⟨client,index+1,0,index+1,[]⟩::l.drop (fH l client),⟨0,index+1,[]⟩,0) by rw [join,if_neg (by simpa using he),if_neg hcl,if_neg hth]);have HB:=iH Ir;have HN:=iH hin;have HO:=iH hok;have HT:=iH Ku;generalize hfi:fH l client=fi at *;have Rs:=iH hfi;clear hfi Ir hin hok he hcl hth hfl Ku
  by_cases hln:l.length=4
  ·have HJ:=iH (KZ.out.trans (if_pos hln))
   clear KZ
   go_enter Tryz.func61,Tryz.ntmps61
   go_wp2_with fail
   refine (eH l index v S _ (h.below aF (by decide) (iB.alloc (Nat.le_refl _) _))).mono ?_;rintro e w1 ⟨rfl,hb1⟩;obtain ⟨hc1,hf1⟩:=qX hb1;have hs1:=hb1.size
   go_wp2_with fail
   refine (iF _ v l S (h.below aF (by decide) (ah (aj w _) hb1)) (by omega) HN.out).mono ?_;rintro e w2 ⟨v2,rfl,ho2,hb2,hv2⟩;obtain ⟨hc2,hf2⟩:=qX hb2;have hs2:=hb2.size;have hr2:=ho2.kr hv2
   go_wp2_with fail
   refine (nT _ v2 l _ hr2 (by omega) client hc HB.out).mono ?_;rw [Rs.out,HT.out];rintro e w3 ⟨rfl,hb3⟩;obtain ⟨hc3,hf3⟩:=qX hb3;have hs3:=hb3.size;have hr3:=hr2.below aF (by decide) hb3;obtain ⟨ra,rc,rfl⟩:∃a c,v2=.slice a l.length c:=by obtain ⟨a,c,h,_⟩:=hr2;exact ⟨a,c,h⟩
   have hb4:=ah hb1 (ah (ah iB hb2) hb3);have Oh:w.heap.size<w1.heap.size:=by rw [World.size_alloc] at hs1;omega
   simp only [World.size_alloc] at hb4;obtain ⟨hz,jm,hzs⟩:=fresh hb4;have z0:=hz 0;have z1:=hz 1;have z2:=hz 2;have uR:=jm 0;have uQ:=jm 1;have tN:=jm 2;clear hz jm;go_wp2;refine bodyPost_ret (v:=.tuple #[.slice ra l.length rc, .agg #[iI 8, iI 0, .string ⟨#[]⟩], iI 0]) (by simp [results,Tryz.results61,go_sem,z0,z1,z2,uR,uQ,tN,hln]) rfl ⟨_,by rw [HJ.out],?_,?_⟩
   ·rw [HJ.out]
    refine (hr3.move aF (by decide) fun b hb hlt=>⟨?_,?_⟩)
    ·(repeat (first | with_reducible rfl | with_reducible assumption | with_reducible refine (Go.Tk.heap_drew _ _).trans ?_ | with_reducible refine (Go.Tk.aC (by omega)).trans ?_))
    ·show _≤_;omega
   ·(repeat (first | with_reducible exact (aj w _).trans (hb4.mono (Nat.le_succ _)) | with_reducible refine Below.drew ?_ | with_reducible refine ay ?_ (by omega) _ _ | with_reducible refine Below.alloc ?_ (by omega) _))
  ·have HJ:=iH (KZ.out.trans (if_neg hln))
   clear KZ
   go_enter Tryz.func61,Tryz.ntmps61
   go_wp2_with fail
   refine (eH l index v S _ (h.below aF (by decide) (iB.alloc (Nat.le_refl _) _))).mono ?_;rintro e w1 ⟨rfl,hb1⟩;obtain ⟨hc1,hf1⟩:=qX hb1;have hs1:=hb1.size
   go_wp2_with fail
   refine (iF _ v l S (h.below aF (by decide) (ah (aj w _) hb1)) (by omega) HN.out).mono ?_;rintro e w2 ⟨v2,rfl,ho2,hb2,hv2⟩;obtain ⟨hc2,hf2⟩:=qX hb2;have hs2:=hb2.size;have hr2:=ho2.kr hv2
   go_wp2_with fail
   refine (nT _ v2 l _ hr2 (by omega) client hc HB.out).mono ?_;rw [Rs.out,HT.out];rintro e w3 ⟨rfl,hb3⟩;obtain ⟨hc3,hf3⟩:=qX hb3;have hs3:=hb3.size;have hr3:=hr2.below aF (by decide) hb3;obtain ⟨ra,rc,rfl⟩:∃a c,v2=.slice a l.length c:=by obtain ⟨a,c,h,_⟩:=hr2;exact ⟨a,c,h⟩
   have ho3:=((ho2.below (dX _) hb3).own (dX _)).map (R':=bR) fun _ _ _ _ hr=>hr.read
   go_wp2_with fail
   refine (yF aF l fi Wz ⟨client,index+1,0,index+1,[]⟩ #[iI client, iI (index+1), iI 0, iI (index+1), iN] w3 _ _ ho3 ⟨_,rfl,aZ.nil _ _⟩ (by omega)).mono ?_;rintro e w4 ⟨v4,rfl,kY,hg4,hv4⟩;have hb4:=(ah hb1 (ah (ah iB hb2) hb3)).grown hg4 (by omega) (fun k hk=>Nat.le_trans hs1 (hv2 k hk));have hr4:=kY.read aF (by decide) (fun g hg=>by
    rcases hv4 with h | ⟨g',h,hg'⟩
    ·rw [h] at hg;exact hv2 g hg
    ·rw [h] at hg;cases hg;omega)
   obtain ⟨rb,rd,rfl⟩:∃a c,v4=.slice a (l.length+1) c:=by obtain ⟨a,c,h,_⟩:=hr4;refine ⟨a,c,?_⟩;rw [h];simp;omega
   have Oh:w.heap.size<w1.heap.size:=by rw [World.size_alloc] at hs1;omega
   simp only [World.size_alloc] at hb4;obtain ⟨hz,jm,hzs⟩:=fresh hb4;have z0:=hz 0;have z1:=hz 1;have z2:=hz 2;have uR:=jm 0;have uQ:=jm 1;have tN:=jm 2;clear hz jm;go_wp2;refine bodyPost_ret (v:=.tuple #[.slice rb (l.length+1) rd, .agg #[iI 0, iI (index+1), .string ⟨#[]⟩], iI 0]) (by simp [results,Tryz.results61,go_sem,z0,z1,z2,uR,uQ,tN]) rfl ⟨_,by rw [HJ.out],?_,?_⟩
   ·rw [HJ.out]
    refine (hr4.move aF (by decide) fun b hb hlt=>⟨?_,?_⟩)
    ·(repeat (first | with_reducible rfl | with_reducible assumption | with_reducible refine (Go.Tk.heap_drew _ _).trans ?_ | with_reducible refine (Go.Tk.aC (by omega)).trans ?_))
    ·show _≤_;omega
   ·(repeat (first | with_reducible exact (aj w _).trans (hb4.mono (Nat.le_succ _)) | with_reducible refine Below.drew ?_ | with_reducible refine ay ?_ (by omega) _ _ | with_reducible refine Below.alloc ?_ (by omega) _))
theorem vT (c:UInt8) (w:World):Calls Tryz.prog 134 #[.int .u8 c.toNat] w fun e w'=>e=.returned (.bool (kg c))∧w=w':=by
 have HL:=iH (show kg c=(decide ((c.toNat:Int)<97) || decide ((122:Int)<(c.toNat:Int))) from rfl);generalize kg c=bb at HL⊢;generalize hx:c.toNat=x at HL⊢;have HX:=iH hx;clear hx
 by_cases h:(x:Int)<97
 ·have HL2:=iH (HL.out.trans (by rw [decide_eq_true h,Bool.true_or]))
  go_enter Tryz.func134,Tryz.ntmps134
  go_wp2;go_ret;exact ⟨by rw [HL2.out];rfl,rfl⟩
 ·have HL2:=iH (HL.out.trans (by rw [decide_eq_false h,Bool.false_or]))
  go_enter Tryz.func134,Tryz.ntmps134
  go_wp2;go_ret;exact ⟨by rw [HL2.out];rfl,rfl⟩
theorem yM (w:World) (v:Value) (l:List UInt8) (S:Nat→Prop) (h:aZ 1 xh w v l S) (hn:l.length≤1000000) :
 Calls Tryz.prog 159 #[v, .func (.func 134) #[] #[]] w fun e w'=>e=.returned (iI (kD kg l))∧Below w.heap.size w w':=by
 obtain ⟨a,vc,hv,hl,hm,hnil,-⟩:=id h;subst hv;unfold maxLen at hm;have hlen:(l.length:Int)≤1000000:=by omega
 go_enter Tryz.func159,Tryz.ntmps159
 go_wp2
 go_loopw [8] (fun i wr=>∃n:Nat,n≤l.length∧i=iI n∧Hid (∀(j:Nat) (hj:j<l.length),j<n→kg l[j]=false)∧Below w.heap.size w wr)
  (fun i _=>l.length - (intOf i).toNat)
 case atStart=>exact ⟨0,by omega,rfl,fun j _ hj=>by omega,iB⟩
 case round =>
  obtain ⟨n,hnl,rfl,hall,hb⟩:=hrel;have hws:=hb.size
  by_cases hlt:n<l.length
  ·obtain ⟨b,off,NN,row,hv,hS,hrow,hcells⟩:=(h.below xg (by decide) hb).row n hlt
   simp only [Value.slice.injEq] at hv;obtain ⟨rfl,_,rfl⟩:=hv;have HY:Hid (kg l[n]=true→kD kg l=n):=fun ht=>qO hlt ht hall.out
   have HN:Hid (kg l[n]=false→∀(j:Nat) (hj:j<l.length),j<n+1→kg l[j]=false):=fun ht j hj hj1=>by
    rcases Nat.lt_or_ge j n with h | h
    ·exact hall.out j hj h
    ·obtain rfl:j=n:=by omega
     exact ht
   clear hall;generalize xX:l[n]=x at *;clear xX;obtain rfl:=hrow;have q0:=hcells 0 _ rfl;simp only [Nat.add_zero,Nat.mul_one] at q0;clear hcells h;cases hf:kg x
   case true =>
    have HF:=iH (HY.out hf);have HX:=iH hf;clear hf
    go_wp2_with fail
    refine (vT x _).mono ?_;rw [HX.out];rintro e w2 ⟨rfl,rfl⟩;go_wp2;go_ret;exact ⟨by rw [HF.out];rfl,hb⟩
   case false =>
    have HX:=iH hf;have O5:=iH (HN.out hf);clear hf HN
    go_wp2_with fail
    refine (vT x _).mono ?_;rw [HX.out];rintro e w2 ⟨rfl,rfl⟩;go_wp2
    go_roundw
    case rel=>exact ⟨n+1,by omega,by go_num,O5.out,hb⟩
    case measure=>simp [intOf];omega
  ·obtain rfl:n=l.length:=by omega
   have HF:Hid (kD kg l=-1):=mH fun j hj=>hall.out j hj hj
   clear hall h;go_wp2;go_ret;exact ⟨by rw [HF.out];rfl,hb⟩
theorem BH {α:Type} (p:α→Bool) (l:List α):decide (0≤kD p l)=l.any p:=by
 rcases j6 p l with ⟨h,h2⟩ | ⟨n,hn,h,h2,_⟩
 ·rw [h,Eq.comm]
  refine (List.any_eq_false.2 fun x hx=>by rw [h2 x hx];decide)
 ·rw [h]
  have:l.any p=true:=List.any_eq_true.2 ⟨_,List.getElem_mem hn,h2⟩;rw [this];simp
theorem u7 (w:World) (v:Value) (l:List UInt8) (S:Nat→Prop) (h:aZ 1 xh w v l S) (hn:l.length≤1000000) :
 Calls Tryz.prog 133 #[v, .func (.func 134) #[] #[]] w fun e w'=>e=.returned (.bool (l.any kg))∧Below w.heap.size w w':=by
 have HF:=iH (BH kg l)
 go_enter Tryz.func133,Tryz.ntmps133
 go_wp2_with fail
 refine (yM w v l S h hn).mono ?_;rintro e w2 ⟨rfl,hb⟩;go_wp2;go_ret;exact ⟨by rw [HF.out];rfl,hb⟩
theorem pX (s:List UInt8) (w:World):Calls Tryz.prog 90 #[iS s] w fun e w'=>e=.returned (.bool (fD s))∧Below w.heap.size w w':=by
 cases s with
 | nil =>
   go_enter Tryz.func90,Tryz.ntmps90
   go_wp2;go_ret;exact ⟨rfl,iB⟩
 | cons c r =>
   have HL:=iH (show fD (c::r)=(decide ((c::r).length≤6) && !(c::r).any kg) from rfl)
   by_cases h6:(c::r).length≤6
   ·have HL2:=iH (HL.out.trans (by rw [decide_eq_true h6,Bool.true_and]))
    obtain ⟨cap,w1,hcv,hsl,hb1⟩:=IB (P:=Tryz.prog) w _ _ _ (c::r) Tryz.underlying9 Tryz.underlying39 Tryz.underlying5 (by omega);have HC:=iH (u7 w1 _ _ _ hsl (by omega));clear hsl;have hne:(c::r).isEmpty=false:=rfl;generalize c::r=s at *
    go_enter Tryz.func90,Tryz.ntmps90
    go_wp2_with fail
    refine HC.out.mono ?_;rintro e w2 ⟨rfl,hb2⟩;go_wp2;go_ret;exact ⟨by rw [HL2.out];rfl,ah hb1 hb2⟩
   ·have HL2:=iH (HL.out.trans (by rw [decide_eq_false h6,Bool.false_and]))
    have hne:(c::r).isEmpty=false:=rfl;generalize c::r=s at *
    go_enter Tryz.func90,Tryz.ntmps90
    go_wp2;go_ret;exact ⟨by rw [HL2.out];rfl,iB⟩
theorem lG (n:Int) (w:World):Calls Tryz.prog 116 #[iI n] w fun e w'=>e=.returned (.bool (gU n))∧w=w':=by
 have HL:=iH (show gU n=(decide (1≤n) && decide (n≤9)) from rfl)
 by_cases h:1≤n
 ·have HL2:=iH (HL.out.trans (by rw [decide_eq_true h,Bool.true_and]))
  go_enter Tryz.func116,Tryz.ntmps116
  go_wp2;go_ret;exact ⟨by rw [HL2.out];rfl,rfl⟩
 ·have HL2:=iH (HL.out.trans (by rw [decide_eq_false h,Bool.false_and]))
  go_enter Tryz.func116,Tryz.ntmps116
  go_wp2;go_ret;exact ⟨by rw [HL2.out];rfl,rfl⟩
theorem qa (w:World) (v:Value) (l:List Int) (S:Nat→Prop) (h:aZ 1 jE w v l S) (hn:l.length≤1000000) (t:Int) :
 Calls Tryz.prog 138 #[v, iI t] w fun e w'=>e=.returned (iI (kD (fun x=>t == x) l))∧Below w.heap.size w w':=by
 obtain ⟨a,vc,hv,hl,hm,hnil,-⟩:=id h;subst hv;unfold maxLen at hm;have hlen:(l.length:Int)≤1000000:=by omega
 go_enter Tryz.func138,Tryz.ntmps138
 go_wp2
 go_loopw [8] (fun i wr=>∃n:Nat,n≤l.length∧i=iI n∧Hid (∀(j:Nat) (hj:j<l.length),j<n→(t == l[j])=false)∧Below w.heap.size w wr)
  (fun i _=>l.length - (intOf i).toNat)
 case atStart=>exact ⟨0,by omega,rfl,fun j _ hj=>by omega,iB⟩
 case round =>
  obtain ⟨n,hnl,rfl,hall,hb⟩:=hrel;have hws:=hb.size
  by_cases hlt:n<l.length
  ·obtain ⟨b,off,NN,row,hv,hS,hrow,hcells⟩:=(h.below bB (by decide) hb).row n hlt
   simp only [Value.slice.injEq] at hv;obtain ⟨rfl,_,rfl⟩:=hv;have HY:Hid ((t == l[n])=true→kD (fun x=>t == x) l=n):=fun ht=>qO hlt ht hall.out
   have HN:Hid ((t == l[n])=false→∀(j:Nat) (hj:j<l.length),j<n+1→(t == l[j])=false):=fun ht j hj hj1=>by
    rcases Nat.lt_or_ge j n with h | h
    ·exact hall.out j hj h
    ·obtain rfl:j=n:=by omega
     exact ht
   clear hall;generalize xX:l[n]=x at *;clear xX;obtain rfl:=hrow;have q0:=hcells 0 _ rfl;simp only [Nat.add_zero,Nat.mul_one] at q0;clear hcells h;cases hf:(t == x)
   case true =>
    have HF:=iH (HY.out hf);go_wp2;go_ret;exact ⟨by rw [HF.out];rfl,hb⟩
   case false =>
    have O5:=iH (HN.out hf);clear HN;go_wp2
    go_roundw
    case rel=>exact ⟨n+1,by omega,by go_num,O5.out,hb⟩
    case measure=>simp [intOf];omega
  ·obtain rfl:n=l.length:=by omega
   have HF:Hid (kD (fun x=>t == x) l=-1):=mH fun j hj=>hall.out j hj hj
   clear hall h;go_wp2;go_ret;exact ⟨by rw [HF.out];rfl,hb⟩
theorem EJ (l:List Int) (t:Int):l.any (fun x=>t == x)=l.contains t:=by
 rw [List.contains_eq_any_beq]
theorem qR (w:World) (v:Value) (l:List Int) (S:Nat→Prop) (h:aZ 1 jE w v l S) (hn:l.length≤1000000) (t:Int) :
 Calls Tryz.prog 147 #[v, iI t] w fun e w'=>e=.returned (.bool (l.contains t))∧Below w.heap.size w w':=by
 have HF:=iH ((BH (fun x=>t == x) l).trans (EJ l t))
 go_enter Tryz.func147,Tryz.ntmps147
 go_wp2_with fail
 refine (qa w v l S h hn t).mono ?_;rintro e w2 ⟨rfl,hb⟩;go_wp2;go_ret;exact ⟨by rw [HF.out];rfl,hb⟩
end Go.Proofs.YtbngpjdflblffaaGreatDoor
