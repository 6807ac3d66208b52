/- A part of the proof, laid together from: Kit, Data, SearchP, SessP, BsP. -/
import Derived.WalkSpells
import Derived.Lib.Hide
set_option linter.all false
set_option maxRecDepth 100000
namespace Go.Tk
open Go Go.RowKit
abbrev iI (x : Int) : Value := .int .i64 x
abbrev iN : Value := .slice none 0 0
abbrev iS (l : List UInt8) : Value := .string ⟨l.toArray⟩
abbrev iP (b o : Nat) : Value := .pointer (some ⟨b, o, none⟩)
theorem iH {p : Prop} (h : p) : Hid p := h
theorem iB {B : Nat} {w : World} : Below B w w := Below.refl _ _
theorem iD {p q : Prop} [Decidable p] (h : decide p = false) : p → q := fun k => absurd k (of_decide_eq_false h)
theorem qP {a a':Value} (h1:a=a'):Ending.returned a=.returned a':=by rw [h1]
theorem qg {a b a' b':Value} (h1:a=a') (h2:b=b'):Ending.returned (.tuple #[a,b])=.returned (.tuple #[a',b']):=by rw [h1,h2]
theorem MQ {a b c a' b' c':Value} (h1:a=a') (h2:b=b') (h3:c=c'):Ending.returned (.tuple #[a,b,c])=.returned (.tuple #[a',b',c']):=by rw [h1,h2,h3]
@[go_sem] theorem Xc (s:List UInt8) (i j:Nat):({ data:=s.toArray }:ByteArray).extract i j=⟨((s.take j).drop i).toArray⟩:=by
 apply ByteArray.ext
 simp [ByteArray.extract,ByteArray.copySlice,List.drop_take]
@[go_sem] theorem RP (a b:List UInt8):({ data:=a.toArray }:ByteArray)++({ data:=b.toArray }:ByteArray)=⟨(a++b).toArray⟩:=by
 apply ByteArray.ext
 simp
theorem qX {W w1:World} (hb:Below W.heap.size W w1):(∀b o,b<W.heap.size→w1.cell? ⟨b,o,none⟩=W.cell? ⟨b,o,none⟩)∧(∀b o,b<W.heap.size→w1.frozen? ⟨b,o,none⟩=W.frozen? ⟨b,o,none⟩) :=
 ⟨fun b o h=>hb.cell (p:=⟨b,o,none⟩) h,fun b o h=>hb.frozen (p:=⟨b,o,none⟩) h⟩
theorem ah {w a b:World} (hb:Below w.heap.size w a) (h:Below a.heap.size a b):Below w.heap.size w b:=hb.trans (h.mono hb.size)
theorem aj (w:World) (o:Obj):Below w.heap.size w (w.alloc o):=iB.alloc (Nat.le_refl _) o
theorem ay {B b:Nat} {a w:World} (h:Below B a w) (hB:B≤b) (o:Nat) (u:Value):Below B a (w.setCell ⟨b,o,none⟩ u):=h.setCell (p:=⟨b,o,none⟩) hB u
theorem fresh {w w':World} {c:Array Value} {t:TypeId} (h:Below (w.heap.size+1) (w.alloc (.cells c t)) w') :
 (∀i,w'.cell? ⟨w.heap.size,i,none⟩=c[i]?)∧(∀i,w'.frozen? ⟨w.heap.size,i,none⟩=false)∧w.heap.size<w'.heap.size :=
 ⟨fun i=>(h.cell (p:=⟨w.heap.size,i,none⟩) (Nat.lt_succ_self _)).trans (World.cell?_alloc_at _ _ _ _ rfl),fun i=>(h.frozen (p:=⟨w.heap.size,i,none⟩) (Nat.lt_succ_self _)).trans (World.frozen?_alloc_at _ _ _ _ rfl),
  by have:=h.size;rw [World.size_alloc] at this;omega⟩
theorem heap_drew (w:World) (b:Nat):w.drew.heap[b]?=w.heap[b]?:=rfl
theorem pI (w:World) (a:Addr):w.drew.cell? a=w.cell? a:=rfl
theorem cell_far {w:World} {b o c o':Nat} {u:Value} (h:b≠c):(w.setCell ⟨b,o,none⟩ u).cell? ⟨c,o',none⟩=w.cell? ⟨c,o',none⟩:=World.cell?_setCell_other _ _ _ _ (by simp [h])
theorem bK {w:World} {b o o':Nat} {u:Value} (h:o≠o'):(w.setCell ⟨b,o,none⟩ u).cell? ⟨b,o',none⟩=w.cell? ⟨b,o',none⟩:=World.cell?_setCell_other _ _ _ _ (by simp [h])
theorem aC {w:World} {b o k:Nat} {u:Value} (h:k≠b):(w.setCell ⟨b,o,none⟩ u).heap[k]?=w.heap[k]?:=Below.heap_setCell w ⟨b,o,none⟩ u k h
structure dM (P:Program) (T E k bytes:Nat):Prop where
 under:P.underlying T=some (.slice E)
 info:(P.info? E).map (fun i=>(i.zero.map (·.cells.size),i.size,i.bytes))=some (some k,k,bytes)
 pos:0<k
theorem dM.parts {P:Program} {T E k bytes:Nat} (h:dM P T E k bytes):∃i z,P.info? E=some i∧i.zero=some z∧i.size=k∧i.bytes=bytes∧z.cells.size=k:=by
 obtain ⟨i,hi,hh⟩:=Option.map_eq_some_iff.1 h.info;simp only [Prod.mk.injEq,Option.map_eq_some_iff] at hh;obtain ⟨⟨z,hz,hzs⟩,h1,h2⟩:=hh;exact ⟨i,z,hi,hz,h1,h2,hzs⟩
abbrev Rel (α:Type):=World→List Value→α→(Nat→Prop)→Prop
structure cu {α:Type} (R:Rel α) (k:Nat):Prop where
 len:∀{w cs x S},R w cs x S→cs.length=k
 one:∀{w cs x S},R w cs x S→∀u∈cs,u.oneCell'=true
 move:∀{w w' cs x} {S S':Nat→Prop},R w cs x S→(∀b,S b→b<w.heap.size→w'.heap[b]?=w.heap[b]?∧S' b)→R w' cs x S'
theorem cu.below {α:Type} {R:Rel α} {k:Nat} (h:cu R k) {w w':World} {cs:List Value} {x:α} {S:Nat→Prop} (hr:R w cs x S) (hb:Below w.heap.size w w'):R w' cs x S :=
 h.move hr fun b hs hl=>⟨hb.block b hl,hs⟩
theorem cu.sub {α:Type} {R:Rel α} {k:Nat} (h:cu R k) {w:World} {cs:List Value} {x:α} {S S':Nat→Prop} (hr:R w cs x S) (hs:∀b,S b→b<w.heap.size→S' b):R w cs x S' :=
 h.move hr fun b h1 h2=>⟨rfl,hs b h1 h2⟩
def aZ {α:Type} (k:Nat) (R:Rel α) (w:World) (v:Value) (l:List α) (S:Nat→Prop):Prop :=
 ∃a cap,v=.slice a l.length cap∧l.length≤cap∧cap≤maxLen∧(a=none→cap=0) ∧
  ∀(i:Nat) (x:α),l[i]?=some x→∃b off row,a=some ⟨b,off,none⟩∧S b∧R w row x S∧∀(j:Nat) (u:Value),row[j]?=some u→w.cell? ⟨b,off+i*k+j,none⟩=some u
def UU {α:Type} (k:Nat) (R:Rel α):Rel (List α):=fun w cs l S=>∃v,cs=[v]∧aZ k R w v l S
theorem aB {w w':World} {a:Addr} {u:Value} (h:w.cell? a=some u) (hb:w'.heap[a.block]?=w.heap[a.block]?):w'.cell? a=some u:=(World.cell?_of_block hb).trans h
theorem aZ.move {α:Type} {k:Nat} {R:Rel α} (h:cu R k) (hk:0<k) {w w':World} {v:Value} {l:List α} {S S':Nat→Prop} (hr:aZ k R w v l S)
 (hm:∀b,S b→b<w.heap.size→w'.heap[b]?=w.heap[b]?∧S' b):aZ k R w' v l S':=by
 obtain ⟨a,cap,hv,h1,h2,h2',h3⟩:=hr;refine ⟨a,cap,hv,h1,h2,h2',fun i x hx=>?_⟩;obtain ⟨b,off,row,ha,hs,hrow,hc⟩:=h3 i x hx;have hlen:=h.len hrow;have hlt:b<w.heap.size:=by
  have h0:row[0]?=some (row[0]'(by omega)):=List.getElem?_eq_getElem (by omega);exact World.block_lt_of_cell? w _ (hc 0 _ h0)
 exact ⟨b,off,row,ha,(hm b hs hlt).2,h.move hrow hm,fun j u hu=>aB (hc j u hu) (hm b hs hlt).1⟩
theorem aZ.below {α:Type} {k:Nat} {R:Rel α} (h:cu R k) (hk:0<k) {w w':World} {v:Value} {l:List α} {S:Nat→Prop} (hr:aZ k R w v l S) (hb:Below w.heap.size w w'):aZ k R w' v l S :=
 hr.move h hk fun b hs hl=>⟨hb.block b hl,hs⟩
theorem aZ.sub {α:Type} {k:Nat} {R:Rel α} (h:cu R k) (hk:0<k) {w:World} {v:Value} {l:List α} {S S':Nat→Prop} (hr:aZ k R w v l S) (hs:∀b,S b→b<w.heap.size→S' b):aZ k R w v l S' :=
 hr.move h hk fun b h1 h2=>⟨rfl,hs b h1 h2⟩
theorem Qb {α:Type} {k:Nat} {R:Rel α} (h:cu R k) (hk:0<k):cu (UU k R) 1 where
 len:=by rintro w cs x S ⟨v,rfl,_⟩;rfl
 one:=by
  rintro w cs x S ⟨v,rfl,a,cap,rfl,_⟩ u hu;simp at hu;subst hu;rfl
 move:=by rintro w w' cs x S S' ⟨v,rfl,hr⟩ hm;exact ⟨v,rfl,hr.move h hk hm⟩
theorem aZ.nil {α:Type} {k:Nat} {R:Rel α} (w:World) (S:Nat→Prop):aZ k R w (iN) [] S :=
 ⟨none,0,rfl,Nat.le_refl _,by decide,fun _=>rfl,fun i x hx=>by simp at hx⟩
theorem aZ.row {α:Type} {k:Nat} {R:Rel α} {w:World} {v:Value} {l:List α} {S:Nat→Prop} (h:aZ k R w v l S) (i:Nat) (hi:i<l.length) :
 ∃b off cap row,v=.slice (some ⟨b,off,none⟩) l.length cap∧S b∧R w row l[i] S∧∀(j:Nat) (u:Value),row[j]?=some u→w.cell? ⟨b,off+i*k+j,none⟩=some u:=by
 obtain ⟨a,cap,hv,h1,h2,_,h3⟩:=h;obtain ⟨b,off,row,ha,hs,hr,hc⟩:=h3 i l[i] (List.getElem?_eq_getElem hi);exact ⟨b,off,cap,row,by rw [hv,ha],hs,hr,hc⟩
def bZ {α:Type} (E k:Nat) (R:Rel α) (w:World) (v:Value) (l:List α) (S:Nat→Prop):Prop :=
 ∃rows:List (List Value),rows.length=l.length∧w.ownsRow 0 E k v l.length rows.flatten∧∀(i:Nat) (r:List Value) (x:α),rows[i]?=some r→l[i]?=some x→R w r x (fun b=>S b∧some b≠v.ownBlock)
theorem bZ.nil {α:Type} {E k:Nat} {R:Rel α} (w:World) (S:Nat→Prop):bZ E k R w (iN) [] S :=
 ⟨[],rfl,World.ownsRow_nil w 0 E k,fun i r x hr=>by simp at hr⟩
theorem bZ.move {α:Type} {E k:Nat} {R:Rel α} (h:cu R k) {w w':World} {v:Value} {l:List α} {S S':Nat→Prop} (ho:bZ E k R w v l S)
 (hv:∀g,v.ownBlock=some g→w'.heap[g]?=w.heap[g]?) (hm:∀b,S b→some b≠v.ownBlock→b<w.heap.size→w'.heap[b]?=w.heap[b]?∧S' b):bZ E k R w' v l S':=by
 obtain ⟨rows,h1,h2,h3⟩:=ho;refine ⟨rows,h1,?_,fun i r x hr hx=>h.move (h3 i r x hr hx) fun b hs hl=>?_⟩
 ·refine ⟨h2.1,?_⟩
  rcases h2.2 with hn | ⟨g,cap,cur,rfl,hb,hgg,rest⟩
  ·exact .inl hn
  ·exact .inr ⟨g,cap,cur,rfl,hb,by rw [hv g rfl];exact hgg,rest⟩
 ·obtain ⟨ha,hb⟩:=hm b hs.1 hs.2 hl
  exact ⟨ha,hb,hs.2⟩
theorem bZ.lt {α:Type} {E k:Nat} {R:Rel α} {w:World} {v:Value} {l:List α} {S:Nat→Prop} (ho:bZ E k R w v l S):∀g,v.ownBlock=some g→g<w.heap.size:=by
 obtain ⟨rows,h1,h2,h3⟩:=ho;exact fun g hg=>(h2.lt g hg).2
theorem bZ.shape {α:Type} {E k:Nat} {R:Rel α} {w:World} {v:Value} {l:List α} {S:Nat→Prop} (h:bZ E k R w v l S):∃a cap,v=.slice a l.length cap:=by
 obtain ⟨rows,_,h2,_⟩:=h
 rcases h2.2 with ⟨rfl,hn⟩ | ⟨g,cap,cur,rfl,_⟩
 ·exact ⟨none,0,by rw [hn]⟩
 ·exact ⟨_,_,rfl⟩
theorem bZ.forget {α:Type} {E k:Nat} {R:Rel α} (hR:∀(w:World) (cs:List Value) (x:α) (S S':Nat→Prop),R w cs x S→R w cs x S') {w:World} {v:Value} {l:List α} {S S':Nat→Prop} (h:bZ E k R w v l S):bZ E k R w v l S':=by
 obtain ⟨rows,h1,h2,h3⟩:=h;exact ⟨rows,h1,h2,fun i r x hr hx=>hR _ _ _ _ _ (h3 i r x hr hx)⟩
theorem bZ.below {α:Type} {E k:Nat} {R:Rel α} (h:cu R k) {w w':World} {v:Value} {l:List α} {S:Nat→Prop} (ho:bZ E k R w v l S) (hb:Below w.heap.size w w'):bZ E k R w' v l S :=
 ho.move h (fun g hg=>hb.block g (ho.lt g hg)) fun b hs _ hl=>⟨hb.block b hl,hs⟩
theorem flatten_getElem? {β:Type} {k:Nat}:∀(rows:List (List β)) (_:∀r∈rows,r.length=k) (i j:Nat) (r:List β) (u:β),rows[i]?=some r→r[j]?=some u→rows.flatten[i*k+j]?=some u
 | [],_,i,j,r,u,h,_=>by simp at h
 | r0::rows,hk,0,j,r,u,h,hu=>by
   simp only [List.getElem?_cons_zero,Option.some.injEq] at h;subst h;have hj:j<r0.length:=by
    rcases Nat.lt_or_ge j r0.length with h | h
    ·exact h
    ·rw [List.getElem?_eq_none h] at hu;cases hu
   simp only [List.flatten_cons,Nat.zero_mul,Nat.zero_add];rw [List.getElem?_append_left hj];exact hu
 | r0::rows,hk,i+1,j,r,u,h,hu=>by
   have h0:r0.length=k:=hk r0 (by simp);simp only [List.getElem?_cons_succ] at h;simp only [List.flatten_cons];rw [List.getElem?_append_right (by rw [h0,Nat.add_mul];omega),h0,show (i+1)*k+j - k=i*k+j by rw [Nat.add_mul];omega];exact flatten_getElem? rows (fun r hr=>hk r (by simp [hr])) i j r u h hu
theorem bZ.jq {α:Type} {E k:Nat} {R:Rel α} (h:cu R k) {w:World} {v:Value} {l:List α} {S:Nat→Prop} {rows:List (List Value)} (h1:rows.length=l.length)
 (h3:∀(i:Nat) (r:List Value) (x:α),rows[i]?=some r→l[i]?=some x→R w r x S):∀r∈rows,r.length=k:=by
 intro r hr;obtain ⟨i,hi,rfl⟩:=List.getElem_of_mem hr;exact h.len (h3 i rows[i] (l[i]'(by omega)) (List.getElem?_eq_getElem hi) (List.getElem?_eq_getElem (by omega)))
theorem bZ.read {α:Type} {E k:Nat} {R:Rel α} (h:cu R k) (hk:0<k) {w:World} {v:Value} {l:List α} {S:Nat→Prop} (ho:bZ E k R w v l S) (hS:∀g,v.ownBlock=some g→S g):aZ k R w v l S:=by
 obtain ⟨rows,h1,h2,h3⟩:=ho;have hlen:=bZ.jq (E:=E) h (v:=v) h1 h3
 rcases h2.2 with ⟨rfl,hn⟩ | ⟨g,cap,cur,rfl,hb,hgg,hc1,hc2,hc3,hc4⟩
 ·have:l=[]:=List.eq_nil_of_length_eq_zero hn
  subst this;exact aZ.nil w S
 ·refine ⟨_,cap,rfl,hc1,hc2,(fun h=>by cases h),fun i x hx=>?_⟩
  have hi:i<l.length:=by
   rcases Nat.lt_or_ge i l.length with h | h
   ·exact h
   ·rw [List.getElem?_eq_none h] at hx;cases hx
  have hr:rows[i]?=some (rows[i]'(by omega)):=List.getElem?_eq_getElem (by omega);refine ⟨g,0,rows[i]'(by omega),rfl,hS g rfl,h.sub (h3 i _ x hr hx) fun b hb _=>hb.1,fun j u hu=>?_⟩;have hf:=flatten_getElem? rows hlen i j _ u hr hu;have hcell:=h2.cells (g:=g) rfl (i*k+j) u hf;rw [Addr.add_lit] at hcell;simpa [Nat.add_assoc] using hcell
section
variable {P:Program}
theorem gD (w:World) {T E k bytes ty:Nat} (hT:dM P T E k bytes) (v:Value) (n:Nat) (xs:List Value) (hown:w.ownsRow 0 E k v n xs)
 (a:Addr) (m c:Nat) (news:List Value) (hl:news.length=m*k) (hnews:∀j u,news[j]?=some u→w.cell? (a.add j)=some u) (h1:∀u∈news,u.oneCell'=true)
 (hbytes:(n+m)*(bytes+1)≤140737488355328) :
 ∃v' w',(Builtin.append_ #[T,T] ty #[v, .slice (some a) m c]).run P w=.ok v' w'∧w'.ownsRow 0 E k v' (n+m) (xs++news)∧w.grownBy w' v.ownBlock ∧
  (v'.ownBlock=v.ownBlock∨∃g,v'.ownBlock=some g∧w.heap.size≤g):=by
 obtain ⟨i,z,hi,hz,hs,hby,hzs⟩:=hT.parts;have h63:n+m≤maxLen:=by
  have:=Nat.mul_le_mul_left (n+m) (show 1≤bytes+1 by omega);unfold maxLen;omega
 have Ew:(n+m)*bytes≤140737488355328:=Nat.le_trans (Nat.mul_le_mul_left _ (by omega)) hbytes
 rcases hown.2 with ⟨rfl,rfl⟩ | ⟨g,cap,cur,rfl,hbg,hg,hnc,hcm,hcs,htake⟩
 ·have hx:xs=[]:=List.eq_nil_of_length_eq_zero (by simpa using hown.1)
  subst hx;obtain ⟨v',w',hr,h2,h3,h4⟩:=run_append_own (P:=P) w w.heap.size T ty E i z k bytes hT.under hi hz hs hby hzs hT.pos _ 0 [] (World.ownsRow_nil w _ E k) a m c news hl hnews h1 h63 Ew (Nat.le_refl _);refine ⟨v',w',hr,⟨h2.1,?_⟩,h3,?_⟩
  ·rcases h2.2 with h | ⟨g,cap,cur,rfl,_,rest⟩
   ·exact .inl h
   ·exact .inr ⟨g,cap,cur,rfl,Nat.zero_le _,rest⟩
  ·cases hv:v'.ownBlock with
   | none=>exact .inl rfl
   | some g=>exact .inr ⟨g,rfl,(h2.lt g hv).1⟩
 ·by_cases hroom:n+m≤cap
  ·obtain ⟨w',hr,h2,h3⟩:=run_append_fits (P:=P) w 0 T ty E i k hT.under hi hs g n cap xs hown a m c news hl hnews h1 hroom
   exact ⟨_,w',hr,h2,h3, .inl rfl⟩
  ·have holds:∀j u,xs[j]?=some u→w.cell? ((⟨g,0,none⟩:Addr).add j)=some u:=hown.cells (g:=g) rfl
   obtain ⟨v',w',hr,h2,h3,h4⟩:=run_append_own (P:=P) w 0 T ty E i z k bytes hT.under hi hz hs hby hzs hT.pos _ n xs hown a m c news hl hnews h1 h63 Ew (Nat.zero_le _);subst hs;have hr2:=run_append_grow (P:=P) w T ty E i z hT.under hi hz ⟨g,0,none⟩ n cap xs hown.1 holds a m c news hl hnews (by omega) (by unfold maxLen at h63;omega) (growslice_fits (by omega) (by rw [hby];exact Ew));rw [hr2] at hr;simp only [Result.ok.injEq] at hr;obtain ⟨rfl,rfl⟩:=hr;exact ⟨_,_,hr2,h2,h3, .inr ⟨_,rfl,Nat.le_refl _⟩⟩
theorem kJ {ops:Array Oper} {rest:List Oper} {o:Oper} {a:Act} {Q:Exit→Act→World→Prop} {wr:World} {cs:Array Value} {E:Nat} {T k bytes:Nat} (hT:dM P T E k bytes)
 (s x:Operand) (hgd:o.guard=none) (ho:o.op=.call { callee:=.builtin .append,args:=#[s,x],argTypes:=#[T,T] })
 {α:Type} {R:Rel α} (hR:cu R k) {w0:World} {v:Value} {l:List α} {S:Nat→Prop} (y:α)
 (hv:a.eval s=v) {n0:Nat} (hx:a.eval x=.slice (some ⟨n0,0,none⟩) 1 1) (hn0:n0=wr.heap.size)
 (hown:bZ E k R wr v l S) (hb:Below w0.heap.size w0 wr) (hvb:∀g,v.ownBlock=some g→w0.heap.size≤g) (hy:R wr cs.toList y (fun b=>S b∧some b≠v.ownBlock)) (hlen:(l.length+1)*(bytes+1)≤140737488355328)
 (h:∀v' w',bZ E k R w' v' (l++[y]) S→Below w0.heap.size w0 w'→(∀g,v'.ownBlock=some g→w0.heap.size≤g)→wpList P ops Q rest (a.put o.dst v') w') :
 wpList P ops Q (o::rest) a (wr.alloc (.cells cs E)):=by
 subst hn0;obtain ⟨rows,h1,h2,h3⟩:=hown;have hcs:cs.toList.length=1*k:=by rw [hR.len hy];omega
 obtain ⟨v',w',hr,g1,g2,g3⟩:=gD (P:=P) (ty:=o.type) (wr.alloc (.cells cs E)) hT v l.length rows.flatten (h2.alloc _) ⟨wr.heap.size,0,none⟩ 1 1 cs.toList hcs
  (fun j u hu=>by rw [Addr.add_lit];simp only [Nat.zero_add];rw [World.cell?_alloc_new];simpa using hu) (hR.one hy) hlen
 have hvlt:∀g,v.ownBlock=some g→g<wr.heap.size:=fun g hg=>(h2.lt g hg).2
 have hkeep:∀b,b<wr.heap.size→some b≠v.ownBlock→w'.heap[b]?=wr.heap[b]?:=fun b hl hne=>by
  exact (g2.block b (by simp;omega) hne).trans (heap_alloc_old wr _ hl)
 have hS:∀b,S b∧some b≠v.ownBlock→b<wr.heap.size→w'.heap[b]?=wr.heap[b]?∧S b∧some b≠v'.ownBlock:=by
  rintro b ⟨hs,hne⟩ hl;refine ⟨hkeep b hl hne,hs,?_⟩
  rcases g3 with e | ⟨g,e,hge⟩
  ·rw [e];exact hne
  ·rw [e];intro hbg;cases hbg;simp at hge;omega
 refine wpList_plain hgd fun K hK=>?_
 unfold Oper.wp execOp;simp only [ho,resolve,invoke,builtin,Sem.run_bind,Sem.run_pure,Result.andThen_ok,List.map_toArray,List.map_cons,List.map_nil,hv,hx,hr];refine hK _ _ (h v' w' ⟨rows++[cs.toList],by simp [h1],?_,?_⟩ ?_ ?_)
 ·simpa using g1
 ·intro i r y' hr' hy'
  rcases Nat.lt_or_ge i l.length with hi | hi
  ·rw [List.getElem?_append_left (by omega)] at hr'
   rw [List.getElem?_append_left hi] at hy';exact hR.move (h3 i r y' hr' hy') hS
  ·rw [List.getElem?_append_right (by omega)] at hr'
   rw [List.getElem?_append_right hi] at hy'
   rcases Nat.eq_zero_or_pos (i - l.length) with h0 | h0
   ·rw [h0] at hy';rw [h1,h0] at hr'
    simp at hr' hy';subst hr' hy';exact hR.move hy hS
   ·rw [List.getElem?_eq_none (by simp;omega)] at hy';cases hy'
 ·refine (hb.alloc hb.size _).grown g2 (by have:=hb.size;simp;omega) fun k hk=>hvb k hk
 ·intro g hg
  rcases g3 with e | ⟨g',e,hge⟩
  ·rw [e] at hg;exact hvb g hg
  ·rw [e] at hg;cases hg;have:=hb.size;simp at hge;omega
end
end Go.Tk
namespace Go.Tk
open Go Go.RowKit
structure eX where
 code:Int
 n:Int
 text:List UInt8
structure lK where
 seq:Int
 aI:eX
structure aG where
 client:Int
 id:Int
 aH:Int
 last:Int
 aA:List lK
structure aN where
 name:List UInt8
 holder:Int
 fence:Int
 line:List Int
structure fB where
 name:List UInt8
 value:List UInt8
 version:Int
def dP:eX:=⟨0,0,[]⟩
def dZ:lK:=⟨0,dP⟩
def aR:aG:=⟨0,0,0,0,[]⟩
def aO:aN:=⟨[],0,0,[]⟩
def cZ:fB:=⟨[],[],0⟩
def jE:Rel Int:=fun _ cs x _=>cs=[iI x]
def iw:Rel (List UInt8):=fun _ cs x _=>cs=[iS x]
def mX:Rel lK:=fun _ cs x _=>cs=[iI x.seq, iI x.aI.code, iI x.aI.n, iS x.aI.text]
def bR:Rel aG:=fun w cs x S=>∃v,cs=[iI x.client, iI x.id, iI x.aH, iI x.last,v]∧aZ 4 mX w v x.aA S
def fZ:Rel aN:=fun w cs x S=>∃v,cs=[iS x.name, iI x.holder, iI x.fence,v]∧aZ 1 jE w v x.line S
def jC:Rel fB:=fun _ cs x _=>cs=[iS x.name, iS x.value, iI x.version]
theorem bB:cu jE 1:=⟨by rintro w cs x S rfl;rfl,by rintro w cs x S rfl u hu;simp at hu;subst hu;rfl,fun h _=>h⟩
theorem aK:cu iw 1:=⟨by rintro w cs x S rfl;rfl,by rintro w cs x S rfl u hu;simp at hu;subst hu;rfl,fun h _=>h⟩
theorem aS:cu mX 4:=⟨by rintro w cs x S rfl;rfl,by rintro w cs x S rfl u hu;simp at hu;rcases hu with rfl | rfl | rfl | rfl<;>rfl,fun h _=>h⟩
theorem bg:cu jC 3:=⟨by rintro w cs x S rfl;rfl,by rintro w cs x S rfl u hu;simp at hu;rcases hu with rfl | rfl | rfl<;>rfl,fun h _=>h⟩
theorem aZ.oneCell {α:Type} {k:Nat} {R:Rel α} {w:World} {v:Value} {l:List α} {S:Nat→Prop} (h:aZ k R w v l S):v.oneCell'=true:=by
 obtain ⟨a,cap,rfl,_⟩:=h;rfl
theorem aF:cu bR 5 where
 len:=by rintro w cs x S ⟨v,rfl,_⟩;rfl
 one:=by
  rintro w cs x S ⟨v,rfl,h⟩ u hu;simp at hu
  rcases hu with rfl | rfl | rfl | rfl | rfl
  ·rfl
  ·rfl
  ·rfl
  ·rfl
  ·exact h.oneCell
 move:=by rintro w w' cs x S S' ⟨v,rfl,h⟩ hm;exact ⟨v,rfl,h.move aS (by decide) hm⟩
theorem aM:cu fZ 4 where
 len:=by rintro w cs x S ⟨v,rfl,_⟩;rfl
 one:=by
  rintro w cs x S ⟨v,rfl,h⟩ u hu;simp at hu
  rcases hu with rfl | rfl | rfl | rfl
  ·rfl
  ·rfl
  ·rfl
  ·exact h.oneCell
 move:=by rintro w w' cs x S S' ⟨v,rfl,h⟩ hm;exact ⟨v,rfl,h.move bB (by decide) hm⟩
def jJ (EK:Nat):Rel aG:=fun w cs x S=>∃v,cs=[iI x.client, iI x.id, iI x.aH, iI x.last,v]∧bZ EK 4 mX w v x.aA (fun _=>False)∧∀g,v.ownBlock=some g→S g
def jl (EI:Nat):Rel aN:=fun w cs x S=>∃v,cs=[iS x.name, iI x.holder, iI x.fence,v]∧bZ EI 1 jE w v x.line (fun _=>False)∧∀g,v.ownBlock=some g→S g
theorem bZ.oneCell {α:Type} {E k:Nat} {R:Rel α} {w:World} {v:Value} {l:List α} {S:Nat→Prop} (h:bZ E k R w v l S):v.oneCell'=true:=by
 obtain ⟨rows,_,h2,_⟩:=h
 rcases h2.2 with ⟨rfl,_⟩ | ⟨g,cap,cur,rfl,_⟩<;>rfl
theorem dX (EK:Nat):cu (jJ EK) 5 where
 len:=by rintro w cs x S ⟨v,rfl,_⟩;rfl
 one:=by
  rintro w cs x S ⟨v,rfl,h,_⟩ u hu;simp at hu
  rcases hu with rfl | rfl | rfl | rfl | rfl
  ·rfl
  ·rfl
  ·rfl
  ·rfl
  ·exact h.oneCell
 move:=by
  rintro w w' cs x S S' ⟨v,rfl,h,hs⟩ hm;exact ⟨v,rfl,h.move aS (fun g hg=>(hm g (hs g hg) (h.lt g hg)).1) (fun b hb=>hb.elim),fun g hg=>(hm g (hs g hg) (h.lt g hg)).2⟩
theorem iG (EI:Nat):cu (jl EI) 4 where
 len:=by rintro w cs x S ⟨v,rfl,_⟩;rfl
 one:=by
  rintro w cs x S ⟨v,rfl,h,_⟩ u hu;simp at hu
  rcases hu with rfl | rfl | rfl | rfl
  ·rfl
  ·rfl
  ·rfl
  ·exact h.oneCell
 move:=by
  rintro w w' cs x S S' ⟨v,rfl,h,hs⟩ hm;exact ⟨v,rfl,h.move bB (fun g hg=>(hm g (hs g hg) (h.lt g hg)).1) (fun b hb=>hb.elim),fun g hg=>(hm g (hs g hg) (h.lt g hg)).2⟩
theorem jJ.read {EK:Nat} {w:World} {cs:List Value} {x:aG} {S:Nat→Prop} (h:jJ EK w cs x S):bR w cs x S:=by
 obtain ⟨v,rfl,h,hs⟩:=h;exact ⟨v,rfl,(h.move aS (fun _ _=>rfl) (fun b hb=>hb.elim)).read aS (by decide) hs⟩
theorem jl.read {EI:Nat} {w:World} {cs:List Value} {x:aN} {S:Nat→Prop} (h:jl EI w cs x S):fZ w cs x S:=by
 obtain ⟨v,rfl,h,hs⟩:=h;exact ⟨v,rfl,(h.move bB (fun _ _=>rfl) (fun b hb=>hb.elim)).read bB (by decide) hs⟩
def rG {α:Type} (R:Rel α):Rel (α×(Nat→Prop)):=fun w cs x S=>R w cs x.1 x.2∧∀b,x.2 b→S b∧b<w.heap.size
theorem xe {α:Type} {R:Rel α} {k:Nat} (h:cu R k):cu (rG R) k where
 len:=fun hr=>h.len hr.1
 one:=fun hr=>h.one hr.1
 move:=by
  rintro w w' cs ⟨x,G⟩ S S' ⟨hr,hg⟩ hm;refine ⟨h.move hr fun b hb hl=>⟨(hm b (hg b hb).1 hl).1,hb⟩,fun b hb=>?_⟩;obtain ⟨h1,h2⟩:=hm b (hg b hb).1 (hg b hb).2;refine ⟨h2,?_⟩;have h3:w.heap[b]?=some (w.heap[b]'(hg b hb).2):=Array.getElem?_eq_getElem _;rw [h3] at h1;exact (Array.getElem?_eq_some_iff.1 h1).1
def Apart {α:Type} (l:List (α×(Nat→Prop))):Prop:=∀(i j:Nat) (x y:α×(Nat→Prop)) (b:Nat),l[i]?=some x→l[j]?=some y→x.2 b→y.2 b→i=j
theorem Apart.nil {α:Type}:Apart ([]:List (α×(Nat→Prop))):=fun i j x y b h=>by simp at h
theorem Apart.snoc {α:Type} {l:List (α×(Nat→Prop))} (h:Apart l) (y:α×(Nat→Prop)) (hy:∀x∈l,∀b,x.2 b→¬ y.2 b):Apart (l++[y]):=by
 have key:∀(i:Nat) (x:α×(Nat→Prop)),(l++[y])[i]?=some x→(l[i]?=some x∧i<l.length)∨(i=l.length∧x=y):=by
  intro i x hx
  rcases Nat.lt_or_ge i l.length with hi | hi
  ·rw [List.getElem?_append_left hi] at hx;exact .inl ⟨hx,hi⟩
  ·rw [List.getElem?_append_right hi] at hx
   rcases Nat.eq_zero_or_pos (i - l.length) with h0 | h0
   ·rw [h0] at hx;simp at hx;exact .inr ⟨by omega,hx.symm⟩
   ·rw [List.getElem?_eq_none (by simp;omega)] at hx;cases hx
 intro i j x z b hx hz hxb hzb
 rcases key i x hx with ⟨h1,h1'⟩ | ⟨h1,rfl⟩<;>rcases key j z hz with ⟨h2,h2'⟩ | ⟨h2,rfl⟩
 ·exact h i j x z b h1 h2 hxb hzb
 ·exact absurd hzb (hy x (List.mem_of_getElem? h1) b hxb)
 ·exact absurd hxb (hy z (List.mem_of_getElem? h2) b hzb)
 ·omega
theorem bZ.TL {α:Type} {E k:Nat} {R:Rel α} {w:World} {v:Value} {l:List (α×(Nat→Prop))} {S:Nat→Prop} (h:bZ E k (rG R) w v l S):∀x∈l,∀b,x.2 b→b<w.heap.size:=by
 obtain ⟨rows,h1,_,h3⟩:=h;intro x hx b hb;obtain ⟨i,hi,rfl⟩:=List.getElem_of_mem hx;exact ((h3 i (rows[i]'(by omega)) l[i] (List.getElem?_eq_getElem (by omega)) (List.getElem?_eq_getElem hi)).2 b hb).2
def lT {α:Type} (E k:Nat) (R:Rel α) (w:World) (v:Value) (l:List α) (S:Nat→Prop):Prop :=
 ∃l2:List (α×(Nat→Prop)),l2.map (·.1)=l∧Apart l2∧bZ E k (rG R) w v l2 S
theorem lT.own {α:Type} {E k:Nat} {R:Rel α} (hR:cu R k) {w:World} {v:Value} {l:List α} {S:Nat→Prop} (h:lT E k R w v l S):bZ E k R w v l S:=by
 obtain ⟨l2,hm,_,rows,h1,h2,h3⟩:=h;have hl:l2.length=l.length:=by rw [←hm,List.length_map]
 refine ⟨rows,by omega,by rw [←hl];exact h2,fun i r x hr hx=>?_⟩;rw [←hm,List.getElem?_map] at hx;obtain ⟨y,hy,rfl⟩:=Option.map_eq_some_iff.1 hx;have h4:=h3 i r y hr hy;exact hR.move h4.1 fun b hb _=>⟨rfl,(h4.2 b hb).1⟩
theorem lT.below {α:Type} {E k:Nat} {R:Rel α} (hR:cu R k) {w w':World} {v:Value} {l:List α} {S:Nat→Prop} (h:lT E k R w v l S) (hb:Below w.heap.size w w'):lT E k R w' v l S:=by
 obtain ⟨l2,hm,ha,ho⟩:=h;exact ⟨l2,hm,ha,ho.below (xe hR) hb⟩
theorem bZ.map {α:Type} {E k:Nat} {R R':Rel α} (hr:∀(w:World) (cs:List Value) (x:α) (S:Nat→Prop),R w cs x S→R' w cs x S) {w:World} {v:Value} {l:List α} {S:Nat→Prop} (h:bZ E k R w v l S):bZ E k R' w v l S:=by
 obtain ⟨rows,h1,h2,h3⟩:=h;exact ⟨rows,h1,h2,fun i r x hr' hx=>hr _ _ _ _ (h3 i r x hr' hx)⟩
theorem aZ.map {α:Type} {k:Nat} {R R':Rel α} (hr:∀(w:World) (cs:List Value) (x:α) (S:Nat→Prop),R w cs x S→R' w cs x S) {w:World} {v:Value} {l:List α} {S:Nat→Prop} (h:aZ k R w v l S):aZ k R' w v l S:=by
 obtain ⟨a,cap,hv,h1,h2,h3,h4⟩:=h;refine ⟨a,cap,hv,h1,h2,h3,fun i x hx=>?_⟩;obtain ⟨b,off,row,ha,hs,hrow,hc⟩:=h4 i x hx;exact ⟨b,off,row,ha,hs,hr _ _ _ _ hrow,hc⟩
theorem lT.kr {E EK:Nat} {w:World} {v:Value} {l:List aG} {S:Nat→Prop} (h:lT E 5 (jJ EK) w v l S) (hS:∀g,v.ownBlock=some g→S g):aZ 5 bR w v l S :=
 ((h.own (dX EK)).read (dX EK) (by decide) hS).map fun _ _ _ _ hr=>hr.read
theorem lT.A8 {E EI:Nat} {w:World} {v:Value} {l:List aN} {S:Nat→Prop} (h:lT E 4 (jl EI) w v l S) (hS:∀g,v.ownBlock=some g→S g):aZ 4 fZ w v l S :=
 ((h.own (iG EI)).read (iG EI) (by decide) hS).map fun _ _ _ _ hr=>hr.read
theorem lT.pO {α:Type} {E k:Nat} {R:Rel α} {w:World} {v:Value} {l:List α} {S:Nat→Prop} (h:lT E k R w v l S) (hl:0<l.length) :
 ∃g cap,v=.slice (some ⟨g,0,none⟩) l.length cap∧l.length≤cap∧cap≤maxLen∧g<w.heap.size∧∀j,w.frozen? ⟨g,j,none⟩=false:=by
 obtain ⟨l2,hm,_,rows,h1,h2,h3⟩:=h;have hl2:l2.length=l.length:=by rw [←hm,List.length_map]
 rcases h2.2 with ⟨rfl,hn⟩ | ⟨g,cap,cur,rfl,_,hg,hc,hm',_⟩
 ·omega
 ·rw [hl2] at *
  exact ⟨g,cap,rfl,hc,hm',(Array.getElem?_eq_some_iff.1 hg).1,fun j=>frozen_of_row w g j cur E hg⟩
theorem lT.change {α:Type} {E k:Nat} {R:Rel α} (hR:cu R k) (hk:0<k) {w:World} {g cap n:Nat} {l:List α} {S:Nat→Prop} (h:lT E k R w (.slice (some ⟨g,0,none⟩) n cap) l S) (i:Nat) (hi:i<l.length) :
 ∃row G,R w row l[i] G∧(∀b,G b→S b∧b≠g∧b<w.heap.size)∧(∀(j:Nat) (u:Value),row[j]?=some u→w.cell? ⟨g,i*k+j,none⟩=some u) ∧
  ∀(R':Rel α) (w':World) (S':Nat→Prop) (row':List Value) (x':α),row'.length=k→(∀(w:World) (cs:List Value) (x:α) (S:Nat→Prop),R w cs x S→R' w cs x S) →
   (∀j,j<i*k∨i*k+k≤j→w'.cell? ⟨g,j,none⟩=w.cell? ⟨g,j,none⟩)→(∀(j:Nat) (u:Value),row'[j]?=some u→w'.cell? ⟨g,i*k+j,none⟩=some u) →
   (∀b,S b→b≠g→¬ G b→b<w.heap.size→w'.heap[b]?=w.heap[b]?)→(∀b,S b→S' b)→S' g→R' w' row' x' S'→aZ k R' w' (.slice (some ⟨g,0,none⟩) n cap) (l.set i x') S':=by
 obtain ⟨l2,hm,hap,rows,h1,h2,h3⟩:=h;have hl2:l2.length=l.length:=by rw [←hm,List.length_map]
 have hlen:=bZ.jq (E:=E) (v:=.slice (some ⟨g,0,none⟩) n cap) (xe hR) h1 h3;have hx2:l2[i]?=some (l2[i]'(by omega)):=List.getElem?_eq_getElem (by omega);have hr2:rows[i]?=some (rows[i]'(by omega)):=List.getElem?_eq_getElem (by omega);have h4:=h3 i _ _ hr2 hx2;have Wp:(l2[i]'(by omega)).1=l[i]:=by
  have:(l2.map (·.1))[i]?=l[i]?:=by rw [hm]
  rw [List.getElem?_map,hx2,List.getElem?_eq_getElem hi] at this;simpa using this
 have hcell:∀(q:Nat) (r:List Value),rows[q]?=some r→∀(j:Nat) (u:Value),r[j]?=some u→w.cell? ⟨g,q*k+j,none⟩=some u:=by
  intro q r hr j u hu;have hf:=flatten_getElem? rows hlen q j r u hr hu;have:=h2.cells (g:=g) rfl (q*k+j) u hf
  rwa [Addr.add_lit,Nat.zero_add] at this
 obtain ⟨hnc,hcm,hn⟩:n≤cap∧cap≤maxLen∧n=l2.length:=by
  rcases h2.2 with ⟨h,_⟩ | ⟨g',cap',cur,h,_,_,hc,hm',_⟩
  ·simp at h
  ·simp only [Value.slice.injEq,Option.some.injEq,Addr.mk.injEq,and_true] at h
   obtain ⟨_,h5,rfl⟩:=h;exact ⟨by omega,hm',h5⟩
 refine ⟨rows[i]'(by omega),(l2[i]'(by omega)).2,Wp▸h4.1,fun b hb=>⟨(h4.2 b hb).1.1,fun e=>(h4.2 b hb).1.2 (by rw [e];rfl),(h4.2 b hb).2⟩,hcell i _ hr2,?_⟩;intro R' w' S' row' x' hrl hRR hout hin hblk hSS RO hx';have hsl:(l.set i x').length=n:=by rw [List.length_set];omega
 refine ⟨_,cap,by rw [hsl],by rw [hsl];exact hnc,hcm,(fun h=>by cases h),fun q y hy=>?_⟩;have hq:q<l.length:=by
  rcases Nat.lt_or_ge q (l.set i x').length with h | h
  ·simpa using h
  ·rw [List.getElem?_eq_none h] at hy;cases hy
 by_cases hqi:q=i
 ·subst hqi
  rw [List.getElem?_set_self hi] at hy;simp only [Option.some.injEq] at hy;subst hy;exact ⟨g,0,row',rfl,RO,hx',fun j u hu=>by rw [Nat.zero_add];exact hin j u hu⟩
 ·rw [List.getElem?_set_ne (Ne.symm hqi)] at hy
  have Yd:rows[q]?=some (rows[q]'(by omega)):=List.getElem?_eq_getElem (by omega);have hx5:l2[q]?=some (l2[q]'(by omega)):=List.getElem?_eq_getElem (by omega);have h5:=h3 q _ _ Yd hx5;have Wo:(l2[q]'(by omega)).1=y:=by
   have:(l2.map (·.1))[q]?=l[q]?:=by rw [hm]
   rw [List.getElem?_map,hx5,hy] at this;simpa using this
  refine ⟨g,0,rows[q]'(by omega),rfl,RO,?_,fun j u hu=>?_⟩
  ·have h6:R w (rows[q]'(by omega)) y (l2[q]'(by omega)).2:=Wo▸h5.1
   refine hRR _ _ _ _ (hR.move h6 fun b hb hbl=>⟨hblk b (h5.2 b hb).1.1 (fun e=>(h5.2 b hb).1.2 (by rw [e];rfl)) (fun hG=>hqi (hap q i _ _ b hx5 hx2 hb hG)) hbl,hSS b (h5.2 b hb).1.1⟩)
  ·have hjk:j<k:=by
    have hl5:(rows[q]'(by omega)).length=k:=hlen _ (List.getElem_mem _)
    rcases Nat.lt_or_ge j (rows[q]'(by omega)).length with h | h
    ·omega
    ·rw [List.getElem?_eq_none h] at hu;cases hu
   have hc:=hcell q _ Yd j u hu;rw [Nat.zero_add,hout (q*k+j) ?_]
   ·exact hc
   ·rcases Nat.lt_or_ge q i with hlt | hge
    ·left
     have:=Nat.mul_le_mul_right k (show q+1≤i by omega);rw [Nat.add_mul] at this;omega
    ·right
     have:=Nat.mul_le_mul_right k (show i+1≤q by omega);rw [Nat.add_mul] at this;omega
def bU (f:Nat→Int):Nat→Int
 | 0=>0
 | n+1=>if bU f n≠0 then bU f n else f n
theorem kS {f:Nat→Int} {i:Nat} (h0:bU f i=0) (hi:f i≠0):∀n,i<n→bU f n=f i
 | 0,h=>by omega
 | n+1,h=>by
   rw [bU]
   rcases Nat.lt_or_ge i n with hl | hl
   ·rw [kS h0 hi n hl,if_pos hi]
   ·obtain rfl:i=n:=by omega
    rw [if_neg (by simpa using h0)]
theorem kF {f:Nat→Int} {i:Nat} (h0:bU f i=0) (hi:f i=0):bU f (i+1)=0:=by
 rw [bU,if_neg (by simpa using h0),hi]
theorem eu {f:Nat→Int} {n:Nat}:bU f n=0↔∀i,i<n→f i=0:=by
 induction n with
 | zero=>simp [bU]
 | succ n ih =>
   rw [bU]
   by_cases h:bU f n=0
   ·rw [if_neg (by simpa using h)]
    constructor
    ·intro hn i hi
     rcases Nat.lt_or_ge i n with hl | hl
     ·exact ih.1 h i hl
     ·obtain rfl:i=n:=by omega
      exact hn
    ·intro hf;exact hf n (by omega)
   ·rw [if_pos h]
    constructor
    ·intro hn;exact absurd hn h
    ·intro hf;exact ih.2 fun i hi=>hf i (by omega)
end Go.Tk
namespace Go.Tk
def bsGo (f:Nat→Int):Nat→Nat→Nat→Nat
 | 0,p,_=>p
 | n+1,p,q=>if p<q then (if f ((p+q) / 2)<0 then bsGo f n ((p+q) / 2+1) q else bsGo f n p ((p+q) / 2)) else p
def bs (f:Nat→Int) (n:Nat):Nat:=bsGo f n 0 n
def di (f:Nat→Int) (n:Nat):Bool:=decide (bs f n<n) && (f (bs f n) == 0)
theorem bsGo_fuel (f:Nat→Int):∀(n m p q:Nat),q - p≤n→q - p≤m→bsGo f n p q=bsGo f m p q
 | 0,0,p,q,_,_=>rfl
 | 0,m+1,p,q,h,_=>by rw [bsGo,bsGo,if_neg (by omega)]
 | n+1,0,p,q,_,h=>by rw [bsGo,bsGo,if_neg (by omega)]
 | n+1,m+1,p,q,h1,h2=>by
   rw [bsGo,bsGo]
   by_cases h:p<q
   ·rw [if_pos h,if_pos h]
    rw [bsGo_fuel f n m ((p+q) / 2+1) q (by omega) (by omega),bsGo_fuel f n m p ((p+q) / 2) (by omega) (by omega)]
   ·rw [if_neg h,if_neg h]
theorem ED (f:Nat→Int):∀(n p q:Nat),p≤q→p≤bsGo f n p q∧bsGo f n p q≤q
 | 0,p,q,h=>⟨Nat.le_refl _,h⟩
 | n+1,p,q,h=>by
   rw [bsGo]
   by_cases hlt:p<q
   ·rw [if_pos hlt]
    split
    ·have:=ED f n ((p+q) / 2+1) q (by omega);omega
    ·have:=ED f n p ((p+q) / 2) (by omega);omega
   ·rw [if_neg hlt];omega
theorem zy (f:Nat→Int) (n:Nat):bs f n≤n:=(ED f n 0 n (Nat.zero_le _)).2
theorem rU (f:Nat→Int) {p q:Nat} (h:p<q) (hf:f ((p+q) / 2)<0):bsGo f (q - p) p q=bsGo f (q - ((p+q) / 2+1)) ((p+q) / 2+1) q:=by
 rw [show q - p=(q - p - 1)+1 by omega,bsGo,if_pos h,if_pos hf];exact bsGo_fuel f _ _ _ _ (by omega) (by omega)
theorem rT (f:Nat→Int) {p q:Nat} (h:p<q) (hf:¬ f ((p+q) / 2)<0):bsGo f (q - p) p q=bsGo f ((p+q) / 2 - p) p ((p+q) / 2):=by
 rw [show q - p=(q - p - 1)+1 by omega,bsGo,if_pos h,if_neg hf];exact bsGo_fuel f _ _ _ _ (by omega) (by omega)
def gI (x:aG) (t:Int):Int:=x.client - t
def iy (x:lK) (t:Int):Int:=x.seq - t
def kD {α:Type} (p:α→Bool) (l:List α):Int:=if l.findIdx p<l.length then (l.findIdx p:Nat) else -1
theorem qO {α:Type} {p:α→Bool} {l:List α} {n:Nat} (hn:n<l.length) (h:p l[n]=true) (hb:∀(j:Nat) (hj:j<l.length),j<n→p l[j]=false):kD p l=n:=by
 have h1:l.findIdx p=n:=(List.findIdx_eq hn).2 ⟨h,fun j hj=>hb j (by omega) hj⟩;rw [kD,h1,if_pos hn]
theorem mH {α:Type} {p:α→Bool} {l:List α} (hb:∀(j:Nat) (hj:j<l.length),p l[j]=false):kD p l=-1:=by
 have h1:l.findIdx p=l.length:=List.findIdx_eq_length.2 fun x hx=>by
  obtain ⟨j,hj,rfl⟩:=List.getElem_of_mem hx;exact hb j hj
 rw [kD,h1,if_neg (by omega)]
theorem j6 {α:Type} (p:α→Bool) (l:List α):(kD p l=-1∧∀x∈l,p x=false)∨∃(n:Nat) (hn:n<l.length),kD p l=n∧p l[n]=true∧∀(j:Nat) (hj:j<l.length),j<n→p l[j]=false:=by
 rcases Nat.lt_or_ge (l.findIdx p) l.length with h | h
 ·refine .inr ⟨l.findIdx p,h,by rw [kD,if_pos h],List.findIdx_getElem (w:=h),fun j hj hjn=>?_⟩
  have:=List.not_of_lt_findIdx hjn;simpa using this
 ·have h1:l.findIdx p=l.length:=Nat.le_antisymm List.findIdx_le_length h
  exact .inl ⟨by rw [kD,if_neg (by omega)],fun x hx=>List.findIdx_eq_length.1 h1 x hx⟩
end Go.Tk
namespace Go.Tk
open Go
def gy (s:aG) (i:Nat):Prop :=
 (s.aA.getD i dZ).seq≤s.aH∨s.aH+4<(s.aA.getD i dZ).seq∨(0<i∧(s.aA.getD i dZ).seq≤(s.aA.getD (i - 1) dZ).seq) ∨
 (s.aA.getD i dZ).aI.code<0∨15<(s.aA.getD i dZ).aI.code∨(s.aA.getD i dZ).aI.n<0∨1073741824<(s.aA.getD i dZ).aI.n∨12<(s.aA.getD i dZ).aI.text.length
instance (s:aG) (i:Nat):Decidable (gy s i):=by unfold gy;infer_instance
def pU (s:aG):Int:=bU (fun i=>if gy s i then 1 else 0) s.aA.length
def aA (s:aG):Bool:=pU s == 0
theorem Cw {s:aG} {k:Nat} (hk:k<s.aA.length) (h0:bU (fun i=>if gy s i then 1 else 0) k=0) (hb:gy s k):aA s=false:=by
 have h1:(fun i=>if gy s i then (1:Int) else 0) k=1:=if_pos hb;have h2:bU (fun i=>if gy s i then (1:Int) else 0) s.aA.length=(fun i=>if gy s i then (1:Int) else 0) k:=kS h0 (fun h=>by have:=h1.symm.trans h;cases this) _ hk;rw [aA,pU,h2.trans h1];rfl
def fe (index:Int) (s:aG):Prop :=
 s.client<1∨9<s.client∨s.aH<0∨1048576<s.aH∨s.id<1∨s.last<s.id∨index<s.last
instance (index:Int) (s:aG):Decidable (fe index s):=by unfold fe;infer_instance
def kZ (l:List aG) (index:Int) (i:Nat):Int :=
 if fe index (l.getD i aR) then 2
 else if aA (l.getD i aR)=false then 4
 else if 0<i∧(l.getD i aR).client≤(l.getD (i - 1) aR).client then 14
 else 0
def bC (l:List aG) (index:Int):Int :=
 if index<0∨1073741824<index then 2 else if 4<l.length then 1 else bU (kZ l index) l.length
theorem pR {s:aG} (h:aA s=true):∀i,i<s.aA.length→¬ gy s i:=by
 have h0:pU s=0:=by simpa [aA] using h
 intro i hi hb;have:=eu.1 h0 i hi;rw [if_pos hb] at this;cases this
theorem wW {s:aG} (h:aA s=true):∀i,i<s.aA.length→s.aH+1+i≤(s.aA.getD i dZ).seq
 | 0,hi=>by have:=pR h 0 hi;unfold gy at this;omega
 | i+1,hi=>by
   have h1:=pR h (i+1) hi;have h2:=wW h i (by omega);unfold gy at h1;rw [Nat.add_sub_cancel] at h1;omega
theorem iA {s:aG} (h:aA s=true):s.aA.length≤4:=by
 rcases Nat.lt_or_ge s.aA.length 5 with h5 | h5
 ·omega
 ·have h1:=wW h 4 (by omega)
  have h2:=pR h 4 (by omega);unfold gy at h2;omega
structure dQ (l:List aG) (index:Int):Prop where
 idx:0≤index∧index≤1073741824
 len:l.length≤4
 bad:∀x∈l,¬ fe index x
 rep:∀x∈l,aA x=true
 ord:∀i,0<i→i<l.length→(l.getD (i - 1) aR).client<(l.getD i aR).client
theorem kC {α:Type} (l:List α) (i:Nat) (d:α) (h:i<l.length):l.getD i d∈l:=by
 rw [show l.getD i d=l[i] by simp [List.getD,h]];exact List.getElem_mem h
theorem lY {α:Type} (l:List α) (x:α) (d:α) (h:x∈l):∃i,i<l.length∧l.getD i d=x:=by
 obtain ⟨i,hi,rfl⟩:=List.getElem_of_mem h;exact ⟨i,hi,by simp [List.getD,hi]⟩
theorem fA {l:List aG} {index:Int}:bC l index=0↔dQ l index:=by
 rw [bC];constructor
 ·intro h
  split at h
  ·cases h
  ·split at h
   ·cases h
   ·have hz:=eu.1 h
    refine ⟨by omega,by omega,fun x hx=>?_,fun x hx=>?_,fun i h0 hi=>?_⟩
    ·obtain ⟨i,hi,rfl⟩:=lY l x aR hx
     intro hb;have:=hz i hi;rw [kZ,if_pos hb] at this;cases this
    ·obtain ⟨i,hi,rfl⟩:=lY l x aR hx
     have:=hz i hi;rw [kZ] at this
     split at this
     ·cases this
     ·split at this
      ·cases this
      ·rename_i h;simpa using h
    ·have:=hz i hi
     rw [kZ] at this
     split at this
     ·cases this
     ·split at this
      ·cases this
      ·split at this
       ·cases this
       ·rename_i h;omega
 ·intro h
  rw [if_neg (by have:=h.idx;omega),if_neg (by have:=h.len;omega)];refine eu.2 fun i hi=>?_
  rw [kZ,if_neg (h.bad _ (kC l i _ hi)),if_neg (by rw [h.rep _ (kC l i _ hi)];decide),if_neg (fun hc=>by have:=h.ord i hc.1 hi;omega)]
def fH (l:List aG) (c:Int):Nat:=bs (fun i=>gI (l.getD i aR) c) l.length
def gz (l:List aG) (c:Int):Bool:=di (fun i=>gI (l.getD i aR) c) l.length
theorem iV {l:List aG} {c:Int} (h:gz l c=true):fH l c<l.length:=by
 simp only [gz,di,Bool.and_eq_true,decide_eq_true_eq] at h;exact h.1
theorem J9 {l:List aG} {c:Int} (h:gz l c=true):(l.getD (fH l c) aR).client=c:=by
 simp only [gz,di,Bool.and_eq_true,beq_iff_eq] at h;have:=h.2;simp only [gI] at this
 show (l.getD (bs _ _) aR).client=c
 simp only [gI];omega
def join (l:List aG) (index client:Int):List aG×eX×Int :=
 if bC l index≠0 then ([],dP,bC l index)
 else if client<1∨9<client∨index=1073741824 then ([],dP,2)
 else if gz l client=true then (l.set (fH l client) { l.getD (fH l client) aR with last:=index+1 },⟨7,(l.getD (fH l client) aR).id,[]⟩,0)
 else if l.length=4 then (l,⟨8,0,[]⟩,0)
 else (l.take (fH l client)++⟨client,index+1,0,index+1,[]⟩::l.drop (fH l client),⟨0,index+1,[]⟩,0)
def yP (index:Int) (x:aG):Bool:=decide (40<RowKit.wrap64 (index+1 - x.last))
def kI (l:List aG) (index:Int):List aG×Int:=if bC l index≠0 then ([],bC l index) else (l.filter (fun x=>!yP index x),0)
end Go.Tk
namespace Go.Tk
theorem bsGo_spec (f:Nat→Int) (N:Nat) (mono:∀i j,i<j→j<N→f j<0→f i<0):∀(n p q:Nat),q - p≤n→p≤q→q≤N→(∀i,i<p→f i<0)→(∀i,q≤i→i<N→¬ f i<0) →
 (∀i,i<bsGo f n p q→f i<0)∧(∀i,bsGo f n p q≤i→i<N→¬ f i<0)
 | 0,p,q,hn,hpq,hq,h1,h2=>by
   obtain rfl:p=q:=by omega
   exact ⟨h1,h2⟩
 | n+1,p,q,hn,hpq,hq,h1,h2=>by
   rw [bsGo]
   by_cases hlt:p<q
   ·rw [if_pos hlt]
    by_cases hf:f ((p+q) / 2)<0
    ·rw [if_pos hf]
     refine bsGo_spec f N mono n _ _ (by omega) (by omega) hq (fun i hi=>?_) h2
     rcases Nat.lt_or_ge i ((p+q) / 2) with h | h
     ·exact mono i _ h (by omega) hf
     ·rw [show i=(p+q) / 2 by omega];exact hf
    ·rw [if_neg hf]
     refine bsGo_spec f N mono n _ _ (by omega) (by omega) (by omega) h1 (fun i hi hN hfi=>?_)
     rcases Nat.lt_or_ge ((p+q) / 2) i with h | h
     ·exact hf (mono _ i h hN hfi)
     ·rw [show i=(p+q) / 2 by omega] at hfi;exact hf hfi
   ·rw [if_neg hlt]
    obtain rfl:p=q:=by omega
    exact ⟨h1,h2⟩
theorem EB {f:Nat→Int} {N:Nat} (mono:∀i j,i<j→j<N→f j<0→f i<0):(∀i,i<bs f N→f i<0)∧(∀i,bs f N≤i→i<N→¬ f i<0) :=
 bsGo_spec f N mono N 0 N (by omega) (by omega) (by omega) (by omega) (by omega)
end Go.Tk
