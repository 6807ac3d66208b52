/- A part of the proof, laid together from: CluK, RunK. -/
import Derived.Test.YtbngpjdflblffaaGreatDoorPa11
set_option linter.all false
set_option maxRecDepth 100000
namespace Go.Tk
open Go Go.RowKit
structure aX (W:Nat→Prop) (a b:World):Prop where
 os:b.os=a.os
 tape:b.tape=a.tape
 output:b.output=a.output
 size:a.heap.size≤b.heap.size
 block:∀i,i<a.heap.size→¬ W i→b.heap[i]?=a.heap[i]?
theorem aX.refl (W:Nat→Prop) (a:World):aX W a a:=⟨rfl,rfl,rfl,Nat.le_refl _,fun _ _ _=>rfl⟩
theorem aX.trans {W W':Nat→Prop} {a b c:World} (h:aX W a b) (k:aX W' b c) (hw:∀i,W' i→W i∨a.heap.size≤i):aX W a c :=
 ⟨k.os.trans h.os,k.tape.trans h.tape,k.output.trans h.output,Nat.le_trans h.size k.size,fun i hi hn=>(k.block i (Nat.lt_of_lt_of_le hi h.size) (fun hi'=>by
  rcases hw i hi' with h1 | h1
  ·exact hn h1
  ·omega)).trans (h.block i hi hn)⟩
theorem aX.of_below {W:Nat→Prop} {a b:World} (h:Below a.heap.size a b):aX W a b:=⟨h.os,h.tape,h.output,h.size,fun i hi _=>h.block i hi⟩
theorem aX.step {W:Nat→Prop} {a b c:World} (h:aX W a b) (k:Below b.heap.size b c):aX W a c:=h.trans (aX.of_below (W:=fun _=>False) k) (fun _ h=>h.elim)
theorem aX.grown {W:Nat→Prop} {a b c:World} {r:Option Nat} (h:aX W a b) (k:b.grownBy c r) (hr:∀g,r=some g→W g∨a.heap.size≤g):aX W a c :=
 ⟨k.os.trans h.os,k.tape.trans h.tape,k.output.trans h.output,Nat.le_trans h.size k.size,fun i hi hn=>(k.block i (Nat.lt_of_lt_of_le hi h.size) (fun e=>by
  rcases hr i e.symm with h1 | h1
  ·exact hn h1
  ·omega)).trans (h.block i hi hn)⟩
theorem aX.sets {W:Nat→Prop} {a b:World} (h:aX W a b) {k:Nat} (hk:W k∨a.heap.size≤k) (o:Nat) (us:List Value):aX W a (b.setCells k o us):=by
 have hs:∀(us:List Value) (o:Nat) (w:World),(w.setCells k o us).heap.size=w.heap.size∧(w.setCells k o us).os=w.os∧(w.setCells k o us).tape=w.tape∧(w.setCells k o us).output=w.output:=by
  intro us
  induction us with
  | nil=>intro o w;exact ⟨rfl,rfl,rfl,rfl⟩
  | cons u us ih =>
    intro o w;obtain ⟨h1,h2,h3,h4⟩:=ih (o+1) (w.setCell ⟨k,o,none⟩ u);exact ⟨h1.trans (World.size_setCell _ _ _),h2,h3,h4⟩
 obtain ⟨h1,h2,h3,h4⟩:=hs us o b;exact ⟨h2.trans h.os,h3.trans h.tape,h4.trans h.output,by rw [h1];exact h.size,fun i hi hn=>(iW (by
  rintro rfl
  rcases hk with hk | hk
  ·exact hn hk
  ·omega) us o b).trans (h.block i hi hn)⟩
theorem aX.set1 {W:Nat→Prop} {a b:World} (h:aX W a b) {k:Nat} (hk:W k∨a.heap.size≤k) (o:Nat) (u:Value):aX W a (b.setCell ⟨k,o,none⟩ u):=h.sets hk o [u]
theorem aX.wide {W W':Nat→Prop} {a b:World} (h:aX W a b) (hw:∀i,W i→W' i):aX W' a b:=⟨h.os,h.tape,h.output,h.size,fun i hi hn=>h.block i hi (fun h'=>hn (hw i h'))⟩
theorem aD.nK {W:Nat→Prop} {w w':World} {b:Nat} {cs:List Value} (h:aD w b cs) (hc:aX W w w') (hb:¬ W b):aD w' b cs:=h.keep (hc.block b h.lt hb)
def LX (K:List Bytes):Rel RA:=fun w cs a S=>Qh w cs (dw K a) S
theorem jZ (K:List Bytes):cu (LX K) 7:=⟨fun h=>Ei.len h,fun h=>Ei.one h,fun h hm=>Ei.move h hm⟩
def nN:Rel bA:=fun w cs c S=>∃v,cs=rR c v∧aZ 5 fI w v c.waits S
theorem dV:cu nN 4 where
 len:=by rintro w cs x S ⟨v,rfl,_⟩;rfl
 one:=by
  rintro w cs x S ⟨v,rfl,hr⟩ u hu;have h1:=hr.oneCell;simp [rR] at hu
  rcases hu with rfl | rfl | rfl | rfl
  ·rfl
  ·rfl
  ·rfl
  ·exact h1
 move:=by rintro w w' cs x S S' ⟨v,rfl,hr⟩ hm;exact ⟨v,rfl,hr.move aV (by decide) hm⟩
def wQ (X:Nat) (vr vc vm vk:Value) (b:Nat):Prop:=b=X∨some b=vr.ownBlock∨some b=vc.ownBlock∨some b=vm.ownBlock∨some b=vk.ownBlock
structure Apt (X:Nat) (vr vc vm vk:Value):Prop where
 r:vr.ownBlock≠some X
 c:vc.ownBlock≠some X
 m:vm.ownBlock≠some X
 k:vk.ownBlock≠some X
 rc:∀g,vr.ownBlock=some g→vc.ownBlock≠some g
 rm:∀g,vr.ownBlock=some g→vm.ownBlock≠some g
 rk:∀g,vr.ownBlock=some g→vk.ownBlock≠some g
 cm:∀g,vc.ownBlock=some g→vm.ownBlock≠some g
 ck:∀g,vc.ownBlock=some g→vk.ownBlock≠some g
 UX:∀g,vm.ownBlock=some g→vk.ownBlock≠some g
structure eB (ER EC EM EK:Nat) (w:World) (X:Nat) (vr vc vm vk:Value) (x:bS) (Z:Nat→Prop):Prop where
 box:aD w X [vr,vc,vm,vk, iI (x.lead:Int)]
 rep:bZ ER 7 (LX x.K) w vr x.kP (fun b=>Z b∧¬ wQ X vr vc vm vk b)
 nV:bZ EC 4 nN w vc x.bu (fun b=>Z b∧¬ wQ X vr vc vm vk b)
 jh:bZ EM 5 jV w vm x.bD (fun _=>False)
 comm:bZ EK 1 iw w vk x.K (fun _=>False)
 nI:Apt X vr vc vm vk
 own:∀b,wQ X vr vc vm vk b→Z b
section
variable {ER EC EM EK:Nat} {w:World} {X:Nat} {vr vc vm vk:Value} {x:bS} {Z:Nat→Prop}
theorem eB.lt (h:eB ER EC EM EK w X vr vc vm vk x Z) {b:Nat} (hb:wQ X vr vc vm vk b):b<w.heap.size:=by
 rcases hb with rfl | hb | hb | hb | hb
 ·exact h.box.lt
 ·exact h.rep.lt b hb.symm
 ·exact h.nV.lt b hb.symm
 ·exact h.jh.lt b hb.symm
 ·exact h.comm.lt b hb.symm
theorem eB.keep (h:eB ER EC EM EK w X vr vc vm vk x Z) {w':World} (hk:∀b,Z b→b<w.heap.size→w'.heap[b]?=w.heap[b]?):eB ER EC EM EK w' X vr vc vm vk x Z:=by
 have h1:∀b,wQ X vr vc vm vk b→w'.heap[b]?=w.heap[b]?:=fun b hb=>hk b (h.own b hb) (h.lt hb)
 exact ⟨h.box.keep (h1 X (.inl rfl)),h.rep.move (jZ _) (fun g hg=>h1 g (.inr (.inl hg.symm))) (fun b hb _ hl=>⟨hk b hb.1 hl,hb⟩),
  h.nV.move dV (fun g hg=>h1 g (.inr (.inr (.inl hg.symm)))) (fun b hb _ hl=>⟨hk b hb.1 hl,hb⟩),
  h.jh.move bT (fun g hg=>h1 g (.inr (.inr (.inr (.inl hg.symm))))) (fun b hb=>hb.elim),
  h.comm.move aK (fun g hg=>h1 g (.inr (.inr (.inr (.inr hg.symm))))) (fun b hb=>hb.elim),h.nI,h.own⟩
theorem eB.below (h:eB ER EC EM EK w X vr vc vm vk x Z) {w':World} (hb:Below w.heap.size w w'):eB ER EC EM EK w' X vr vc vm vk x Z:=h.keep fun b _ hl=>hb.block b hl
theorem eB.nK (h:eB ER EC EM EK w X vr vc vm vk x Z) {w':World} {W:Nat→Prop} (hc:aX W w w') (hW:∀b,W b→¬ Z b):eB ER EC EM EK w' X vr vc vm vk x Z:=h.keep fun b hz hl=>hc.block b hl fun hw=>hW b hw hz
theorem eB.grown (h:eB ER EC EM EK w X vr vc vm vk x Z) {w':World} {r:Option Nat} (hg:w.grownBy w' r) (hr:∀g,r=some g→¬ Z g):eB ER EC EM EK w' X vr vc vm vk x Z :=
 h.keep fun b hz hl=>hg.block b hl fun e=>hr b e.symm hz
theorem getD_lt {α:Type} {l:List α} {i:Nat} {d:α} (h:i<l.length):l.getD i d=l[i]:=by simp [List.getD,h]
theorem eB.oL (h:eB ER EC EM EK w X vr vc vm vk x Z) {r:Nat} (hr:r<x.kP.length):∃g cap ve vl vp vz,vr=.slice (some ⟨g,0,none⟩) x.kP.length cap∧x.kP.length≤cap∧cap≤maxLen ∧
 (∀(j:Nat) (u:Value),(AZ (dw x.K (aU x r)) ve vl vp vz)[j]?=some u→w.cell? ⟨g,r*7+j,none⟩=some u)∧dh w (dw x.K (aU x r)) ve vl vp vz (fun b=>Z b∧¬ wQ X vr vc vm vk b):=by
 obtain ⟨h1,h2⟩ | ⟨g,cap,hv⟩:=h.rep.D9
 ·rw [h2] at hr;cases hr
 ·have hrep:=h.rep
  rw [hv] at hrep;obtain ⟨row,hR,hc⟩:=hrep.at (jZ _) hr;have hroom:=hrep.room;obtain ⟨ve,vl,vp,vz,rfl,hp⟩:=hR;rw [show x.kP[r]=aU x r from (getD_lt hr).symm] at hc hp;rw [hv];exact ⟨g,cap,ve,vl,vp,vz,rfl,hroom.1,hroom.2,hc,hp.sub fun b hb _=>hb.1⟩
theorem eB.uE (h:eB ER EC EM EK w X vr vc vm vk x Z) {i:Nat} (hi:i<x.bu.length):∃g cap v,vc=.slice (some ⟨g,0,none⟩) x.bu.length cap∧x.bu.length≤cap∧cap≤maxLen ∧
 (∀(j:Nat) (u:Value),(rR (iq x i) v)[j]?=some u→w.cell? ⟨g,i*4+j,none⟩=some u)∧aZ 5 fI w v (iq x i).waits (fun b=>Z b∧¬ wQ X vr vc vm vk b):=by
 obtain ⟨h1,h2⟩ | ⟨g,cap,hv⟩:=h.nV.D9
 ·rw [h2] at hi;cases hi
 ·have QH:=h.nV
  rw [hv] at QH;obtain ⟨row,hR,hc⟩:=QH.at dV hi;have hroom:=QH.room;obtain ⟨v,rfl,hp⟩:=hR;rw [show x.bu[i]=iq x i from (getD_lt hi).symm] at hc hp;rw [hv];exact ⟨g,cap,v,rfl,hroom.1,hroom.2,hc,hp.sub aV (by decide) fun b hb _=>hb.1⟩
theorem bZ.thaw {α:Type} {E k:Nat} {R:Rel α} {w:World} {g n cap:Nat} {l:List α} {S:Nat→Prop} (h:bZ E k R w (.slice (some ⟨g,0,none⟩) n cap) l S) (j:Nat):w.frozen? ⟨g,j,none⟩=false:=by
 obtain ⟨rows,h1,h2,h3⟩:=h
 rcases h2.2 with ⟨h,_⟩ | ⟨g',cap',cur,hv,_,hg,_⟩
 ·cases h
 ·simp only [Value.slice.injEq,Option.some.injEq,Addr.mk.injEq,and_true] at hv
  obtain ⟨rfl,-,-⟩:=hv;exact frozen_of_row w g _ cur _ hg
theorem eB.yf (h:eB ER EC EM EK w X vr vc vm vk x Z) {r g n cap:Nat} (hr:r<x.kP.length) (hv:vr=.slice (some ⟨g,0,none⟩) n cap) {a:RA} {cs:List Value} {P:Nat→Prop} (hcs:LX x.K w cs a P) (hP:∀b,P b→¬ wQ X vr vc vm vk b) :
 eB ER EC EM EK (w.setCells g (r*7) cs) X vr vc vm vk (jU x r a) (fun b=>Z b∨P b)∧aX Z w (w.setCells g (r*7) cs):=by
 subst hv;have hgW:wQ X (.slice (some ⟨g,0,none⟩) n cap) vc vm vk g:=.inr (.inl rfl);have far:∀b,b≠g→(w.setCells g (r*7) cs).heap[b]?=w.heap[b]?:=fun b hb=>iW hb _ _ _
 have hX:X≠g:=fun e=>h.nI.r (by rw [e];rfl)
 refine ⟨⟨h.box.keep (far X hX),?_,?_,?_,?_,h.nI,fun b hb=>.inl (h.own b hb)⟩,(aX.refl Z w).sets (.inl (h.own g hgW)) _ _⟩
 ·have h1:=h.rep.move (S':=fun b=>(Z b∨P b)∧¬ wQ X (.slice (some ⟨g,0,none⟩) n cap) vc vm vk b) (jZ _) (fun _ _=>rfl) (fun b hb _ _=>⟨rfl, .inl hb.1,hb.2⟩)
  exact h1.setRow (jZ _) hr ((jZ _).sub hcs fun b hb _=>⟨⟨.inr hb,hP b hb⟩,fun e=>hP b hb (by rw [e];exact hgW)⟩)
 ·exact h.nV.move dV (fun g' hg'=>far g' (by rintro rfl;exact h.nI.rc _ rfl hg')) (fun b hb _ _=>⟨far b (by rintro rfl;exact hb.2 hgW), .inl hb.1,hb.2⟩)
 ·exact h.jh.move bT (fun g' hg'=>far g' (by rintro rfl;exact h.nI.rm _ rfl hg')) (fun b hb=>hb.elim)
 ·exact h.comm.move aK (fun g' hg'=>far g' (by rintro rfl;exact h.nI.rk _ rfl hg')) (fun b hb=>hb.elim)
theorem eB.LK (h:eB ER EC EM EK w X vr vc vm vk x Z) {i g n cap:Nat} (hi:i<x.bu.length) (hv:vc=.slice (some ⟨g,0,none⟩) n cap) {c:bA} {cs:List Value} {P:Nat→Prop} (hcs:nN w cs c P) (hP:∀b,P b→¬ wQ X vr vc vm vk b) :
 eB ER EC EM EK (w.setCells g (i*4) cs) X vr vc vm vk { x with bu:=x.bu.set i c } (fun b=>Z b∨P b)∧aX Z w (w.setCells g (i*4) cs):=by
 subst hv;have hgW:wQ X vr (.slice (some ⟨g,0,none⟩) n cap) vm vk g:=.inr (.inr (.inl rfl));have far:∀b,b≠g→(w.setCells g (i*4) cs).heap[b]?=w.heap[b]?:=fun b hb=>iW hb _ _ _
 have hX:X≠g:=fun e=>h.nI.c (by rw [e];rfl)
 refine ⟨⟨h.box.keep (far X hX),?_,?_,?_,?_,h.nI,fun b hb=>.inl (h.own b hb)⟩,(aX.refl Z w).sets (.inl (h.own g hgW)) _ _⟩
 ·exact h.rep.move (jZ _) (fun g' hg'=>far g' (by rintro rfl;exact h.nI.rc _ hg' rfl)) (fun b hb _ _=>⟨far b (by rintro rfl;exact hb.2 hgW), .inl hb.1,hb.2⟩)
 ·have h1:=h.nV.move (S':=fun b=>(Z b∨P b)∧¬ wQ X vr (.slice (some ⟨g,0,none⟩) n cap) vm vk b) dV (fun _ _=>rfl) (fun b hb _ _=>⟨rfl, .inl hb.1,hb.2⟩)
  exact h1.setRow dV hi (dV.sub hcs fun b hb _=>⟨⟨.inr hb,hP b hb⟩,fun e=>hP b hb (by rw [e];exact hgW)⟩)
 ·exact h.jh.move bT (fun g' hg'=>far g' (by rintro rfl;exact h.nI.cm _ rfl hg')) (fun b hb=>hb.elim)
 ·exact h.comm.move aK (fun g' hg'=>far g' (by rintro rfl;exact h.nI.ck _ rfl hg')) (fun b hb=>hb.elim)
theorem eB.NU (h:eB ER EC EM EK w X vr vc vm vk x Z) (r:Nat):eB ER EC EM EK (w.setCell ⟨X,4,none⟩ (iI (r:Int))) X vr vc vm vk { x with lead:=r } Z∧aX Z w (w.setCell ⟨X,4,none⟩ (iI (r:Int))):=by
 have far:∀b,b≠X→(w.setCell ⟨X,4,none⟩ (iI (r:Int))).heap[b]?=w.heap[b]?:=fun b hb=>aC hb
 refine ⟨⟨h.box.set 4 (by simp) _,?_,?_,?_,?_,h.nI,h.own⟩,(aX.refl Z w).set1 (.inl (h.own X (.inl rfl))) _ _⟩
 ·exact h.rep.move (jZ _) (fun g hg=>far g (by rintro rfl;exact h.nI.r hg)) (fun b hb _ _=>⟨far b (by rintro rfl;exact hb.2 (.inl rfl)),hb⟩)
 ·exact h.nV.move dV (fun g hg=>far g (by rintro rfl;exact h.nI.c hg)) (fun b hb _ _=>⟨far b (by rintro rfl;exact hb.2 (.inl rfl)),hb⟩)
 ·exact h.jh.move bT (fun g hg=>far g (by rintro rfl;exact h.nI.m hg)) (fun b hb=>hb.elim)
 ·exact h.comm.move aK (fun g hg=>far g (by rintro rfl;exact h.nI.k hg)) (fun b hb=>hb.elim)
theorem eB.Jo (h:eB ER EC EM EK w X vr vc vm vk x Z) {w1:World} {v':Value} {ms:List kM} (ho:bZ EM 5 jV w1 v' ms (fun _=>False)) (hg:w.grownBy w1 vm.ownBlock) (hv:v'.ownBlock=vm.ownBlock∨∃g,v'.ownBlock=some g∧w.heap.size≤g) :
 eB ER EC EM EK (w1.setCell ⟨X,2,none⟩ v') X vr vc v' vk { x with bD:=ms } (fun b=>Z b∨some b=v'.ownBlock)∧aX Z w (w1.setCell ⟨X,2,none⟩ v'):=by
 have xY:=h.box.lt;have SH:v'.ownBlock≠some X:=fun e=>by
  rcases hv with e1 | ⟨g,e1,hge⟩
  ·exact h.nI.m (e1▸e)
  ·rw [e] at e1;cases e1;omega
 have old:∀g,v'.ownBlock=some g→vm.ownBlock=some g∨w.heap.size≤g:=fun g e=>by
  rcases hv with e1 | ⟨g',e1,hge⟩
  ·exact .inl (e1▸e)
  ·rw [e] at e1;cases e1;exact .inr hge
 have far:∀b,b<w.heap.size→b≠X→vm.ownBlock≠some b→(w1.setCell ⟨X,2,none⟩ v').heap[b]?=w.heap[b]?:=fun b hb hX hm=>(aC hX).trans (hg.block b hb fun e=>hm e.symm)
 have hW:∀b,b<w.heap.size→¬ wQ X vr vc vm vk b→¬ wQ X vr vc v' vk b:=fun b hl hn hb=>by
  rcases hb with hb | hb | hb | hb | hb
  ·exact hn (.inl hb)
  ·exact hn (.inr (.inl hb))
  ·exact hn (.inr (.inr (.inl hb)))
  ·rcases old b hb.symm with h1 | h1
   ·exact hn (.inr (.inr (.inr (.inl h1.symm))))
   ·omega
  ·exact hn (.inr (.inr (.inr (.inr hb))))
 refine ⟨⟨?_,?_,?_,?_,?_,?_,?_⟩,?_⟩
 ·exact (h.box.keep (w':=w1) (hg.block X xY fun e=>h.nI.m e.symm)).set 2 (by simp) v'
 ·exact h.rep.move (jZ _) (fun g hr=>far g (h.rep.lt g hr) (by rintro rfl;exact h.nI.r hr) (fun e=>h.nI.rm g hr e)) (fun b hb _ hl=>⟨far b hl (by rintro rfl;exact hb.2 (.inl rfl)) (fun e=>hb.2 (.inr (.inr (.inr (.inl e.symm))))), .inl hb.1,hW b hl hb.2⟩)
 ·exact h.nV.move dV (fun g hr=>far g (h.nV.lt g hr) (by rintro rfl;exact h.nI.c hr) (fun e=>h.nI.cm g hr e)) (fun b hb _ hl=>⟨far b hl (by rintro rfl;exact hb.2 (.inl rfl)) (fun e=>hb.2 (.inr (.inr (.inr (.inl e.symm))))), .inl hb.1,hW b hl hb.2⟩)
 ·exact ho.move bT (fun g hg'=>aC (by rintro rfl;exact SH hg')) (fun b hb=>hb.elim)
 ·exact h.comm.move aK (fun g hr=>far g (h.comm.lt g hr) (by rintro rfl;exact h.nI.k hr) (fun e=>h.nI.UX g e hr)) (fun b hb=>hb.elim)
 ·refine ⟨h.nI.r,h.nI.c,SH,h.nI.k,h.nI.rc,fun g hr e=>?_,h.nI.rk,fun g hr e=>?_,h.nI.ck,fun g e hr=>?_⟩
  ·rcases old g e with h1 | h1
   ·exact h.nI.rm g hr h1
   ·have:=h.rep.lt g hr;omega
  ·rcases old g e with h1 | h1
   ·exact h.nI.cm g hr h1
   ·have:=h.nV.lt g hr;omega
  ·rcases old g e with h1 | h1
   ·exact h.nI.UX g h1 hr
   ·have:=h.comm.lt g hr;omega
 ·rintro b (hb | hb | hb | hb | hb)
  ·exact .inl (h.own b (.inl hb))
  ·exact .inl (h.own b (.inr (.inl hb)))
  ·exact .inl (h.own b (.inr (.inr (.inl hb))))
  ·exact .inr hb
  ·exact .inl (h.own b (.inr (.inr (.inr (.inr hb)))))
 ·exact ((aX.refl Z w).grown hg fun g e=>.inl (h.own g (.inr (.inr (.inr (.inl e.symm)))))).set1 (.inl (h.own X (.inl rfl))) _ _
theorem eB.VK (h:eB ER EC EM EK w X vr vc vm vk x Z) {w1:World} {v':Value} {K':List Bytes} (ho:bZ EK 1 iw w1 v' K' (fun _=>False)) (hg:w.grownBy w1 vk.ownBlock) (hv:v'.ownBlock=vk.ownBlock∨∃g,v'.ownBlock=some g∧w.heap.size≤g)
 (hK:x.K <+: K') (hre:∀a∈x.kP,a.b≤x.K.length∧a.i≤x.K.length) :
 eB ER EC EM EK (w1.setCell ⟨X,3,none⟩ v') X vr vc vm v' { x with K:=K' } (fun b=>Z b∨some b=v'.ownBlock)∧aX Z w (w1.setCell ⟨X,3,none⟩ v'):=by
 have xY:=h.box.lt;have SH:v'.ownBlock≠some X:=fun e=>by
  rcases hv with e1 | ⟨g,e1,hge⟩
  ·exact h.nI.k (e1▸e)
  ·rw [e] at e1;cases e1;omega
 have old:∀g,v'.ownBlock=some g→vk.ownBlock=some g∨w.heap.size≤g:=fun g e=>by
  rcases hv with e1 | ⟨g',e1,hge⟩
  ·exact .inl (e1▸e)
  ·rw [e] at e1;cases e1;exact .inr hge
 have far:∀b,b<w.heap.size→b≠X→vk.ownBlock≠some b→(w1.setCell ⟨X,3,none⟩ v').heap[b]?=w.heap[b]?:=fun b hb hX hm=>(aC hX).trans (hg.block b hb fun e=>hm e.symm)
 have hW:∀b,b<w.heap.size→¬ wQ X vr vc vm vk b→¬ wQ X vr vc vm v' b:=fun b hl hn hb=>by
  rcases hb with hb | hb | hb | hb | hb
  ·exact hn (.inl hb)
  ·exact hn (.inr (.inl hb))
  ·exact hn (.inr (.inr (.inl hb)))
  ·exact hn (.inr (.inr (.inr (.inl hb))))
  ·rcases old b hb.symm with h1 | h1
   ·exact hn (.inr (.inr (.inr (.inr h1.symm))))
   ·omega
 refine ⟨⟨?_,?_,?_,?_,?_,?_,?_⟩,?_⟩
 ·exact (h.box.keep (w':=w1) (hg.block X xY fun e=>h.nI.k e.symm)).set 3 (by simp) v'
 ·have h1:=h.rep.move (w':=w1.setCell ⟨X,3,none⟩ v') (S':=fun b=>(Z b∨some b=v'.ownBlock)∧¬ wQ X vr vc vm v' b) (jZ _) (fun g hr=>far g (h.rep.lt g hr) (by rintro rfl;exact h.nI.r hr) (fun e=>h.nI.rk g hr e)) (fun b hb _ hl=>⟨far b hl (by rintro rfl;exact hb.2 (.inl rfl)) (fun e=>hb.2 (.inr (.inr (.inr (.inr e.symm))))), .inl hb.1,hW b hl hb.2⟩)
  obtain ⟨rows,g1,g2,g3⟩:=h1;refine ⟨rows,g1,g2,fun i r a hr ha=>?_⟩;have:=g3 i r a hr ha;obtain ⟨q1,q2⟩:=hre a (List.mem_of_getElem? ha)
  show Qh _ r (dw K' a) _
  rw [show dw K' a=dw x.K a by rw [dw,dw,Fz hK q1,Fa hK q2]];exact this
 ·exact h.nV.move dV (fun g hr=>far g (h.nV.lt g hr) (by rintro rfl;exact h.nI.c hr) (fun e=>h.nI.ck g hr e)) (fun b hb _ hl=>⟨far b hl (by rintro rfl;exact hb.2 (.inl rfl)) (fun e=>hb.2 (.inr (.inr (.inr (.inr e.symm))))), .inl hb.1,hW b hl hb.2⟩)
 ·exact h.jh.move bT (fun g hr=>far g (h.jh.lt g hr) (by rintro rfl;exact h.nI.m hr) (fun e=>h.nI.UX g hr e)) (fun b hb=>hb.elim)
 ·exact ho.move aK (fun g hg'=>aC (by rintro rfl;exact SH hg')) (fun b hb=>hb.elim)
 ·refine ⟨h.nI.r,h.nI.c,h.nI.m,SH,h.nI.rc,h.nI.rm,fun g hr e=>?_,h.nI.cm,fun g hr e=>?_,fun g hr e=>?_⟩
  ·rcases old g e with h1 | h1
   ·exact h.nI.rk g hr h1
   ·have:=h.rep.lt g hr;omega
  ·rcases old g e with h1 | h1
   ·exact h.nI.ck g hr h1
   ·have:=h.nV.lt g hr;omega
  ·rcases old g e with h1 | h1
   ·exact h.nI.UX g hr h1
   ·have:=h.jh.lt g hr;omega
 ·rintro b (hb | hb | hb | hb | hb)
  ·exact .inl (h.own b (.inl hb))
  ·exact .inl (h.own b (.inr (.inl hb)))
  ·exact .inl (h.own b (.inr (.inr (.inl hb))))
  ·exact .inl (h.own b (.inr (.inr (.inr (.inl hb)))))
  ·exact .inr hb
 ·exact ((aX.refl Z w).grown hg fun g e=>.inl (h.own g (.inr (.inr (.inr (.inr e.symm)))))).set1 (.inl (h.own X (.inl rfl))) _ _
end
def gW (ER EC EM EK:Nat) (w:World) (X:Nat) (x:bS) (Z:Nat→Prop):Prop:=∃vr vc vm vk,eB ER EC EM EK w X vr vc vm vk x Z
def eY (ER EC EM EK:Nat) (w:World) (X:Nat) (Z:Nat→Prop) (w':World) (x:bS):Prop:=∃Z',gW ER EC EM EK w' X x Z'∧(∀b,Z' b→Z b∨w.heap.size≤b)∧aX Z w w'
theorem eY.step {ER EC EM EK:Nat} {w w1 w':World} {X:Nat} {Z Z1:Nat→Prop} {x:bS} (h:eY ER EC EM EK w1 X Z1 w' x) (hc:aX Z w w1) (hZ:∀b,Z1 b→Z b∨w.heap.size≤b):eY ER EC EM EK w X Z w' x:=by
 obtain ⟨Z',h1,h2,h3⟩:=h;refine ⟨Z',h1,fun b hb=>?_,hc.trans h3 hZ⟩
 rcases h2 b hb with h4 | h4
 ·exact hZ b h4
 ·exact .inr (Nat.le_trans hc.size h4)
def iQ (a:dK):List Value:=[iI a.kind, iI a.c, iI a.r, iI a.k, iI a.op.kind, iS a.op.a, iS a.op.b, iI a.op.n]
def qA:Rel dK:=fun _ cs a _=>cs=[iI a.kind, iI a.c, iI a.r, iI a.k, iI a.op.kind, iS a.op.a, iS a.op.b, iI a.op.n]
theorem fo:cu qA 8:=⟨by rintro w cs x S rfl;rfl,by rintro w cs x S rfl u hu;simp at hu;rcases hu with rfl | rfl | rfl | rfl | rfl | rfl | rfl | rfl<;>rfl,fun h _=>h⟩
theorem Bc (w:World) (cs:List Value) (x:dK) (S S':Nat→Prop) (h:qA w cs x S):qA w cs x S':=h
theorem LY (w:World) (cs:List Value) (x:Int) (S S':Nat→Prop) (h:jE w cs x S):jE w cs x S':=h
theorem gW.trim {ER EC EM EK:Nat} {w:World} {X:Nat} {x:bS} {Z:Nat→Prop} (h:gW ER EC EM EK w X x Z):gW ER EC EM EK w X x (fun b=>Z b∧b<w.heap.size):=by
 obtain ⟨vr,vc,vm,vk,h⟩:=h;exact ⟨vr,vc,vm,vk,h.box,h.rep.move (jZ _) (fun _ _=>rfl) (fun b hb _ hl=>⟨rfl,⟨hb.1,hl⟩,hb.2⟩),h.nV.move dV (fun _ _=>rfl) (fun b hb _ hl=>⟨rfl,⟨hb.1,hl⟩,hb.2⟩),h.jh,h.comm,h.nI,fun b hb=>⟨h.own b hb,h.lt hb⟩⟩
theorem gW.below' {ER EC EM EK:Nat} {w w':World} {X:Nat} {x:bS} {Z:Nat→Prop} (h:gW ER EC EM EK w X x Z) (hb:Below w.heap.size w w'):gW ER EC EM EK w' X x Z:=by
 obtain ⟨v1,v2,v3,v4,h⟩:=h;exact ⟨v1,v2,v3,v4,h.below hb⟩
theorem gW.grown {ER EC EM EK:Nat} {w w':World} {X:Nat} {x:bS} {Z:Nat→Prop} (h:gW ER EC EM EK w X x Z) {r:Option Nat} (hg:w.grownBy w' r) (hr:∀g,r=some g→¬ Z g):gW ER EC EM EK w' X x Z:=by
 obtain ⟨v1,v2,v3,v4,h⟩:=h;exact ⟨v1,v2,v3,v4,h.grown hg hr⟩
theorem gW.nK {ER EC EM EK:Nat} {w w':World} {X:Nat} {x:bS} {Z:Nat→Prop} (h:gW ER EC EM EK w X x Z) {W:Nat→Prop} (hc:aX W w w') (hW:∀b,W b→¬ Z b):gW ER EC EM EK w' X x Z:=by
 obtain ⟨v1,v2,v3,v4,h⟩:=h;exact ⟨v1,v2,v3,v4,h.nK hc hW⟩
def qz:List Value:=[iI 0, iN, .string ⟨#[]⟩, iI 0, iN, iN, iN]
theorem Bb (K:List Bytes) (w:World) (S:Nat→Prop):LX K w qz Jm S:=⟨_,_,_,_,rfl,dh.none w S⟩
theorem eB.first {ER EC EM EK:Nat} {w:World} {X g n:Nat} {vc:Value} (WG:aD w X [.slice (some ⟨g,0,none⟩) 3 3,vc, iN, iN, iI 0])
 (hg:w.heap[g]?=some (.cells (qz++qz++qz).toArray ER (0,0))) (hc:bZ EC 4 nN w vc (o9 n).bu (fun _=>False)) (hgX:g≠X) (hv:∀q,vc.ownBlock=some q→q≠X∧q≠g) :
 eB ER EC EM EK w X (.slice (some ⟨g,0,none⟩) 3 3) vc (iN) (iN) (o9 n) (fun b=>b=X∨b=g∨some b=vc.ownBlock):=by
 refine ⟨WG,?_,hc.move dV (fun _ _=>rfl) (fun b hb=>hb.elim),bZ.nil _ _,bZ.nil _ _,⟨?_,?_,?_,?_,?_,?_,?_,?_,?_,?_⟩,?_⟩
 ·refine ⟨[qz,qz,qz],rfl,⟨rfl, .inr ⟨g,3,(qz++qz++qz).toArray,rfl,Nat.zero_le _,hg,Nat.le_refl _,by decide,rfl,rfl⟩⟩,fun i r a hr ha=>?_⟩
  match i,hr,ha with
  | 0,hr,ha=>cases hr;cases ha;exact Bb _ _ _
  | 1,hr,ha=>cases hr;cases ha;exact Bb _ _ _
  | 2,hr,ha=>cases hr;cases ha;exact Bb _ _ _
 ·intro e;cases e;exact hgX rfl
 ·exact fun e=>(hv _ e).1 rfl
 ·intro e;cases e
 ·intro e;cases e
 ·intro q e h;cases e;exact (hv _ h).2 rfl
 ·intro q _ h;cases h
 ·intro q _ h;cases h
 ·intro q _ h;cases h
 ·intro q _ h;cases h
 ·intro q _ h;cases h
 ·rintro b (hb | hb | hb | hb | hb)
  ·exact .inl hb
  ·cases hb;exact .inr (.inl rfl)
  ·exact .inr (.inr hb)
  ·cases hb
  ·cases hb
structure uN (w:World) (x:bS) (codes:List Int) (vr vc vm vk vo:Value) (S:Nat→Prop):Prop where
 rep:aZ 7 (LX x.K) w vr x.kP S
 nV:aZ 4 nN w vc x.bu S
 jh:aZ 5 jV w vm x.bD S
 comm:aZ 1 iw w vk x.K S
 codes:aZ 1 jE w vo codes S
theorem uN.below {w w':World} {x:bS} {codes:List Int} {vr vc vm vk vo:Value} {S:Nat→Prop} (h:uN w x codes vr vc vm vk vo S) (hb:Below w.heap.size w w'):uN w' x codes vr vc vm vk vo S :=
 ⟨h.rep.below (jZ _) (by decide) hb,h.nV.below dV (by decide) hb,h.jh.below bT (by decide) hb,h.comm.below aK (by decide) hb,h.codes.below bB (by decide) hb⟩
theorem uN.move {w w':World} {x:bS} {codes:List Int} {vr vc vm vk vo:Value} {S S':Nat→Prop} (h:uN w x codes vr vc vm vk vo S) (hs:∀b,S b→b<w.heap.size→w'.heap[b]?=w.heap[b]?∧S' b):uN w' x codes vr vc vm vk vo S' :=
 ⟨h.rep.move (jZ _) (by decide) hs,h.nV.move dV (by decide) hs,h.jh.move bT (by decide) hs,h.comm.move aK (by decide) hs,h.codes.move bB (by decide) hs⟩
def QZ (w:World) (x:bS) (codes:List Int):Ending→World→Prop:=fun e w'=>∃vr vc vm vk vo,e=.returned (.tuple #[.agg #[vr,vc,vm,vk, iI (x.lead:Int),vo], iI 0])∧uN w' x codes vr vc vm vk vo (fun b=>w.heap.size≤b)∧Below w.heap.size w w'
def Va (w:World) (c:Int):Ending→World→Prop:=fun e w'=>e=.returned (.tuple #[.agg #[iN, iN, iN, iN, iI 0, iN], iI c])∧Below w.heap.size w w'
theorem IK (n:Nat):(o9 (n+1)).bu=(o9 n).bu++[⟨(n:Int)+1,0,1,[]⟩]:=by simp [o9,List.range_succ]
theorem BP (n:Nat):(o9 n).bu.length=n:=by simp [o9]
theorem Ki {w:World} {i:Int} {S:Nat→Prop}:nN w [iI i, iI 0, iI 1, iN] ⟨i,0,1,[]⟩ S:=⟨_,rfl,aZ.nil _ _⟩
structure tq (ER EC:Nat) (w wr:World) (vc:Value) (j:Nat):Prop where
 zero:aD wr w.heap.size [iN, iN, iN, iN, iI 0, iN]
 kP:wr.heap[w.heap.size+1]?=some (.cells (qz++qz++qz).toArray ER (0,0))
 box:aD wr (w.heap.size+1+1) [.slice (some ⟨w.heap.size+1,0,none⟩) 3 3,vc, iN, iN, iI 0]
 nV:bZ EC 4 nN wr vc (o9 j).bu (fun _=>False)
 own:∀q,vc.ownBlock=some q→w.heap.size+3≤q
 below:Below w.heap.size w wr
 size:w.heap.size+3≤wr.heap.size
theorem tq.step {ER EC:Nat} {w wr w':World} {vc:Value} {j:Nat} (h:tq ER EC w wr vc j) (hb:Below wr.heap.size wr w'):tq ER EC w w' vc j:=by
 have hs:=h.size;exact ⟨h.zero.below hb,(hb.block _ (by omega)).trans h.kP,h.box.below hb,h.nV.below dV hb,h.own,ah h.below hb,Nat.le_trans hs hb.size⟩
theorem tq.next {ER EC:Nat} {w wr wx:World} {vc v':Value} {j:Nat} (h:tq ER EC w wr vc j) (ho:bZ EC 4 nN wx v' ((o9 j).bu++[⟨(j:Int)+1,0,1,[]⟩]) (fun _=>False)) (hv:v'.ownBlock=vc.ownBlock∨∃q,v'.ownBlock=some q∧wr.heap.size≤q) (hg:wr.grownBy wx vc.ownBlock) :
 tq ER EC w (wx.setCell ⟨w.heap.size+1+1,1,none⟩ v') v' (j+1):=by
 have hs:=h.size;have hown:∀q,v'.ownBlock=some q→w.heap.size+3≤q:=fun q hq=>by
  rcases hv with e | ⟨q',e,hl⟩
  ·exact h.own q (e▸hq)
  ·rw [e] at hq;cases hq;omega
 have hn:∀b,b<w.heap.size+3→some b≠vc.ownBlock:=fun b hb e=>by have:=h.own b e.symm;omega
 refine ⟨(h.zero.grown hg (hn _ (by omega))).far (by omega) _ _,?_,(h.box.grown hg (hn _ (by omega))).set 1 (by simp) v',?_,hown,?_,?_⟩
 ·exact (aC (by omega)).trans ((hg.block _ (by omega) (hn _ (by omega))).trans h.kP)
 ·rw [IK]
  exact ho.move dV (fun q hq=>aC (by have:=hown q hq;omega)) (fun b hb=>hb.elim)
 ·exact ay (h.below.grown hg (by omega) fun k hk=>by have:=h.own _ hk;omega) (by omega) _ _
 ·rw [World.size_setCell];exact Nat.le_trans hs hg.size
theorem tq.start {ER EC:Nat} (w:World) (E6 E5:Nat):tq ER EC w (((w.alloc (.cells #[iN, iN, iN, iN, iI 0, iN] E6)).alloc (.cells (qz++qz++qz).toArray ER)).alloc (.cells #[.slice (some ⟨w.heap.size+1,0,none⟩) 3 3, iN, iN, iN, iI 0] E5)) (iN) 0:=by
 refine ⟨((aD.new (w:=w)).below (aj _ _)).below (aj _ _),?_,?_,bZ.nil _ _,by simp [Value.ownBlock],((aj w _).alloc (by simp) _).alloc (by simp only [World.size_alloc];omega) _,by simp⟩
 ·rw [(aj _ _).block _ (by simp)]
  have:=heap_alloc_new (w.alloc (.cells #[iN, iN, iN, iN, iI 0, iN] E6)) (.cells (qz++qz++qz).toArray ER)
  rwa [World.size_alloc] at this
 ·have:=aD.new (w:=(w.alloc (.cells #[iN, iN, iN, iN, iI 0, iN] E6)).alloc (.cells (qz++qz++qz).toArray ER)) (cs:=[.slice (some ⟨w.heap.size+1,0,none⟩) 3 3, iN, iN, iN, iI 0]) (E:=E5)
  rwa [World.size_alloc,World.size_alloc] at this
structure rZ (ER EC EM EK EE:Nat) (w wr:World) (B1 X:Nat) (x:bS) (codes:List Int) (Z:Nat→Prop) (vo:Value):Prop where
 zero:aD wr w.heap.size [iN, iN, iN, iN, iI 0, iN]
 out:aD wr B1 [iN, iN, iN, iN, iI 0,vo]
 U6:gW ER EC EM EK wr X x Z
 codes:bZ EE 1 jE wr vo codes (fun _=>False)
 low:w.heap.size<B1
 rq:∀b,Z b→w.heap.size<b∧b≠B1
 own:∀q,vo.ownBlock=some q→B1<q∧¬ Z q
 below:Below w.heap.size w wr
theorem tq.toB {ER EC:Nat} (EM EK EE E6:Nat) {w wr:World} {vc:Value} {n:Nat} (h:tq ER EC w wr vc n) :
 ∃Z,rZ ER EC EM EK EE w (wr.alloc (.cells #[iN, iN, iN, iN, iI 0, iN] E6)) wr.heap.size (w.heap.size+1+1) (o9 n) [] Z (iN):=by
 have hs:=h.size;have hb:=aj wr (.cells #[iN, iN, iN, iN, iI 0, iN] E6);have hm:=eB.first (EM:=EM) (EK:=EK) h.box h.kP h.nV (by omega) (fun q hq=>by have:=h.own q hq;omega);refine ⟨_,h.zero.below hb,aD.new,⟨_,_,_,_,hm.below hb⟩,bZ.nil _ _,by omega,?_,by simp [Value.ownBlock],ah h.below hb⟩;rintro b (rfl | rfl | hv)
 ·omega
 ·omega
 ·have:=h.own _ hv.symm
  have:=h.nV.lt _ hv.symm;omega
theorem rZ.step {ER EC EM EK EE:Nat} {w wr w':World} {B1 X:Nat} {x:bS} {codes:List Int} {Z:Nat→Prop} {vo:Value} (h:rZ ER EC EM EK EE w wr B1 X x codes Z vo) (hb:Below wr.heap.size wr w'):rZ ER EC EM EK EE w w' B1 X x codes Z vo :=
 ⟨h.zero.below hb,h.out.below hb,h.U6.below' hb,h.codes.below bB hb,h.low,h.rq,h.own,ah h.below hb⟩
theorem IE {ER EC EM EK:Nat} {w w8:World} {X B1 L:Nat} {x:bS} {Z Z1:Nat→Prop} {v v':Value} (h1:gW ER EC EM EK w X x Z1) (h2:∀b,Z1 b→(Z b∨L≤b)∧b<w.heap.size) (ho:∀q,v.ownBlock=some q→B1<q∧¬ Z q)
 (hol:∀q,v.ownBlock=some q→q<L) (hB:B1<L) (hL:L≤w.heap.size) (hg:w.grownBy w8 v.ownBlock) (hv:v'.ownBlock=v.ownBlock∨∃q,v'.ownBlock=some q∧w.heap.size≤q):gW ER EC EM EK w8 X x Z1∧∀q,v'.ownBlock=some q→B1<q∧¬ Z1 q:=by
 have key:∀q,v.ownBlock=some q→¬ Z1 q:=fun q hq hz=>by
  have a:=ho q hq;have b:=hol q hq
  rcases (h2 q hz).1 with c | c
  ·exact a.2 c
  ·omega
 refine ⟨h1.grown hg key,fun q hq=>?_⟩
 rcases hv with e | ⟨q',e,hl⟩
 ·rw [e] at hq;exact ⟨(ho q hq).1,key q hq⟩
 ·rw [e] at hq;cases hq
  exact ⟨by omega,fun hz=>by have:=(h2 _ hz).2;omega⟩
theorem rZ.next {ER EC EM EK EE:Nat} {w wr wx:World} {B1 X:Nat} {x x':bS} {codes MX:List Int} {Z Z1:Nat→Prop} {vo v':Value} (h:rZ ER EC EM EK EE w wr B1 X x codes Z vo) (hB:B1<wr.heap.size) (hc:aX (fun q=>Z q∨some q=vo.ownBlock) wr wx) (h1:gW ER EC EM EK wx X x' Z1)
 (h2:∀b,Z1 b→Z b∨wr.heap.size≤b) (ho:bZ EE 1 jE wx v' MX (fun _=>False)) (hv:∀q,v'.ownBlock=some q→B1<q∧¬ Z1 q):rZ ER EC EM EK EE w (wx.setCell ⟨B1,5,none⟩ v') B1 X x' MX Z1 v':=by
 have hlow:=h.low;have hz0:¬ (Z w.heap.size∨some w.heap.size=vo.ownBlock):=fun e=>e.elim (fun e=>by have:=h.rq _ e;omega) fun e=>by have:=(h.own _ e.symm).1;omega
 have hz1:¬ (Z B1∨some B1=vo.ownBlock):=fun e=>e.elim (fun e=>by have:=h.rq _ e;omega) fun e=>by have:=(h.own _ e.symm).1;omega
 have hzl:∀b,Z1 b→w.heap.size<b∧b≠B1:=fun b hb=>(h2 b hb).elim (h.rq b) fun e=>by omega
 have hc2:aX (fun q=>q=B1) wx (wx.setCell ⟨B1,5,none⟩ v'):=(aX.refl (fun q=>q=B1) wx).set1 (.inl rfl) _ _;refine ⟨(h.zero.nK hc hz0).far (by omega) _ _,(h.out.nK hc hz1).set 5 (by simp) v',h1.nK hc2 (fun b hb hz=>(hzl b hz).2 hb),ho.move bB (fun q hq=>aC (by have:=(hv q hq).1;omega)) (fun b hb=>hb.elim),hlow,hzl,hv,ay (h.below.trans ?_) (by omega) _ _⟩;exact ⟨hc.os,hc.tape,hc.output,hc.size,fun i hi=>hc.block i (Nat.lt_of_lt_of_le hi h.below.size) fun e=>e.elim (fun e=>by have:=h.rq _ e;omega) fun e=>by have:=(h.own _ e.symm).1;omega⟩
structure oV {α:Type} (E k:Nat) (R:Rel α) (w2 wr:World) (B1:Nat) (cs:Value→List Value) (v:Value) (l:List α):Prop where
 frame:aX (fun b=>b=B1) w2 wr
 out:aD wr B1 (cs v)
 own:bZ E k R wr v l (fun b=>w2.heap.size≤b)
 lo:∀q,v.ownBlock=some q→w2.heap.size≤q
theorem oV.start {α:Type} {E k:Nat} {R:Rel α} {w2:World} {B1:Nat} {cs:Value→List Value} (h:aD w2 B1 (cs (iN))):oV E k R w2 w2 B1 cs (iN) []:=⟨aX.refl _ _,h,bZ.nil _ _,by simp [Value.ownBlock]⟩
theorem oV.step {α:Type} {E k:Nat} {R:Rel α} (hR:cu R k) {w2 wr w':World} {B1:Nat} {cs:Value→List Value} {v:Value} {l:List α} (h:oV E k R w2 wr B1 cs v l) (hb:Below wr.heap.size wr w'):oV E k R w2 w' B1 cs v l :=
 ⟨h.frame.step hb,h.out.below hb,h.own.below hR hb,h.lo⟩
theorem oV.next {α:Type} {E k:Nat} {R:Rel α} (hR:cu R k) {w2 wr wx:World} {B1 i:Nat} {cs:Value→List Value} {v v':Value} {l l':List α} (h:oV E k R w2 wr B1 cs v l) (hB:B1<w2.heap.size) (hc:aX (fun q=>False∨some q=v.ownBlock) wr wx) (ho:bZ E k R wx v' l' (fun b=>w2.heap.size≤b))
 (hv:∀q,v'.ownBlock=some q→w2.heap.size≤q) (hi:i<(cs v).length) (hcs:(cs v).set i v'=cs v'):oV E k R w2 (wx.setCell ⟨B1,i,none⟩ v') B1 cs v' l':=by
 have hw:=h.frame.size;have hn:¬ (False∨some B1=v.ownBlock):=fun e=>e.elim id fun e=>by have:=h.lo _ e.symm;omega
 refine ⟨?_,?_,ho.move hR (fun q hq=>aC (by have:=hv q hq;omega)) (fun b hb _ _=>⟨aC (by omega),hb⟩),hv⟩
 ·exact (h.frame.trans hc fun q hq=>hq.elim False.elim fun e=>.inr (h.lo _ e.symm)).set1 (.inl rfl) _ _
 ·rw [←hcs];exact (h.out.nK hc hn).set i hi v'
theorem rZ.frame {ER EC EM EK EE:Nat} {w w2 w4:World} {B1 X:Nat} {x:bS} {codes:List Int} {Z:Nat→Prop} {vo:Value} (h:rZ ER EC EM EK EE w w2 B1 X x codes Z vo) (hc:aX (fun b=>b=B1) w2 w4) :
 Below w.heap.size w w4∧aD w4 w.heap.size [iN, iN, iN, iN, iI 0, iN]:=by
 have hlow:=h.low;refine ⟨h.below.trans ⟨hc.os,hc.tape,hc.output,hc.size,fun i hi=>hc.block i (Nat.lt_of_lt_of_le hi h.below.size) (by omega)⟩,h.zero.nK hc (by omega)⟩
theorem uN.make {ER EC EM EK EE:Nat} {w w2 w3 w4:World} {B1 X:Nat} {x:bS} {codes:List Int} {Z:Nat→Prop} {vr vc vm vk vo v3 v4:Value} {cs3 cs4:Value→List Value} (hB:rZ ER EC EM EK EE w w2 B1 X x codes Z vo) (hm:eB ER EC EM EK w2 X vr vc vm vk x Z) (hl:B1<w2.heap.size)
 (h3:oV ER 7 (LX x.K) w2 w3 B1 cs3 v3 x.kP) (h4:oV EC 4 nN w3 w4 B1 cs4 v4 x.bu):uN w4 x codes v3 v4 vm vk vo (fun b=>w.heap.size<b∧b≠B1):=by
 have hlow:=hB.low;have h23:=h3.frame.size;have hf:aX (fun b=>b=B1) w2 w4:=h3.frame.trans h4.frame fun q hq=>.inl hq
 refine ⟨?_,?_,?_,?_,?_⟩
 ·exact (h3.own.read (jZ _) (by decide) h3.lo).move (jZ _) (by decide) fun b hb hl2=>⟨h4.frame.block b hl2 (by omega),by omega,by omega⟩
 ·exact (h4.own.read dV (by decide) h4.lo).sub dV (by decide) fun b hb _=>⟨by omega,by omega⟩
 ·exact ((hm.jh.forget (S':=Z) Dp).read bT (by decide) fun g hg=>hm.own g (.inr (.inr (.inr (.inl hg.symm))))).move bT (by decide) fun b hb hl2=>⟨hf.block b hl2 (hB.rq b hb).2,hB.rq b hb⟩
 ·exact ((hm.comm.forget (S':=Z) fun _ _ _ _ _ h=>h).read aK (by decide) fun g hg=>hm.own g (.inr (.inr (.inr (.inr hg.symm))))).move aK (by decide) fun b hb hl2=>⟨hf.block b hl2 (hB.rq b hb).2,hB.rq b hb⟩
 ·exact ((hB.codes.forget (S':=fun b=>B1<b) LY).read bB (by decide) fun g hg=>(hB.own g hg).1).move bB (by decide) fun b hb hl2=>⟨hf.block b hl2 (by omega),by omega,by omega⟩
end Go.Tk
