/- A part of the proof, laid together from: SnapB, SnapD. -/
import Derived.Test.YtbngpjdflblffaaGreatDoorPa16
set_option linter.all false
set_option maxRecDepth 100000
set_option maxHeartbeats 1600000
namespace Go.Tk
open Go Go.RowKit
theorem Ey (l:List Int) (k:Nat) (hk:k<l.length):cK (l.take (k+1))=cK (l.take k)++bY l[k]:=by
 rw [List.take_succ_eq_append_getElem hk,cK,List.flatMap_append];simp [cK]
theorem Gl (l:List Int):(cK l).length≤l.length*7:=kR l fun x _=>gK x
theorem pM {w:World} {b:Nat} {l:List Int} (h:aD w b (l.map fun x=>iI x)) (hl:l.length≤maxLen):aZ 1 jE w (.slice (some ⟨b,0,none⟩) l.length l.length) l (fun c=>c=b) :=
 ⟨_,_,rfl,Nat.le_refl _,hl,(fun h=>by cases h),fun i x hx=>⟨b,0,[iI x],rfl,rfl,rfl,fun q u hu=>by
  match q,hu with
  | 0,hu =>
    cases hu;have:=h.cell i (iI x) (by rw [List.getElem?_map,hx];rfl);simpa using this⟩⟩
theorem aZ.nA {α:Type} {k:Nat} {R:Rel α} (hR:cu R k) (hk:0<k) {w w':World} {v:Value} {l:List α} {S:Nat→Prop} {B:Nat} (h:aZ k R w v l S) (hg:w.grownBy w' (some B)) (hS:∀b,S b→b≠B):aZ k R w' v l S :=
 h.move hR hk fun b hb hlt=>⟨hg.block b hlt (fun e=>hS b hb (by cases e;rfl)),hb⟩
theorem Ef {n:Int} (h0:0≤n) (hn:n≤1099511627776) (t:Bytes):aL (bY n++t)=(n,t,0):=by
 have h:=Hr h0 hn t;rw [rdNum,if_neg (by simp)] at h;simp only [Prod.mk.injEq,Rd.mk.injEq] at h;exact Prod.ext h.1 (Prod.ext h.2.1 h.2.2)
theorem A7 {s:Bytes} (h:s.length≤5000) (t:Bytes):dn (jG s++t)=(s,t,0):=by
 have h:=Fy h t;rw [Hq,if_neg (by simp)] at h;simp only [Prod.mk.injEq,Rd.mk.injEq] at h;exact Prod.ext h.1 (Prod.ext h.2.1 h.2.2)
theorem ny {a b c:World} {R:Nat} {r:Option Nat} (h:a.grownBy b (some R)) (hg:b.grownBy c r) (hr:∀k,r=some k→a.heap.size≤k):a.grownBy c (some R) :=
 ⟨hg.os.trans h.os,hg.tape.trans h.tape,hg.output.trans h.output,Nat.le_trans h.size hg.size,fun i hi hne=>(hg.block i (Nat.lt_of_lt_of_le hi h.size) (fun e=>by have:=hr i e.symm;omega)).trans (h.block i hi hne)⟩
theorem qQ {w:World} (q:Nat):Below w.heap.size w (w.drewN q):=⟨rfl,rfl,rfl,Nat.le_refl _,fun _ _=>rfl⟩
end Go.Tk
namespace Go.Proofs.YtbngpjdflblffaaGreatDoor
open Go.RowKit Go.Tk
theorem iT (s:List UInt8) (ns:List Int) (B:Nat) (v:Value) (S:Nat→Prop) (w:World) (hx:aD w B [iS s]) (hs:aZ 1 jE w v ns S) (hS:∀b,S b→b≠B) (hl:s.length+7*ns.length≤1000000) :
 Calls Tryz.prog 44 #[iP B 0,v] w fun e w'=>e=.returned (.tuple #[])∧aD w' B [.string ⟨(s++cK ns).toArray⟩]∧w.grownBy w' (some B):=by
 obtain ⟨a,cap,hv,-,hm,-,-⟩:=id hs;subst hv;unfold maxLen at hm;have HX:=iH hx;have HS:=iH hs;have HB:=iH hS;clear hx hs hS
 go_enter Tryz.func44,Tryz.ntmps44
 go_wp2
 go_loopw [5,6,7,10] (fun _ _ _ i wr=>∃n:Nat,n≤ns.length∧i=iI n∧Hid (aD wr B [.string ⟨(s++cK (ns.take n)).toArray⟩])∧Hid (w.grownBy wr (some B)))
  (fun _ _ _ i _=>ns.length - (intOf i).toNat)
 case atStart=>exact ⟨0,by omega,rfl,iH (by simpa [cK] using HX.out),iH (grownBy_refl _ _)⟩
 case round =>
  obtain ⟨n,hn,rfl,hbx,hbg⟩:=hrel
  by_cases hlt:n<ns.length
  case neg =>
   have HF:=iH (show ns.take n=ns from List.take_of_length_le (by omega));go_wp2;refine bodyPost_end (v:=.tuple #[]) (by simp [results,Tryz.results44,go_sem]) rfl ⟨rfl,?_,hbg.out⟩;have:=hbx.out;rw [HF.out] at this;exact this
  obtain ⟨b,off,cap',row,hv,-,hrow,hcells⟩:=(HS.out.nA bB (by decide) hbg.out HB.out).row n hlt;simp only [Value.slice.injEq] at hv;obtain ⟨rfl,-,rfl⟩:=hv;have HT:=iH (Ey ns n hlt);have hal:(s++cK (ns.take n)).length≤1000000:=by
   have:=Gl (ns.take n);rw [List.length_take] at this;rw [List.length_append];omega
  have jb:=iH (List.append_assoc s (cK (ns.take n)) (bY ns[n]));have hnl:=gK ns[n];generalize ns[n]=x at *;generalize s++cK (ns.take n)=acc at *;obtain rfl:=hrow;have q0:=hcells 0 _ rfl;simp only [Nat.mul_one,Nat.add_zero] at q0;clear hcells;have HC:=iH (sw x wr)
  go_wp2_with fail
  refine HC.out.mono ?_;rw [show (number x).1=bY x from rfl];rintro e w2 ⟨rfl,hb2⟩;generalize bY x=nb at *;have CF:=hbx.out.below hb2;have c0:=CF.cell 0 _ rfl;have t0:=CF.thaw 0;clear HC q0;go_wp2;exact ⟨⟨n+1,by omega,by go_num,iH (by rw [HT.out,←jb.out];exact CF.set 0 (by simp) _),iH (bO (grownBy_trans hbg.out (aY hb2 _)) _ _)⟩,by simp [intOf];omega⟩
theorem qC (s t:List UInt8) (B:Nat) (w:World) (hx:aD w B [iS s]) (hl:s.length≤1000000) (ht:t.length≤5000) :
 Calls Tryz.prog 45 #[iP B 0, iS t] w fun e w'=>e=.returned (.tuple #[])∧aD w' B [.string ⟨(s++jG t).toArray⟩]∧w.grownBy w' (some B):=by
 have HX:=iH hx;have HC:=iH (AQ t (by omega) w);have htl:=rM ht;clear hx
 go_enter Tryz.func45,Tryz.ntmps45
 go_wp2_with fail
 refine HC.out.mono ?_;rw [show (text t).1=jG t from rfl];rintro e w2 ⟨rfl,hb2⟩;obtain ⟨nb,hnb⟩:∃nb,jG t=nb:=⟨_,rfl⟩;have HNB:=iH hnb;rw [hnb] at htl⊢;clear hnb;have CF:=HX.out.below hb2;have c0:=CF.cell 0 _ rfl;have t0:=CF.thaw 0;clear HC;go_wp2;refine bodyPost_end (v:=.tuple #[]) (by simp [results,Tryz.results45,go_sem]) rfl ⟨rfl,by rw [HNB.out];exact CF.set 0 (by simp) _,bO (aY hb2 _) _ _⟩
theorem gX (n:Int) (t:List UInt8) (B:Nat) (w:World) (hx:aD w B [.string ⟨(bY n++t).toArray⟩, iI 0]) (h0:0≤n) (hn:n≤1099511627776) (hl:(bY n++t).length≤1000000) :
 Calls Tryz.prog 79 #[iP B 0] w fun e w'=>e=.returned (iI n)∧aD w' B [iS t, iI 0]∧w.grownBy w' (some B):=by
 have HX:=iH hx;have HR:=iH (Ef h0 hn t);have HC:=iH (nQ (bY n++t) (by omega) w);rw [HR.out] at HC;clear hx HR hl;generalize bY n++t=str at *;obtain ⟨c0,c1⟩:=qw HX.out
 go_enter Tryz.func79,Tryz.ntmps79
 go_wp2_with fail
 refine HC.out.mono ?_;rintro e w2 ⟨rfl,q,rfl⟩;have hbx:=HX.out.below (qQ q);have hg:=aY (qQ (w:=w) q) (some B);clear c0 c1 HC;generalize w.drewN q=w2 at *;obtain ⟨c0,c1⟩:=qw hbx;obtain ⟨t0,t1⟩:=OO hbx;go_wp2;go_ret;exact ⟨rfl,(hbx.set 0 (by simp) _).set 1 (by simp) _,bO (bO hg _ _) _ _⟩
theorem qH (s:List UInt8) (t:List UInt8) (B:Nat) (w:World) (hx:aD w B [.string ⟨(jG s++t).toArray⟩, iI 0]) (hs:s.length≤5000) (hl:(jG s++t).length≤1000000) :
 Calls Tryz.prog 82 #[iP B 0] w fun e w'=>e=.returned (iS s)∧aD w' B [iS t, iI 0]∧w.grownBy w' (some B):=by
 have HX:=iH hx;have HR:=iH (A7 hs t);have HC:=iH (ug (jG s++t) (by omega) w);rw [HR.out] at HC;clear hx HR hl;generalize jG s++t=str at *;obtain ⟨c0,c1⟩:=qw HX.out
 go_enter Tryz.func82,Tryz.ntmps82
 go_wp2_with fail
 refine HC.out.mono ?_;rintro e w2 ⟨rfl,q,rfl⟩;have hbx:=HX.out.below (qQ q);have hg:=aY (qQ (w:=w) q) (some B);clear c0 c1 HC;generalize w.drewN q=w2 at *;obtain ⟨c0,c1⟩:=qw hbx;obtain ⟨t0,t1⟩:=OO hbx;go_wp2;go_ret;exact ⟨rfl,(hbx.set 0 (by simp) _).set 1 (by simp) _,bO (bO hg _ _) _ _⟩
theorem mW (n:Nat) (most:Int) (t:List UInt8) (B:Nat) (w:World) (hx:aD w B [.string ⟨(bY n++t).toArray⟩, iI 0]) (hn:(n:Int)≤most) (hm:most≤1099511627776) (hl:(bY n++t).length≤1000000) :
 Calls Tryz.prog 80 #[iP B 0, iI most] w fun e w'=>e=.returned (iI n)∧aD w' B [iS t, iI 0]∧w.grownBy w' (some B):=by
 have HC:=iH (gX (n:Int) t B w hx (by omega) (by omega) hl);clear hx
 go_enter Tryz.func80,Tryz.ntmps80
 go_wp2_with fail
 refine HC.out.mono ?_;rintro e w2 ⟨rfl,hx2,hg2⟩;have c1:=hx2.cell 1 _ rfl;clear HC;go_wp2;go_ret;exact ⟨rfl,hx2,hg2⟩
end Go.Proofs.YtbngpjdflblffaaGreatDoor
