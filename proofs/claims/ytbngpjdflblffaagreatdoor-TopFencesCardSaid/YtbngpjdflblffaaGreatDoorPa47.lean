/- A part of the proof, laid together from: Ran, EqErr, EqStr, Raw, RawT. -/
import Derived.Test.YtbngpjdflblffaaGreatDoorPa15
import Derived.Test.YtbngpjdflblffaaGreatDoorPa46
import Derived.Deep.Fields
import Derived.OpenShut
set_option linter.all false
set_option maxRecDepth 100000
set_option maxHeartbeats 3200000
namespace Go.Tk
open Go Go.RowKit
theorem J5 {E:Nat} {w:World} {v1 v2 v3:Value} {l1 l2 l3:List dK} {S1 S2 S3:Nat→Prop} (h1:aZ 8 qA w v1 l1 S1) (h2:aZ 8 qA w v2 l2 S2) (h3:aZ 8 qA w v3 l3 S3) :
 aZ 1 (UU 8 qA) (w.alloc (.cells #[v1,v2,v3] E)) (.slice (some ⟨w.heap.size,0,none⟩) 3 3) [l1,l2,l3] (fun _=>True) :=
 ⟨_,3,rfl,by simp,by simp [maxLen],by simp,fun i x hx=>by
  have hb:=aj w (.cells #[v1,v2,v3] E);have hbx:=aD.new (w:=w) (cs:=[v1,v2,v3]) (E:=E);have up:∀{v:Value} {l:List dK} {S:Nat→Prop},aZ 8 qA w v l S→aZ 8 qA (w.alloc (.cells #[v1,v2,v3] E)) v l (fun _=>True):=fun h=>(h.below fo (by decide) hb).sub fo (by decide) fun _ _ _=>trivial
  match i,hx with
  | 0,hx=>cases hx;exact ⟨w.heap.size,0,[v1],rfl,trivial,⟨v1,rfl,up h1⟩,fun j u hu=>by match j,hu with | 0,hu=>cases hu;exact hbx.cell 0 _ rfl⟩
  | 1,hx=>cases hx;exact ⟨w.heap.size,0,[v2],rfl,trivial,⟨v2,rfl,up h2⟩,fun j u hu=>by match j,hu with | 0,hu=>cases hu;exact hbx.cell 1 _ rfl⟩
  | 2,hx=>cases hx;exact ⟨w.heap.size,0,[v3],rfl,trivial,⟨v3,rfl,up h3⟩,fun j u hu=>by match j,hu with | 0,hu=>cases hu;exact hbx.cell 2 _ rfl⟩⟩
theorem Hf {E:Nat} {w:World} {v1 v2:Value} {l1 l2:List dK} {S1 S2:Nat→Prop} (h1:aZ 8 qA w v1 l1 S1) (h2:aZ 8 qA w v2 l2 S2) :
 aZ 1 (UU 8 qA) (w.alloc (.cells #[v1,v2] E)) (.slice (some ⟨w.heap.size,0,none⟩) 2 2) [l1,l2] (fun _=>True) :=
 ⟨_,2,rfl,by simp,by simp [maxLen],by simp,fun i x hx=>by
  have hb:=aj w (.cells #[v1,v2] E);have hbx:=aD.new (w:=w) (cs:=[v1,v2]) (E:=E);have up:∀{v:Value} {l:List dK} {S:Nat→Prop},aZ 8 qA w v l S→aZ 8 qA (w.alloc (.cells #[v1,v2] E)) v l (fun _=>True):=fun h=>(h.below fo (by decide) hb).sub fo (by decide) fun _ _ _=>trivial
  match i,hx with
  | 0,hx=>cases hx;exact ⟨w.heap.size,0,[v1],rfl,trivial,⟨v1,rfl,up h1⟩,fun j u hu=>by match j,hu with | 0,hu=>cases hu;exact hbx.cell 0 _ rfl⟩
  | 1,hx=>cases hx;exact ⟨w.heap.size,0,[v2],rfl,trivial,⟨v2,rfl,up h2⟩,fun j u hu=>by match j,hu with | 0,hu=>cases hu;exact hbx.cell 1 _ rfl⟩⟩
def Q3 (w:World) (x:bS) (codes:List Int):Ending→World→Prop:=fun e w'=>∃vr vc vm vk vo,e=.returned (.tuple #[.agg #[vr,vc,vm,vk, iI (x.lead:Int),vo], .bool true])∧uN w' x codes vr vc vm vk vo (fun b=>w.heap.size≤b)∧Below w.heap.size w w'
end Go.Tk
namespace Go.Proofs.YtbngpjdflblffaaGreatDoor
open Go.RowKit Go.Tk
theorem uS (l:List kX) (most:Nat) (Te:most≤200) (more:List dK) (hmore:∀a∈more,fC a) (hml:more.length≤100) (v vm:Value) (S Sm:Nat→Prop) (w:World) (h:aZ 4 FB w v l S) (hr:∀x∈l,uM x) (hm:aZ 8 qA w vm more Sm) :
 Calls Tryz.prog 30 #[v, iI (most:Int),vm] w (Q3 w (kT 3 (gJ l most++more)).1 (kT 3 (gJ l most++more)).2):=by
 have hlen:(gJ l most++more).length≤400:=by rw [List.length_append,mF];omega
 have hok:∀a∈gJ l most++more,fC a:=fun a ha=>(List.mem_append.1 ha).elim (nP l most a) (hmore a)
 have gG:=iH (o8 (m:=3) (by omega) hok hlen);have Ry:=iH hok;have Zm:=iH hlen;obtain ⟨la,lc,rfl,-,-,-,-⟩:=id h;obtain ⟨ma,mc,rfl,-,-,-,-⟩:=id hm;have Rq:=iH (show [sM 3,vU l most 3,more].flatten=gJ l most++more by simp [gJ]);have HLZ:=iH (show 0<(gJ l most++more).length by rw [List.length_append,mF];omega);have HH:=iH h;have HR:=iH hr;have HM:=iH hm;clear h hr hm hlen hok hmore;generalize gJ l most++more=SC at *
 go_enter Tryz.func30,Tryz.ntmps30
 go_upto_region 1 with (fail);generalize bF:w.alloc (.cells #[iN, iN, iN, iN, iI 0, iN] 63)=w0 at *;have hb0:=tQ bF;have HZ:=iH (tO bF);have HB:=iH hb0;clear hb0;clear bF
 go_wp2_with fail
 refine (rV 3 (by omega) w0).mono ?_;rintro e w1 ⟨v1,rfl,hg1⟩;obtain ⟨ba,bc,hba⟩:=hg1.own.shape;rw [show (sM 3).length=8 from rfl] at hba;subst hba;have I6:=iH hg1;replace HZ:=iH (HZ.out.below hg1.below);replace HB:=iH (ah HB.out hg1.below);clear hg1
 go_wp2_with fail
 refine (Ca l most (by omega) _ S w1 (HH.out.below qI (by decide) HB.out) HR.out).mono ?_;rintro e w2 ⟨v2,rfl,hg2⟩;have HG2:=iH hg2;obtain ⟨aa,ac,TB⟩:=hg2.own.shape;obtain ⟨AN,TJ⟩:∃AN,(vU l most 3).length=AN:=⟨_,rfl⟩;rw [TJ] at TB;subst TB;replace I6:=iH (I6.out.step hg2.below);replace HZ:=iH (HZ.out.below hg2.below);replace HB:=iH (ah HB.out hg2.below);clear hg2 TJ
 go_wp2_with fail
 have hb3:=aj w2 (.cells #[.slice ba 8 bc, .slice aa AN ac, .slice ma more.length mc] 56);refine (xO _ _ _ _ (J5 (E:=56) I6.out.read HG2.out.read (HM.out.below fo (by decide) HB.out)) (by simp) (by rw [Rq.out];exact HLZ.out) (by rw [Rq.out];have:=Zm.out;omega)).mono ?_;rw [Rq.out];rintro e w4 ⟨v4,rfl,hs4,hb4⟩;have RY:=iH hs4;replace HB:=iH (ah (ah HB.out hb3) hb4);replace HZ:=iH ((HZ.out.below hb3).below hb4);obtain ⟨ca,cc,rfl,-,-,-,-⟩:=id hs4;clear hs4 hb3 hb4 I6 HG2
 go_wp2_with fail
 refine (ym 3 ⟨by omega,by omega⟩ SC Ry.out Zm.out _ _ w4 RY.out).mono ?_;have HX:=iH (show ∃X,kT 3 SC=X from ⟨_,rfl⟩);obtain ⟨⟨x,codes⟩,hX⟩:=HX.out;rw [hX] at gG;have Nr:=iH hX;rw [hX];clear HX hX;rintro e w5 ⟨vr,vc,vm,vk,vo,rfl,hO,hb5⟩;have hlen:=gG.out.len;obtain ⟨ra,rc,rfl,-,-,-,-⟩:=id hO.rep;obtain ⟨JK,JJ,rfl,-,-,-,-⟩:=id hO.nV;obtain ⟨Ju,Js,rfl,-,-,-,-⟩:=id hO.jh;obtain ⟨ka,kc,rfl,-,-,-,-⟩:=id hO.comm;obtain ⟨oa,oc,rfl,-,-,-,-⟩:=id hO.codes;rw [hlen] at hO⊢;have HO:=iH hO;have IZ:=iH HZ.out.lt;replace HZ:=iH (HZ.out.below hb5);replace HB:=iH (ah HB.out hb5);have NG:=iH HZ.out.lt;clear hO hb5 hlen;go_upto_region 2 with (fail);generalize bF:w5.alloc (.cells #[.slice ra 3 rc, .slice JK x.bu.length JJ, .slice Ju x.bD.length Js, .slice ka x.K.length kc, iI (x.lead:Int), .slice oa codes.length oc] 63)=w6 at *;have hb6:=tQ bF;have HU:=iH (tO bF);replace HO:=iH (HO.out.below hb6);replace HZ:=iH (HZ.out.below hb6);replace HB:=iH (ah HB.out hb6);clear hb6;clear bF;obtain ⟨BU,WZ⟩:∃BU,w5.heap.size=BU:=⟨_,rfl⟩;have hne1:w.heap.size<BU:=by rw [←WZ];exact NG.out
 rw [WZ] at HU⊢;clear WZ;obtain ⟨u0,u1,u2,u3,u4,u5⟩:=IM HU.out;obtain ⟨y0,y1,y2,y3,y4,y5⟩:=IM HZ.out;obtain ⟨t0,t1,t2,t3,t4,t5⟩:=TP HZ.out;go_region;have hp:=aD.drew ((((((HZ.out.set 0 (by simp) (.slice ra 3 rc)).set 1 (by simp) (.slice JK x.bu.length JJ)).set 2 (by simp) (.slice Ju x.bD.length Js)).set 3 (by simp) (.slice ka x.K.length kc)).set 4 (by simp) (iI (x.lead:Int))).set 5 (by simp) (.slice oa codes.length oc));have Tt:∀b,b≠w.heap.size→(((((((w6.setCell ⟨w.heap.size,0,none⟩ (.slice ra 3 rc)).setCell ⟨w.heap.size,1,none⟩ (.slice JK x.bu.length JJ)).setCell ⟨w.heap.size,2,none⟩ (.slice Ju x.bD.length Js)).setCell ⟨w.heap.size,3,none⟩ (.slice ka x.K.length kc)).setCell ⟨w.heap.size,4,none⟩ (iI (x.lead:Int))).setCell ⟨w.heap.size,5,none⟩ (.slice oa codes.length oc))).heap[b]?=w6.heap[b]?:=fun b hb=>((aC hb).trans ((aC hb).trans ((aC hb).trans ((aC hb).trans ((aC hb).trans (aC hb))))))
 have hmv:∀b,w4.heap.size≤b→b<w6.heap.size→(((((((w6.setCell ⟨w.heap.size,0,none⟩ (.slice ra 3 rc)).setCell ⟨w.heap.size,1,none⟩ (.slice JK x.bu.length JJ)).setCell ⟨w.heap.size,2,none⟩ (.slice Ju x.bD.length Js)).setCell ⟨w.heap.size,3,none⟩ (.slice ka x.K.length kc)).setCell ⟨w.heap.size,4,none⟩ (iI (x.lead:Int))).setCell ⟨w.heap.size,5,none⟩ (.slice oa codes.length oc)).drew).heap[b]?=w6.heap[b]?∧w.heap.size≤b:=fun b hb _=>⟨(Go.Tk.heap_drew _ b).trans (Tt b (by have:=IZ.out;omega)),by have:=IZ.out;omega⟩
 have XC:=iH (HO.out.move (w':=((((((w6.setCell ⟨w.heap.size,0,none⟩ (.slice ra 3 rc)).setCell ⟨w.heap.size,1,none⟩ (.slice JK x.bu.length JJ)).setCell ⟨w.heap.size,2,none⟩ (.slice Ju x.bD.length Js)).setCell ⟨w.heap.size,3,none⟩ (.slice ka x.K.length kc)).setCell ⟨w.heap.size,4,none⟩ (iI (x.lead:Int))).setCell ⟨w.heap.size,5,none⟩ (.slice oa codes.length oc)).drew) (S':=fun b=>w.heap.size≤b) hmv);clear Tt hmv;have XP:=iH (show Below w.heap.size w ((((((w6.setCell ⟨w.heap.size,0,none⟩ (.slice ra 3 rc)).setCell ⟨w.heap.size,1,none⟩ (.slice JK x.bu.length JJ)).setCell ⟨w.heap.size,2,none⟩ (.slice Ju x.bD.length Js)).setCell ⟨w.heap.size,3,none⟩ (.slice ka x.K.length kc)).setCell ⟨w.heap.size,4,none⟩ (iI (x.lead:Int))).setCell ⟨w.heap.size,5,none⟩ (.slice oa codes.length oc)).drew from Below.drew (ay (ay (ay (ay (ay (ay HB.out (Nat.le_refl _) _ _) (Nat.le_refl _) _ _) (Nat.le_refl _) _ _) (Nat.le_refl _) _ _) (Nat.le_refl _) _ _) (Nat.le_refl _) _ _));clear u0 u1 u2 u3 u4 u5 y0 y1 y2 y3 y4 y5 t0 t1 t2 t3 t4 t5;generalize ((((((w6.setCell ⟨w.heap.size,0,none⟩ (.slice ra 3 rc)).setCell ⟨w.heap.size,1,none⟩ (.slice JK x.bu.length JJ)).setCell ⟨w.heap.size,2,none⟩ (.slice Ju x.bD.length Js)).setCell ⟨w.heap.size,3,none⟩ (.slice ka x.K.length kc)).setCell ⟨w.heap.size,4,none⟩ (iI (x.lead:Int))).setCell ⟨w.heap.size,5,none⟩ (.slice oa codes.length oc)).drew=wf at *
 refine eZ (fun wx=>wf=wx) rfl ?_;rintro _ rfl;go_wp2;obtain ⟨p0,p1,p2,p3,p4,p5⟩:=IM hp;refine bodyPost_ret (v:=.tuple #[.agg #[.slice ra 3 rc, .slice JK x.bu.length JJ, .slice Ju x.bD.length Js, .slice ka x.K.length kc, iI (x.lead:Int), .slice oa codes.length oc], .bool true]) (by simp [results,Tryz.results30,go_sem,p0,p1,p2,p3,p4,p5]) rfl ?_;rw [Nr.out];exact ⟨_,_,_,_,_,rfl,XC.out,XP.out⟩
end Go.Proofs.YtbngpjdflblffaaGreatDoor
namespace Go.Proofs.YtbngpjdflblffaaGreatDoor
open Go.RowKit Go.Tk
theorem uB (l:List Int) (v vm:Value) (S Sm:Nat→Prop) (w:World) (h:aZ 1 jE w v l S) (hm:aZ 1 jE w vm l Sm) (hl1:l.length≤1000000) :
 Calls Tryz.prog 29 #[v,vm] w fun e w'=>e=.returned (.bool true)∧Below w.heap.size w w':=by
 obtain ⟨a,cap,hv,hl,hc,-,-⟩:=id h;subst hv;obtain ⟨am,QV,hv,hlm,hcm,-,-⟩:=id hm;subst hv;unfold maxLen at hc hcm;have HL:=iH h;have HM:=iH hm;clear h hm
 go_enter Tryz.func29,Tryz.ntmps29
 go_wp2
 go_loopw [5,13] (fun _ i wr=>∃n:Nat,n≤l.length∧i=iI n∧Hid (Below w.heap.size w wr))
  (fun _ i _=>l.length - (intOf i).toNat)
 case atStart=>exact ⟨0,by omega,rfl,iB⟩
 case round =>
  obtain ⟨n,hn,rfl,hb⟩:=hrel
  by_cases hlt:n<l.length
  case neg =>
   go_wp2;go_ret;exact ⟨rfl,hb.out⟩
  obtain ⟨b,off,cap',row,hv,hSb,hrow,hcells⟩:=(HL.out.below bB (by decide) hb.out).row n hlt;simp only [Value.slice.injEq] at hv;obtain ⟨rfl,-,rfl⟩:=hv;obtain rfl:=hrow;have q0:=hcells 0 _ rfl;obtain ⟨b2,off2,cap2,NV,hv2,TC,hrow2,je⟩:=(HM.out.below bB (by decide) hb.out).row n hlt;simp only [Value.slice.injEq] at hv2;obtain ⟨rfl,-,rfl⟩:=hv2;obtain rfl:=hrow2;have r0:=je 0 _ rfl;simp only [Nat.add_zero,Nat.mul_one] at q0 r0;clear hcells je;generalize l[n]=s at *;go_wp2;go_region;go_wp2
  go_roundw
  case rel=>exact ⟨n+1,by omega,by go_num,iH (Below.drew hb.out)⟩
  case measure=>simp [intOf];omega
end Go.Proofs.YtbngpjdflblffaaGreatDoor
namespace Go.Tk
open Go Go.RowKit
theorem D6 {α:Type} {l m:List α} {n:Nat} (hl:n<l.length) (hm:n<m.length) (h:l.take n=m.take n) (he:l[n]=m[n]):l.take (n+1)=m.take (n+1):=by
 rw [List.take_succ_eq_append_getElem hl,List.take_succ_eq_append_getElem hm,h,he]
end Go.Tk
namespace Go.Proofs.YtbngpjdflblffaaGreatDoor
open Go.RowKit Go.Tk
theorem qf (l m:List (List UInt8)) (v vm:Value) (S Sm:Nat→Prop) (w:World) (h:aZ 1 iw w v l S) (hm:aZ 1 iw w vm m Sm) (hl1:l.length≤1000000) (hm1:m.length≤1000000) :
 Calls Tryz.prog 28 #[v,vm] w fun e w'=>e=.returned (.bool (decide (l=m)))∧Below w.heap.size w w':=by
 obtain ⟨a,cap,hv,hl,hc,-,-⟩:=id h;subst hv;obtain ⟨am,QV,hv,hlm,hcm,-,-⟩:=id hm;subst hv;unfold maxLen at hc hcm;have HL:=iH h;have HM:=iH hm;clear h hm
 by_cases hne:l.length=m.length
 case neg =>
  have HF:=iH (show decide (l=m)=false from decide_eq_false fun e=>hne (by rw [e]))
  go_enter Tryz.func28,Tryz.ntmps28
  go_wp2;go_ret;exact ⟨by rw [HF.out];rfl,iB⟩
 rw [←hne] at HM⊢;have Ui:=iH hne;clear hne hlm
 go_enter Tryz.func28,Tryz.ntmps28
 go_wp2
 go_loopw [5,13] (fun _ i wr=>∃n:Nat,n≤l.length∧i=iI n∧Hid (l.take n=m.take n)∧Hid (Below w.heap.size w wr))
  (fun _ i _=>l.length - (intOf i).toNat)
 case atStart=>exact ⟨0,by omega,rfl,by simp [Hid],iB⟩
 case round =>
  obtain ⟨n,hn,rfl,hf,hb⟩:=hrel
  by_cases hlt:n<l.length
  case neg =>
   have HF:=iH (show decide (l=m)=true from decide_eq_true (by have:=hf.out;rwa [List.take_of_length_le (by omega),List.take_of_length_le (by rw [←Ui.out];omega)] at this));go_wp2;go_ret;exact ⟨by rw [HF.out];rfl,hb.out⟩
  have Qw:n<m.length:=by rw [←Ui.out];exact hlt
  obtain ⟨b,off,cap',row,hv,hSb,hrow,hcells⟩:=(HL.out.below aK (by decide) hb.out).row n hlt;simp only [Value.slice.injEq] at hv;obtain ⟨rfl,_,rfl⟩:=hv;obtain rfl:=hrow;have q0:=hcells 0 _ rfl;obtain ⟨b2,off2,cap2,NV,hv2,TC,hrow2,je⟩:=(HM.out.below aK (by decide) hb.out).row n Qw;simp only [Value.slice.injEq] at hv2;obtain ⟨rfl,-,rfl⟩:=hv2;obtain rfl:=hrow2;have r0:=je 0 _ rfl;simp only [Nat.add_zero,Nat.mul_one] at q0 r0;clear hcells je;have HE:Hid (l[n]=m[n]→l.take (n+1)=m.take (n+1)):=fun he=>D6 hlt Qw hf.out he
  have HN:Hid (l[n]≠m[n]→decide (l=m)=false):=fun he=>decide_eq_false fun e=>he (by subst e;rfl)
  clear hf;generalize l[n]=s at *;generalize m[n]=t at *;clear Qw
  by_cases hst:s=t
  ·have HE2:=iH (HE.out hst)
   subst hst;go_wp2;go_region;go_wp2
   go_roundw
   case rel=>exact ⟨n+1,by omega,by go_num,HE2,iH (Below.drew hb.out)⟩
   case measure=>simp [intOf];omega
  ·have O5:=iH (HN.out hst)
   have VX:(s == t)=false:=by simpa using hst
   go_wp2;go_region;go_wp2;go_ret;exact ⟨by rw [O5.out];rfl,Below.drew hb.out⟩
end Go.Proofs.YtbngpjdflblffaaGreatDoor
namespace Go.Tk
open Go Go.RowKit Go.ChangeShapes Go.WideShapes Go.Deep
variable {H:Type} {enc:TypeId×Value→H} {P:Program} {w:World} {base:Nat} {spare:Nat→Bool} {held:Bool}
theorem NW {e ti:TypeId} {fs:Array Field} {fuel:Nat} {cs:List Value} {x:DataW H×List MemPlace} (he:P.underlying e=some (.struct fs)) (hone:oneCellFields P fs=true) (h4:fs.size=4)
 (hall:(fs.toList.all fun f=>f.type == ti)=true) (hti:P.underlying ti=some (.int .i64)) (hlen:cs.length=4) (h:DataW.trod enc P w base spare held fuel e cs=some x) :
 ∃r:kX,cs=[iI r.kind, iI r.a, iI r.b, iI r.c]∧uM r:=by
 have hty:∀(j:Nat) (f:Field),fs[j]?=some f→f.type=ti:=fun j f hj=>by
  have hm:f∈fs.toList:=by
   obtain ⟨hj',rfl⟩:=Array.getElem?_eq_some_iff.1 hj;exact Array.mem_toList_iff.2 (Array.getElem_mem hj')
  simpa using List.all_eq_true.1 hall f hm
 obtain ⟨ys,n,_,_,_,hyl,hf⟩:=DataW.trod_struct he h
 match cs,hlen with
 | [c0,c1,c2,c3],_ =>
   have key:∀(j:Nat) (c:Value),[c0,c1,c2,c3][j]?=some c→∃z,c=iI z∧PL z:=by
    intro j c hc;have hj:j<4:=by
     rcases Nat.lt_or_ge j 4 with h | h
     ·exact h
     ·rw [List.getElem?_eq_none (by simp;omega)] at hc;cases hc
    have hfj:fs[j]?=some (fs[j]'(by omega)):=Array.getElem?_eq_getElem _;obtain ⟨ho,hk⟩:=hone_of hone j _ hfj;have h1:=hf j _ hfj;rw [ho,hk,hty j _ hfj] at h1;have h2:(([c0,c1,c2,c3]:List Value).drop j).take 1=[c]:=by
     rcases (show j=0∨j=1∨j=2∨j=3 by omega) with rfl | rfl | rfl | rfl<;>simp at hc<;>subst hc<;>rfl
    rw [h2,List.getElem?_eq_getElem (by omega)] at h1;obtain ⟨z,hz,_,hw⟩:=DataW.trod_int hti h1;simp only [List.cons.injEq,and_true] at hz;exact ⟨z,hz,bounds_i64 hw⟩
   obtain ⟨z0,rfl,g0⟩:=key 0 c0 rfl;obtain ⟨z1,rfl,g1⟩:=key 1 c1 rfl;obtain ⟨z2,rfl,g2⟩:=key 2 c2 rfl;obtain ⟨z3,rfl,g3⟩:=key 3 c3 rfl;exact ⟨⟨z0,z1,z2,z3⟩,rfl,g0,g1,g2,g3⟩
theorem Kg {t e ti:TypeId} {fs:Array Field} {r:Reach} {b0:Nat} {v:Value} {d:DataW H} {p:List MemPlace} (ht:P.underlying t=some (.slice e)) (he:P.underlying e=some (.struct fs)) (hone:oneCellFields P fs=true) (hC:P.cellsOf e=4) (h4:fs.size=4)
 (hall:(fs.toList.all fun f=>f.type == ti)=true) (hti:P.underlying ti=some (.int .i64)) (hv:Value.okWide P w r b0 t v) (h:DataW.Trod enc P w base spare held t v d p) :
 ∃l:List kX,aZ 4 FB w v l (fun _=>True)∧∀x∈l,uM x:=by
 obtain ⟨a,len,cap,rfl⟩:=okWide_slice ht hv;obtain ⟨fuel,hf⟩:=h
 rcases open_slice ht hf with ⟨h0,_⟩ | ⟨a',len',cap',m,n,D,Pl,hcs,hb,hl,hm,hmm,_,hi⟩
 ·simp [Value.cells] at h0
  obtain ⟨rfl,rfl,rfl⟩:=h0;exact ⟨[],aZ.nil w _,by simp⟩
 ·simp [Value.cells] at hcs
  obtain ⟨rfl,rfl,rfl⟩:=hcs;have Yh:len≤m:=by rw [hmm];split<;>omega
  have hx:∀i:Nat,∃x:kX,i<len→uM x∧w.cells? base (a'.add (i*4)) 4=some [iI x.kind, iI x.a, iI x.b, iI x.c]:=by
   intro i
   by_cases hil:i<len
   ·obtain ⟨cs',hc,ht'⟩:=hi i (by omega)
    rw [hC] at hc;obtain ⟨_,hcl,_⟩:=World.cells?_some hc;obtain ⟨r,rfl,hr⟩:=NW he hone h4 hall hti hcl ht';exact ⟨r,fun _=>⟨hr,hc⟩⟩
   ·exact ⟨⟨0,0,0,0⟩,fun h=>absurd h hil⟩
  obtain ⟨f,hf⟩:=Classical.axiomOfChoice hx;refine ⟨(List.range len).map f,⟨some a',cap,by simp,by simpa using hl,hm,(fun h=>by cases h),fun i x hix=>?_⟩,fun x hx=>?_⟩
  ·have hil:i<len:=by
    rcases Nat.lt_or_ge i len with h | h
    ·exact h
    ·rw [List.getElem?_eq_none (by simpa using h)] at hix;cases hix
   have hxe:x=f i:=by
    rw [List.getElem?_map,List.getElem?_range hil] at hix;simpa using hix.symm
   subst hxe;have h0:=(hf 0 (by omega)).2;obtain ⟨_,_,WM⟩:=World.cells?_some h0;have hc0:=WM (i:=0) (by decide);have hspot:a'.spot=none:=by
    rw [Nat.zero_mul] at hc0;have:=World.cell?_spot hc0;simpa [Addr.add] using this
   obtain ⟨_,hcl,hat⟩:=World.cells?_some (hf i hil).2;obtain ⟨b,off,sp⟩:=a';simp only at hspot;subst hspot;refine ⟨b,off,[iI (f i).kind, iI (f i).a, iI (f i).b, iI (f i).c],rfl,trivial,rfl,fun j u hu=>?_⟩;have hj:j<4:=by
    rcases Nat.lt_or_ge j 4 with h | h
    ·exact h
    ·rw [List.getElem?_eq_none (by simp;omega)] at hu;cases hu
   have:=hat (i:=j) hj;rw [Addr.add_lit,Addr.add_lit,hu] at this;exact this
  ·obtain ⟨i,hi',rfl⟩:=List.mem_map.1 hx
   exact (hf i (List.mem_range.1 hi')).1
end Go.Tk
namespace Go.Proofs.YtbngpjdflblffaaGreatDoor
open Go.RowKit Go.Tk
theorem Tryz.Ba {H:Type} {enc:TypeId×Value→H} {w:World} {r:Reach} {b0 base:Nat} {spare:Nat→Bool} {held:Bool} {v:Value} {d:DataW H} {p:List MemPlace}
 (hv:Value.okWide Tryz.prog w r b0 22 v) (h:DataW.Trod enc Tryz.prog w base spare held 22 v d p):∃l:List kX,aZ 4 FB w v l (fun _=>True)∧∀x∈l,uM x :=
 Kg Tryz.underlying22 Tryz.underlying105 (by kernel_rfl) (by kernel_rfl) (by kernel_rfl) (by kernel_rfl) Tryz.underlying3 hv h
end Go.Proofs.YtbngpjdflblffaaGreatDoor
