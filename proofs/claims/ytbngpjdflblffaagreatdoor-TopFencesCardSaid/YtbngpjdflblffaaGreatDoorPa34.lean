/- A part of the proof, laid together from: CluB, CluD, RepL, PlanS. -/
import Derived.Test.YtbngpjdflblffaaGreatDoorPa33
set_option linter.all false
set_option maxRecDepth 100000
set_option maxHeartbeats 12800000
namespace Go.Tk
open Go Go.RowKit
theorem Kk {x:bS} {l:List kM} {q:Nat} (hq:q<l.length) (h:(kU x (l.take q)).bD.length<60):kU x (l.take (q+1))={ kU x (l.take q) with bD:=(kU x (l.take q)).bD++[l[q]] }:=by
 simp only [kU,List.length_append,List.length_take] at h⊢;have e1:(l.take (q+1)).take (60 - x.bD.length)=l.take q++[l[q]]:=by rw [List.take_take,Nat.min_eq_right (by omega),List.take_succ_eq_append_getElem hq]
 have e2:(l.take q).take (60 - x.bD.length)=l.take q:=by rw [List.take_take,Nat.min_eq_right (by omega)]
 rw [e1,e2,List.append_assoc]
theorem Kl {x:bS} {l:List kM} {q:Nat} (hq:q<l.length) (h:¬ (kU x (l.take q)).bD.length<60) (hx:x.bD.length≤60):kU x (l.take (q+1))=kU x (l.take q):=by
 simp only [kU,List.length_append,List.length_take] at h⊢;have e:(l.take (q+1)).take (60 - x.bD.length)=(l.take q).take (60 - x.bD.length):=by rw [List.take_take,List.take_take,Nat.min_eq_left (by omega),Nat.min_eq_left (by omega)]
 rw [e]
theorem Ma {x:bS} (l:List kM) (hx:x.bD.length≤60):(kU x l).bD.length≤60:=by simp only [kU,List.length_append,List.length_take];omega
theorem eB.L8 {ER EC EM EK:Nat} {w:World} {X:Nat} {vr vc vm vk:Value} {x:bS} {Z:Nat→Prop} (_h:eB ER EC EM EK w X vr vc vm vk x Z) {w1:World} {v':Value} (hg:w.grownBy w1 vm.ownBlock):aX (wQ X vr vc vm vk) w (w1.setCell ⟨X,2,none⟩ v') :=
 ((aX.refl (wQ X vr vc vm vk) w).grown hg fun g e=>.inl (.inr (.inr (.inr (.inl e.symm))))).set1 (.inl (.inl rfl)) _ _
theorem Qi {X:Nat} {vr vc vm vk v':Value} {W:Nat→Prop} {n k:Nat} (h:∀b,wQ X vr vc vm vk b→W b∨n≤b) (hv:v'.ownBlock=vm.ownBlock∨∃g,v'.ownBlock=some g∧k≤g) (hk:n≤k):∀b,wQ X vr vc v' vk b→W b∨n≤b:=by
 rintro b (hb | hb | hb | hb | hb)
 ·exact h b (.inl hb)
 ·exact h b (.inr (.inl hb))
 ·exact h b (.inr (.inr (.inl hb)))
 ·rcases hv with e | ⟨g,e,hge⟩
  ·exact h b (.inr (.inr (.inr (.inl (hb.trans e)))))
  ·rw [e] at hb;cases hb;exact .inr (Nat.le_trans hk hge)
 ·exact h b (.inr (.inr (.inr (.inr hb))))
def yQ (x:bS) (q:Nat):bS:={ x with K:=x.K++((aP x).es.drop (x.K.length - (aP x).b)).take q }
theorem KJ (x:bS):yQ x 0=x:=by simp [yQ]
theorem MW (x:bS):yQ x (nO x 3 - x.K.length)=nE x:=rfl
theorem MV {m n:Nat} {x:bS} (h:aT m n x) {q:Nat} (hq:x.K.length+q≤bQ (aP x)):(yQ x q).K.length=x.K.length+q:=by
 have:=h.oN;unfold bQ at hq;simp only [yQ,List.length_append,List.length_take,List.length_drop];omega
theorem KM {m n:Nat} {x:bS} (h:aT m n x) {q:Nat} (hq:x.K.length+q<bQ (aP x)):(yQ x (q+1)).K=(yQ x q).K++[(aP x).es.getD (x.K.length - (aP x).b+q) []]:=by
 have hb:=h.oN;unfold bQ at hq;have hl:q<((aP x).es.drop (x.K.length - (aP x).b)).length:=by rw [List.length_drop];omega
 simp only [yQ];rw [List.take_succ_eq_append_getElem hl,List.append_assoc,List.getElem_drop,getD_lt (by rw [List.length_drop] at hl;omega)]
theorem KL {m n:Nat} {x:bS} (h:aT m n x) {q:Nat} (hq:x.K.length+q<bQ (aP x)):yQ x (q+1)={ yQ x q with K:=(yQ x q).K++[(aP x).es.getD (x.K.length - (aP x).b+q) []] }:=by
 have e:=KM h hq;rw [←e];rfl
theorem aT.reK {m n:Nat} {x:bS} (h:aT m n x):∀a∈x.kP,a.b≤x.K.length∧a.i≤x.K.length:=fun a ha=>by
 obtain ⟨i,hi,rfl⟩:=List.getElem_of_mem ha;have:=h.len;have o:=h.rep i (by omega);unfold aU at o;rw [getD_lt hi] at o;exact ⟨Nat.le_trans o.bi o.iK,o.iK⟩
section
variable {A:List Bytes} (h:tL A)
include h
end
theorem yu:∀(b:List Bytes) (out:List Bytes),(∀s∈b,dI s=0)→jD b out.length out=(out++b,0)
 | [],out,_=>by simp [jD]
 | s::r,out,h=>by
   have hs:=h s (by simp);rw [jD,if_neg (by simp [hs]),if_neg (by simp)];have:=yu r (out++[s]) (fun x hx=>h x (by simp [hx]));rw [List.take_of_length_le (Nat.le_refl _),show out.length+1=(out++[s]).length by simp,this];simp
theorem L6 {b:Int} {es more:List Bytes} {f:Int} (hl:uO ⟨b,es⟩) (hm:∀s∈more,dI s=0) (hf:f=b+es.length) (hlen:es.length+more.length≤400):oM ⟨b,es⟩ f more=(⟨b,es++more⟩,0):=by
 have hb:=hl.base;rw [put_eq hl (by simp only;omega) (by simp only [dH];omega) (by omega)];have e:(f - b).toNat=es.length:=by omega
 simp only [e];rw [yu more es hm,if_neg (by simp),if_neg (by simp;omega)]
def IU (L k:Nat) (wx wy:World):Prop:=∃(b:Nat) (us:List Value),us.length=k∧L≤b∧wy=wx.setCells b 0 us
theorem IU.below {L k:Nat} {w0 wx wy:World} (h:IU L k wx wy) (hb:Below L w0 wx):Below L w0 wy:=by
 obtain ⟨b,us,-,hL,rfl⟩:=h;exact bG hL us 0 _ hb
theorem aD.sets {b c:Nat}:∀(us:List Value) (o:Nat) {w:World} {cs:List Value},aD w b cs→o+us.length≤cs.length→∃cs',cs'.length=cs.length∧aD (w.setCells c o us) b cs'
 | [],_,_,cs,h,_=>⟨cs,rfl,h⟩
 | u::us,o,w,cs,h,hl=>by
   rw [List.length_cons] at hl
   by_cases hbc:b=c
   ·subst hbc
    obtain ⟨cs',h1,h2⟩:=aD.sets (b:=b) (c:=b) us (o+1) (h.set o (by omega) u) (by rw [List.length_set];omega);exact ⟨cs',by rw [h1,List.length_set],h2⟩
   ·exact aD.sets us (o+1) (h.far hbc o u) (by omega)
def l6 (L k:Nat) (v:Value) (w:World):Prop:=∃(b:Nat) (cs:List Value),cs.length=k∧v=iP b 0∧L≤b∧aD w b cs
theorem l6.below {L k:Nat} {v:Value} {wx wy:World} (h:l6 L k v wx) (hb:Below wx.heap.size wx wy):l6 L k v wy:=by
 obtain ⟨b,cs,hk,e,hL,hx⟩:=h;exact ⟨b,cs,hk,e,hL,hx.below hb⟩
theorem l6.store {L k:Nat} {v:Value} {wx wy:World} (h:l6 L k v wx) (hs:IU L k wx wy):l6 L k v wy:=by
 obtain ⟨b,cs,hk,e,hL,hx⟩:=h;obtain ⟨c,us,hu,-,rfl⟩:=hs;obtain ⟨cs',h1,h2⟩:=hx.sets (c:=c) us 0 (by omega);exact ⟨b,cs',by omega,e,hL,h2⟩
theorem l6.new (L:Nat) {w:World} (cs:List Value) (E:Nat) (hL:L≤w.heap.size):l6 L cs.length (iP (w.heap.size) 0) (w.alloc (.cells cs.toArray E)):=⟨_,cs,rfl,rfl,hL,aD.new⟩
def NA (L i:Nat) (cs:List Value) (vs:Nat→Value) (w:World):Prop:=∃b:Nat,vs i=iP b 0∧L≤b∧aD w b cs
theorem NA.below {L i:Nat} {cs:List Value} {vs:Nat→Value} {wx wy:World} (h:NA L i cs vs wx) (hb:Below wx.heap.size wx wy) {k:Nat} (hk:i≠k) (x:Value):NA L i cs (dm vs k x) wy:=by
 obtain ⟨b,e,hL,hx⟩:=h;exact ⟨b,by simp only [dm,if_neg hk];exact e,hL,hx.below hb⟩
end Go.Tk
namespace Go.Proofs.YtbngpjdflblffaaGreatDoor
open Go.RowKit Go.Tk
theorem Bd (x:bS) (X:Nat) (Z S:Nat→Prop) (w:World) (Si Sl Sj Sk:Value) (h:eB 45 73 101 9 w X Si Sl Sj Sk x Z) (SB:x.bD.length≤60) (l:List kM) (v:Value) (hl:aZ 5 jV w v l S) (hS:∀b,S b→¬ wQ X Si Sl Sj Sk b) :
 Calls Tryz.prog 128 #[iP X 0,v] w fun e w'=>e=.returned (.tuple #[])∧eY 45 73 101 9 w X Z w' (kU x l):=by
 have HL:=iH hl;have PN:=iH hS;have ZI:=iH SB;obtain ⟨av,cv,rfl,hlc,hmv,-,-⟩:=id hl;unfold maxLen at hmv;have HH:=iH h;clear h hl hS SB
 go_enter Tryz.func128,Tryz.ntmps128
 go_wp2
 go_loopw [5,8] (fun _ i wr=>∃(q:Nat) (Z':Nat→Prop),q≤l.length∧i=iI (q:Int)∧Hid (∃vr vc vm vk,eB 45 73 101 9 wr X vr vc vm vk (kU x (l.take q)) Z'∧∀b,wQ X vr vc vm vk b→wQ X Si Sl Sj Sk b∨w.heap.size≤b)∧Hid (∀b,Z' b→Z b∨w.heap.size≤b)∧Hid (aX (wQ X Si Sl Sj Sk) w wr))
  (fun _ i _=>l.length - (intOf i).toNat)
 case atStart=>exact ⟨0,Z,by omega,rfl,iH (by rw [show kU x (l.take 0)=x by simp [kU]];exact ⟨_,_,_,_,HH.out,fun b hb=>.inl hb⟩),iH (fun b hb=>.inl hb),iH (aX.refl _ _)⟩
 case round =>
 obtain ⟨q,Z',hq,rfl,I8,Q4,Ll⟩:=hrel
 by_cases hlt:q<l.length
 case neg =>
  go_wp2;refine bodyPost_end (v:=.tuple #[]) (by simp [results,Tryz.results128,go_sem]) rfl ⟨rfl,Z',?_,Q4.out,Ll.out.wide HH.out.own⟩;obtain ⟨v1,v2,v3,v4,h1,-⟩:=I8.out;rw [List.take_of_length_le (by omega)] at h1;exact ⟨_,_,_,_,h1⟩
 have Ul:=iH (HL.out.move bT (by decide) (S':=S) fun b hb hl=>⟨Ll.out.block b hl (PN.out b hb),hb⟩);obtain ⟨b1,RL,Yz,Sn,hv1,-,jO,l7⟩:=Ul.out.row q hlt;simp only [Value.slice.injEq] at hv1;obtain ⟨rfl,-,rfl⟩:=hv1;have Ri:=iH (Kk (x:=x) hlt);have HFU:=iH (Kl (x:=x) hlt);have Wq:=Ma (l.take q) ZI.out;generalize l[q]=y at *;obtain rfl:=jO;have q0:=l7 0 _ rfl;have q1:=l7 1 _ rfl;have q2:=l7 2 _ rfl;have q3:=l7 3 _ rfl;have q4:=l7 4 _ rfl;simp only [Nat.add_zero] at q0;clear l7 Ul;generalize kU x (l.take q)=z at *;obtain ⟨vr,vc,vm,vk,hm,hcw⟩:=I8.out;have XM:=iH hcw;clear hcw;have hone:=hm.rep.oneCell;have kL:=hm.nV.oneCell;have qb:=hm.comm.oneCell;obtain ⟨am,cm,rfl⟩:=hm.jh.shape;have hroom:=hm.jh.room;unfold maxLen at hroom;clear I8;go_upto_region 3 with (fail);clear q0 q1 q2 q3 q4;have hba:=aj wr (.cells #[iI y.client, iI y.seq, iI y.aI.code, iI y.aI.n, iS y.aI.text] 101);have HY:=iH (aD.new (w:=wr) (cs:=[iI y.client, iI y.seq, iI y.aI.code, iI y.aI.n, iS y.aI.text]) (E:=101));have HM:=iH (hm.below hba);have hW1:=hm.box.lt;have HWS:=iH hba.size;replace Ll:=iH (Ll.out.step hba);clear hm hba
 generalize wr.alloc (.cells #[iI y.client, iI y.seq, iI y.aI.code, iI y.aI.n, iS y.aI.text] 101)=w1 at *;generalize wr.heap.size=B5 at *;have x2:=HM.out.box.cell 2 _ rfl
 by_cases Yw:z.bD.length<60
 case neg =>
  have HE:=iH (HFU.out Yw ZI.out);go_wp2
  go_roundw
  case rel=>exact ⟨q+1,Z',by omega,by go_num,by rw [HE.out];exact iH ⟨_,_,_,_,HM.out,XM.out⟩,Q4,Ll⟩
  case measure=>simp [intOf];omega
 have HE:=iH (Ri.out Yw);go_upto_region 4 with (fail);obtain ⟨y0,y1,y2,y3,y4⟩:=IP HY.out;have xY:=HM.out.box.lt;have hBl:=HY.out.lt;have x2':=HM.out.box.thaw 2;have QL:Below w1.heap.size w1 (w1.alloc (.cells #[iI y.client, iI y.seq, iI y.aI.code, iI y.aI.n, iS y.aI.text] 101)).drew:=Below.drew (aj w1 _);have IY:=iH (HM.out.below QL);have hx6:=aD.drew (aD.new (w:=w1) (cs:=[iI y.client, iI y.seq, iI y.aI.code, iI y.aI.n, iS y.aI.text]) (E:=101));have XN:=iH (Ll.out.step QL);clear QL
 go_region_law (refine pK rfl (.tmp 22) (.tmp 24) rfl Tryz.LC bT y rfl rfl hx6.cell IY.out.jh rfl (by omega) ?_;intro v8 w8 nu kN qM;have QO:=IY.out.box.grown kN (fun e=>IY.out.nI.m e.symm);have k8:=QO.cell 2 _ rfl;have t8:=QO.thaw 2;obtain ⟨a8,c8,e8⟩:∃a c,v8=.slice a (z.bD.length+1) c:=(by obtain ⟨a,c,e⟩:=nu.shape;exact ⟨a,c,by rw [e,List.length_append];rfl⟩);subst e8)
 all_goals
  obtain ⟨hP,WU⟩:=IY.out.Jo nu kN qM;have HF:=iH (show ∃vr vc vm vk,eB 45 73 101 9 _ X vr vc vm vk (kU x (l.take (q+1))) _∧∀b,wQ X vr vc vm vk b→wQ X Si Sl Sj Sk b∨w.heap.size≤b from by rw [HE.out];exact ⟨_,_,_,_,hP,Qi XM.out qM (Nat.le_trans XN.out.size (Nat.le_refl _))⟩);have zF:=iH (XN.out.trans (IY.out.L8 (v':=.slice a8 (z.bD.length+1) c8) kN) XM.out);have XI:=iH (show ∀b,(Z' b∨some b=(Value.slice a8 (z.bD.length+1) c8).ownBlock)→Z b∨w.heap.size≤b from fun b hb=>by
   rcases hb with hb | hb
   ·exact Q4.out b hb
   ·rcases qM with e | ⟨g,e,hge⟩
    ·exact Q4.out b (IY.out.own b (.inr (.inr (.inr (.inl (hb.trans e))))))
    ·rw [e] at hb;cases hb;exact .inr (Nat.le_trans XN.out.size hge))
  clear hP WU nu kN qM QO hx6;go_wp2
  go_roundw
  case rel=>exact ⟨q+1,_,by omega,by go_num,HF,XI,zF⟩
  case measure=>simp [intOf];omega
theorem Tryz.P7:dM Tryz.prog 30 9 1 16:=⟨Tryz.underlying30,by kernel_rfl,by decide⟩
theorem sJ (m n:Nat) (x:bS) (X:Nat) (Z:Nat→Prop) (w:World) (h:gW 45 73 101 9 w X x Z) (hok:aT m n x) :
 Calls Tryz.prog 127 #[iP X 0] w fun e w'=>e=.returned (.tuple #[])∧eY 45 73 101 9 w X Z w' (nE x):=by
 have gG:=iH hok;have ko:=iH hok.len;have HH:=iH h;obtain ⟨vr,vc,vm,vk,hm⟩:=h;obtain ⟨g,cap,-,-,-,-,hv,hcap,hmax,-,-⟩:=hm.oL (r:=0) (by have:=ko.out;omega);rw [ko.out] at hv hcap;subst hv;unfold maxLen at hmax;have HM:=iH hm;have hlead:=hok.lead;have hU:=xP hok 3 (Nat.le_refl _);have Yj:=hok.qK;have hl4:=hok.kQ.ln;have Yg:=hok.n4;have hup:∀q,q≤3→nO x q≤400:=fun q hq=>by have:=xP hok q hq;omega
 have Xl:=iH hup;have hone:=hm.nV.oneCell;have kL:=hm.jh.oneCell;obtain ⟨ak,ck,hvk⟩:=hm.comm.shape;subst hvk;clear hm hok hup;have x0:=HM.out.box.cell 0 _ rfl
 go_enter Tryz.func127,Tryz.ntmps127
 go_wp2;clear x0
 go_loopw [2,3,10] (fun up _ i wr=>∃q:Nat,q≤3∧i=iI (q:Int)∧up=iI (nO x q:Int)∧Hid (Below w.heap.size w wr))
  (fun _ _ i _=>3 - (intOf i).toNat)
 case atStart=>exact ⟨0,by omega,rfl,rfl,iH iB⟩
 case round =>
 obtain ⟨q,hq,rfl,rfl,HB⟩:=hrel;have wL:=iH (HM.out.below HB.out);have SS:=Xl.out q hq
 by_cases hlt:q<3
 ·have Za:=iH (show nO x (q+1)=if q=x.lead then nO x q else max (nO x q) (bN x q) from rfl)
  have ha4:=Xl.out (q+1) (by omega);have jb:=iH (lI m n x X Z wr ⟨_,_,_,_,wL.out⟩ gG.out q hlt);have x4:=wL.out.box.cell 4 _ rfl;have e2:IntKind.i64.wrap ((q:Int)+1)=(q:Int)+1:=IntWalk.i64_in _ (by omega)
  by_cases zY:q=x.lead
  ·have wP:=iH (Za.out.trans (if_pos zY))
   have hqb:((q:Int) != (x.lead:Int))=false:=by simp [zY]
   have HQL:=iH zY;clear zY;go_wp2
   go_roundw
   case rel=>exact ⟨q+1,by omega,by go_num,by rw [wP.out],HB⟩
   case measure=>simp [intOf];omega
  ·have wP:=iH (Za.out.trans (if_neg zY))
   have hqb:((q:Int) != (x.lead:Int))=true:=by simp;omega
   have hag:bN x q≤400:=by have:=wP.out;omega
   clear zY
   go_wp2_with fail
   refine jb.out.mono ?_;rintro e w2 ⟨rfl,hb2⟩;have HB2:=iH (ah HB.out hb2);clear x4 jb hb2;generalize bN x q=ag at *;generalize nO x q=up at *
   by_cases hle:ag<up
   ·have hd1:decide ((ag:Int)<(up:Int))=true:=decide_eq_true (by omega)
    have hd2:decide ((up:Int)<(ag:Int))=false:=decide_eq_false (by omega);have Vq:=iH (wP.out.trans (Nat.max_eq_left (Nat.le_of_lt hle)));go_wp2
    go_roundw
    case rel=>exact ⟨q+1,by omega,by go_num,by rw [Vq.out],HB2⟩
    case measure=>simp [intOf];omega
   ·have Vq:=iH (wP.out.trans (Nat.max_eq_right (by omega)))
    rcases Nat.lt_or_eq_of_le (show up≤ag by omega) with hlt2 | heq
    ·have hd1:decide ((ag:Int)<(up:Int))=false:=decide_eq_false (by omega)
     have hd2:decide ((up:Int)<(ag:Int))=true:=decide_eq_true (by omega);go_wp2
     go_roundw
     case rel=>exact ⟨q+1,by omega,by go_num,by rw [Vq.out],HB2⟩
     case measure=>simp [intOf];omega
    ·subst heq
     go_wp2
     all_goals
      go_roundw
      case rel=>exact ⟨q+1,by omega,by go_num,by rw [Vq.out],HB2⟩
      case measure=>simp [intOf];omega
 obtain rfl:q=3:=by omega
 clear HM Xl;obtain ⟨g2,cap2,RJ,VG,VF,Z8,hv2,-,-,hcell2,Mr⟩:=wL.out.oL (r:=x.lead) (by have:=ko.out;omega);rw [ko.out] at hv2;simp only [Value.slice.injEq,Option.some.injEq,Addr.mk.injEq,true_and,and_true] at hv2;obtain ⟨rfl,rfl⟩:=hv2;have Io:aZ 1 iw wr RJ (aP x).es _:=Mr.lD;obtain ⟨al,cl,rfl,-,hml,-,-⟩:=id Io;unfold maxLen at hml;have d0:wr.cell? ⟨g,x.lead*7,none⟩=some (iI ((aP x).b:Int)):=hcell2 0 _ rfl;have d1:wr.cell? ⟨g,x.lead*7+1,none⟩=some (.slice al (aP x).es.length cl):=hcell2 1 _ rfl;have HL:=iH Io;clear hcell2 Mr Io;have x0:=wL.out.box.cell 0 _ rfl;have x4:=wL.out.box.cell 4 _ rfl;have xY:=wL.out.box.lt;have hgl:=World.block_lt_of_cell? wr _ d0;simp only at hgl;have hL3:(x.lead:Int)<3:=by omega
 go_upto_region 7 with (fail);go_region;have hba:Below wr.heap.size wr (wr.alloc (.cells #[iI ((aP x).b:Int), .slice al (aP x).es.length cl] 43)).drew:=Below.drew (aj wr _);have HY:=iH (aD.drew (aD.new (w:=wr) (cs:=[iI ((aP x).b:Int), .slice al (aP x).es.length cl]) (E:=43)));clear x0 x4 d0 d1 hgl;have jT:X≠wr.heap.size:=by omega
 have Yt:∀b,(Value.slice ak x.K.length ck).ownBlock=some b→b≠wr.heap.size:=fun b hb=>by have:=wL.out.comm.lt b hb;omega
 replace wL:=iH (wL.out.below hba);replace HL:=iH (HL.out.below aK (by decide) hba);replace HB:=iH (ah HB.out hba);clear hba xY;generalize (wr.alloc (.cells #[iI ((aP x).b:Int), .slice al (aP x).es.length cl] 43)).drew=w1 at *;generalize wr.heap.size=B4 at *;refine eZ (fun wx=>w1=wx) rfl ?_;rintro _ rfl;go_wp2;obtain ⟨U,WR⟩:∃U,nO x 3=U:=⟨_,rfl⟩;rw [WR] at hU SS⊢;have HUE:=iH WR;clear WR;have Gy:=iH (show ∀b,(Value.slice ak x.K.length ck).ownBlock=some b→b<w1.heap.size from fun b hb=>wL.out.comm.lt b hb);have Pb:=iH HY.out.lt
 go_loopw [] (fun wr=>∃(q:Nat) (UT:Value) (Z':Nat→Prop),q≤U - x.K.length∧Hid (eB 45 73 101 9 wr X (.slice (some ⟨g,0,none⟩) 3 cap) vc vm UT (yQ x q) Z')∧Hid (∀b,Z' b→Z b∨w1.heap.size≤b)∧Hid (UT.ownBlock=(Value.slice ak x.K.length ck).ownBlock∨∃b,UT.ownBlock=some b∧w1.heap.size≤b) ∧
  Hid (aX (fun b=>b=X∨some b=(Value.slice ak x.K.length ck).ownBlock) w1 wr))
  (fun wr=>match wr.cell? ⟨X,3,none⟩ with | some (.slice _ n _)=>U - n | _=>0)
 case atStart=>exact ⟨0,_,Z,by omega,by rw [KJ];exact wL,iH (fun b hb=>.inl hb),iH (.inl rfl),iH (aX.refl _ _)⟩
 case round =>
 rename World=>wr
 obtain ⟨q,UT,Z',hqU,IX,Q4,HOW,Ll⟩:=hrel;obtain ⟨Nc,MZ,rfl⟩:=IX.out.comm.shape;have hkl:=MV gG.out (q:=q) (by omega);rw [hkl] at IX HOW;have Ak:=iH hkl;clear hkl;obtain ⟨kl,hkl⟩:∃kl,x.K.length+q=kl:=⟨_,rfl⟩;rw [hkl] at IX HOW;have Ro:=iH hkl;have hkl2:x.K.length≤kl:=by omega
 clear hkl;have x3:=IX.out.box.cell 3 _ rfl;have RS:=iH x3
 by_cases hlt:kl<U
 case neg =>
  have hqe:q=U - x.K.length:=by have:=Ro.out;omega
  go_wp2;refine bodyPost_end (v:=.tuple #[]) (by simp [results,Tryz.results127,go_sem]) rfl ⟨rfl,Z',?_,fun b hb=>?_,?_⟩
  ·rw [←MW,HUE.out,←hqe];exact ⟨_,_,_,_,IX.out⟩
  ·rcases Q4.out b hb with h1 | h1
   ·exact .inl h1
   ·exact .inr (Nat.le_trans HB.out.size h1)
  ·exact (aX.of_below HB.out).trans (Ll.out.wide fun b hb=>by
    rcases hb with hb | hb
    ·exact wL.out.own b (.inl hb)
    ·exact wL.out.own b (.inr (.inr (.inr (.inr hb))))) fun b hb=>.inl hb
 have hlb:=gG.out.oN;have hqr:x.K.length+q<bQ (aP x):=by have:=Ro.out;omega
 have HST:=iH (KL gG.out hqr);unfold bQ at hU hl4 Yj;have hil:kl - (aP x).b<(aP x).es.length:=by omega
 have Y8:=iH (HY.out.nK Ll.out (by
  rintro (h1 | h1)
  ·exact jT h1.symm
  ·exact Yt B4 h1.symm rfl))
 have Ul:=iH (HL.out.move (w':=wr) (S':=fun b=>b<w1.heap.size∧¬ (some b=(Value.slice ak x.K.length ck).ownBlock)) aK (by decide) fun b hb hl=>⟨Ll.out.block b hl (by
  rintro (h1 | h1)
  ·exact hb.2 (.inl h1)
  ·exact hb.2 (.inr (.inr (.inr (.inr h1))))),hl,fun h1=>hb.2 (.inr (.inr (.inr (.inr h1))))⟩)
 obtain ⟨b1,RL,Yz,Sn,hv1,TD,jO,l7⟩:=Ul.out.row (kl - (aP x).b) hil;simp only [Value.slice.injEq] at hv1;obtain ⟨rfl,-,rfl⟩:=hv1;rw [show x.K.length - (aP x).b+q=kl - (aP x).b by have:=Ro.out;omega,getD_lt hil] at HST;generalize (aP x).es[kl - (aP x).b]=s at *;obtain rfl:=jO;have k0:=l7 0 _ rfl;simp only [Nat.mul_one,Nat.add_zero] at k0;have hk0:=World.block_lt_of_cell? wr _ k0;simp only at hk0;clear l7 Ul;have e1:IntKind.i64.wrap ((kl:Int) - ((aP x).b:Int))=((kl - (aP x).b:Nat):Int):=(IntWalk.i64_in _ (by omega)).trans (by omega);generalize kl - (aP x).b=pl at *;have hroom:=IX.out.comm.room;unfold maxLen at hroom;rw [Ak.out,Ro.out] at hroom;have xY:=IX.out.box.lt;have Ri:=iH IX.out.comm;go_upto_region 9 with (fail);have Uy:=iH (show (Value.slice Nc kl MZ).ownBlock≠some B4 from fun e=>by
  rcases HOW.out with h1 | ⟨b,h1,hge⟩
  ·exact Yt B4 (h1.symm.trans e) rfl
  ·have h2:some b=some B4:=h1.symm.trans e
   cases h2;have:=Pb.out;omega)
 have HBS:=iH (show (Value.slice Nc kl MZ).ownBlock≠some b1 from fun e=>by
  rcases HOW.out with h1 | ⟨b,h1,hge⟩
  ·exact TD.2 (e.symm.trans h1)
  ·have h2:some b=some b1:=h1.symm.trans e
   cases h2;have:=TD.1;omega)
 have hol:∀q,(Value.slice Nc kl MZ).ownBlock=some q→q<wr.heap.size:=fun q hq=>Ri.out.lt q hq
 refine dO 21 (fun done wx=>aX (fun q=>some q=(Value.slice Nc kl MZ).ownBlock) wr wx∧(done 18=false→Below wr.heap.size wr wx)) (fun i _ _ wx wy=>(i=18→wx.grownBy wy (Value.slice Nc kl MZ).ownBlock)∧(i≠18→Below wx.heap.size wx wy)) [eP (iP X 0),eP (iP X 0),eP (iP X 0),eP (iP X 3),eP (Value.slice Nc kl MZ),eP (iP B4 1),eP (.slice (some ⟨b1,RL,none⟩) (aP x).es.length cl),eP (iP X 0),eP (iP X 0),eP (iP X 3),eP (Value.slice Nc kl MZ),eP (iI (kl:Int)),eP (iP B4 0),eP (iI ((aP x).b:Int)),eP (iI (pl:Int)),eP (.pointer (some ⟨b1,RL+pl,none⟩)),eP (iS s),(fun _ _ v wx=>∃q:Nat,v=.slice (some ⟨q,0,none⟩) 1 1∧wr.heap.size≤q∧aD wx q [iS s]),(fun _ _ v wx=>∃(a8:Option Addr) (c8:Nat),v=.slice a8 (kl+1) c8∧bZ 9 1 iw wx (.slice a8 (kl+1) c8) ((yQ x q).K++[s]) (fun _=>False)∧((Value.slice a8 (kl+1) c8).ownBlock=(Value.slice Nc kl MZ).ownBlock∨∃q,(Value.slice a8 (kl+1) c8).ownBlock=some q∧wr.heap.size≤q)∧wr.grownBy wx (Value.slice Nc kl MZ).ownBlock),eP (iP X 0),eP (iP X 3)] (by kernel_rfl) (by kernel_rfl) rfl ?hJ ?jP ?hst ?hself ?ek ?hend
 case hJ=>exact ⟨aX.of_below (Below.drew iB),fun _=>Below.drew iB⟩
 case jP =>
  intro i done vs1 x wx wy hi hdi h1 h2
  by_cases h:i=18
  ·subst h
   exact ⟨h1.1.grown (h2.1 rfl) fun q e=>.inl e.symm,fun hd=>by simp [bJ] at hd⟩
  ·exact ⟨h1.1.step (h2.2 h),fun hd=>ah (h1.2 (by simpa [bJ,Ne.symm h] using hd)) (h2.2 h)⟩
 case hst =>
  intro i j done vs1 x wa wb hi hj hne hdi hdj hwf hJ hS GG hV
  match j,hj with
  | 0,_=>exact hV
  | 1,_=>exact hV
  | 2,_=>exact hV
  | 3,_=>exact hV
  | 4,_=>exact hV
  | 5,_=>exact hV
  | 6,_=>exact hV
  | 7,_=>exact hV
  | 8,_=>exact hV
  | 9,_=>exact hV
  | 10,_=>exact hV
  | 11,_=>exact hV
  | 12,_=>exact hV
  | 13,_=>exact hV
  | 14,_=>exact hV
  | 15,_=>exact hV
  | 16,_=>exact hV
  | 17,_ =>
    obtain ⟨q,e,h1,h2⟩:=hV
    by_cases h:i=18
    ·exact ⟨q,e,h1,h2.grown (hS.1 h) fun e2=>by have:=hol q e2.symm;omega⟩
    ·exact ⟨q,e,h1,h2.below (hS.2 h)⟩
  | 18,_ =>
    obtain ⟨a8,c8,e,h1,h2,h3⟩:=hV;have hb:=hS.2 (fun h=>hne h);exact ⟨a8,c8,e,h1.below aK hb,h2,grownBy_below h3 hb⟩
  | 19,_=>exact hV
  | 20,_=>exact hV
  | n+21,hj=>exact absurd hj (by omega)
 case hself =>
  intro i done vs1 v w hi hV
  match i,hi with
  | 0,_=>exact hV
  | 1,_=>exact hV
  | 2,_=>exact hV
  | 3,_=>exact hV
  | 4,_=>exact hV
  | 5,_=>exact hV
  | 6,_=>exact hV
  | 7,_=>exact hV
  | 8,_=>exact hV
  | 9,_=>exact hV
  | 10,_=>exact hV
  | 11,_=>exact hV
  | 12,_=>exact hV
  | 13,_=>exact hV
  | 14,_=>exact hV
  | 15,_=>exact hV
  | 16,_=>exact hV
  | 17,_=>exact hV
  | 18,_=>exact hV
  | 19,_=>exact hV
  | 20,_=>exact hV
  | n+21,hi=>exact absurd hi (by omega)
 case ek =>
  simp only [gm,aJ,Act.put,Nat.reduceAdd,Nat.zero_add,pS];refine ⟨?_,?_,?_,?_,?_,?_,?_,?_,?_,?_,?_,?_,?_,?_,?_,?_,?_,?_,?_,?_,?_,trivial⟩
  all_goals
   intro done vs1 wx hJ hd hall hn K hK;simp [Region.binds] at hn;simp only [mM,eP,Act.put,Nat.reduceAdd,Nat.zero_add,pS] at hK
  ·go_wp2
   exact hK _ _ ⟨iD rfl,fun _=>iB⟩ rfl
  ·go_wp2
   exact hK _ _ ⟨iD rfl,fun _=>iB⟩ rfl
  ·have e1:vs1 1=iP X 0:=hall 1 (by omega) (by simp [hn])
   simp only [e1] at hK⊢;go_wp2;exact hK _ _ ⟨iD rfl,fun _=>iB⟩ rfl
  ·have e2:vs1 2=iP X 0:=hall 2 (by omega) (by simp [hn])
   simp only [e2] at hK⊢;go_wp2;exact hK _ _ ⟨iD rfl,fun _=>iB⟩ rfl
  ·have e3:vs1 3=iP X 3:=hall 3 (by omega) (by simp [hn])
   simp only [e3] at hK⊢;have hx:=IX.out.box.nK hJ.1 (fun e=>IX.out.nI.k e.symm);have x3:=hx.cell 3 _ rfl;go_wp2;exact hK _ _ ⟨iD rfl,fun _=>iB⟩ rfl
  ·go_wp2
   exact hK _ _ ⟨iD rfl,fun _=>iB⟩ rfl
  ·have e5:vs1 5=iP B4 1:=hall 5 (by omega) (by simp [hn])
   simp only [e5] at hK⊢;have hy:=Y8.out.nK hJ.1 (fun e=>Uy.out e.symm);have y1:=hy.cell 1 _ rfl;go_wp2;exact hK _ _ ⟨iD rfl,fun _=>iB⟩ rfl
  ·go_wp2
   exact hK _ _ ⟨iD rfl,fun _=>iB⟩ rfl
  ·have e7:vs1 7=iP X 0:=hall 7 (by omega) (by simp [hn])
   simp only [e7] at hK⊢;go_wp2;exact hK _ _ ⟨iD rfl,fun _=>iB⟩ rfl
  ·have e8:vs1 8=iP X 0:=hall 8 (by omega) (by simp [hn])
   simp only [e8] at hK⊢;go_wp2;exact hK _ _ ⟨iD rfl,fun _=>iB⟩ rfl
  ·have e9:vs1 9=iP X 3:=hall 9 (by omega) (by simp [hn])
   simp only [e9] at hK⊢;have hx:=IX.out.box.nK hJ.1 (fun e=>IX.out.nI.k e.symm);have x3:=hx.cell 3 _ rfl;go_wp2;exact hK _ _ ⟨iD rfl,fun _=>iB⟩ rfl
  ·have e10:vs1 10=Value.slice Nc kl MZ:=hall 10 (by omega) (by simp [hn])
   simp only [e10] at hK⊢;go_wp2;exact hK _ _ ⟨iD rfl,fun _=>iB⟩ rfl
  ·go_wp2
   exact hK _ _ ⟨iD rfl,fun _=>iB⟩ rfl
  ·have e12:vs1 12=iP B4 0:=hall 12 (by omega) (by simp [hn])
   simp only [e12] at hK⊢;have hy:=Y8.out.nK hJ.1 (fun e=>Uy.out e.symm);have y0:=hy.cell 0 _ rfl;go_wp2;exact hK _ _ ⟨iD rfl,fun _=>iB⟩ rfl
  ·have e11:vs1 11=iI (kl:Int):=hall 11 (by omega) (by simp [hn])
   have e13:vs1 13=iI ((aP x).b:Int):=hall 13 (by omega) (by simp [hn]);simp only [e11,e13] at hK⊢;go_wp2;exact hK _ _ ⟨iD rfl,fun _=>iB⟩ rfl
  ·have e6:vs1 6=.slice (some ⟨b1,RL,none⟩) (aP x).es.length cl:=hall 6 (by omega) (by simp [hn])
   have e14:vs1 14=iI (pl:Int):=hall 14 (by omega) (by simp [hn]);simp only [e6,e14] at hK⊢;go_wp2;exact hK _ _ ⟨iD rfl,fun _=>iB⟩ rfl
  ·have e15:vs1 15=.pointer (some ⟨b1,RL+pl,none⟩):=hall 15 (by omega) (by simp [hn])
   simp only [e15] at hK⊢;have k9:=aB k0 (hJ.1.block b1 hk0 (fun e=>HBS.out e.symm));go_wp2;exact hK _ _ ⟨iD rfl,fun _=>iB⟩ rfl
  ·have e16:vs1 16=iS s:=hall 16 (by omega) (by simp [hn])
   simp only [e16] at hK⊢;go_wp2;exact hK _ _ ⟨iD rfl,fun _=>aj wx _⟩ ⟨_,rfl,hJ.1.size,aD.new⟩
  ·have e4:vs1 4=Value.slice Nc kl MZ:=hall 4 (by omega) (by simp [hn])
   obtain ⟨q,eb,TE,hbx⟩:((fun _ _ v wx=>∃q:Nat,v=.slice (some ⟨q,0,none⟩) 1 1∧wr.heap.size≤q∧aD wx q [iS s]):VE) done vs1 (vs1 17) wx:=hall 17 (by omega) (by simp [hn]);simp only [e4,eb] at hK⊢;have hb:=hJ.2 hd;have ho:=Ri.out.below aK hb;refine lU rfl (.tmp 47) (.tmp 60) rfl Tryz.P7 aK s rfl rfl hbx.cell ho rfl (by rw [Ak.out,Ro.out];omega) ?_;intro v8 w8 nu kN qM;obtain ⟨a8,c8,e8⟩:∃a c,v8=.slice a (kl+1) c:=(by obtain ⟨a,c,e⟩:=nu.shape;exact ⟨a,c,by rw [e,List.length_append,Ak.out,Ro.out];rfl⟩);subst e8;exact hK _ _ ⟨fun _=>kN,fun h=>absurd rfl h⟩ ⟨a8,c8,rfl,nu,qM.imp id (fun ⟨g,e,h⟩=>⟨g,e,Nat.le_trans hb.size h⟩),grownBy_trans (aY hb _) kN⟩
  ·have e0:vs1 0=iP X 0:=hall 0 (by omega) (by simp [hn])
   simp only [e0] at hK⊢;go_wp2;exact hK _ _ ⟨iD rfl,fun _=>iB⟩ rfl
  ·have e19:vs1 19=iP X 0:=hall 19 (by omega) (by simp [hn])
   simp only [e19] at hK⊢;go_wp2;exact hK _ _ ⟨iD rfl,fun _=>iB⟩ rfl
 case hend =>
  intro done vs1 wx hJ hdn hv;obtain ⟨e0,e1,e2,e3,e4,e5,e6,e7,e8,e9,e10,e11,e12,e13,e14,e15,e16,-,⟨a8,c8,e18,nu,qM,kN⟩,e19,e20,-⟩:=hv;simp only [eP] at e0 e1 e2 e3 e4 e5 e6 e7 e8 e9 e10 e11 e12 e13 e14 e15 e16 e19 e20;simp only [aJ,Act.put,Nat.reduceAdd,Nat.zero_add,pS];rw [e0,e1,e2,e3,e4,e5,e6,e7,e8,e9,e10,e11,e12,e13,e14,e15,e16,e18,e19,e20];clear e0 e1 e2 e3 e4 e5 e6 e7 e8 e9 e10 e11 e12 e13 e14 e15 e16 e18 e19 e20 hol;have QO:=IX.out.box.grown kN (fun e=>IX.out.nI.k e.symm);have k8:=QO.cell 3 _ rfl;have t8:=QO.thaw 3;obtain ⟨hP,WU⟩:=IX.out.VK nu kN qM (List.prefix_append _ _) (fun a ha=>by have:=gG.out.reK a ha;have h2:=Ak.out;exact ⟨by omega,by omega⟩);rw [←HST.out] at hP;have HF:=iH hP;have zF:=iH ((Ll.out.grown kN (fun b hb=>by
   rcases HOW.out with e | ⟨b2,e,hge⟩
   ·exact .inl (.inr (by rw [←hb,e]))
   ·rw [e] at hb;cases hb;exact .inr hge)).set1 (k:=X) (.inl (.inl rfl)) 3 (.slice a8 (kl+1) c8))
  have Zx:=iH (show (Value.slice a8 (kl+1) c8).ownBlock=(Value.slice ak x.K.length ck).ownBlock∨∃b,(Value.slice a8 (kl+1) c8).ownBlock=some b∧w1.heap.size≤b from by
   rcases qM with e | ⟨b,e,hge⟩
   ·rw [e];exact HOW.out
   ·exact .inr ⟨b,e,Nat.le_trans Ll.out.size hge⟩)
  have XI:=iH (show ∀b,(Z' b∨some b=(Value.slice a8 (kl+1) c8).ownBlock)→Z b∨w1.heap.size≤b from fun b hb=>by
   rcases hb with hb | hb
   ·exact Q4.out b hb
   ·rcases Zx.out with e | ⟨b2,e,hge⟩
    ·exact .inl (wL.out.own b (.inr (.inr (.inr (.inr (by rw [hb,e]))))))
    ·rw [e] at hb;cases hb;exact .inr hge)
  have Q7:=iH (HF.out.box.cell 3 _ rfl);clear hP WU nu kN qM QO;go_wp2
  go_roundw
  case rel=>exact ⟨q+1,_,_,by have:=Ro.out;omega,HF,XI,Zx,zF⟩
  case measure=>rw [Q7.out,RS.out];show U - (kl+1)<U - kl;omega
end Go.Proofs.YtbngpjdflblffaaGreatDoor
