/- A part of the proof, laid together from: CluE. -/
import Derived.Test.YtbngpjdflblffaaGreatDoorPa34
set_option linter.all false
set_option maxRecDepth 100000
set_option maxHeartbeats 12800000
namespace Go.Tk
open Go Go.RowKit
structure TV (w:World) (g r:Nat) (R:dL) (ae:Option Addr) (ce:Nat) (al:Option Addr) (cl:Nat) (ap:Option Addr) (cp:Nat) (az:Option Addr) (cz:Nat) (S:Nat→Prop):Prop where
 c0:w.cell? ⟨g,r*7,none⟩=some (iI R.log.base)
 c1:w.cell? ⟨g,r*7+1,none⟩=some (.slice ae R.log.entries.length ce)
 c2:w.cell? ⟨g,r*7+2,none⟩=some (iS R.snap)
 c3:w.cell? ⟨g,r*7+3,none⟩=some (iI R.state.index)
 c4:w.cell? ⟨g,r*7+4,none⟩=some (.slice al R.state.au.length cl)
 c5:w.cell? ⟨g,r*7+5,none⟩=some (.slice ap R.state.pairs.length cp)
 c6:w.cell? ⟨g,r*7+6,none⟩=some (.slice az R.state.af.length cz)
 rp:dh w R (.slice ae R.log.entries.length ce) (.slice al R.state.au.length cl) (.slice ap R.state.pairs.length cp) (.slice az R.state.af.length cz) S
 gl:g<w.heap.size
theorem eB.row {ER EC EM EK:Nat} {w:World} {X g cap:Nat} {vc vm vk:Value} {x:bS} {Z:Nat→Prop} (h:eB ER EC EM EK w X (.slice (some ⟨g,0,none⟩) 3 cap) vc vm vk x Z) {r:Nat} (hr:r<3) (hl:x.kP.length=3) :
 ∃ae ce al cl ap cp az cz,TV w g r (dw x.K (aU x r)) ae ce al cl ap cp az cz (fun b=>Z b∧¬ wQ X (.slice (some ⟨g,0,none⟩) 3 cap) vc vm vk b):=by
 obtain ⟨g2,cap2,ve,vl,vp,vz,hv,-,-,hc,hp⟩:=h.oL (r:=r) (by omega);rw [hl] at hv;simp only [Value.slice.injEq,Option.some.injEq,Addr.mk.injEq,true_and,and_true] at hv;obtain ⟨rfl,rfl⟩:=hv;obtain ⟨ae,ce,rfl,-,-,-,-⟩:=id hp.lD;obtain ⟨al,cl,rfl,-,-,-,-⟩:=id hp.st.lock;obtain ⟨ap,cp,rfl,-,-,-,-⟩:=id hp.st.pair;obtain ⟨az,cz,rfl,-,-,-,-⟩:=id hp.st.dG;have h0:=hc 0 _ rfl;exact ⟨ae,ce,al,cl,ap,cp,az,cz,h0,hc 1 _ rfl,hc 2 _ rfl,hc 3 _ rfl,hc 4 _ rfl,hc 5 _ rfl,hc 6 _ rfl,hp,World.block_lt_of_cell? w _ h0⟩
theorem NS {w:World} {b:Nat} {s:Bytes} (h:aD w b [iS s]):aZ 1 iw w (.slice (some ⟨b,0,none⟩) 1 1) [s] (fun _=>True) :=
 ⟨_,_,rfl,Nat.le_refl _,by decide,(fun h=>by cases h),fun i x hx=>⟨b,0,[iS s],rfl,trivial,by
  match i,hx with
  | 0,hx=>cases hx;rfl,fun q u hu=>by
  match i,hx,q,hu with
  | 0,_,0,hu=>exact h.cell 0 _ hu⟩⟩
theorem Qe {K:List Bytes} {n:Nat} {a:RA} (_h:lJ K n a) {s:Bytes} (hs:dI s=0):(⟨⟨(dw K a).log.base,a.es++[s]⟩,(dw K a).snap,(dw K a).state⟩:dL)=dw K (lX a (bQ a) [s]):=by
 have:=yu [s] a.es (by simpa using hs);simp only [lX,bQ,Nat.add_sub_cancel_left,this]
 rfl
end Go.Tk
namespace Go.Proofs.YtbngpjdflblffaaGreatDoor
open Go.RowKit Go.Tk
theorem xV (m n:Nat) (x:bS) (X:Nat) (Z:Nat→Prop) (w:World) (h:gW 45 73 101 9 w X x Z) (hok:aT m n x) (hn:n<400) (s:Bytes) (c:Int) (hs:c=0→dI s=0) :
 Calls Tryz.prog 120 #[iP X 0, iS s, iI c] w fun e w'=>e=.returned (iI (lH x (s,c)).2)∧eY 45 73 101 9 w X Z w' (lH x (s,c)).1:=by
 by_cases h0:c=0
 case neg =>
  rw [lH,if_pos h0];have hcb:(c != 0)=true:=by simpa using h0
  have HH:=iH h;clear h0 hs h hok
  go_enter Tryz.func120,Tryz.ntmps120
  go_wp2;go_ret;exact ⟨rfl,Z,HH.out,fun b hb=>.inl hb,aX.refl _ _⟩
 have hds:=hs h0;have HD:=iH hds;rw [lH,if_neg (by simpa using h0)];subst h0;have gG:=iH hok;have hlen:=hok.len;have hlead:=hok.lead;have hL3:(x.lead:Int)<3:=by omega
 obtain ⟨vr,vc,vm,vk,hm⟩:=h;obtain ⟨g,cap,-,-,-,-,hv,hcap,hmax,-,-⟩:=hm.oL (r:=0) (by omega);rw [hlen] at hv hcap;subst hv;unfold maxLen at hmax;obtain ⟨ae,ce,al,cl,ap,cp,az,cz,hrow⟩:=hm.row hlead hlen;have K3:=iH (hok.kQ.fine hok.tL hok.n4);have Vn:=iH (Qe (s:=s) hok.kQ hds);have hln:=hok.kQ.ln;have hil:=hok.kQ.il;unfold bQ at hln hil;obtain ⟨R,hR⟩:∃R,dw x.K (aP x)=R:=⟨_,rfl⟩;have hRe:R.log.entries=(aP x).es:=by rw [←hR];rfl
 have hRb:R.log.base=((aP x).b:Int):=by rw [←hR];rfl
 have Yq:R.state.index=((aP x).i:Int):=by rw [←hR];exact (hok.kQ.state hok.tL).2
 rw [show dw x.K (aU x x.lead)=R from hR] at hrow;rw [hR] at K3 Vn;rw [←hRe] at Vn;have Vm:=iH hRe;have Q9:=iH hRb;have HRi:=iH Yq;have hone:=hm.nV.oneCell;have kL:=hm.jh.oneCell;have qb:=hm.comm.oneCell;have HM:=iH hm;have HRW:=iH hrow;clear hRe hRb Yq hR hm hok hs hds hrow;have x0:=HM.out.box.cell 0 _ rfl;have x4:=HM.out.box.cell 4 _ rfl;have xY:=HM.out.box.lt;have hgl:=HRW.out.gl;have c0:=HRW.out.c0;have c1:=HRW.out.c1;have c2:=HRW.out.c2;have c3:=HRW.out.c3;have c4:=HRW.out.c4;have c5:=HRW.out.c5;have c6:=HRW.out.c6
 go_enter Tryz.func120,Tryz.ntmps120
 go_upto_region 3 with (fail);go_region;have hba:Below w.heap.size w (w.alloc (.cells #[iI R.log.base, .slice ae R.log.entries.length ce, iS R.snap, iI R.state.index, .slice al R.state.au.length cl, .slice ap R.state.pairs.length cp, .slice az R.state.af.length cz] 45)).drew:=Below.drew (aj w _);have HT:=iH (aD.drew (aD.new (w:=w) (cs:=[iI R.log.base, .slice ae R.log.entries.length ce, iS R.snap, iI R.state.index, .slice al R.state.au.length cl, .slice ap R.state.pairs.length cp, .slice az R.state.af.length cz]) (E:=45)));clear x0 x4 c0 c1 c2 c3 c4 c5 c6;have hgs:=hgl;have wL:=iH (HM.out.below hba);have KX:=iH (HRW.out.rp.below hba);have HB:=iH hba;have O0:=iH (And.intro hgl (And.intro HRW.out.c0 (And.intro HRW.out.c1 (And.intro HRW.out.c2 (And.intro HRW.out.c3 (And.intro HRW.out.c4 (And.intro HRW.out.c5 HRW.out.c6)))))));clear HRW HM;generalize (w.alloc (.cells #[iI R.log.base, .slice ae R.log.entries.length ce, iS R.snap, iI R.state.index, .slice al R.state.au.length cl, .slice ap R.state.pairs.length cp, .slice az R.state.af.length cz] 45)).drew=w1 at *;obtain ⟨B7,MK⟩:∃B7,w.heap.size=B7:=⟨_,rfl⟩;rw [MK] at HT xY hgl hgs⊢;have qZ:=iH MK;clear MK;refine eZ (fun wx=>w1=wx) rfl ?_;rintro _ rfl;have Le:0≤R.log.base:=by rw [Q9.out];omega
 have hA1:R.log.base+(R.log.entries.length:Int)≤(n:Int):=by rw [Q9.out,Vm.out];omega
 have hA2:R.state.index≤R.log.base+(R.log.entries.length:Int):=by rw [Q9.out,Vm.out,HRi.out];omega
 have hA3:R.log.entries.length+[s].length≤400:=by simp only [List.length_cons,List.length_nil];omega
 obtain ⟨R2,hR2⟩:∃R2,dw x.K (lX (aP x) (bQ (aP x)) [s])=R2:=⟨_,rfl⟩;have Xx:=iH (Vn.out.trans hR2);have HR2:=iH hR2;clear Vn hR2;go_upto_region 4 with (fail)
 refine dO 12 (fun _ wx=>Below w1.heap.size w1 wx) (fun i vs x wx wy=>(i=11→∃(b:Nat) (us:List Value),vs 10=iP b 0∧us.length=7∧w1.heap.size≤b∧wy=wx.setCells b 0 us)∧(i=10→x=iP (wx.heap.size) 0∧wy=wx.alloc (.cells #[iI 0, iN, .string ⟨#[]⟩, iI 0, iN, iN, iN] 45))∧(i≠11→Below wx.heap.size wx wy)) [eP (.agg #[iI R.log.base, .slice ae R.log.entries.length ce, iS R.snap, iI R.state.index, .slice al R.state.au.length cl, .slice ap R.state.pairs.length cp, .slice az R.state.af.length cz]),eP (iP B7 0),eP (.agg #[iI R.log.base, .slice ae R.log.entries.length ce]),eP (iI (R.log.base+(R.log.entries.length:Int))),eP (iS s),(fun done _ v wx=>∃q:Nat,v=.slice (some ⟨q,0,none⟩) 1 1∧w1.heap.size≤q∧(done 11=false→aD wx q [iS s])),(fun done vs v wx=>∃(pe pl pp pz:Option Addr) (ne nl np nz:Nat) (lo hi:Nat),v=.tuple #[.agg #[iI R2.log.base, .slice pe R2.log.entries.length ne, iS R2.snap, iI R2.state.index, .slice pl R2.state.au.length nl, .slice pp R2.state.pairs.length np, .slice pz R2.state.af.length nz], iI 0]∧dh wx R2 (.slice pe R2.log.entries.length ne) (.slice pl R2.state.au.length nl) (.slice pp R2.state.pairs.length np) (.slice pz R2.state.af.length nz) (fun q=>lo≤q∧q<hi)∧w1.heap.size≤lo∧hi≤wx.heap.size∧(done 10=true→∀b,vs 10=iP b 0→b<lo∨hi≤b)),(fun _ vs v _=>v=vs 6∧∃(pe pl pp pz:Option Addr) (ne nl np nz:Nat),v=.tuple #[.agg #[iI R2.log.base, .slice pe R2.log.entries.length ne, iS R2.snap, iI R2.state.index, .slice pl R2.state.au.length nl, .slice pp R2.state.pairs.length np, .slice pz R2.state.af.length nz], iI 0]),(fun _ vs v _=>∃(pe pl pp pz:Option Addr) (ne nl np nz:Nat),vs 7=.tuple #[.agg #[iI R2.log.base, .slice pe R2.log.entries.length ne, iS R2.snap, iI R2.state.index, .slice pl R2.state.au.length nl, .slice pp R2.state.pairs.length np, .slice pz R2.state.af.length nz], iI 0]∧v=.agg #[iI R2.log.base, .slice pe R2.log.entries.length ne, iS R2.snap, iI R2.state.index, .slice pl R2.state.au.length nl, .slice pp R2.state.pairs.length np, .slice pz R2.state.af.length nz]),eP (iI 0),(fun _ _ v wx=>l6 w1.heap.size 7 v wx),(fun done vs _ wx=>done 6=true∧∃(pe pl pp pz:Option Addr) (ne nl np nz:Nat) (lo hi b:Nat),vs 6=.tuple #[.agg #[iI R2.log.base, .slice pe R2.log.entries.length ne, iS R2.snap, iI R2.state.index, .slice pl R2.state.au.length nl, .slice pp R2.state.pairs.length np, .slice pz R2.state.af.length nz], iI 0]∧vs 10=iP b 0∧aD wx b [iI R2.log.base, .slice pe R2.log.entries.length ne, iS R2.snap, iI R2.state.index, .slice pl R2.state.au.length nl, .slice pp R2.state.pairs.length np, .slice pz R2.state.af.length nz]∧dh wx R2 (.slice pe R2.log.entries.length ne) (.slice pl R2.state.au.length nl) (.slice pp R2.state.pairs.length np) (.slice pz R2.state.af.length nz) (fun q=>lo≤q∧q<hi)∧w1.heap.size≤lo∧hi≤wx.heap.size∧(b<lo∨hi≤b)∧w1.heap.size≤b)] (by kernel_rfl) (by kernel_rfl) rfl ?hJ ?jP ?hst ?hself ?ek ?hend
 case hJ=>exact Below.drew iB
 case jP =>
  intro i done vs1 x wx wy hi hdi h1 h2
  by_cases h:i=11
  ·obtain ⟨b,us,-,-,hL,rfl⟩:=h2.1 h
   exact bG hL us 0 _ h1
  ·exact ah h1 (h2.2.2 h)
 case hst =>
  intro i j done vs1 x wa wb hi hj hne hdi hdj hwf hJ hS GG hV
  match j,hj with
  | 0,_=>exact hV
  | 1,_=>exact hV
  | 2,_=>exact hV
  | 3,_=>exact hV
  | 4,_=>exact hV
  | 5,_ =>
    obtain ⟨q,e,h1,h2⟩:=hV
    by_cases h:i=11
    ·subst h
     exact ⟨q,e,h1,fun hd=>by simp [bJ] at hd⟩
    ·exact ⟨q,e,h1,fun hd=>(h2 (by simpa [bJ,Ne.symm h] using hd)).below (hS.2.2 h)⟩
  | 6,_ =>
    by_cases hs:i=11
    ·subst hs
     obtain ⟨-,pe,pl,pp,pz,ne,nl,np,nz,lo,hi,b,e1,e2,-,h3,h4,h5,h6,-⟩:=GG;refine ⟨pe,pl,pp,pz,ne,nl,np,nz,lo,hi,e1,h3,h4,h5,fun hd b2 hb2=>?_⟩;have hb3:vs1 10=iP b2 0:=hb2;rw [e2] at hb3;simp only [Value.pointer.injEq,Option.some.injEq,Addr.mk.injEq,and_true] at hb3;subst hb3;exact h6
    ·obtain ⟨pe,pl,pp,pz,ne,nl,np,nz,lo,hi,e1,h3,h4,h5,h6⟩:=hV
     have hb:=hS.2.2 hs;refine ⟨pe,pl,pp,pz,ne,nl,np,nz,lo,hi,e1,h3.below hb,h4,Nat.le_trans h5 hb.size,fun hd b2 hb2=>?_⟩
     by_cases ha:i=10
     ·subst ha
      have hx:=(hS.2.1 rfl).1;have hb3:x=iP b2 0:=hb2;rw [hx] at hb3;simp only [Value.pointer.injEq,Option.some.injEq,Addr.mk.injEq,and_true] at hb3;exact .inr (by omega)
     ·have hd2:done 10=true:=by simpa [bJ,Ne.symm ha] using hd
      have hb3:vs1 10=iP b2 0:=by simpa [dm,Ne.symm ha] using hb2
      exact h6 hd2 b2 hb3
  | 7,_ =>
    have h2:¬ 6=i:=by
     intro h;subst h;exact absurd (Eq.trans (show false=Region.waitsFor Region.Mode.any _ 7 6 from hwf.symm) (show _=true by kernel_rfl)) (by decide)
    exact ⟨Eq.trans hV.1 (by simp [dm,h2]),hV.2⟩
  | 8,_ =>
    have h2:¬ 7=i:=by
     intro h;subst h;exact absurd (Eq.trans (show false=Region.waitsFor Region.Mode.any _ 8 7 from hwf.symm) (show _=true by kernel_rfl)) (by decide)
    obtain ⟨pe,pl,pp,pz,ne,nl,np,nz,e1,e2⟩:=hV;exact ⟨pe,pl,pp,pz,ne,nl,np,nz,by simp [dm,h2];exact e1,e2⟩
  | 9,_=>exact hV
  | 10,_ =>
    by_cases h:i=11
    ·obtain ⟨b,us,-,hl,hL,e⟩:=hS.1 h
     exact l6.store hV ⟨b,us,hl,hL,e⟩
    ·exact l6.below hV (hS.2.2 h)
  | 11,_ =>
    have h1:i≠11:=fun h=>hne h
    have h2:¬ 6=i:=by
     intro h;subst h;exact absurd (Eq.trans (show false=Region.waitsFor Region.Mode.any _ 11 6 from hwf.symm) (show _=true by kernel_rfl)) (by decide)
    have h3:¬ 10=i:=by
     intro h;subst h;exact absurd (Eq.trans (show false=Region.waitsFor Region.Mode.any _ 11 10 from hwf.symm) (show _=true by kernel_rfl)) (by decide)
    have hb:=hS.2.2 h1;obtain ⟨hdc,pe,pl,pp,pz,ne,nl,np,nz,lo,hi,b,e1,e2,g1,g2,g3,g4,g5,g6⟩:=hV;exact ⟨by simp [bJ,hdc],pe,pl,pp,pz,ne,nl,np,nz,lo,hi,b,by simp [dm,h2];exact e1,by simp [dm,h3];exact e2,g1.below hb,g2.below hb,g3,Nat.le_trans g4 hb.size,g5,g6⟩
  | n+12,hj=>exact absurd hj (by omega)
 case hself =>
  intro i done vs1 v w hi hV
  match i,hi with
  | 0,_=>exact hV
  | 1,_=>exact hV
  | 2,_=>exact hV
  | 3,_=>exact hV
  | 4,_=>exact hV
  | 5,_ =>
    obtain ⟨q,e,h1,h2⟩:=hV;exact ⟨q,e,h1,fun hd=>h2 (by simpa [bJ] using hd)⟩
  | 6,_ =>
    obtain ⟨pe,pl,pp,pz,ne,nl,np,nz,lo,hi,e1,h3,h4,h5,h6⟩:=hV;exact ⟨pe,pl,pp,pz,ne,nl,np,nz,lo,hi,e1,h3,h4,h5,fun hd b hb=>h6 (by simpa [bJ] using hd) b (by simpa [dm] using hb)⟩
  | 7,_=>exact ⟨Eq.trans hV.1 (by simp [dm]),hV.2⟩
  | 8,_ =>
    obtain ⟨pe,pl,pp,pz,ne,nl,np,nz,e1,e2⟩:=hV;exact ⟨pe,pl,pp,pz,ne,nl,np,nz,by simp [dm];exact e1,e2⟩
  | 9,_=>exact hV
  | 10,_=>exact hV
  | 11,_ =>
    obtain ⟨hdc,pe,pl,pp,pz,ne,nl,np,nz,lo,hi,b,e1,e2,g⟩:=hV;exact ⟨by simp [bJ,hdc],pe,pl,pp,pz,ne,nl,np,nz,lo,hi,b,by simp [dm];exact e1,by simp [dm];exact e2,g⟩
  | n+12,hi=>exact absurd hi (by omega)
 case ek =>
  simp only [gm,aJ,Act.put,Nat.reduceAdd,Nat.zero_add,pS];refine ⟨?_,?_,?_,?_,?_,?_,?_,?_,?_,?_,?_,?_,trivial⟩
  all_goals
   intro done vs1 wx hJ hd hall hn K hK;simp [Region.binds] at hn;simp only [mM,eP,Act.put,Nat.reduceAdd,Nat.zero_add,pS] at hK
  ·have ht:=HT.out.below hJ
   obtain ⟨x0,x1,x2,x3,x4,x5,x6⟩:=gM ht;go_wp2;exact hK _ _ ⟨iD rfl,iD rfl,fun _=>iB⟩ rfl
  ·go_wp2
   exact hK _ _ ⟨iD rfl,iD rfl,fun _=>iB⟩ rfl
  ·have e1:vs1 1=iP B7 0:=hall 1 (by omega) (by simp [hn])
   simp only [e1] at hK⊢;have ht:=HT.out.below hJ;obtain ⟨x0,x1⟩:=qw ht;go_wp2;exact hK _ _ ⟨iD rfl,iD rfl,fun _=>iB⟩ rfl
  ·have e2:vs1 2=.agg #[iI R.log.base, .slice ae R.log.entries.length ce]:=hall 2 (by omega) (by simp [hn])
   simp only [e2] at hK⊢;have hsx:=KX.out.lD.below aK (by decide) hJ
   go_wp2_with fail
   refine (gF R.log _ _ wx hsx (by omega) (by omega)).mono ?_;rintro e w5 ⟨rfl,hb5⟩;go_wp2;exact hK _ _ ⟨iD rfl,iD rfl,fun _=>hb5⟩ rfl
  ·go_wp2
   exact hK _ _ ⟨iD rfl,iD rfl,fun _=>iB⟩ rfl
  ·have e4:vs1 4=iS s:=hall 4 (by omega) (by simp [hn])
   simp only [e4] at hK⊢;go_wp2;exact hK _ _ ⟨iD rfl,iD rfl,fun _=>aj wx _⟩ ⟨_,rfl,hJ.size,fun _=>aD.new⟩
  ·have e0:vs1 0=.agg #[iI R.log.base, .slice ae R.log.entries.length ce, iS R.snap, iI R.state.index, .slice al R.state.au.length cl, .slice ap R.state.pairs.length cp, .slice az R.state.af.length cz]:=hall 0 (by omega) (by simp [hn])
   have e3:vs1 3=iI (R.log.base+(R.log.entries.length:Int)):=hall 3 (by omega) (by simp [hn]);simp only [e0,e3] at hK⊢;have hds:done 11=false:=by
    cases hq:done 11 with
    | false=>rfl
    | true =>
      obtain ⟨hdc,-⟩:((fun done vs _ wx=>done 6=true∧∃(pe pl pp pz:Option Addr) (ne nl np nz:Nat) (lo hi b:Nat),vs 6=.tuple #[.agg #[iI R2.log.base, .slice pe R2.log.entries.length ne, iS R2.snap, iI R2.state.index, .slice pl R2.state.au.length nl, .slice pp R2.state.pairs.length np, .slice pz R2.state.af.length nz], iI 0]∧vs 10=iP b 0∧aD wx b [iI R2.log.base, .slice pe R2.log.entries.length ne, iS R2.snap, iI R2.state.index, .slice pl R2.state.au.length nl, .slice pp R2.state.pairs.length np, .slice pz R2.state.af.length nz]∧dh wx R2 (.slice pe R2.log.entries.length ne) (.slice pl R2.state.au.length nl) (.slice pp R2.state.pairs.length np) (.slice pz R2.state.af.length nz) (fun q=>lo≤q∧q<hi)∧w1.heap.size≤lo∧hi≤wx.heap.size∧(b<lo∨hi≤b)∧w1.heap.size≤b):VE) done vs1 (vs1 11) wx:=hall 11 (by omega) hq;rw [hd] at hdc;cases hdc
   obtain ⟨q5,e5,TE,hbq⟩:((fun done _ v wx=>∃q:Nat,v=.slice (some ⟨q,0,none⟩) 1 1∧w1.heap.size≤q∧(done 11=false→aD wx q [iS s])):VE) done vs1 (vs1 5) wx:=hall 5 (by omega) (by simp [hn]);have WC:=hbq hds;simp only [e5] at hK⊢;have hsx:=KX.out.below hJ
   go_wp2_with fail
   refine (zb R (dF x.K (aP x).b) _ _ _ _ _ wx hsx K3.out (R.log.base+(R.log.entries.length:Int)) [s] (R.log.entries++[s]) _ _ (NS WC) (by simpa using HD.out) ⟨by omega,by omega⟩ (L6 (b:=R.log.base) (es:=R.log.entries) (more:=[s]) K3.out.log (by simpa using HD.out) rfl hA3) (by simp only [List.length_append,List.length_cons,List.length_nil];omega) (by simp only [List.length_append,List.length_cons,List.length_nil];omega) (fun j hj=>List.getElem?_append_left (by omega))).mono ?_;rw [Xx.out];rintro e w9 ⟨ve,vl,vp,vz,rfl,jo,gQ⟩;obtain ⟨pe,ne,rfl,-,-,-,-⟩:=id jo.lD;obtain ⟨pl,nl,rfl,-,-,-,-⟩:=id jo.st.lock;obtain ⟨pp,np,rfl,-,-,-,-⟩:=id jo.st.pair;obtain ⟨pz,nz,rfl,-,-,-,-⟩:=id jo.st.dG;have hr:dh w9 R2 (.slice pe R2.log.entries.length ne) (.slice pl R2.state.au.length nl) (.slice pp R2.state.pairs.length np) (.slice pz R2.state.af.length nz) (fun q=>wx.heap.size≤q∧q<w9.heap.size):=jo.sub fun b hb hl=>⟨hb,hl⟩
   go_wp2;refine hK _ _ ⟨iD rfl,iD rfl,fun _=>gQ⟩ ⟨pe,pl,pp,pz,ne,nl,np,nz,wx.heap.size,w9.heap.size,rfl,hr,hJ.size,Nat.le_refl _,fun hd b hb=>?_⟩;obtain ⟨b2,cs2,-,e2,-,hbx⟩:l6 w1.heap.size 7 (vs1 10) wx:=hall 10 (by omega) hd;rw [hb] at e2;simp only [Value.pointer.injEq,Option.some.injEq,Addr.mk.injEq,and_true] at e2;subst e2;exact .inl hbx.lt
  ·obtain ⟨pe,pl,pp,pz,ne,nl,np,nz,lo,hi,e5,-⟩:((fun done vs v wx=>∃(pe pl pp pz:Option Addr) (ne nl np nz:Nat) (lo hi:Nat),v=.tuple #[.agg #[iI R2.log.base, .slice pe R2.log.entries.length ne, iS R2.snap, iI R2.state.index, .slice pl R2.state.au.length nl, .slice pp R2.state.pairs.length np, .slice pz R2.state.af.length nz], iI 0]∧dh wx R2 (.slice pe R2.log.entries.length ne) (.slice pl R2.state.au.length nl) (.slice pp R2.state.pairs.length np) (.slice pz R2.state.af.length nz) (fun q=>lo≤q∧q<hi)∧w1.heap.size≤lo∧hi≤wx.heap.size∧(done 10=true→∀b,vs 10=iP b 0→b<lo∨hi≤b)):VE) done vs1 (vs1 6) wx:=hall 6 (by omega) (by simp [hn])
   simp only [e5] at hK⊢;go_wp2;exact hK _ _ ⟨iD rfl,iD rfl,fun _=>iB⟩ ⟨rfl,pe,pl,pp,pz,ne,nl,np,nz,rfl⟩
  ·obtain ⟨pe,pl,pp,pz,ne,nl,np,nz,e6⟩:∃(pe pl pp pz:Option Addr) (ne nl np nz:Nat),vs1 7=.tuple #[.agg #[iI R2.log.base, .slice pe R2.log.entries.length ne, iS R2.snap, iI R2.state.index, .slice pl R2.state.au.length nl, .slice pp R2.state.pairs.length np, .slice pz R2.state.af.length nz], iI 0]:=(hall 7 (by omega) (by simp [hn])).2
   simp only [e6] at hK⊢;go_wp2;exact hK _ _ ⟨iD rfl,iD rfl,fun _=>iB⟩ ⟨pe,pl,pp,pz,ne,nl,np,nz,rfl,rfl⟩
  ·obtain ⟨pe,pl,pp,pz,ne,nl,np,nz,e6⟩:∃(pe pl pp pz:Option Addr) (ne nl np nz:Nat),vs1 7=.tuple #[.agg #[iI R2.log.base, .slice pe R2.log.entries.length ne, iS R2.snap, iI R2.state.index, .slice pl R2.state.au.length nl, .slice pp R2.state.pairs.length np, .slice pz R2.state.af.length nz], iI 0]:=(hall 7 (by omega) (by simp [hn])).2
   simp only [e6] at hK⊢;go_wp2;exact hK _ _ ⟨iD rfl,iD rfl,fun _=>iB⟩ rfl
  ·go_wp2
   exact hK _ _ ⟨iD rfl,fun _=>⟨rfl,rfl⟩,fun _=>aj wx _⟩ (l6.new _ [iI 0, iN, .string ⟨#[]⟩, iI 0, iN, iN, iN] _ hJ.size)
  ·obtain ⟨pe,pl,pp,pz,ne,nl,np,nz,lo,hi,e5,h3,h4,h5,h6⟩:((fun done vs v wx=>∃(pe pl pp pz:Option Addr) (ne nl np nz:Nat) (lo hi:Nat),v=.tuple #[.agg #[iI R2.log.base, .slice pe R2.log.entries.length ne, iS R2.snap, iI R2.state.index, .slice pl R2.state.au.length nl, .slice pp R2.state.pairs.length np, .slice pz R2.state.af.length nz], iI 0]∧dh wx R2 (.slice pe R2.log.entries.length ne) (.slice pl R2.state.au.length nl) (.slice pp R2.state.pairs.length np) (.slice pz R2.state.af.length nz) (fun q=>lo≤q∧q<hi)∧w1.heap.size≤lo∧hi≤wx.heap.size∧(done 10=true→∀b,vs 10=iP b 0→b<lo∨hi≤b)):VE) done vs1 (vs1 6) wx:=hall 6 (by omega) (by simp [hn])
   have e6:vs1 7=vs1 6:=(hall 7 (by omega) (by simp [hn])).1;obtain ⟨Qj,Pp,Po,Pn,ne',nl',Pv,Pt,f6,e7⟩:((fun _ vs v _=>∃(pe pl pp pz:Option Addr) (ne nl np nz:Nat),vs 7=.tuple #[.agg #[iI R2.log.base, .slice pe R2.log.entries.length ne, iS R2.snap, iI R2.state.index, .slice pl R2.state.au.length nl, .slice pp R2.state.pairs.length np, .slice pz R2.state.af.length nz], iI 0]∧v=.agg #[iI R2.log.base, .slice pe R2.log.entries.length ne, iS R2.snap, iI R2.state.index, .slice pl R2.state.au.length nl, .slice pp R2.state.pairs.length np, .slice pz R2.state.af.length nz]):VE) done vs1 (vs1 8) wx:=hall 8 (by omega) (by simp [hn]);rw [e6,e5] at f6;simp [and_assoc] at f6;obtain ⟨rfl,rfl,rfl,rfl,rfl,rfl,rfl,rfl⟩:=f6;obtain ⟨b,cs,hcl,e9,hL,hbx⟩:l6 w1.heap.size 7 (vs1 10) wx:=hall 10 (by omega) (by simp [hn]);obtain ⟨z0,z1,z2,z3,z4,z5,z6,rfl⟩:∃z0 z1 z2 z3 z4 z5 z6,cs=[z0,z1,z2,z3,z4,z5,z6]:=by
    match cs,hcl with
    | [z0,z1,z2,z3,z4,z5,z6],_=>exact ⟨z0,z1,z2,z3,z4,z5,z6,rfl⟩
   have hap:=h6 (by simp [hn]) b e9;simp only [e7,e9] at hK⊢;obtain ⟨y0,y1,y2,y3,y4,y5,y6⟩:=gM hbx;obtain ⟨t0,t1,t2,t3,t4,t5,t6⟩:=sK hbx;go_wp2;exact hK undef (wx.setCells b 0 [iI R2.log.base, .slice pe R2.log.entries.length ne, iS R2.snap, iI R2.state.index, .slice pl R2.state.au.length nl, .slice pp R2.state.pairs.length np, .slice pz R2.state.af.length nz]) ⟨fun _=>⟨b,[iI R2.log.base, .slice pe R2.log.entries.length ne, iS R2.snap, iI R2.state.index, .slice pl R2.state.au.length nl, .slice pp R2.state.pairs.length np, .slice pz R2.state.af.length nz],rfl,rfl,hL,rfl⟩,iD rfl,fun h=>absurd rfl h⟩ ⟨by simp [hn],pe,pl,pp,pz,ne,nl,np,nz,lo,hi,b,e5,rfl,hbx.storeAll _ rfl,dh.store h3 0 _ (fun q hq=>⟨by have h1:=hq.1;have h2:=hq.2;omega,hq⟩),h4,Nat.le_trans h5 (bG (Nat.zero_le _) _ 0 _ (Below.refl 0 _)).size,hap,hL⟩
 case hend =>
  intro done vs1 wx hJ hdn hv;obtain ⟨e0,e1,e2,e3,e4,-,e6,-,-,e9,-,⟨-,pe,pl,pp,pz,ne,nl,np,nz,lo,hi,b,eC,eA,hbx,hrl,hlo,hhi,hap,hbL⟩,-⟩:=hv;simp only [eP] at e0 e1 e2 e3 e4 e9;simp only [aJ,Act.put,Nat.reduceAdd,Nat.zero_add,pS];rw [eA,e0,e1,e2,e3,e4,e9];clear eA eC e0 e1 e2 e3 e4 e9;have lM:=iH (wL.out.below hJ);have HU:=iH hbx;have EO:=iH hrl;obtain ⟨Bw,q0,q1,Jn,q3,q4,q5,q6⟩:=O0.out;have HB2:=iH (ah HB.out hJ);clear hbx hrl;have c0:=aB q0 (HB2.out.block g Bw);have c1:=aB q1 (HB2.out.block g Bw);have c2:=aB Jn (HB2.out.block g Bw);have c3:=aB q3 (HB2.out.block g Bw);have c4:=aB q4 (HB2.out.block g Bw);have c5:=aB q5 (HB2.out.block g Bw);have c6:=aB q6 (HB2.out.block g Bw);clear q0 q1 Jn q3 q4 q5 q6;have x0:=lM.out.box.cell 0 _ rfl;have x4:=lM.out.box.cell 4 _ rfl;have f0:=lM.out.rep.thaw (x.lead*7);have f1:=lM.out.rep.thaw (x.lead*7+1);have f2:=lM.out.rep.thaw (x.lead*7+2);have f3:=lM.out.rep.thaw (x.lead*7+3);have f4:=lM.out.rep.thaw (x.lead*7+4);have f5:=lM.out.rep.thaw (x.lead*7+5);have f6:=lM.out.rep.thaw (x.lead*7+6);obtain ⟨y0,y1,y2,y3,y4,y5,y6⟩:=gM HU.out;go_upto_region 6 with (fail);go_region
  have hset:=lM.out.yf (r:=x.lead) (a:=lX (aP x) (bQ (aP x)) [s]) (cs:=[iI R2.log.base, .slice pe R2.log.entries.length ne, iS R2.snap, iI R2.state.index, .slice pl R2.state.au.length nl, .slice pp R2.state.pairs.length np, .slice pz R2.state.af.length nz]) (P:=fun q=>lo≤q∧q<hi) (by omega) rfl ⟨_,_,_,_,by rw [HR2.out];rfl,by rw [HR2.out];exact EO.out⟩ (fun b hb hw=>by have h1:=wL.out.lt hw;have h2:=hb.1;omega);generalize bF:((((((((wx.setCell ⟨g,x.lead*7,none⟩ (iI R2.log.base)).setCell ⟨g,x.lead*7+1,none⟩ (.slice pe R2.log.entries.length ne)).setCell ⟨g,x.lead*7+2,none⟩ (iS R2.snap)).setCell ⟨g,x.lead*7+3,none⟩ (iI R2.state.index)).setCell ⟨g,x.lead*7+4,none⟩ (.slice pl R2.state.au.length nl)).setCell ⟨g,x.lead*7+5,none⟩ (.slice pp R2.state.pairs.length np)).setCell ⟨g,x.lead*7+6,none⟩ (.slice pz R2.state.af.length nz))).drew=wf at *;have HF:Hid (eB 45 73 101 9 wf X _ vc vm vk (jU x x.lead (lX (aP x) (bQ (aP x)) [s])) _):=bF▸iH (hset.1.below (Below.drew iB));have zF:Hid (aX Z w wf):=bF▸iH (((aX.of_below HB2.out).trans hset.2 fun _ h=>.inl h).step (Below.drew iB));clear hset;clear bF;refine eZ (fun wx=>wf=wx) rfl ?_;rintro _ rfl;go_wp2;go_ret;exact ⟨rfl,_,⟨_,_,_,_,HF.out⟩,fun b hb=>hb.imp id fun h=>by have h1:=h.1;have h2:=HB.out.size;omega,zF.out⟩
end Go.Proofs.YtbngpjdflblffaaGreatDoor
