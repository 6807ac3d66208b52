/- A part of the proof, laid together from: TopF, EqPair, IdxLock, TopFen. -/
import Derived.Test.YtbngpjdflblffaaGreatDoorPa47
import Derived.Test.YtbngpjdflblffaaGreatDoorPd01
set_option linter.all false
set_option maxRecDepth 100000
set_option maxHeartbeats 12800000
namespace Go.Tk
open Go Go.RowKit
theorem lock_one {b:List aN} (hb:ji b) {k k':aN} (hk:k∈b) (hk':k'∈b) (h:k'.name=k.name):k'=k:=by
 obtain ⟨i,hi,rfl⟩:=List.getElem_of_mem hk;obtain ⟨j,hj,rfl⟩:=List.getElem_of_mem hk';have h1:=(X7 hb hi rfl).2;have h2:=(X7 hb hj h).2;rw [h1] at h2;subst h2
 rfl
theorem fence_now {a b:List aN} (ha:ji a) (hb:ji b) (hN:fP a b) {k:aN} (hk:k∈b) :
 ∃fw ff:Int,jF a k.name=(fw,ff,0)∧(k.holder=fw→fw≠0→ff≤k.fence) ∧
  ((kD (fun y:aN=>y.name == k.name) a=-1∧fw=0) ∨
   ∃(n:Nat) (hn:n<a.length),kD (fun y:aN=>y.name == k.name) a=n∧a[n].fence≤k.fence∧(k.holder≠0→k.holder≠fw→a[n].fence<k.fence)):=by
 have hc:¬ dU a≠0:=by simp [jB.2 ha]
 rcases j6 (fun y:aN=>y.name == k.name) a with ⟨hi,hno⟩ | ⟨n,hn,hi,hpn,-⟩
 ·have hf:eO a k.name=false:=by
   cases ht:eO a k.name
   ·rfl
   ·have h1:=hno _ (List.getElem_mem (jL ht))
    rw [beq_eq_false_iff_ne] at h1;exact absurd (FW ht) h1
  exact ⟨0,0,by rw [jF,if_neg hc,if_pos (.inl hf)],fun _ h=>absurd rfl h, .inl ⟨hi,rfl⟩⟩
 ·have hpn:a[n].name=k.name:=by simpa using hpn
  obtain ⟨ht,hx⟩:=X7 ha hn hpn;obtain ⟨k',hk',hl⟩:=hN _ (List.getElem_mem hn);obtain rfl:=lock_one hb hk hk' (hl.name.trans hpn);have hg:a.getD (bE a k'.name) aO=a[n]:=by rw [hx,List.getD_eq_getElem?_getD,List.getElem?_eq_getElem hn];rfl
  by_cases h0:a[n].holder=0
  ·exact ⟨0,0,by rw [jF,if_neg hc,if_pos (.inr (by rw [hg];exact h0))],fun _ h=>absurd rfl h, .inr ⟨n,hn,hi,hl.fence,fun h1 h2=>hl.given h1 (by rw [h0];exact h2)⟩⟩
  ·exact ⟨a[n].holder,a[n].fence,by rw [jF,if_neg hc,if_neg (by rw [hg];rintro (h | h);rw [ht] at h;cases h;exact h0 h),hg],fun _ _=>hl.fence, .inr ⟨n,hn,hi,hl.fence,fun h1 h2=>hl.given h1 h2⟩⟩
theorem take_eq_succP {α:Type} {l m:List α} {n:Nat} (hl:n<l.length) (hm:n<m.length) (h:l.take n=m.take n) (he:l[n]=m[n]):l.take (n+1)=m.take (n+1):=by
 rw [List.take_succ_eq_append_getElem hl,List.take_succ_eq_append_getElem hm,h,he]
instance:DecidableEq fB:=fun a b=>decidable_of_iff (a.name=b.name∧a.value=b.value∧a.version=b.version) (by cases a;cases b;simp)
theorem pair_ne {s t:fB} (h:s≠t):(s.name == t.name)=false∨((s.name == t.name)=true∧(s.value == t.value)=false)∨((s.name == t.name)=true∧(s.value == t.value)=true∧(s.version == t.version)=false):=by
 by_cases h1:s.name=t.name
 ·by_cases h2:s.value=t.value
  ·refine .inr (.inr ⟨by simpa using h1,by simpa using h2,?_⟩)
   have h3:s.version≠t.version:=fun h3=>h (by obtain ⟨_,_,_⟩:=s;obtain ⟨_,_,_⟩:=t;simp only at h1 h2 h3;subst h1;subst h2;subst h3;rfl)
   simpa using h3
  ·exact .inr (.inl ⟨by simpa using h1,by simpa using h2⟩)
 ·exact .inl (by simpa using h1)
end Go.Tk
namespace Go.Proofs.YtbngpjdflblffaaGreatDoor
open Go.RowKit Go.Tk
theorem aap (l m:List fB) (v vm:Value) (S Sm:Nat→Prop) (w:World) (h:aZ 3 jC w v l S) (hm:aZ 3 jC w vm m Sm) (hl1:l.length≤1000000) (hm1:m.length≤1000000) :
 Calls Tryz.prog 36 #[v,vm] w fun e w'=>e=.returned (.bool (decide (l=m)))∧Below w.heap.size w w':=by
 obtain ⟨a,cap,hv,hl,hc,-,-⟩:=id h;subst hv;obtain ⟨am,QV,hv,hlm,hcm,-,-⟩:=id hm;subst hv;unfold maxLen at hc hcm;have HL:=iH h;have HM:=iH hm;clear h hm
 by_cases hne:l.length=m.length
 case neg =>
  have HF:=iH (show decide (l=m)=false from decide_eq_false fun e=>hne (by rw [e]))
  go_enter Tryz.func36,Tryz.ntmps36
  go_wp2;go_ret;exact ⟨by rw [HF.out];rfl,iB⟩
 rw [←hne] at HM⊢;have Ui:=iH hne;clear hne hlm
 go_enter Tryz.func36,Tryz.ntmps36
 go_wp2
 go_loopw [5,13] (fun _ i wr=>∃n:Nat,n≤l.length∧i=iI n∧Hid (l.take n=m.take n)∧Hid (Below w.heap.size w wr))
  (fun _ i _=>l.length - (intOf i).toNat)
 case atStart=>exact ⟨0,by omega,rfl,by simp [Hid],iB⟩
 case round =>
  obtain ⟨n,hn,rfl,hf,hb⟩:=hrel
  by_cases hlt:n<l.length
  case neg =>
   have HF:=iH (show decide (l=m)=true from decide_eq_true (by have:=hf.out;rwa [List.take_of_length_le (by omega),List.take_of_length_le (by rw [←Ui.out];omega)] at this));go_wp2;go_ret;exact ⟨by rw [HF.out];rfl,hb.out⟩
  have Qw:n<m.length:=by rw [←Ui.out];exact hlt
  obtain ⟨b,off,cap',row,hv,hSb,hrow,hcells⟩:=(HL.out.below bg (by decide) hb.out).row n hlt;simp only [Value.slice.injEq] at hv;obtain ⟨rfl,_,rfl⟩:=hv;obtain rfl:=hrow;have q0:=hcells 0 _ rfl;have q1:=hcells 1 _ rfl;have q2:=hcells 2 _ rfl;obtain ⟨b2,off2,cap2,NV,hv2,TC,hrow2,je⟩:=(HM.out.below bg (by decide) hb.out).row n Qw;simp only [Value.slice.injEq] at hv2;obtain ⟨rfl,-,rfl⟩:=hv2;obtain rfl:=hrow2;have r0:=je 0 _ rfl;have r1:=je 1 _ rfl;have r2:=je 2 _ rfl;simp only [Nat.add_zero] at q0 r0;clear hcells je;have HE:Hid (l[n]=m[n]→l.take (n+1)=m.take (n+1)):=fun he=>take_eq_succP hlt Qw hf.out he
  have HN:Hid (l[n]≠m[n]→decide (l=m)=false):=fun he=>decide_eq_false fun e=>he (by subst e;rfl)
  clear hf;generalize l[n]=s at *;generalize m[n]=t at *;clear Qw
  by_cases hst:s=t
  ·have HE2:=iH (HE.out hst)
   subst hst;go_wp2;go_region;go_wp2
   go_roundw
   case rel=>exact ⟨n+1,by omega,by go_num,HE2,iH (Below.drew hb.out)⟩
   case measure=>simp [intOf];omega
  ·have O5:=iH (HN.out hst)
   rcases pair_ne hst with h1 | ⟨h1,h2⟩ | ⟨h1,h2,h3⟩
   all_goals
    clear hst;go_wp2;go_region;go_wp2;go_ret;exact ⟨by rw [O5.out];rfl,Below.drew hb.out⟩
def TellsLock (w:World) (r:Option Nat) (S:Nat→Prop) (c:Nat) (cap:Value) (p:aN→Bool):Prop :=
 ∀(w':World) (x:aN) (rv:Value),w.grownBy w' r→fZ w' [iS x.name, iI x.holder, iI x.fence,rv] x S→Calls Tryz.prog c #[.agg #[iS x.name, iI x.holder, iI x.fence,rv],cap] w' fun e w''=>e=.returned (.bool (p x))∧Below w'.heap.size w' w''
theorem aao (w:World) (v:Value) (l:List aN) (S:Nat→Prop) (h:aZ 4 fZ w v l S) (hn:l.length≤1000000) (c:Nat) (cap:Value) (p:aN→Bool) (r:Option Nat) (hin:∀args w,(callFunc c args).run Tryz.prog w=.ok (.enter c args) w) (hp:TellsLock w r S c cap p) :
 Calls Tryz.prog 34 #[v, .func (.func c) #[] #[cap]] w fun e w' =>
  e=.returned (iI (kD p l))∧Below w.heap.size w w':=by
 obtain ⟨a,vc,hv,hl,hm,hnil,-⟩:=id h;subst hv;unfold maxLen at hm;have hlen:(l.length:Int)≤1000000:=by omega
 go_enter Tryz.func34,Tryz.ntmps34
 go_wp2
 go_loopw [8] (fun i wr=>∃n:Nat,n≤l.length∧i=iI n∧Hid (∀(j:Nat) (hj:j<l.length),j<n→p l[j]=false)∧Below w.heap.size w wr)
  (fun i _=>l.length - (intOf i).toNat)
 case atStart=>exact ⟨0,by omega,rfl,fun j _ hj=>by omega,iB⟩
 case round =>
  obtain ⟨n,hnl,rfl,hall,hb⟩:=hrel;have hws:=hb.size
  by_cases hlt:n<l.length
  ·obtain ⟨b,off,NN,row,hv,hS,hrow,hcells⟩:=(h.below aM (by decide) hb).row n hlt
   simp only [Value.slice.injEq] at hv;obtain ⟨rfl,_,rfl⟩:=hv;have HY:Hid (p l[n]=true→kD p l=n):=fun ht=>qO hlt ht hall.out
   have HN:Hid (p l[n]=false→∀(j:Nat) (hj:j<l.length),j<n+1→p l[j]=false):=fun ht j hj hj1=>by
    rcases Nat.lt_or_ge j n with h | h
    ·exact hall.out j hj h
    ·obtain rfl:j=n:=by omega
     exact ht
   clear hall;generalize xX:l[n]=x at *;clear xX;have hrow':=hrow;obtain ⟨rv,rfl,jd⟩:=hrow;obtain ⟨ra,wZ,rfl,-⟩:=id jd;have q0:=hcells 0 _ rfl;have q1:=hcells 1 _ rfl;have q2:=hcells 2 _ rfl;have q3:=hcells 3 _ rfl;simp only [Nat.add_zero] at q0;clear hcells;have HC:=iH (hp _ _ _ (aY hb r) hrow');clear hrow' hp h
   by_cases hf:p x=true
   ·have HF:=iH (HY.out hf)
    go_wp2_with fail
    refine HC.out.mono ?_;rw [hf];rintro e w2 ⟨rfl,hb2⟩;go_wp2;go_ret;exact ⟨by rw [HF.out];rfl,hb.trans (hb2.mono hws)⟩
   ·have hf':p x=false:=by simpa using hf
    go_wp2_with fail
    refine HC.out.mono ?_;rw [hf'];rintro e w2 ⟨rfl,hb2⟩;go_wp2
    go_roundw
    case rel=>exact ⟨n+1,by omega,by go_num,HN.out hf',hb.trans (hb2.mono hws)⟩
    case measure=>simp [intOf];omega
  ·obtain rfl:n=l.length:=by omega
   have HF:Hid (kD p l=-1):=mH fun j hj=>hall.out j hj hj
   clear hall hp h;go_wp2;go_ret;exact ⟨by rw [HF.out];rfl,hb⟩
theorem tf1_calls (w:World) (y:aN) (rv:Value) (jd:rv.oneCell'=true) (B:Nat) (nm:List UInt8) (hc:w.cell? ⟨B,0,none⟩=some (iS nm)) :
 Calls Tryz.prog 35 #[.agg #[iS y.name, iI y.holder, iI y.fence,rv], iP B 0] w fun e w'=>e=.returned (.bool (y.name == nm))∧Below w.heap.size w w':=by
 have hB:=World.block_lt_of_cell? w _ hc
 go_enter Tryz.func35,Tryz.ntmps35
 go_wp2;go_ret;exact ⟨by go_num,aj w _⟩
theorem aam (w:World) (l:List kX) (v:Value) (S:Nat→Prop) (h:aZ 4 FB w v l S) (hr:∀x∈l,uM x) :
 Calls Tryz.prog 6 #[v] w fun e w'=>e=.returned (.bool true)∧Below w.heap.size w w':=by
 obtain ⟨la,lc,rfl,-,-,-,-⟩:=id h;have HH:=iH h;have HR:=iH hr;have hsl:=mF l 150;have hok1:=o8 (m:=3) (by omega) (nP l 150) (by omega);obtain ⟨⟨x,c1⟩,hX⟩:∃X,kT 3 (gJ l 150)=X:=⟨_,rfl⟩;rw [hX] at hok1;have HX:=iH hX;have HDE:=iH hok1.tL.dec;have Ak:=iH (show x.K.length≤400 by have:=hok1.tL.len;omega);have hlx:=hok1.len;clear h hr hok1 hX hsl;have HB:=iH (Below.refl w.heap.size w)
 go_enter Tryz.func6,Tryz.ntmps6
 go_wp2_with fail
 refine (uS l 150 (by omega) [] (by simp) (by simp) _ _ S (fun _=>True) w HH.out HR.out (aZ.nil _ _)).mono ?_;rw [List.append_nil,HX.out];rintro e w1 ⟨vr,vc,vm,vk,vo,rfl,hO,hb⟩;obtain ⟨Qf,Ke,rfl,-,-,-,-⟩:=id hO.rep;obtain ⟨TN,TM,rfl,-,-,-,-⟩:=id hO.nV;obtain ⟨Sv,Su,rfl,-,-,-,-⟩:=id hO.jh;obtain ⟨Od,Oc,rfl,-,-,-,-⟩:=id hO.comm;obtain ⟨Ql,Qk,rfl,-,-,-,-⟩:=id hO.codes;rw [hlx] at hO⊢;have vC:=iH hO;replace HB:=iH (ah HB.out hb);clear hO hb;go_upto_region 2 with (fail);generalize bF:w1.alloc (.cells #[.slice Qf 3 Ke, .slice TN x.bu.length TM, .slice Sv x.bD.length Su, .slice Od x.K.length Oc, iI (x.lead:Int), .slice Ql c1.length Qk] 63)=w2 at *;have gQ:=tQ bF;have vB:=iH (tO bF);replace vC:=iH (vC.out.below gQ);replace HB:=iH (ah HB.out gQ);clear gQ;clear bF;obtain ⟨B1,hB1⟩:∃B1,w1.heap.size=B1:=⟨_,rfl⟩;rw [hB1] at vB⊢;clear hB1;have hwB:w.heap.size≤w2.heap.size:=HB.out.size;have HK:=iH (vC.out.comm.sub (S':=fun b=>b<w2.heap.size) aK (by decide) fun b _ hl=>hl);have gQ:Below w2.heap.size w2 (w2.alloc (.cells #[iI 0, iN, iN, iN] 27)):=aj w2 _;go_upto_region 3 with (fail);generalize bF:w2.alloc (.cells #[iI 0, iN, iN, iN] 27)=w3 at *;have HS:=iH (tO bF)
 replace vB:=iH (vB.out.below gQ);replace HK:=iH (HK.out.below aK (by decide) gQ);replace HB:=iH (ah HB.out gQ);clear gQ;clear bF;obtain ⟨B2,hB2⟩:∃B,w2.heap.size=B:=⟨_,rfl⟩;rw [hB2] at HS HK hwB⊢;clear hB2 vC;have u3:=vB.out.cell 3 _ rfl;have hKc:x.K.length≤400:=Ak.out;go_wp2;clear vB u3
 go_loopw [31] (fun i wr=>∃n:Nat,n≤x.K.length∧i=iI n∧∃vl vp vs,Hid (aD wr B2 [iI (dF x.K n).index,vl,vp,vs])∧Hid (fT wr (dF x.K n) vl vp vs (fun b=>B2<b))∧Hid (aZ 1 iw wr (.slice Od x.K.length Oc) x.K (fun b=>b<B2))∧Hid (Below w.heap.size w wr))
  (fun i _=>x.K.length - (intOf i).toNat)
 case atStart=>exact ⟨0,by omega,rfl,_,_,_,HS,iH (fT.none _ _),HK,HB⟩
 case round =>
  obtain ⟨n,hn,rfl,vl,vp,vs,hbx,hst,hk,hbl⟩:=hrel;obtain ⟨al,cl,rfl,-,-,-,-⟩:=id hst.out.lock;obtain ⟨ap,cp,rfl,-,-,-,-⟩:=id hst.out.pair;obtain ⟨az,cz,rfl,-,-,-,-⟩:=id hst.out.dG;obtain ⟨b0,b1,b2,b3⟩:=dJ hbx.out
  by_cases hlt:n<x.K.length
  case neg =>
   go_wp2;go_ret;exact ⟨rfl,hbl.out⟩
  obtain ⟨he0,hne,hap,-⟩:=LG HDE.out (by omega) hlt;obtain ⟨-,hok,hix,-⟩:=D8 HDE.out (by omega) hn;obtain ⟨-,hok2,hix2,-⟩:=D8 HDE.out (by omega) (Nat.succ_le_of_lt hlt);have hde:dI (x.K.getD n [])=0:=HDE.out _ (kC x.K n [] hlt);have HC:=iH (vN _ _ _ _ _ (x.K.getD n []) wr hst.out hok (by omega) hde);obtain ⟨bb,off,cap',row,hv,hSb,hrow,hcells⟩:=hk.out.row n hlt;simp only [Value.slice.injEq] at hv;obtain ⟨rfl,-,rfl⟩:=hv;rw [show x.K[n]=x.K.getD n [] from (getD_lt hlt).symm] at hrow;obtain rfl:=hrow;have q0:=hcells 0 _ rfl;simp only [Nat.mul_one,Nat.add_zero] at q0;clear hcells hSb;have Ui:=iH hne;have ZF:=iH hap;have Zz:=iH he0;have gG:=iH hok;have HOK2:=iH hok2;have HDE2:=iH hde;have HIX2:=iH hix2;clear he0 hne hap hok hok2 hde hix hix2;obtain ⟨en,hen⟩:∃en,x.K.getD n []=en:=⟨_,rfl⟩;rw [hen] at HC q0 Ui ZF Zz HDE2;clear hen
  go_wp2_with fail
  refine HC.out.mono ?_;clear HC;rintro e w4 ⟨VG,VF,vs2,rfl,zX,hb4⟩;rw [Zz.out];rw [←Ui.out] at zX⊢;generalize (iJ (dF x.K n) en).2.1=r;generalize hT:dF x.K (n+1)=t at *;have HTE:=iH hT;clear hT;generalize dF x.K n=s at *;obtain ⟨QY,QU,rfl,-,-,-,-⟩:=id zX.lock;obtain ⟨QX,cp2,rfl,-,-,-,-⟩:=id zX.pair;obtain ⟨QW,QT,rfl,-,-,-,-⟩:=id zX.dG;clear q0 b0 b1 b2 b3;have HXS:=iH (hbx.out.below hb4);have HSS:=iH (hst.out.below hb4);have HKK:=iH (hk.out.below aK (by decide) hb4);have GU:=iH (ah hbl.out hb4);have HST:=iH (zX.sub (S':=fun b=>B2<b) fun b hb _=>by show _<_;have:wr.heap.size≤b:=hb;have:=hbx.out.lt;omega);clear hbx hst hk hbl zX hb4;go_upto_region 7 with (fail);have HY:=iH ((aD.new (w:=w4) (cs:=[iI t.index, .slice QY t.au.length QU, .slice QX t.pairs.length cp2, .slice QW t.af.length QT]) (E:=27)).below (aj _ (.cells #[iI r.code, iI r.n, iS r.text] 80)));have hba:=below_alloc2 w4 (.cells #[iI t.index, .slice QY t.au.length QU, .slice QX t.pairs.length cp2, .slice QW t.af.length QT] 27) (.cells #[iI r.code, iI r.n, iS r.text] 80);have hB24:=HXS.out.lt;replace HXS:=iH (HXS.out.below hba);replace HSS:=iH (HSS.out.below hba);replace HST:=iH (HST.out.below hba);replace HKK:=iH (HKK.out.below aK (by decide) hba);replace GU:=iH (ah GU.out hba)
  clear hba;generalize (w4.alloc (.cells #[iI t.index, .slice QY t.au.length QU, .slice QX t.pairs.length cp2, .slice QW t.af.length QT] 27)).alloc (.cells #[iI r.code, iI r.n, iS r.text] 80)=w5 at *;obtain ⟨B3,hB3⟩:∃B,w4.heap.size=B:=⟨_,rfl⟩;rw [hB3] at HY hB24⊢;clear hB3;have hdd:(bM en).2=0:=HDE2.out;have hel:en.length≤1000000:=by
   rcases Nat.lt_or_ge 5000 en.length with h1 | h1
   ·rw [bM,if_pos h1] at hdd;cases hdd
   ·omega
  have HD:=iH (o6 en w5 hel);rw [hdd] at HD;clear hdd hel;generalize (bM en).1=c at *
  go_wp2_with fail
  refine HD.out.mono ?_;clear HD;rintro e w6 ⟨rfl,hb6⟩;rw [dR];replace HXS:=iH (HXS.out.below hb6);replace HY:=iH (HY.out.below hb6);replace HSS:=iH (HSS.out.below hb6);replace HST:=iH (HST.out.below hb6);replace HKK:=iH (HKK.out.below aK (by decide) hb6);replace GU:=iH (ah GU.out hb6);clear hb6;go_upto_region 8 with (fail);have HC4:=iH (aD.new (w:=w6) (cs:=[iI c.kind, iI c.client, iI c.session, iI c.seq, iI c.aH, iI c.op.kind, iS c.op.a, iS c.op.b, iI c.op.n]) (E:=84));have hba:=aj w6 (.cells #[iI c.kind, iI c.client, iI c.session, iI c.seq, iI c.aH, iI c.op.kind, iS c.op.a, iS c.op.b, iI c.op.n] 84);replace HXS:=iH (HXS.out.below hba);replace HY:=iH (HY.out.below hba);replace HSS:=iH (HSS.out.below hba);replace HST:=iH (HST.out.below hba);replace HKK:=iH (HKK.out.below aK (by decide) hba);replace GU:=iH (ah GU.out hba);clear hba;generalize w6.alloc (.cells #[iI c.kind, iI c.client, iI c.session, iI c.seq, iI c.aH, iI c.op.kind, iS c.op.a, iS c.op.b, iI c.op.n] 84)=w7 at *;obtain ⟨B4,hB4⟩:∃B,w6.heap.size=B:=⟨_,rfl⟩;rw [hB4] at HC4⊢;clear hB4;have hl5:s.au.length≤5:=gG.out.lock.len
  have ht5:t.au.length≤5:=HOK2.out.lock.len;have y1:=HY.out.cell 1 _ rfl;go_wp2;clear y1
  go_loopw [56] (fun j wi=>∃m:Nat,m≤t.au.length∧j=iI m∧Hid (Below w7.heap.size w7 wi)) (fun j _=>t.au.length - (intOf j).toNat)
  case atStart=>exact ⟨0,by omega,rfl,iH iB⟩
  case round =>
   obtain ⟨m,hm,rfl,hbi⟩:=hrel
   by_cases hlt2:m<t.au.length
   case neg =>
    have hba:=hbi.out;replace HXS:=iH (HXS.out.below hba);replace HY:=iH (HY.out.below hba);replace HSS:=iH (HSS.out.below hba);replace HST:=iH (HST.out.below hba);replace HKK:=iH (HKK.out.below aK (by decide) hba);replace GU:=iH (ah GU.out hba);replace HC4:=iH (HC4.out.below hba);clear hba hbi;have b2:=HXS.out.cell 2 _ rfl;have y2:=HY.out.cell 2 _ rfl;have HE:=iH (aap s.pairs t.pairs _ _ _ _ wr HSS.out.pair HST.out.pair (by have:=gG.out.pair.len;omega) (by have:=HOK2.out.pair.len;omega))
    go_wp2_with fail
    refine HE.out.mono ?_;rintro e w8 ⟨rfl,hba⟩;replace HXS:=iH (HXS.out.below hba);replace HY:=iH (HY.out.below hba);replace HSS:=iH (HSS.out.below hba);replace HST:=iH (HST.out.below hba);replace HKK:=iH (HKK.out.below aK (by decide) hba);replace GU:=iH (ah GU.out hba);replace HC4:=iH (HC4.out.below hba);clear hba HE b2 y2
    by_cases hp:s.pairs=t.pairs
    ·rw [show decide (s.pairs=t.pairs)=true from decide_eq_true hp]
     clear hp;obtain ⟨x0,x1,x2,x3⟩:=dJ HXS.out;obtain ⟨t0,t1,t2,t3⟩:=nH HXS.out;obtain ⟨y0,y1,y2,y3⟩:=dJ HY.out;have Np:=iH ((((HXS.out.set 0 (by simp) (iI t.index)).set 1 (by simp) (.slice QY t.au.length QU)).set 2 (by simp) (.slice QX t.pairs.length cp2)).set 3 (by simp) (.slice QW t.af.length QT));have OY:=iH (HST.out.move (w':=((((w8.setCell ⟨B2,0,none⟩ (iI t.index)).setCell ⟨B2,1,none⟩ (.slice QY t.au.length QU)).setCell ⟨B2,2,none⟩ (.slice QX t.pairs.length cp2)).setCell ⟨B2,3,none⟩ (.slice QW t.af.length QT))) (S':=fun b=>B2<b) fun b hb _=>by
      have hb2:B2<b:=hb;exact ⟨(aC (by omega)).trans ((aC (by omega)).trans ((aC (by omega)).trans (aC (by omega)))),hb⟩)
     have HKF:=iH (HKK.out.move aK (by decide) (w':=((((w8.setCell ⟨B2,0,none⟩ (iI t.index)).setCell ⟨B2,1,none⟩ (.slice QY t.au.length QU)).setCell ⟨B2,2,none⟩ (.slice QX t.pairs.length cp2)).setCell ⟨B2,3,none⟩ (.slice QW t.af.length QT))) (S':=fun b=>b<B2) fun b hb _=>by
      have hb2:b<B2:=hb;exact ⟨(aC (by omega)).trans ((aC (by omega)).trans ((aC (by omega)).trans (aC (by omega)))),hb⟩)
     have mP:=iH (ay (ay (ay (ay GU.out hwB 0 (iI t.index)) hwB 1 (.slice QY t.au.length QU)) hwB 2 (.slice QX t.pairs.length cp2)) hwB 3 (.slice QW t.af.length QT));go_wp2
     go_roundw
     case rel=>exact ⟨n+1,by omega,by go_num, .slice QY t.au.length QU, .slice QX t.pairs.length cp2, .slice QW t.af.length QT,by rw [HTE.out];exact Np,by rw [HTE.out];exact OY,HKF,mP⟩
     case measure=>simp [intOf];omega
    obtain ⟨hk2,vQ,hw⟩:=ZF.out.pairs.resolve_left (fun h=>hp h.symm);rw [show decide (s.pairs=t.pairs)=false from decide_eq_false hp];clear hp;have y1:=HY.out.cell 1 _ rfl;have c6:=HC4.out.cell 6 _ rfl;have HW:=iH (Ie t.au c.op.a _ _ w8 HST.out.lock HOK2.out.lock.lines);rw [show (jF t.au c.op.a).1=c.client by rw [hw],show (jF t.au c.op.a).2.1=c.op.n by rw [hw],show (jF t.au c.op.a).2.2=0 by rw [hw]] at HW;clear hw;have Rp:=iH hk2;have Re:=iH vQ;clear hk2 vQ
    go_wp2_with fail
    refine HW.out.mono ?_;rintro e w9 ⟨rfl,hba⟩;clear HW y1 c6;replace HXS:=iH (HXS.out.below hba);replace HY:=iH (HY.out.below hba);replace HSS:=iH (HSS.out.below hba);replace HST:=iH (HST.out.below hba);replace HKK:=iH (HKK.out.below aK (by decide) hba);replace GU:=iH (ah GU.out hba);replace HC4:=iH (HC4.out.below hba);clear hba;have c0:=HC4.out.cell 0 _ rfl;have c1:=HC4.out.cell 1 _ rfl;have c5:=HC4.out.cell 5 _ rfl;have c8:=HC4.out.cell 8 _ rfl;rw [Rp.out] at c0;rw [Re.out] at c5;go_upto_region 22 with (fail);clear c0 c1 c5 c8 HC4;obtain ⟨x0,x1,x2,x3⟩:=dJ HXS.out;obtain ⟨t0,t1,t2,t3⟩:=nH HXS.out;obtain ⟨y0,y1,y2,y3⟩:=dJ HY.out;have Np:=iH ((((HXS.out.set 0 (by simp) (iI t.index)).set 1 (by simp) (.slice QY t.au.length QU)).set 2 (by simp) (.slice QX t.pairs.length cp2)).set 3 (by simp) (.slice QW t.af.length QT));have OY:=iH (HST.out.move (w':=((((w9.setCell ⟨B2,0,none⟩ (iI t.index)).setCell ⟨B2,1,none⟩ (.slice QY t.au.length QU)).setCell ⟨B2,2,none⟩ (.slice QX t.pairs.length cp2)).setCell ⟨B2,3,none⟩ (.slice QW t.af.length QT))) (S':=fun b=>B2<b) fun b hb _=>by
     have hb2:B2<b:=hb;exact ⟨(aC (by omega)).trans ((aC (by omega)).trans ((aC (by omega)).trans (aC (by omega)))),hb⟩)
    have HKF:=iH (HKK.out.move aK (by decide) (w':=((((w9.setCell ⟨B2,0,none⟩ (iI t.index)).setCell ⟨B2,1,none⟩ (.slice QY t.au.length QU)).setCell ⟨B2,2,none⟩ (.slice QX t.pairs.length cp2)).setCell ⟨B2,3,none⟩ (.slice QW t.af.length QT))) (S':=fun b=>b<B2) fun b hb _=>by
     have hb2:b<B2:=hb;exact ⟨(aC (by omega)).trans ((aC (by omega)).trans ((aC (by omega)).trans (aC (by omega)))),hb⟩)
    have mP:=iH (ay (ay (ay (ay GU.out hwB 0 (iI t.index)) hwB 1 (.slice QY t.au.length QU)) hwB 2 (.slice QX t.pairs.length cp2)) hwB 3 (.slice QW t.af.length QT));go_wp2
    go_roundw
    case rel=>exact ⟨n+1,by omega,by go_num, .slice QY t.au.length QU, .slice QX t.pairs.length cp2, .slice QW t.af.length QT,by rw [HTE.out];exact Np,by rw [HTE.out];exact OY,HKF,mP⟩
    case measure=>simp [intOf];omega
   obtain ⟨b9,off9,cap9,row,hv,-,hrow,hcells⟩:=(HST.out.lock.below aM (by decide) hbi.out).row m hlt2;simp only [Value.slice.injEq] at hv;obtain ⟨rfl,-,rfl⟩:=hv;obtain ⟨rv,rfl,jd⟩:=hrow;have q0:=hcells 0 _ rfl;have q1:=hcells 1 _ rfl;have q2:=hcells 2 _ rfl;have q3:=hcells 3 _ rfl;simp only [Nat.add_zero] at q0;have hkm:t.au[m]∈t.au:=List.getElem_mem hlt2;clear hcells;generalize t.au[m]=k at q0 q1 q2 q3 jd hkm;obtain ⟨ra,rc,rfl,-⟩:=jd;obtain ⟨fw,ff,hwho,hf8,hcase⟩:=fence_now gG.out.lock HOK2.out.lock ZF.out.newer hkm;have HF8:=iH hf8;have ZB:=iH hcase;clear hf8 hcase hkm;go_upto_region 13 with (fail);have HKB:=iH (aD.new (w:=wr) (cs:=[iS k.name, iI k.holder, iI k.fence, .slice ra k.line.length rc]) (E:=89));have DV:=iH (ah hbi.out (aj wr (.cells #[iS k.name, iI k.holder, iI k.fence, .slice ra k.line.length rc] 89)));clear q0 q1 q2 q3 hbi;generalize wr.alloc (.cells #[iS k.name, iI k.holder, iI k.fence, .slice ra k.line.length rc] 89)=w8 at *;obtain ⟨B5,Ld⟩:∃B,wr.heap.size=B:=⟨_,rfl⟩;rw [Ld] at HKB⊢;clear Ld;have b1:=(HXS.out.below DV.out).cell 1 _ rfl;have k0:=HKB.out.cell 0 _ rfl;have HW:=iH (Ie s.au k.name _ _ w8 (HSS.out.lock.below aM (by decide) DV.out) gG.out.lock.lines)
   rw [show (jF s.au k.name).1=fw by rw [hwho],show (jF s.au k.name).2.1=ff by rw [hwho],show (jF s.au k.name).2.2=0 by rw [hwho]] at HW;clear hwho
   go_wp2_with fail
   refine HW.out.mono ?_;rintro e w9 ⟨rfl,gQ⟩;replace HKB:=iH (HKB.out.below gQ);replace DV:=iH (ah DV.out gQ);clear HW b1 k0 gQ;have hin:=fun args w=>MuLone.run_callFunc_enter Tryz.func35 (by kernel_rfl) rfl args w
   have hp:TellsLock w9 none (fun b=>B2<b) 35 (iP B5 0) (fun y=>y.name == k.name):=fun w' y rv' hg hr =>
    tf1_calls w' y rv' (by obtain ⟨v,e,a,c,hv,_⟩:=hr;cases e;rw [hv];rfl) B5 k.name ((World.cell?_of_block (hg.block _ HKB.out.lt (by simp))).trans (HKB.out.cell 0 _ rfl))
   have O9:=iH (aao w9 _ s.au _ (HSS.out.lock.below aM (by decide) DV.out) (by omega) 35 (iP B5 0) (fun y=>y.name == k.name) none hin hp);clear hp hin;have b1:=(HXS.out.below DV.out).cell 1 _ rfl
   go_wp2_with fail
   refine O9.out.mono ?_;rintro e Lx ⟨rfl,WL⟩;replace HKB:=iH (HKB.out.below WL);replace DV:=iH (ah DV.out WL);clear O9 b1 WL;go_upto_region 15 with (fail);generalize kD (fun y:aN=>y.name == k.name) s.au=at9 at *;have b1:=(HXS.out.below DV.out).cell 1 _ rfl;have k1:=HKB.out.cell 1 _ rfl;have k2:=HKB.out.cell 2 _ rfl;have Ra:=iH (HSS.out.lock.below aM (by decide) DV.out);clear HH HR HX HDE Ak Ui ZF Zz gG HOK2 HIX2 HDE2 HTE HXS HSS HST HKK GU HY HC4 HKB hlt hKc hwB hB24 hn
   rcases ZB.out with ⟨hat,hfw⟩ | ⟨n9,hn9,hat,hf1,hf2⟩
   ·subst hat hfw
    clear HF8 ZB Ra
    by_cases h0:k.holder=0
    ·rw [h0] at k1
     clear h0
     go_quiet (fail)
     go_wp2
     go_roundw
     case rel=>exact ⟨m+1,by omega,by go_num,iH (below_drewN DV.out _)⟩
     case measure=>simp [intOf];omega
    ·have d0:(k.holder != 0)=true:=by simpa using h0
     have d3:(k.holder == 0)=false:=by simpa using h0
     go_quiet (fail)
     go_wp2
     go_roundw
     case rel=>exact ⟨m+1,by omega,by go_num,iH (below_drewN DV.out _)⟩
     case measure=>simp [intOf];omega
   ·obtain ⟨b8,off8,cap8,row,hv,-,hrow,hcells⟩:=Ra.out.row n9 hn9
    simp only [Value.slice.injEq] at hv;obtain ⟨rfl,-,rfl⟩:=hv;obtain ⟨rv8,rfl,-⟩:=hrow;have r2:=hcells 2 _ rfl;clear hcells ZB Ra;subst hat;generalize s.au[n9].fence=f0 at r2 hf1 hf2;have I7:=iH hf2;clear hf2;have d1:decide (k.fence<f0)=false:=decide_eq_false (by omega);have hn10:(n9:Int)<(s.au.length:Int):=by omega
    by_cases h0:k.holder=0
    ·rw [h0] at k1
     by_cases hw0:fw=0
     ·subst hw0
      clear h0
      go_quiet (fail)
      go_wp2
      go_roundw
      case rel=>exact ⟨m+1,by omega,by go_num,iH (below_drewN DV.out _)⟩
      case measure=>simp [intOf];omega
     ·have d2:(fw != 0)=true:=by simpa using hw0
      have d3:((0:Int) == fw)=false:=by simpa using fun h=>hw0 h.symm
      have d4:((0:Int) != fw)=true:=by simpa using fun h=>hw0 h.symm
      clear h0
      go_quiet (fail)
      go_wp2
      go_roundw
      case rel=>exact ⟨m+1,by omega,by go_num,iH (below_drewN DV.out _)⟩
      case measure=>simp [intOf];omega
    ·have d0:(k.holder != 0)=true:=by simpa using h0
     by_cases hw0:k.holder=fw
     ·subst hw0
      have d4:decide (k.fence<ff)=false:=decide_eq_false (by have:=HF8.out rfl h0;omega)
      go_quiet (fail)
      go_wp2
      go_roundw
      case rel=>exact ⟨m+1,by omega,by go_num,iH (below_drewN DV.out _)⟩
      case measure=>simp [intOf];omega
     ·have d5:(k.holder != fw)=true:=by simpa using hw0
      have d7:(k.holder == fw)=false:=by simpa using hw0
      have d6:decide (k.fence≤f0)=false:=decide_eq_false (by have:=I7.out h0 hw0;omega)
      go_quiet (fail)
      go_wp2
      go_roundw
      case rel=>exact ⟨m+1,by omega,by go_num,iH (below_drewN DV.out _)⟩
      case measure=>simp [intOf];omega
end Go.Proofs.YtbngpjdflblffaaGreatDoor
