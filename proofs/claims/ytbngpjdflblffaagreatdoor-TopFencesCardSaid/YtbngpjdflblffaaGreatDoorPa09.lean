/- A part of the proof, laid together from: LockC, Strs, BSearchPair, PairC, CloneInt, CopyLock, ClonePair, IdxSess. -/
import Derived.Test.YtbngpjdflblffaaGreatDoorPa08
set_option linter.all false
set_option maxRecDepth 100000
set_option maxHeartbeats 1600000
namespace Go.Tk
theorem Eo {k:aN} {i:Nat} (hi:i<k.line.length) (h0:bU (fun i=>if jc k i then 1 else 0) i=0) (hb:jc k i):nR k=false:=by
 have h1:(fun i=>if jc k i then (1:Int) else 0) i=1:=if_pos hb;have h2:Ao k=(fun i=>if jc k i then (1:Int) else 0) i:=kS h0 (fun h=>by have:=h1.symm.trans h;cases this) _ hi;rw [nR,h2.trans h1];rfl
end Go.Tk
namespace Go.Proofs.YtbngpjdflblffaaGreatDoor
open Go.RowKit Go.Tk
theorem Ib (k:aN) (v:Value) (S:Nat→Prop) (w:World) (h:aZ 1 jE w v k.line S) (hn:k.line.length≤1000000) :
 Calls Tryz.prog 117 #[.agg #[iS k.name, iI k.holder, iI k.fence,v]] w fun e w'=>e=.returned (.bool (nR k))∧Below w.heap.size w w':=by
 obtain ⟨a,cap,hv,hl,hm,hnl,hr⟩:=id h;subst hv;unfold maxLen at hm
 go_enter Tryz.func117,Tryz.ntmps117
 go_wp2
 go_loopw [3,4,8] (fun _ _ i wr=>∃n:Nat,n≤k.line.length∧i=iI n∧Hid (bU (fun i=>if jc k i then 1 else 0) n=0)∧Hid (Below (w.heap.size+1) (w.alloc (.cells #[iS k.name, iI k.holder, iI k.fence, .slice a k.line.length cap] 89)) wr))
  (fun _ _ i _=>k.line.length - (intOf i).toNat)
 case atStart=>exact ⟨0,by omega,rfl,rfl,iB⟩
 case round =>
  obtain ⟨n,hnk,rfl,hf,hb⟩:=hrel;have DV:=iH (show Below w.heap.size w wr from (aj w _).trans (hb.out.mono (by omega)));obtain ⟨hz,-,hzs⟩:=Tk.fresh hb.out;have z1:=hz 1;have z3:=hz 3;clear hz
  by_cases hlt:n<k.line.length
  ·obtain ⟨b,off,cap',row,hv,hS,hrow,hcells⟩:=(h.below bB (by decide) DV.out).row n hlt
   simp only [Value.slice.injEq] at hv;obtain ⟨rfl,_,rfl⟩:=hv;obtain rfl:=hrow;have q0:=hcells 0 _ rfl;simp only [Nat.add_zero,Nat.mul_one] at q0;clear hcells;have hgd:k.line.getD n 0=k.line[n]:=by simp [List.getD,hlt]
   have HI:Hid (jc k n↔gU k.line[n]=false∨k.line[n]=k.holder∨(k.line.take n).contains k.line[n]=true):=by show _↔_;rw [jc,hgd]
   have HB:Hid (jc k n→nR k=false):=fun hbad=>Eo hlt hf.out hbad
   have HG:Hid (¬ jc k n→bU (fun i=>if jc k i then 1 else 0) (n+1)=0):=fun hbad=>kF hf.out (by rw [if_neg hbad])
   have HT:=iH ((h.below bB (by decide) DV.out).take n hnk);have hlt2:(k.line.take n).length≤1000000:=by rw [List.length_take];omega
   clear hf hgd h;generalize k.line[n]=x at *;have hcases:gU x=false∨(gU x=true∧(x == k.holder)=true)∨(gU x=true∧(x == k.holder)=false):=by
    cases gU x<;>cases (x == k.holder)<;>simp
   rcases hcases with h1 | ⟨h1,h2⟩ | ⟨h1,h2⟩
   ·have HF:=iH (HB.out (HI.out.2 (.inl h1)))
    have H1:=iH h1;clear h1
    go_wp2_with fail
    refine (lG x _).mono ?_;rw [H1.out];rintro e w2 ⟨rfl,rfl⟩;go_wp2;go_ret;exact ⟨by rw [HF.out];rfl,DV.out⟩
   ·have HF:=iH (HB.out (HI.out.2 (.inr (.inl (by simpa using h2)))))
    have H1:=iH h1;clear h1
    go_wp2_with fail
    refine (lG x _).mono ?_;rw [H1.out];rintro e w2 ⟨rfl,rfl⟩;go_wp2;go_ret;exact ⟨by rw [HF.out];rfl,DV.out⟩
   ·have H1:=iH h1
    have HC:=iH (qR wr _ (k.line.take n) _ HT.out hlt2 x);have HI2:Hid (jc k n↔(k.line.take n).contains x=true):=by
     show _↔_
     rw [HI.out,h1];simp at h2;simp [h2]
    clear h1 HT HI
    go_wp2_with fail
    refine (lG x _).mono ?_;rw [H1.out];rintro e w2 ⟨rfl,rfl⟩
    go_wp2_with fail
    refine HC.out.mono ?_;rintro e w2 ⟨rfl,hb2⟩;generalize (k.line.take n).contains x=bb at HI2⊢;cases bb
    case true =>
     have HF:=iH (HB.out (HI2.out.2 rfl));go_wp2;go_ret;exact ⟨by rw [HF.out];rfl,ah DV.out hb2⟩
    case false =>
     have HF:=iH (HG.out (fun hx=>by have:=HI2.out.1 hx;cases this));go_wp2
     go_roundw
     case rel=>exact ⟨n+1,by omega,by go_num,HF.out,hb.out.trans (hb2.mono (by omega))⟩
     case measure=>simp [intOf];omega
  ·obtain rfl:n=k.line.length:=by omega
   have HF:Hid (nR k=(decide (k.line.length≤3) && (k.holder != 0 || k.line.length == 0))):=by
    show _=_
    rw [nR,Ao,hf.out];rfl
   clear hf h
   by_cases h3:k.line.length≤3
   ·by_cases h0:(k.holder != 0)=true
    ·have I7:=iH (HF.out.trans (by rw [decide_eq_true h3,h0]<;>rfl))
     go_wp2;go_ret;exact ⟨by rw [I7.out];rfl,DV.out⟩
    ·have h0':(k.holder != 0)=false:=by simpa using h0
     have I7:=iH (HF.out.trans (show _=(k.line.length == 0) by rw [decide_eq_true h3,h0'];rfl));have HN:=iH (show ((k.line.length:Int) == 0)=(k.line.length == 0) by rw [Bool.eq_iff_iff,beq_iff_eq,beq_iff_eq];omega);go_wp2;go_ret;exact ⟨by rw [I7.out,←HN.out];rfl,DV.out⟩
   ·have I7:=iH (HF.out.trans (by rw [decide_eq_false h3]<;>rfl))
    go_wp2;go_ret;exact ⟨by rw [I7.out];rfl,DV.out⟩
theorem om (l:List aN) (v:Value) (S:Nat→Prop) (w:World) (h:aZ 4 fZ w v l S) (hin:∀x∈l,x.line.length≤1000000) :
 Calls Tryz.prog 68 #[v] w fun e w'=>e=.returned (iI (dU l))∧Below w.heap.size w w':=by
 obtain ⟨a,cap,hv,hl,hm,hn,hr⟩:=id h;subst hv;unfold maxLen at hm
 by_cases h5:5<l.length
 ·have HF:=iH (show dU l=1 by rw [dU,if_pos h5])
  clear hr h
  go_enter Tryz.func68,Tryz.ntmps68
  go_wp2;go_ret;exact ⟨qP (by rw [HF.out];rfl),iB⟩
 have HF:Hid (dU l=bU (sU l) l.length):=by show _=_;rw [dU,if_neg h5]
 have HN:=iH hin;clear hr hin
 go_enter Tryz.func68,Tryz.ntmps68
 go_wp2
 go_loopw [3,4,10] (fun _ _ i wr=>∃k:Nat,k≤l.length∧i=iI k∧Hid (bU (sU l) k=0)∧Below w.heap.size w wr)
  (fun _ _ i _=>l.length - (intOf i).toNat)
 case atStart=>exact ⟨0,by omega,rfl,rfl,iB⟩
 case round =>
  obtain ⟨k,hk,rfl,hf,hb⟩:=hrel;have hws:=hb.size
  by_cases hlt:k<l.length
  ·obtain ⟨b,off,cap',row,hv,hS,hrow,hcells⟩:=(h.below aM (by decide) hb).row k hlt
   simp only [Value.slice.injEq] at hv;obtain ⟨rfl,_,rfl⟩:=hv;obtain ⟨rv,rfl,jd⟩:=hrow;obtain ⟨ra,wZ,rfl,-⟩:=id jd;have q0:=hcells 0 _ rfl;have q1:=hcells 1 _ rfl;have q2:=hcells 2 _ rfl;have q3:=hcells 3 _ rfl;simp only [Nat.add_zero] at q0;clear hcells;have hbl:b<wr.heap.size:=World.block_lt_of_cell? wr _ q0;have hg:l.getD k aO=l[k]:=by simp [List.getD,hlt]
   have HI:Hid (sU l k=if p9 l[k]=false then 4 else if l[k].fence<1∨1073741824<l[k].fence then 2 else if 0<k∧Op.bytesLess (l.getD (k - 1) aO).name l[k].name=false then 14 else 0):=by
    show _=_
    rw [sU,hg]
   have HE:Hid (∀e,sU l k=e→e≠0→dU l=e):=fun e he h0=>by
    rw [HF.out,kS hf.out (by rw [he];exact h0) _ hlt,he]
   have HG:Hid (sU l k=0→bU (sU l) (k+1)=0):=fun h0=>kF hf.out h0
   have hp:0<k→wr.cell? ⟨b,off+(k - 1)*4,none⟩=some (.string ⟨(l.getD (k - 1) aO).name.toArray⟩):=by
    intro hk0;obtain ⟨b2,off2,cap2,row,hv,hS,hrow,hcells⟩:=(h.below aM (by decide) hb).row (k - 1) (by omega);simp only [Value.slice.injEq,Option.some.injEq,Addr.mk.injEq] at hv;obtain ⟨⟨rfl,rfl,_⟩,_,rfl⟩:=hv;obtain ⟨rv,rfl,jd⟩:=hrow;rw [show l.getD (k - 1) aO=l[k - 1] by simp [List.getD,show k - 1<l.length by omega]];exact hcells 0 _ rfl
   have JO:=iH (HN.out l[k] (List.getElem_mem hlt));clear h;generalize l.getD (k - 1) aO=y at *;generalize l[k]=x at *;have HP:=iH hp;clear hf hg HF hp;have h0c:(x.holder != 0)=false∨(x.holder != 0)=true:=by cases (x.holder != 0)<;>simp
   have RZ:=iH jd;clear jd
   go_wp2_with fail
   refine (pX x.name _).mono ?_;rintro e w2 ⟨rfl,hb2⟩;have hb2':=hb2;rw [World.size_alloc] at hb2';obtain ⟨hz,-,hzs⟩:=Tk.fresh hb2';have z0:=hz 0;have z1:=hz 1;have z2:=hz 2;have z3:=hz 3;clear hz q0 q1 q2 q3;have KC:Below wr.heap.size wr w2:=ah (aj wr _) hb2;have qc:=ah hb KC;cases hnm:fD x.name
   case false =>
    have HV:=iH (HE.out 4 (by rw [HI.out,if_pos (by simp [p9,hnm])]) (by decide));go_wp2;go_ret;exact ⟨by rw [HV.out];rfl,qc⟩
   case true =>
    rcases h0c with h0 | h0
    case' inl =>
     have Vt:Hid (p9 x=nR x):=by
      show _=_
      have h0':x.holder=0:=by simpa using h0
      simp [p9,hnm,h0']
     clear hnm
     go_wp2_with fail
    case' inr =>
     have HH:Hid (p9 x=(gU x.holder && nR x)):=by
      show _=_
      have h0':(x.holder == 0)=false:=by simpa using h0
      simp [p9,hnm,h0']
     clear hnm
     go_wp2_with fail
     refine (lG x.holder _).mono ?_;rintro e w' ⟨rfl,rfl⟩;cases hcl:gU x.holder
     case' false =>
      have HV:=iH (HE.out 4 (by rw [HI.out,if_pos (by rw [HH.out,hcl];rfl)]) (by decide));go_wp2;go_ret;exact ⟨by rw [HV.out];rfl,qc⟩
     case' true =>
      have Vt:Hid (p9 x=nR x):=by show _=_;rw [HH.out,hcl];rfl
      clear hcl HH
      go_wp2_with fail
    all_goals
     refine (Ib x _ _ _ (RZ.out.below bB (by decide) KC) JO.out).mono ?_;rintro e w3 ⟨rfl,hb3⟩;have WK:=hb2'.trans (hb3.mono (by omega));obtain ⟨hz,-,Et⟩:=Tk.fresh WK;clear z0 z1 z2 z3;have z0:=hz 0;have z2:=hz 2;clear hz;have rP:=ah qc hb3;have WE:=ah KC hb3;cases hln:nR x
     case false =>
      have HV:=iH (HE.out 4 (by rw [HI.out,if_pos (Vt.out.trans hln)]) (by decide));go_wp2;go_ret;exact ⟨by rw [HV.out];rfl,rP⟩
     case true =>
      have HI2:Hid (sU l k=if x.fence<1∨1073741824<x.fence then 2 else if 0<k∧Op.bytesLess y.name x.name=false then 14 else 0):=by
       show _=_
       rw [HI.out,if_neg (by rw [Vt.out,hln];decide)]
      clear hln Vt HI;have hcases:x.fence<1∨(¬ x.fence<1∧1073741824<x.fence)∨(¬ x.fence<1∧¬ 1073741824<x.fence):=by omega
      rcases hcases with f1 | ⟨f1,f2⟩ | ⟨f1,f2⟩
      ·have HV:=iH (HE.out 2 (by rw [HI2.out,if_pos (by omega)]) (by decide))
       go_wp2;go_ret;exact ⟨by rw [HV.out];rfl,rP⟩
      ·have HV:=iH (HE.out 2 (by rw [HI2.out,if_pos (by omega)]) (by decide))
       go_wp2;go_ret;exact ⟨by rw [HV.out];rfl,rP⟩
      have HI3:Hid (sU l k=if 0<k∧Op.bytesLess y.name x.name=false then 14 else 0):=by
       show _=_
       rw [HI2.out,if_neg (by omega)]
      clear HI2
      by_cases hk0:0<k
      ·have hq:=aB (HP.out hk0) (WE.block b hbl)
       have w1:IntKind.i64.wrap ((k:Int) - 1)=(k:Int) - 1:=IntWalk.i64_in _ (by omega);have w2:0≤(k:Int) - 1:=by omega
       have w3:((k:Int) - 1).toNat=k - 1:=by omega
       have w4:(k:Int) - 1<(l.length:Int):=by omega
       have w5:(1:Int)≤(k:Int):=by omega
       go_wp2_with fail
       go_quiet (fail)
       clear w1 w2 w3 w4 w5;cases hbl:Op.bytesLess y.name x.name
       case false =>
        have HV:=iH (HE.out 14 (by rw [HI3.out,if_pos ⟨hk0,hbl⟩]) (by decide));go_wp2;go_ret;exact ⟨by rw [HV.out];rfl,below_drewN rP _⟩
       case true =>
        have HV:=iH (HG.out (by rw [HI3.out,if_neg (fun hx=>by rw [hbl] at hx;cases hx.2)]));go_wp2
        go_roundw
        case rel=>exact ⟨k+1,by omega,by go_num,HV.out,below_drewN rP _⟩
        case measure=>simp [intOf];omega
      ·have hd:decide (0<k)=false:=by simpa using hk0
       have HV:=iH (HG.out (by rw [HI3.out,if_neg (fun hx=>hk0 hx.1)]))
       go_wp2_with fail
       go_quiet (fail)
       go_wp2
       go_roundw
       case rel=>exact ⟨k+1,by omega,by go_num,HV.out,below_drewN rP _⟩
       case measure=>simp [intOf];omega
  ·have hF:Hid (dU l=0):=by
    have:=hf.out;rw [show k=l.length by omega] at this;exact HF.out.trans this
   clear hf HF h;go_wp2;go_ret;exact ⟨qP (by rw [hF.out];rfl),hb⟩
end Go.Proofs.YtbngpjdflblffaaGreatDoor
namespace Go.Proofs.YtbngpjdflblffaaGreatDoor
open Go.RowKit Go.Tk
theorem vg (a b:List UInt8) (w:World) :
 Calls Tryz.prog 118 #[iS a, iS b] w fun e w'=>e=.returned (iI (Lib.compareBytes a b))∧w=w':=by
 go_enter Tryz.func118,Tryz.ntmps118
 go_wp2;rw [run_callFunc_extern Tryz.func152 (by kernel_rfl) (by kernel_rfl) (by kernel_rfl) (e:=Extern.BytealgCompare.compare) (by kernel_rfl),Lib.run_compareString];simp only [Result.andThen];rw [Oper.upon_value];go_wp2;go_ret;exact ⟨rfl,rfl⟩
theorem rA (a b:List UInt8) (w:World) :
 Calls Tryz.prog 71 #[iS a, iS b] w fun e w'=>e=.returned (iI (Lib.compareBytes a b))∧w=w':=by
 go_enter Tryz.func71,Tryz.ntmps71
 go_wp2_with fail
 refine (vg a b _).mono ?_;rintro e w' ⟨rfl,rfl⟩;go_wp2;go_ret;exact ⟨rfl,rfl⟩
end Go.Proofs.YtbngpjdflblffaaGreatDoor
namespace Go.Proofs.YtbngpjdflblffaaGreatDoor
open Go.RowKit Go.Tk
theorem rD (w:World) (x:fB) (t:List UInt8) :
 Calls Tryz.prog 165 #[.agg #[iS x.name, iS x.value, iI x.version], iS t] w fun e w'=>e=.returned (iI (fE x t))∧Below w.heap.size w w':=by
 go_enter Tryz.func165,Tryz.ntmps165
 go_wp2_with fail
 refine (rA x.name t _).mono ?_;rintro e w' ⟨rfl,rfl⟩;go_wp2;go_ret;exact ⟨rfl,iB.alloc (Nat.le_refl _) _⟩
theorem yh (w:World) (v:Value) (l:List fB) (S:Nat→Prop) (h:aZ 3 jC w v l S) (hn:l.length≤1000000) (t:List UInt8) :
 Calls Tryz.prog 164 #[v, iS t, .func (.func 165) #[] #[]] w fun e w' =>
  e=.returned (.tuple #[iI (bs (fun i=>fE (l.getD i cZ) t) l.length:Nat), .bool (di (fun i=>fE (l.getD i cZ) t) l.length)])∧Below w.heap.size w w':=by
 obtain ⟨a,cap,hv,hl,hm,hnil,-⟩:=id h;subst hv;unfold maxLen at hm
 go_enter Tryz.func164,Tryz.ntmps164
 go_wp2
 go_loopw [9,10,11] (fun i j _ wr=>∃p q:Nat,p≤q∧q≤l.length∧i=iI p∧j=iI q∧Hid (bsGo (fun i=>fE (l.getD i cZ) t) (q - p) p q=bs (fun i=>fE (l.getD i cZ) t) l.length)∧Below w.heap.size w wr)
  (fun i j _ _=>(intOf j).toNat - (intOf i).toNat)
 case atStart=>exact ⟨0,l.length,by omega,by omega,rfl,rfl,rfl,iB⟩
 case round =>
  obtain ⟨p,q,hpq,zY,rfl,rfl,hgo,hb⟩:=hrel
  by_cases hlt:p<q
  ·have hml:(p+q) / 2<l.length:=by omega
   obtain ⟨b,off,cap',row,hv,hS,hrow,hcells⟩:=(h.below bg (by decide) hb).row ((p+q) / 2) hml;simp only [Value.slice.injEq] at hv;obtain ⟨rfl,_,rfl⟩:=hv;have hg:l.getD ((p+q) / 2) cZ=l[(p+q) / 2]:=by simp [List.getD,hml]
   have HL:Hid (fE l[(p+q) / 2] t<0→bsGo (fun i=>fE (l.getD i cZ) t) (q - ((p+q) / 2+1)) ((p+q) / 2+1) q=bs (fun i=>fE (l.getD i cZ) t) l.length):=fun hf=>by
    rw [←rU _ hlt (by show fE (l.getD ((p+q) / 2) cZ) t<0;rw [hg];exact hf)];exact hgo.out
   have HM:Hid (¬ fE l[(p+q) / 2] t<0→bsGo (fun i=>fE (l.getD i cZ) t) ((p+q) / 2 - p) p ((p+q) / 2)=bs (fun i=>fE (l.getD i cZ) t) l.length):=fun hf=>by
    rw [←rT _ hlt (by show ¬ fE (l.getD ((p+q) / 2) cZ) t<0;rw [hg];exact hf)];exact hgo.out
   clear hgo hg;generalize l[(p+q) / 2]=x at *;obtain rfl:=hrow;have q0:=hcells 0 _ rfl;have q1:=hcells 1 _ rfl;have q2:=hcells 2 _ rfl;simp only [Nat.add_zero] at q0;clear hcells;have hws:=hb.size
   by_cases hf:fE x t<0
   all_goals (have HF:=iH hf)
   ·go_wp2_with (go_at_call 165;refine (rD _ x t).mono ?_;rintro e w2 ⟨rfl,hb2⟩)
    go_roundw
    case rel=>exact ⟨(p+q) / 2+1,q,by omega,zY,by go_num,rfl,HL.out HF.out,hb.trans (hb2.mono hws)⟩
    case measure=>simp [intOf];omega
   ·go_wp2_with (go_at_call 165;refine (rD _ x t).mono ?_;rintro e w2 ⟨rfl,hb2⟩)
    go_roundw
    case rel=>exact ⟨p,(p+q) / 2,by omega,by omega,rfl,by go_num,HM.out HF.out,hb.trans (hb2.mono hws)⟩
    case measure=>simp [intOf];omega
  ·obtain rfl:p=q:=by omega
   have HP:Hid (bs (fun i=>fE (l.getD i cZ) t) l.length=p):=by have:=hgo.out;rw [Nat.sub_self] at this;exact this.symm
   clear hgo;have hws:=hb.size
   by_cases hml:p<l.length
   ·obtain ⟨b,off,cap',row,hv,hS,hrow,hcells⟩:=(h.below bg (by decide) hb).row p hml
    simp only [Value.slice.injEq] at hv;obtain ⟨rfl,_,rfl⟩:=hv;have HG:Hid (di (fun i=>fE (l.getD i cZ) t) l.length=(fE l[p] t == 0)):=by
     show _=_
     rw [di,HP.out,decide_eq_true hml,show l.getD p cZ=l[p] by simp [List.getD,hml]];rfl
    skip
    clear h;generalize l[p]=x at *;obtain rfl:=hrow;have q0:=hcells 0 _ rfl;have q1:=hcells 1 _ rfl;have q2:=hcells 2 _ rfl;simp only [Nat.add_zero] at q0;clear hcells
    go_wp2_with (go_at_call 165;refine (rD _ x t).mono ?_;rintro e w2 ⟨rfl,hb2⟩)
    go_ret2
    exact ⟨qg (by rw [HP.out];rfl) (by rw [HG.out];rfl),hb.trans (hb2.mono hws)⟩
   ·have HG:Hid (di (fun i=>fE (l.getD i cZ) t) l.length=false):=by
     show _=_
     rw [di,HP.out,decide_eq_false hml];rfl
    clear h;go_wp2
    go_ret2
    exact ⟨qg (by rw [HP.out];rfl) (by rw [HG.out];rfl),hb⟩
end Go.Proofs.YtbngpjdflblffaaGreatDoor
namespace Go.Proofs.YtbngpjdflblffaaGreatDoor
open Go.RowKit Go.Tk
theorem ry (l:List fB) (v:Value) (S:Nat→Prop) (w:World) (h:aZ 3 jC w v l S) (hin:∀x∈l,x.value.length≤1000000) :
 Calls Tryz.prog 78 #[v] w fun e w'=>e=.returned (iI (j3 l))∧Below w.heap.size w w':=by
 obtain ⟨a,cap,hv,hl,hm,hn,hr⟩:=id h;subst hv;unfold maxLen at hm
 by_cases h5:5<l.length
 ·have HF:=iH (show j3 l=1 by rw [j3,if_pos h5])
  clear hr h
  go_enter Tryz.func78,Tryz.ntmps78
  go_wp2;go_ret;exact ⟨qP (by rw [HF.out];rfl),iB⟩
 have HF:Hid (j3 l=bU (sQ l) l.length):=by show _=_;rw [j3,if_neg h5]
 have HN:=iH hin;clear hr hin
 go_enter Tryz.func78,Tryz.ntmps78
 go_wp2
 go_loopw [3,4,10] (fun _ _ i wr=>∃k:Nat,k≤l.length∧i=iI k∧Hid (bU (sQ l) k=0)∧Below w.heap.size w wr)
  (fun _ _ i _=>l.length - (intOf i).toNat)
 case atStart=>exact ⟨0,by omega,rfl,rfl,iB⟩
 case round =>
  obtain ⟨k,hk,rfl,hf,hb⟩:=hrel;have hws:=hb.size
  by_cases hlt:k<l.length
  ·obtain ⟨b,off,cap',row,hv,hS,hrow,hcells⟩:=(h.below bg (by decide) hb).row k hlt
   simp only [Value.slice.injEq] at hv;obtain ⟨rfl,_,rfl⟩:=hv;obtain rfl:=hrow;have q0:=hcells 0 _ rfl;have q1:=hcells 1 _ rfl;have q2:=hcells 2 _ rfl;simp only [Nat.add_zero] at q0;clear hcells;have hbl:b<wr.heap.size:=World.block_lt_of_cell? wr _ q0;have hg:l.getD k cZ=l[k]:=by simp [List.getD,hlt]
   have HI:Hid (sQ l k=if fD l[k].name=false then 4 else if 12<l[k].value.length then 1 else if l[k].version<1∨1073741824<l[k].version then 2 else if 0<k∧Op.bytesLess (l.getD (k - 1) cZ).name l[k].name=false then 14 else 0):=by
    show _=_
    rw [sQ,hg]
   have HE:Hid (∀e,sQ l k=e→e≠0→j3 l=e):=fun e he h0=>by
    rw [HF.out,kS hf.out (by rw [he];exact h0) _ hlt,he]
   have HG:Hid (sQ l k=0→bU (sQ l) (k+1)=0):=fun h0=>kF hf.out h0
   have hp:0<k→wr.cell? ⟨b,off+(k - 1)*3,none⟩=some (.string ⟨(l.getD (k - 1) cZ).name.toArray⟩):=by
    intro hk0;obtain ⟨b2,off2,cap2,row,hv,hS,hrow,hcells⟩:=(h.below bg (by decide) hb).row (k - 1) (by omega);simp only [Value.slice.injEq,Option.some.injEq,Addr.mk.injEq] at hv;obtain ⟨⟨rfl,rfl,_⟩,_,rfl⟩:=hv;obtain rfl:=hrow;rw [show l.getD (k - 1) cZ=l[k - 1] by simp [List.getD,show k - 1<l.length by omega]];exact hcells 0 _ rfl
   have hvl:=HN.out l[k] (List.getElem_mem hlt);clear h;generalize l.getD (k - 1) cZ=y at *;generalize l[k]=x at *;have HP:=iH hp;clear hf hg HF hp
   go_wp2_with fail
   refine (pX x.name _).mono ?_;rintro e w2 ⟨rfl,hb2⟩;have hb2':=hb2;rw [World.size_alloc] at hb2';obtain ⟨hz,-,hzs⟩:=Tk.fresh hb2';have z0:=hz 0;have z1:=hz 1;have z2:=hz 2;clear hz q0 q1 q2;have KC:Below wr.heap.size wr w2:=ah (aj wr _) hb2;have qc:=ah hb KC;cases hnm:fD x.name
   case false =>
    have HV:=iH (HE.out 4 (by rw [HI.out,if_pos hnm]) (by decide));go_wp2;go_ret;exact ⟨by rw [HV.out];rfl,qc⟩
   case true =>
    by_cases hvb:12<x.value.length
    ·have HV:=iH (HE.out 1 (by rw [HI.out,if_neg (by rw [hnm];decide),if_pos hvb]) (by decide))
     clear hnm;go_wp2;go_ret;exact ⟨by rw [HV.out];rfl,qc⟩
    have HI2:Hid (sQ l k=if x.version<1∨1073741824<x.version then 2 else if 0<k∧Op.bytesLess y.name x.name=false then 14 else 0):=by
     show _=_
     rw [HI.out,if_neg (by rw [hnm];decide),if_neg hvb]
    clear hnm HI;have hcases:x.version<1∨(¬ x.version<1∧1073741824<x.version)∨(¬ x.version<1∧¬ 1073741824<x.version):=by omega
    rcases hcases with f1 | ⟨f1,f2⟩ | ⟨f1,f2⟩
    ·have HV:=iH (HE.out 2 (by rw [HI2.out,if_pos (by omega)]) (by decide))
     go_wp2;go_ret;exact ⟨by rw [HV.out];rfl,qc⟩
    ·have HV:=iH (HE.out 2 (by rw [HI2.out,if_pos (by omega)]) (by decide))
     go_wp2;go_ret;exact ⟨by rw [HV.out];rfl,qc⟩
    have HI3:Hid (sQ l k=if 0<k∧Op.bytesLess y.name x.name=false then 14 else 0):=by
     show _=_
     rw [HI2.out,if_neg (by omega)]
    clear HI2
    by_cases hk0:0<k
    ·have hq:=aB (HP.out hk0) (KC.block b hbl)
     have w1:IntKind.i64.wrap ((k:Int) - 1)=(k:Int) - 1:=IntWalk.i64_in _ (by omega);have w2:0≤(k:Int) - 1:=by omega
     have w3:((k:Int) - 1).toNat=k - 1:=by omega
     have w4:(k:Int) - 1<(l.length:Int):=by omega
     have w5:(1:Int)≤(k:Int):=by omega
     go_wp2_with fail
     go_quiet (fail)
     clear w1 w2 w3 w4 w5;cases hbl:Op.bytesLess y.name x.name
     case false =>
      have HV:=iH (HE.out 14 (by rw [HI3.out,if_pos ⟨hk0,hbl⟩]) (by decide));go_wp2;go_ret;exact ⟨by rw [HV.out];rfl,below_drewN qc _⟩
     case true =>
      have HV:=iH (HG.out (by rw [HI3.out,if_neg (fun hx=>by rw [hbl] at hx;cases hx.2)]));go_wp2
      go_roundw
      case rel=>exact ⟨k+1,by omega,by go_num,HV.out,below_drewN qc _⟩
      case measure=>simp [intOf];omega
    ·have hd:decide (0<k)=false:=by simpa using hk0
     have HV:=iH (HG.out (by rw [HI3.out,if_neg (fun hx=>hk0 hx.1)]))
     go_wp2_with fail
     go_quiet (fail)
     go_wp2
     go_roundw
     case rel=>exact ⟨k+1,by omega,by go_num,HV.out,below_drewN qc _⟩
     case measure=>simp [intOf];omega
  ·have hF:Hid (j3 l=0):=by
    have:=hf.out;rw [show k=l.length by omega] at this;exact HF.out.trans this
   clear hf HF h;go_wp2;go_ret;exact ⟨qP (by rw [hF.out];rfl),hb⟩
theorem zn (l:List fB) (t:List UInt8) (v:Value) (S:Nat→Prop) (w:World) (h:aZ 3 jC w v l S) (hn:l.length≤1000000) :
 Calls Tryz.prog 148 #[v, iS t] w fun e w'=>e=.returned (.tuple #[iI (eG l t:Nat), .bool (mo l t)])∧Below w.heap.size w w':=by
 have hone:=h.oneCell
 go_enter Tryz.func148,Tryz.ntmps148
 go_wp2_with fail
 refine (yh _ v l S h hn t).mono ?_;rintro e w2 ⟨rfl,hb⟩;go_wp2
 go_ret2
 exact ⟨rfl,hb⟩
end Go.Proofs.YtbngpjdflblffaaGreatDoor
namespace Go.Proofs.YtbngpjdflblffaaGreatDoor
open Go.RowKit Go.Tk
theorem Tryz.AA:dM Tryz.prog 87 3 1 8:=⟨Tryz.underlying87,by kernel_rfl,by decide⟩
theorem BN {α:Type} {R:Rel α} (hR:cu R 1) (w:World) (v:Value) (l:List α) (S:Nat→Prop) (h:aZ 1 R w v l S) (hn:l.length≤1000000) :
 Calls Tryz.prog 135 #[v] w fun e w'=>∃v',e=.returned v'∧bZ 3 1 R w' v' l S∧Below w.heap.size w w'∧(∀g,v'.ownBlock=some g→w.heap.size≤g):=by
 obtain ⟨a,cap,hv,hl,hm,hnil,hr⟩:=id h;subst hv;have hm':=hm;unfold maxLen at hm';cases a with
 | none =>
   have h0:=hnil rfl;subst h0;have hl0:l=[]:=List.eq_nil_of_length_eq_zero (by omega);subst hl0;have he:=Lib.run_eql_slice_nil (P:=Tryz.prog) (t:=87)
   go_enter Tryz.func135,Tryz.ntmps135
   go_wp2;go_ret;exact ⟨_,rfl,bZ.nil w S,iB,by simp [Value.ownBlock]⟩
 | some a =>
   obtain ⟨a',cap',rows,hv,-,-,hrl,hrel,hcells⟩:=h.rows hR (by decide);simp only [Value.slice.injEq] at hv;obtain ⟨rfl,-,rfl⟩:=hv;have hlen:=bZ.jq (E:=3) (v:=.slice (some a) l.length cap) hR hrl hrel;have hone:=bZ.qm (E:=3) hR hrl hrel;have hfl:rows.flatten.length=l.length*1:=by
    have:∀(rs:List (List Value)),(∀r∈rs,r.length=1)→rs.flatten.length=rs.length*1:=by
     intro rs
     induction rs with
     | nil=>intro _;rfl
     | cons r rs ih=>intro hk;rw [List.flatten_cons,List.length_append,hk r (by simp),ih (fun r hr=>hk r (by simp [hr]))];simp;omega
    rw [this rows hlen,hrl]
   have hown0:(w.alloc (.cells #[] 3)).ownsRow 0 3 1 (.slice (some ⟨w.heap.size,0,none⟩) 0 0) 0 [] :=
    ⟨rfl, .inr ⟨w.heap.size,0,#[],rfl,Nat.zero_le _,heap_alloc_new w _,Nat.le_refl _,by decide,rfl,rfl⟩⟩
   obtain ⟨v',w',hrun,g1,g2,g3⟩:=gD (P:=Tryz.prog) (ty:=87) (w.alloc (.cells #[] 3)) Tryz.AA _ 0 [] hown0 a l.length cap rows.flatten hfl (fun j u hu=>by
    obtain ⟨b,off,ha,_,hc⟩:=hcells j u hu;simp only [Option.some.injEq] at ha;subst ha;have hlt:=World.block_lt_of_cell? w _ hc;rw [Addr.add_lit,World.cell?_alloc_past _ _ _ hlt];exact hc) hone (by omega)
   have hvb:∀g,v'.ownBlock=some g→w.heap.size≤g:=by
    intro g hg
    rcases g3 with e | ⟨g',e,h⟩
    ·rw [e] at hg;cases hg;exact Nat.le_refl _
    ·rw [e] at hg;cases hg;simp at h;omega
   have hb:Below w.heap.size w w':=(iB.alloc (Nat.le_refl _) _).grown g2 (by simp) (fun k hk=>by cases hk;exact Nat.le_refl _);have hfin:bZ 3 1 R w' v' l S:=by
    refine ⟨rows,hrl,by simpa using g1,fun i r x hr hx=>hR.move (hrel i r x hr hx) fun b hs hlt=>⟨hb.block b hlt,hs,?_⟩⟩;intro hbg;have:=hvb b hbg.symm;omega
   have HF:=iH hfin;have HV:=iH hvb;have he:=Lib.run_eql_slice_nil (P:=Tryz.prog) (t:=87);clear hfin hvb g1 g2 g3 hcells hrel hlen hone hfl hown0 hr h hrl
   go_enter Tryz.func135,Tryz.ntmps135
   go_wp2_with (at_builtin;refine wpList_append_run rfl _ _ _ _ rfl _ _ rfl rfl hrun ?_)
   go_ret;exact ⟨v',rfl,HF.out,hb,HV.out⟩
end Go.Proofs.YtbngpjdflblffaaGreatDoor
namespace Go.Proofs.YtbngpjdflblffaaGreatDoor
open Go.RowKit Go.Tk
theorem Tryz.I9:dM Tryz.prog 23 89 4 56:=⟨Tryz.underlying23,by kernel_rfl,by decide⟩
theorem CQ {EK E:Nat} {w wr w2:World} {v rv:Value} {l2:List (aN×(Nat→Prop))} {x:aN} (hown:bZ E 4 (rG (jl EK)) wr v l2 (fun b=>w.heap.size≤b)) (hb:Below w.heap.size w wr) (X:Obj)
 (hb2:Below (wr.alloc X).heap.size (wr.alloc X) w2) (ho2:bZ EK 1 jE w2 rv x.line (fun _=>False)) (hf2:∀g,rv.ownBlock=some g→(wr.alloc X).heap.size≤g) :
 bZ E 4 (rG (jl EK)) (w2.setCell ⟨wr.heap.size,3,none⟩ rv) v l2 (fun b=>w.heap.size≤b)∧Below w.heap.size w (w2.setCell ⟨wr.heap.size,3,none⟩ rv) ∧
 rG (jl EK) (w2.setCell ⟨wr.heap.size,3,none⟩ rv) [iS x.name, iI x.holder, iI x.fence,rv] (x,fun b=>rv.ownBlock=some b) (fun b=>w.heap.size≤b∧some b≠v.ownBlock) ∧
 (∀y∈l2,∀b,y.2 b→¬ rv.ownBlock=some b):=by
 have hws:=hb.size;have hbw:Below wr.heap.size wr (w2.setCell ⟨wr.heap.size,3,none⟩ rv):=((iB.alloc (Nat.le_refl _) X).trans (hb2.mono (by simp))).setCell (Nat.le_refl _) _;have hne:∀g,rv.ownBlock=some g→g≠wr.heap.size:=fun g hg=>by have:=hf2 g hg;simp at this;omega
 refine ⟨hown.below (xe (iG EK)) hbw,hb.trans (hbw.mono hws),⟨⟨rv,rfl,?_,fun g hg=>hg⟩,fun b hbg=>⟨⟨?_,?_⟩,?_⟩⟩,fun y hy b hyb hrb=>?_⟩
 ·exact ho2.move bB (fun g hg=>Below.heap_setCell _ _ _ _ (hne g hg)) (fun b hb=>hb.elim)
 ·have:=hf2 b hbg;simp at this;omega
 ·intro hbv
  have:=hown.lt b hbv.symm;have:=hf2 b hbg;simp at this;omega
 ·simpa using ho2.lt b hbg
 ·have h1:=hown.TL y hy b hyb
  have:=hf2 b hrb;simp at this;omega
theorem qi (w:World) (v:Value) (l:List aN) (S:Nat→Prop) (h:aZ 4 fZ w v l S) (hn:l.length≤1000000) (hin:∀x∈l,x.line.length≤1000000) :
 Calls Tryz.prog 91 #[v] w fun e w'=>∃v',e=.returned v'∧lT 89 4 (jl 3) w' v' l (fun b=>w.heap.size≤b)∧Below w.heap.size w w'∧(∀g,v'.ownBlock=some g→w.heap.size≤g):=by
 obtain ⟨a,cap,hv,hl,hm,hnil,-⟩:=id h;subst hv;unfold maxLen at hm
 go_enter Tryz.func91,Tryz.ntmps91
 go_wp2
 go_loopw [3,5,8] (fun v _ i wr=>∃(k:Nat) (l2:List (aN×(Nat→Prop))),k≤l.length∧i=iI k∧Hid (l2.map (·.1)=l.take k)∧Hid (Apart l2)∧bZ 89 4 (rG (jl 3)) wr v l2 (fun b=>w.heap.size≤b) ∧
  Below w.heap.size w wr∧(∀g,v.ownBlock=some g→w.heap.size≤g))
  (fun _ _ i _=>l.length - (intOf i).toNat)
 case atStart=>exact ⟨0,[],by omega,rfl,rfl,Apart.nil,bZ.nil _ _,iB,by simp [Value.ownBlock]⟩
 case round =>
  obtain ⟨k,l2,hk,rfl,hmap,hap,hown,hb,hvb⟩:=hrel;have hws:=hb.size;have hll:l2.length=k:=by have:=congrArg List.length hmap.out;simpa [Nat.min_eq_left hk] using this
  by_cases hlt:k<l.length
  ·obtain ⟨b,off,cap',row,hv,hS,hrow,hcells⟩:=(h.below aM (by decide) hb).row k hlt
   simp only [Value.slice.injEq] at hv;obtain ⟨rfl,_,rfl⟩:=hv;have Qo:=hin l[k] (List.getElem_mem hlt);have HM:Hid (l.take (k+1)=l.take k++[l[k]]):=by show _=_;rw [List.take_succ_eq_append_getElem hlt]
   generalize l[k]=x at *;obtain ⟨rv,rfl,jd⟩:=hrow;obtain ⟨ra,wZ,rfl,-⟩:=id jd;have q0:=hcells 0 _ rfl;have q1:=hcells 1 _ rfl;have q2:=hcells 2 _ rfl;have q3:=hcells 3 _ rfl;simp only [Nat.add_zero] at q0;clear hcells;have hbl:b<wr.heap.size:=World.block_lt_of_cell? wr _ q0;have HL:=iH hll;clear hll h hS hin hnil
   go_wp2_with (first
    | (go_at_call 135;refine (BN bB _ _ _ _ (jd.below bB (by decide) (iB.alloc (Nat.le_refl _) _)) Qo).mono ?_;rintro e w2 ⟨rv',rfl,ho2,hb2,hz⟩;obtain ⟨hc2,hz2⟩:=qX hb2;have hs2:=hb2.size;obtain ⟨N7,ES,rfl⟩:=ho2.shape)
    | (at_builtin;obtain ⟨k1,k2,k3,k4⟩:=CQ (x:=x) hown hb _ hb2 (ho2.forget (fun _ _ _ _ _ h=>h)) hz;refine kJ Tryz.I9 (.tmp 16) (.tmp 18) rfl rfl (xe (iG _)) (x,_) rfl rfl (by simp) k1 k2 hvb k3 (by rw [HL.out];omega) ?_;intro v' w' hown' hb' Kt))
   go_roundw
   case rel =>
    refine ⟨k+1,_,by omega,by go_num,?_,?_,hown',hb',Kt⟩
    ·show _=_
     rw [HM.out,List.map_append,hmap.out];rfl
    ·exact hap.out.snoc _ fun y hy b hyb=>by
      have h1:=hown.TL y hy b hyb;intro hrb;have:=hz b hrb;simp at this;omega
   case measure=>simp [intOf];omega
  ·obtain rfl:k=l.length:=by omega
   have hF:Hid (l2.map (·.1)=l):=by have:=hmap.out;rw [List.take_length] at this;exact this
   clear hmap h hnil;go_wp2;go_ret;exact ⟨_,rfl,⟨l2,hF.out,hap.out,hown⟩,hb,hvb⟩
end Go.Proofs.YtbngpjdflblffaaGreatDoor
namespace Go.Proofs.YtbngpjdflblffaaGreatDoor
open Go.RowKit Go.Tk
theorem Tryz.Jb:dM Tryz.prog 24 96 3 40:=⟨Tryz.underlying24,by kernel_rfl,by decide⟩
theorem sZ {α:Type} {R:Rel α} (hR:cu R 3) (w:World) (v:Value) (l:List α) (S:Nat→Prop) (h:aZ 3 R w v l S) (hn:l.length≤1000000) :
 Calls Tryz.prog 92 #[v] w fun e w'=>∃v',e=.returned v'∧bZ 96 3 R w' v' l S∧Below w.heap.size w w'∧(∀g,v'.ownBlock=some g→w.heap.size≤g):=by
 obtain ⟨a,cap,hv,hl,hm,hnil,hr⟩:=id h;subst hv;have hm':=hm;unfold maxLen at hm';cases a with
 | none =>
   have h0:=hnil rfl;subst h0;have hl0:l=[]:=List.eq_nil_of_length_eq_zero (by omega);subst hl0;have he:=Lib.run_eql_slice_nil (P:=Tryz.prog) (t:=24)
   go_enter Tryz.func92,Tryz.ntmps92
   go_wp2;go_ret;exact ⟨_,rfl,bZ.nil w S,iB,by simp [Value.ownBlock]⟩
 | some a =>
   obtain ⟨a',cap',rows,hv,-,-,hrl,hrel,hcells⟩:=h.rows hR (by decide);simp only [Value.slice.injEq] at hv;obtain ⟨rfl,-,rfl⟩:=hv;have hlen:=bZ.jq (E:=96) (v:=.slice (some a) l.length cap) hR hrl hrel;have hone:=bZ.qm (E:=96) hR hrl hrel;have hfl:rows.flatten.length=l.length*3:=by
    have:∀(rs:List (List Value)),(∀r∈rs,r.length=3)→rs.flatten.length=rs.length*3:=by
     intro rs
     induction rs with
     | nil=>intro _;rfl
     | cons r rs ih=>intro hk;rw [List.flatten_cons,List.length_append,hk r (by simp),ih (fun r hr=>hk r (by simp [hr]))];simp;omega
    rw [this rows hlen,hrl]
   have hown0:(w.alloc (.cells #[] 96)).ownsRow 0 96 3 (.slice (some ⟨w.heap.size,0,none⟩) 0 0) 0 [] :=
    ⟨rfl, .inr ⟨w.heap.size,0,#[],rfl,Nat.zero_le _,heap_alloc_new w _,Nat.le_refl _,by decide,rfl,rfl⟩⟩
   obtain ⟨v',w',hrun,g1,g2,g3⟩:=gD (P:=Tryz.prog) (ty:=24) (w.alloc (.cells #[] 96)) Tryz.Jb _ 0 [] hown0 a l.length cap rows.flatten hfl (fun j u hu=>by
    obtain ⟨b,off,ha,_,hc⟩:=hcells j u hu;simp only [Option.some.injEq] at ha;subst ha;have hlt:=World.block_lt_of_cell? w _ hc;rw [Addr.add_lit,World.cell?_alloc_past _ _ _ hlt];exact hc) hone (by omega)
   have hvb:∀g,v'.ownBlock=some g→w.heap.size≤g:=by
    intro g hg
    rcases g3 with e | ⟨g',e,h⟩
    ·rw [e] at hg;cases hg;exact Nat.le_refl _
    ·rw [e] at hg;cases hg;simp at h;omega
   have hb:Below w.heap.size w w':=(iB.alloc (Nat.le_refl _) _).grown g2 (by simp) (fun k hk=>by cases hk;exact Nat.le_refl _);have hfin:bZ 96 3 R w' v' l S:=by
    refine ⟨rows,hrl,by simpa using g1,fun i r x hr hx=>hR.move (hrel i r x hr hx) fun b hs hlt=>⟨hb.block b hlt,hs,?_⟩⟩;intro hbg;have:=hvb b hbg.symm;omega
   have HF:=iH hfin;have HV:=iH hvb;have he:=Lib.run_eql_slice_nil (P:=Tryz.prog) (t:=24);clear hfin hvb g1 g2 g3 hcells hrel hlen hone hfl hown0 hr h hrl
   go_enter Tryz.func92,Tryz.ntmps92
   go_wp2_with (at_builtin;refine wpList_append_run rfl _ _ _ _ rfl _ _ rfl rfl hrun ?_)
   go_ret;exact ⟨v',rfl,HF.out,hb,HV.out⟩
end Go.Proofs.YtbngpjdflblffaaGreatDoor
namespace Go.Proofs.YtbngpjdflblffaaGreatDoor
open Go.RowKit Go.Tk
def rW (w:World) (r:Option Nat) (S:Nat→Prop) (c:Nat) (cap:Value) (p:aG→Bool):Prop :=
 ∀(w':World) (x:aG) (rv:Value),w.grownBy w' r→bR w' [iI x.client, iI x.id, iI x.aH, iI x.last,rv] x S→Calls Tryz.prog c #[.agg #[iI x.client, iI x.id, iI x.aH, iI x.last,rv],cap] w' fun e w''=>e=.returned (.bool (p x))∧Below w'.heap.size w' w''
theorem oO (w:World) (v:Value) (l:List aG) (S:Nat→Prop) (h:aZ 5 bR w v l S) (hn:l.length≤1000000) (c:Nat) (cap:Value) (p:aG→Bool) (r:Option Nat) (hin:∀args w,(callFunc c args).run Tryz.prog w=.ok (.enter c args) w) (hp:rW w r S c cap p) :
 Calls Tryz.prog 137 #[v, .func (.func c) #[] #[cap]] w fun e w' =>
  e=.returned (iI (kD p l))∧Below w.heap.size w w':=by
 obtain ⟨a,vc,hv,hl,hm,hnil,-⟩:=id h;subst hv;unfold maxLen at hm;have hlen:(l.length:Int)≤1000000:=by omega
 go_enter Tryz.func137,Tryz.ntmps137
 go_wp2
 go_loopw [8] (fun i wr=>∃n:Nat,n≤l.length∧i=iI n∧Hid (∀(j:Nat) (hj:j<l.length),j<n→p l[j]=false)∧Below w.heap.size w wr)
  (fun i _=>l.length - (intOf i).toNat)
 case atStart=>exact ⟨0,by omega,rfl,fun j _ hj=>by omega,iB⟩
 case round =>
  obtain ⟨n,hnl,rfl,hall,hb⟩:=hrel;have hws:=hb.size
  by_cases hlt:n<l.length
  ·obtain ⟨b,off,NN,row,hv,hS,hrow,hcells⟩:=(h.below aF (by decide) hb).row n hlt
   simp only [Value.slice.injEq] at hv;obtain ⟨rfl,_,rfl⟩:=hv;have HY:Hid (p l[n]=true→kD p l=n):=fun ht=>qO hlt ht hall.out
   have HN:Hid (p l[n]=false→∀(j:Nat) (hj:j<l.length),j<n+1→p l[j]=false):=fun ht j hj hj1=>by
    rcases Nat.lt_or_ge j n with h | h
    ·exact hall.out j hj h
    ·obtain rfl:j=n:=by omega
     exact ht
   clear hall;generalize xX:l[n]=x at *;clear xX;have hrow':=hrow;obtain ⟨rv,rfl,jd⟩:=hrow;obtain ⟨ra,wZ,rfl,-⟩:=id jd;have q0:=hcells 0 _ rfl;have q1:=hcells 1 _ rfl;have q2:=hcells 2 _ rfl;have q3:=hcells 3 _ rfl;have q4:=hcells 4 _ rfl;simp only [Nat.add_zero] at q0;clear hcells;have HC:=iH (hp _ _ _ (aY hb r) hrow');clear hrow' hp h
   by_cases hf:p x=true
   ·have HF:=iH (HY.out hf)
    go_wp2_with fail
    refine HC.out.mono ?_;rw [hf];rintro e w2 ⟨rfl,hb2⟩;go_wp2;go_ret;exact ⟨by rw [HF.out];rfl,hb.trans (hb2.mono hws)⟩
   ·have hf':p x=false:=by simpa using hf
    go_wp2_with fail
    refine HC.out.mono ?_;rw [hf'];rintro e w2 ⟨rfl,hb2⟩;go_wp2
    go_roundw
    case rel=>exact ⟨n+1,by omega,by go_num,HN.out hf',hb.trans (hb2.mono hws)⟩
    case measure=>simp [intOf];omega
  ·obtain rfl:n=l.length:=by omega
   have HF:Hid (kD p l=-1):=mH fun j hj=>hall.out j hj hj
   clear hall hp h;go_wp2;go_ret;exact ⟨by rw [HF.out];rfl,hb⟩
end Go.Proofs.YtbngpjdflblffaaGreatDoor
