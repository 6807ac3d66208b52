/- A part of the proof, laid together from: SnapC, StepApp. -/
import Derived.Test.YtbngpjdflblffaaGreatDoorPa17
set_option linter.all false
set_option maxRecDepth 100000
set_option maxHeartbeats 12800000
namespace Go.Tk
open Go Go.RowKit
theorem l9 {a r:Bytes} {s:bf} (h:a++r=bn s) (hs:(bn s).length≤4000):a.length≤4000:=by
 rw [←h,List.length_append] at hs;omega
theorem iL {α:Type} (f:α→Bytes) (l:List α) (n:Nat) (h:n<l.length):(l.drop n).flatMap f=f l[n]++(l.drop (n+1)).flatMap f:=by
 rw [List.drop_eq_getElem_cons h,List.flatMap_cons]
theorem jv {α:Type} (f:α→Bytes) (l:List α) (n:Nat) (h:¬ n<l.length):(l.drop n).flatMap f=[]:=by
 rw [List.drop_eq_nil_of_le (by omega)];rfl
theorem pK {P:Program} {ops:Array Oper} {o:Oper} {a:Act} {w:World} {K:Act→World→Prop} {Q:Exit→Act→World→Prop} {G:Prop}
 (hg:o.guard=none) (s x:Operand) {T E k bytes:Nat} (hop:o.op=Op.call { callee:=Callee.builtin Builtin.append,args:=#[s,x],argTypes:=#[T,T] }) (hT:dM P T E k bytes)
 {α:Type} {R:Rel α} (hR:cu R k) {v:Value} {l:List α} {S:Nat→Prop} (y:α) {n0 c:Nat} {cs:List Value} (hs:a.eval s=v) (hx:a.eval x=.slice (some ⟨n0,0,none⟩) 1 c)
 (hn:∀(j:Nat) (u:Value),cs[j]?=some u→w.cell? ⟨n0,j,none⟩=some u) (hown:bZ E k R w v l S) (hy:R w cs y (fun b=>S b∧some b≠v.ownBlock)) (hlen:(l.length+1)*(bytes+1)≤140737488355328)
 (hK:∀v' w',bZ E k R w' v' (l++[y]) S→w.grownBy w' v.ownBlock→(v'.ownBlock=v.ownBlock∨∃g,v'.ownBlock=some g∧w.heap.size≤g)→K (a.put o.dst v') w') :
 if Region.wanted o (yielded ops a.tmps)=true then Oper.wp P o a w K Q else G:=by
 have hw:Region.wanted o (yielded ops a.tmps)=true:=by simp [Region.wanted,hg]
 rw [if_pos hw];obtain ⟨rows,h1,h2,h3⟩:=hown;have hcs:cs.length=1*k:=by rw [hR.len hy];omega
 obtain ⟨v',w',hr,g1,g2,g3⟩:=gD (P:=P) (ty:=o.type) w hT v l.length rows.flatten h2 ⟨n0,0,none⟩ 1 c cs hcs
  (fun j u hu=>by rw [Addr.add_lit];simp only [Nat.zero_add];exact hn j u hu) (hR.one hy) hlen
 have hS:∀b,S b∧some b≠v.ownBlock→b<w.heap.size→w'.heap[b]?=w.heap[b]?∧S b∧some b≠v'.ownBlock:=by
  rintro b ⟨hs,hne⟩ hl;refine ⟨g2.block b hl hne,hs,?_⟩
  rcases g3 with e | ⟨g,e,hge⟩
  ·rw [e];exact hne
  ·rw [e];intro hbg;cases hbg;omega
 unfold Oper.wp execOp;simp only [hop,resolve,invoke,builtin,Sem.run_bind,Sem.run_pure,Result.andThen_ok,List.map_toArray,List.map_cons,List.map_nil,hs,hx,hr];refine hK _ _ ⟨rows++[cs],by simp [h1],by simpa using g1,?_⟩ g2 g3;intro i r y' hr' hy'
 rcases Nat.lt_or_ge i l.length with hi | hi
 ·rw [List.getElem?_append_left (by omega)] at hr'
  rw [List.getElem?_append_left hi] at hy';exact hR.move (h3 i r y' hr' hy') hS
 ·rw [List.getElem?_append_right (by omega)] at hr'
  rw [List.getElem?_append_right hi] at hy'
  rcases Nat.eq_zero_or_pos (i - l.length) with h0 | h0
  ·rw [show i - rows.length=0 by omega] at hr'
   rw [h0] at hy';cases hr';cases hy';exact hR.move hy hS
  ·simp [List.getElem?_cons,show i - l.length≠0 by omega] at hy'
theorem lU {P:Program} {ops:Array Oper} {rest:List Oper} {o:Oper} {a:Act} {w:World} {Q:Exit→Act→World→Prop}
 (hg:o.guard=none) (s x:Operand) {T E k bytes:Nat} (hop:o.op=Op.call { callee:=Callee.builtin Builtin.append,args:=#[s,x],argTypes:=#[T,T] }) (hT:dM P T E k bytes)
 {α:Type} {R:Rel α} (hR:cu R k) {v:Value} {l:List α} {S:Nat→Prop} (y:α) {n0 c:Nat} {cs:List Value} (hs:a.eval s=v) (hx:a.eval x=.slice (some ⟨n0,0,none⟩) 1 c)
 (hn:∀(j:Nat) (u:Value),cs[j]?=some u→w.cell? ⟨n0,j,none⟩=some u) (hown:bZ E k R w v l S) (hy:R w cs y (fun b=>S b∧some b≠v.ownBlock)) (hlen:(l.length+1)*(bytes+1)≤140737488355328)
 (hK:∀v' w',bZ E k R w' v' (l++[y]) S→w.grownBy w' v.ownBlock→(v'.ownBlock=v.ownBlock∨∃g,v'.ownBlock=some g∧w.heap.size≤g)→wpList P ops Q rest (a.put o.dst v') w'):wpList P ops Q (o::rest) a w:=by
 refine wpList_plain hg fun K hK'=>?_
 have hw:Region.wanted o (yielded ops a.tmps)=true:=by simp [Region.wanted,hg]
 have:=pK (ops:=ops) (Q:=Q) (G:=True) (K:=K) hg s x hop hT hR y hs hx hn hown hy hlen (fun v' w' h1 h2 h3=>hK' _ _ (hK v' w' h1 h2 h3))
 rwa [if_pos hw] at this
end Go.Tk
namespace Go.Proofs.YtbngpjdflblffaaGreatDoor
open Go.RowKit Go.Tk
theorem oQ (s:bf) (vl vp vs:Value) (S:Nat→Prop) (w:World) (h:fT w s vl vp vs S) (hok:mO s) :
 Calls Tryz.prog 13 #[.agg #[iI s.index,vl,vp,vs]] w fun e w'=>e=.returned (.tuple #[.string ⟨(bn s++jI (bn s)).toArray⟩, iI 0])∧Below w.heap.size w w':=by
 have gG:=iH hok;have K5:=iH (sI hok);have HS:=iH (h.sub (S':=fun b=>b<w.heap.size) fun b _ hlt=>hlt);clear h hok;obtain ⟨al,cl,rfl,-,hml,-,-⟩:=id HS.out.lock;obtain ⟨ap,cp,rfl,-,hmp,-,-⟩:=id HS.out.pair;obtain ⟨az,cz,rfl,-,hmz,-,-⟩:=id HS.out.dG;unfold maxLen at hml hmp hmz;have hll:=gG.out.lock.len;have hpl:=gG.out.pair.len;have hzl:=gG.out.dG.len
 go_enter Tryz.func13,Tryz.ntmps13
 go_upto_region 1 with (fail);have HB:=iH (Below.refl w.heap.size w);have HX:=iH (aD.new (w:=w) (cs:=[iI s.index, .slice al s.au.length cl, .slice ap s.pairs.length cp, .slice az s.af.length cz]) (E:=27));have hba:=aj w (.cells #[iI s.index, .slice al s.au.length cl, .slice ap s.pairs.length cp, .slice az s.af.length cz] 27);replace HS:=iH (HS.out.below hba);replace HB:=iH (ah HB.out hba);clear hba;generalize w.alloc (.cells #[iI s.index, .slice al s.au.length cl, .slice ap s.pairs.length cp, .slice az s.af.length cz] 27)=w1 at *;obtain ⟨b0,b1,b2,b3⟩:=dJ HX.out
 go_wp2_with fail
 refine (oh s _ _ _ _ w1 HS.out gG.out.fits).mono ?_;rw [pY.2 gG.out];rintro e w2 ⟨rfl,hb2⟩;clear b0 b1 b2 b3;replace HS:=iH (HS.out.below hb2);replace HB:=iH (ah HB.out hb2);replace HX:=iH (HX.out.below hb2);clear hb2;have hBs:=HX.out.lt;go_upto_region 5 with (fail);have HW:=iH (aD.new (w:=w2) (cs:=[.string ⟨#[]⟩]) (E:=110));have hba:=aj w2 (.cells #[.string ⟨#[]⟩] 110);have hW2:=HB.out.size;replace HS:=iH (HS.out.below hba);replace HB:=iH (ah HB.out hba);replace HX:=iH (HX.out.below hba);clear hba;generalize w2.alloc (.cells #[.string ⟨#[]⟩] 110)=w3 at *;obtain ⟨Wb,Yp⟩:∃Wb,w2.heap.size=Wb:=⟨_,rfl⟩;rw [Yp] at HW hBs hW2⊢;clear Yp;obtain ⟨acc,hacc⟩:∃acc:Bytes,acc=[]:=⟨_,rfl⟩;replace HW:Hid (aD w3 Wb [iS acc]):=by rw [hacc];exact HW
 have jb:=iH (show acc++(bY s.index++(bY s.au.length++(s.au.flatMap gT++(bY s.pairs.length++(s.pairs.flatMap fF++(bY s.af.length++s.af.flatMap bI))))))=bn s by rw [hacc];rfl);clear hacc;obtain ⟨b0,b1⟩:=qw HX.out;have hal:=l9 jb.out K5.out;have hsl:aZ 1 jE (w3.alloc (.cells #[iI s.index, iI (s.au.length:Int)] 3)) (.slice (some ⟨w3.heap.size,0,none⟩) 2 2) [s.index,(s.au.length:Int)] (fun c=>c=w3.heap.size):=pM (l:=[s.index,(s.au.length:Int)]) (aD.new (w:=w3) (cs:=[iI s.index, iI (s.au.length:Int)])) (by simp [maxLen]);have hwl:=HW.out.lt;have hba:=aj w3 (.cells #[iI s.index, iI (s.au.length:Int)] 3);replace HS:=iH (HS.out.below hba);replace HB:=iH (ah HB.out hba);replace HX:=iH (HX.out.below hba);replace HW:=iH (HW.out.below hba);have Ck:=iH (iT acc [s.index,(s.au.length:Int)] Wb _ _ (w3.alloc (.cells #[iI s.index, iI (s.au.length:Int)] 3)) HW.out hsl (fun b hb=>by subst hb;omega) (by simp only [List.length_cons,List.length_nil];omega))
 go_wp2_with fail
 refine Ck.out.mono ?_;rintro e w4 ⟨rfl,hbw,hg⟩;clear Ck hsl hba hwl b0 b1;replace HS:=iH (HS.out.move fun b hb hlt=>⟨hg.block b hlt (fun e=>by have:=Option.some.inj e;have:b<w.heap.size:=hb;omega),hb⟩);replace HB:=iH (HB.out.grown hg HB.out.size (fun k e=>by have:=Option.some.inj e;omega));replace HX:=iH (HX.out.grown hg (fun e=>by have:=Option.some.inj e;omega));replace jb:=iH (show (acc++cK [s.index,(s.au.length:Int)])++(_:Bytes)=bn s from by simpa only [cK,List.flatMap_cons,List.flatMap_nil,List.append_nil,List.append_assoc,List.nil_append] using jb.out);replace HW:=iH hbw;clear hbw hg hal;generalize acc++cK [s.index,(s.au.length:Int)]=Cf at jb HW;clear acc
 rename List UInt8=>acc
 have b1:=HX.out.cell 1 _ rfl;go_wp2;clear b1
 go_loopw [32] (fun i wr=>∃(n:Nat) (acc:Bytes),n≤s.au.length∧i=iI n∧Hid (aD wr Wb [iS acc])∧Hid (acc++((s.au.drop n).flatMap gT++(bY s.pairs.length++(s.pairs.flatMap fF++(bY s.af.length++s.af.flatMap bI))))=bn s)∧Hid (w4.grownBy wr (some Wb)))
  (fun i _=>s.au.length - (intOf i).toNat)
 case atStart=>exact ⟨0,acc,by omega,rfl,HW,jb,iH (grownBy_refl _ _)⟩
 case round =>
 clear HW jb;obtain ⟨n,acc,hn,rfl,HW,jb,HG⟩:=hrel;replace HS:=iH (HS.out.move fun b hb hlt=>⟨HG.out.block b hlt (fun e=>by have:=Option.some.inj e;have:b<w.heap.size:=hb;omega),hb⟩);replace HB:=iH (HB.out.grown HG.out HB.out.size (fun k e=>by have:=Option.some.inj e;omega));replace HX:=iH (HX.out.grown HG.out (fun e=>by have:=Option.some.inj e;omega))
 by_cases hlt:n<s.au.length
 ·have h0:=jb.out
  rw [iL gT s.au n hlt] at h0;replace jb:=iH h0;clear h0;obtain ⟨b,off,cap',row,hv,-,hrow,hcells⟩:=HS.out.lock.row n hlt;simp only [Value.slice.injEq] at hv;obtain ⟨rfl,-,rfl⟩:=hv;have hkn:=(jA (gG.out.lock.name _ (List.getElem_mem hlt))).2;have hkl:=(gG.out.lock.line _ (List.getElem_mem hlt)).len;generalize s.au[n]=k at *;obtain ⟨rv,rfl,jd⟩:=hrow;obtain ⟨ra,rc,rfl,-,-,-,-⟩:=id jd;have q0:=hcells 0 _ rfl;have q1:=hcells 1 _ rfl;have q2:=hcells 2 _ rfl;have q3:=hcells 3 _ rfl;simp only [Nat.add_zero] at q0;have Ak:=iH jd;have KD:=HW.out.lt;clear hcells jd;go_upto_region 9 with (fail);clear q0 q1 q2 q3;have h0:=jb.out;simp only [gT,List.append_assoc] at h0;replace jb:=iH h0;clear h0;have HK:=iH (aD.new (w:=wr) (cs:=[iS k.name, iI k.holder, iI k.fence, .slice ra k.line.length rc]) (E:=89));have hba:=aj wr (.cells #[iS k.name, iI k.holder, iI k.fence, .slice ra k.line.length rc] 89);replace HG:=iH (grownBy_trans HG.out (aY hba (some Wb)));replace HS:=iH (HS.out.below hba);replace HB:=iH (ah HB.out hba);replace HX:=iH (HX.out.below hba);replace HW:=iH (HW.out.below hba);replace Ak:=iH (Ak.out.below bB (by decide) hba);clear hba;generalize wr.alloc (.cells #[iS k.name, iI k.holder, iI k.fence, .slice ra k.line.length rc] 89)=w5 at *;generalize wr.heap.size=K at *
  have k0:=HK.out.cell 0 _ rfl;have hal:=l9 jb.out K5.out;have Ns:=iH (qC acc k.name Wb w5 HW.out (by omega) (by omega))
  go_wp2_with fail
  refine Ns.out.mono ?_;rintro e w6 ⟨rfl,hbw,hg⟩;clear Ns k0;replace HS:=iH (HS.out.move fun b hb hlt=>⟨hg.block b hlt (fun e=>by have:=Option.some.inj e;have:b<w.heap.size:=hb;omega),hb⟩);replace HB:=iH (HB.out.grown hg HB.out.size (fun k e=>by have:=Option.some.inj e;omega));replace HX:=iH (HX.out.grown hg (fun e=>by have:=Option.some.inj e;omega));replace HG:=iH (grownBy_trans HG.out hg);replace Ak:=iH (Ak.out.nA bB (by decide) hg (fun b hb=>by have:b<w.heap.size:=hb;omega));replace HK:=iH (HK.out.grown hg (fun e=>by have:=Option.some.inj e;omega));replace jb:=iH (show (acc++jG k.name)++(_:Bytes)=bn s from by simpa only [cK,List.flatMap_cons,List.flatMap_nil,List.append_nil,List.append_assoc,List.nil_append] using jb.out);replace HW:=iH hbw;clear hbw hg hal;generalize acc++jG k.name=Cf at jb HW;clear acc
  rename List UInt8=>acc
  have k1:=HK.out.cell 1 _ rfl;have k2:=HK.out.cell 2 _ rfl;have k3:=HK.out.cell 3 _ rfl;have hal:=l9 jb.out K5.out;have hsl:aZ 1 jE (w6.alloc (.cells #[iI k.holder, iI k.fence, iI (k.line.length:Int)] 3)) (.slice (some ⟨w6.heap.size,0,none⟩) 3 3) [k.holder,k.fence,(k.line.length:Int)] (fun c=>c=w6.heap.size):=pM (l:=[k.holder,k.fence,(k.line.length:Int)]) (aD.new (w:=w6) (cs:=[iI k.holder, iI k.fence, iI (k.line.length:Int)])) (by simp [maxLen]);have hwl:=HW.out.lt;have hba:=aj w6 (.cells #[iI k.holder, iI k.fence, iI (k.line.length:Int)] 3);replace HG:=iH (grownBy_trans HG.out (aY hba (some Wb)));replace HS:=iH (HS.out.below hba);replace HB:=iH (ah HB.out hba);replace HX:=iH (HX.out.below hba);replace HW:=iH (HW.out.below hba);replace Ak:=iH (Ak.out.below bB (by decide) hba);replace HK:=iH (HK.out.below hba);have Ck:=iH (iT acc [k.holder,k.fence,(k.line.length:Int)] Wb _ _ (w6.alloc (.cells #[iI k.holder, iI k.fence, iI (k.line.length:Int)] 3)) HW.out hsl (fun b hb=>by subst hb;omega) (by simp only [List.length_cons,List.length_nil];omega))
  go_wp2_with fail
  refine Ck.out.mono ?_;rintro e w7 ⟨rfl,hbw,hg⟩;clear Ck hsl hba hwl k1 k2 k3;replace HS:=iH (HS.out.move fun b hb hlt=>⟨hg.block b hlt (fun e=>by have:=Option.some.inj e;have:b<w.heap.size:=hb;omega),hb⟩);replace HB:=iH (HB.out.grown hg HB.out.size (fun k e=>by have:=Option.some.inj e;omega));replace HX:=iH (HX.out.grown hg (fun e=>by have:=Option.some.inj e;omega));replace HG:=iH (grownBy_trans HG.out hg);replace Ak:=iH (Ak.out.nA bB (by decide) hg (fun b hb=>by have:b<w.heap.size:=hb;omega));replace HK:=iH (HK.out.grown hg (fun e=>by have:=Option.some.inj e;omega));replace jb:=iH (show (acc++cK [k.holder,k.fence,(k.line.length:Int)])++(_:Bytes)=bn s from by simpa only [cK,List.flatMap_cons,List.flatMap_nil,List.append_nil,List.append_assoc,List.nil_append] using jb.out);replace HW:=iH hbw;clear hbw hg hal;generalize acc++cK [k.holder,k.fence,(k.line.length:Int)]=Cf at jb HW;clear acc
  rename List UInt8=>acc
  have k3:=HK.out.cell 3 _ rfl;have hal:=l9 jb.out K5.out;have Ck:=iH (iT acc k.line Wb _ _ w7 HW.out Ak.out (fun b hb=>by have:b<w.heap.size:=hb;omega) (by omega))
  go_wp2_with fail
  refine Ck.out.mono ?_;rintro e w8 ⟨rfl,hbw,hg⟩;clear Ck k3;replace HS:=iH (HS.out.move fun b hb hlt=>⟨hg.block b hlt (fun e=>by have:=Option.some.inj e;have:b<w.heap.size:=hb;omega),hb⟩);replace HB:=iH (HB.out.grown hg HB.out.size (fun k e=>by have:=Option.some.inj e;omega));replace HX:=iH (HX.out.grown hg (fun e=>by have:=Option.some.inj e;omega));replace HG:=iH (grownBy_trans HG.out hg);replace Ak:=iH (Ak.out.nA bB (by decide) hg (fun b hb=>by have:b<w.heap.size:=hb;omega));replace HK:=iH (HK.out.grown hg (fun e=>by have:=Option.some.inj e;omega));replace jb:=iH (show (acc++cK k.line)++(_:Bytes)=bn s from by simpa only [cK,List.flatMap_cons,List.flatMap_nil,List.append_nil,List.append_assoc,List.nil_append] using jb.out);replace HW:=iH hbw;clear hbw hg hal;generalize acc++cK k.line=Cf at jb HW;clear acc
  rename List UInt8=>acc
  go_wp2
  go_roundw
  case rel=>exact ⟨n+1,acc,by omega,by go_num,HW,jb,HG⟩
  case measure=>simp [intOf];omega
 have h0:=jb.out;rw [jv gT s.au n hlt,List.nil_append] at h0;replace jb:=iH h0;clear h0;have KD:=HW.out.lt;have b2:=HX.out.cell 2 _ rfl;have hal:=l9 jb.out K5.out;have hsl:aZ 1 jE (wr.alloc (.cells #[iI (s.pairs.length:Int)] 3)) (.slice (some ⟨wr.heap.size,0,none⟩) 1 1) [(s.pairs.length:Int)] (fun c=>c=wr.heap.size):=pM (l:=[(s.pairs.length:Int)]) (aD.new (w:=wr) (cs:=[iI (s.pairs.length:Int)])) (by simp [maxLen]);have hwl:=HW.out.lt;have hba:=aj wr (.cells #[iI (s.pairs.length:Int)] 3);replace HS:=iH (HS.out.below hba);replace HB:=iH (ah HB.out hba);replace HX:=iH (HX.out.below hba);replace HW:=iH (HW.out.below hba);have Ck:=iH (iT acc [(s.pairs.length:Int)] Wb _ _ (wr.alloc (.cells #[iI (s.pairs.length:Int)] 3)) HW.out hsl (fun b hb=>by subst hb;omega) (by simp only [List.length_cons,List.length_nil];omega))
 go_wp2_with fail
 refine Ck.out.mono ?_;rintro e w5 ⟨rfl,hbw,hg⟩;clear Ck hsl hba hwl b2 KD;replace HS:=iH (HS.out.move fun b hb hlt=>⟨hg.block b hlt (fun e=>by have:=Option.some.inj e;have:b<w.heap.size:=hb;omega),hb⟩);replace HB:=iH (HB.out.grown hg HB.out.size (fun k e=>by have:=Option.some.inj e;omega));replace HX:=iH (HX.out.grown hg (fun e=>by have:=Option.some.inj e;omega));replace jb:=iH (show (acc++cK [(s.pairs.length:Int)])++(_:Bytes)=bn s from by simpa only [cK,List.flatMap_cons,List.flatMap_nil,List.append_nil,List.append_assoc,List.nil_append] using jb.out);replace HW:=iH hbw;clear hbw hg hal;generalize acc++cK [(s.pairs.length:Int)]=Cf at jb HW;clear acc
 rename List UInt8=>acc
 clear HG hlt hn;have b2:=HX.out.cell 2 _ rfl;go_wp2;clear b2
 go_loopw [64] (fun i wr=>∃(n:Nat) (acc:Bytes),n≤s.pairs.length∧i=iI n∧Hid (aD wr Wb [iS acc])∧Hid (acc++((s.pairs.drop n).flatMap fF++(bY s.af.length++s.af.flatMap bI))=bn s)∧Hid (w5.grownBy wr (some Wb)))
  (fun i _=>s.pairs.length - (intOf i).toNat)
 case atStart=>exact ⟨0,acc,by omega,rfl,HW,jb,iH (grownBy_refl _ _)⟩
 case round =>
 clear HW jb;obtain ⟨n,acc,hn,rfl,HW,jb,HG⟩:=hrel;replace HS:=iH (HS.out.move fun b hb hlt=>⟨HG.out.block b hlt (fun e=>by have:=Option.some.inj e;have:b<w.heap.size:=hb;omega),hb⟩);replace HB:=iH (HB.out.grown HG.out HB.out.size (fun k e=>by have:=Option.some.inj e;omega));replace HX:=iH (HX.out.grown HG.out (fun e=>by have:=Option.some.inj e;omega))
 by_cases hlt:n<s.pairs.length
 ·have h0:=jb.out
  rw [iL fF s.pairs n hlt] at h0;replace jb:=iH h0;clear h0;obtain ⟨b,off,cap',row,hv,-,hrow,hcells⟩:=HS.out.pair.row n hlt;simp only [Value.slice.injEq] at hv;obtain ⟨rfl,-,rfl⟩:=hv;have hkn:=(jA (gG.out.pair.one _ (List.getElem_mem hlt)).name).2;have hkl:=(gG.out.pair.one _ (List.getElem_mem hlt)).size;generalize s.pairs[n]=k at *;obtain rfl:=hrow;have q0:=hcells 0 _ rfl;have q1:=hcells 1 _ rfl;have q2:=hcells 2 _ rfl;simp only [Nat.add_zero] at q0;have KD:=HW.out.lt;clear hcells;go_upto_region 17 with (fail);clear q0 q1 q2;have h0:=jb.out;simp only [fF,List.append_assoc] at h0;replace jb:=iH h0;clear h0;have HK:=iH (aD.new (w:=wr) (cs:=[iS k.name, iS k.value, iI k.version]) (E:=96));have hba:=aj wr (.cells #[iS k.name, iS k.value, iI k.version] 96);replace HG:=iH (grownBy_trans HG.out (aY hba (some Wb)));replace HS:=iH (HS.out.below hba);replace HB:=iH (ah HB.out hba);replace HX:=iH (HX.out.below hba);replace HW:=iH (HW.out.below hba);clear hba;generalize wr.alloc (.cells #[iS k.name, iS k.value, iI k.version] 96)=w6 at *;generalize wr.heap.size=K at *;have k0:=HK.out.cell 0 _ rfl;have hal:=l9 jb.out K5.out;have Ns:=iH (qC acc k.name Wb w6 HW.out (by omega) (by omega))
  go_wp2_with fail
  refine Ns.out.mono ?_;rintro e w7 ⟨rfl,hbw,hg⟩;clear Ns k0;replace HS:=iH (HS.out.move fun b hb hlt=>⟨hg.block b hlt (fun e=>by have:=Option.some.inj e;have:b<w.heap.size:=hb;omega),hb⟩);replace HB:=iH (HB.out.grown hg HB.out.size (fun k e=>by have:=Option.some.inj e;omega));replace HX:=iH (HX.out.grown hg (fun e=>by have:=Option.some.inj e;omega));replace HG:=iH (grownBy_trans HG.out hg);replace HK:=iH (HK.out.grown hg (fun e=>by have:=Option.some.inj e;omega));replace jb:=iH (show (acc++jG k.name)++(_:Bytes)=bn s from by simpa only [cK,List.flatMap_cons,List.flatMap_nil,List.append_nil,List.append_assoc,List.nil_append] using jb.out);replace HW:=iH hbw;clear hbw hg hal;generalize acc++jG k.name=Cf at jb HW;clear acc
  rename List UInt8=>acc
  have k1:=HK.out.cell 1 _ rfl;have hal:=l9 jb.out K5.out;have Ns:=iH (qC acc k.value Wb w7 HW.out (by omega) (by omega))
  go_wp2_with fail
  refine Ns.out.mono ?_;rintro e w8 ⟨rfl,hbw,hg⟩;clear Ns k1;replace HS:=iH (HS.out.move fun b hb hlt=>⟨hg.block b hlt (fun e=>by have:=Option.some.inj e;have:b<w.heap.size:=hb;omega),hb⟩);replace HB:=iH (HB.out.grown hg HB.out.size (fun k e=>by have:=Option.some.inj e;omega));replace HX:=iH (HX.out.grown hg (fun e=>by have:=Option.some.inj e;omega));replace HG:=iH (grownBy_trans HG.out hg);replace HK:=iH (HK.out.grown hg (fun e=>by have:=Option.some.inj e;omega));replace jb:=iH (show (acc++jG k.value)++(_:Bytes)=bn s from by simpa only [cK,List.flatMap_cons,List.flatMap_nil,List.append_nil,List.append_assoc,List.nil_append] using jb.out);replace HW:=iH hbw;clear hbw hg hal;generalize acc++jG k.value=Cf at jb HW;clear acc
  rename List UInt8=>acc
  have k2:=HK.out.cell 2 _ rfl;have hal:=l9 jb.out K5.out;have hsl:aZ 1 jE (w8.alloc (.cells #[iI k.version] 3)) (.slice (some ⟨w8.heap.size,0,none⟩) 1 1) [k.version] (fun c=>c=w8.heap.size):=pM (l:=[k.version]) (aD.new (w:=w8) (cs:=[iI k.version])) (by simp [maxLen]);have hwl:=HW.out.lt;have hba:=aj w8 (.cells #[iI k.version] 3);replace HG:=iH (grownBy_trans HG.out (aY hba (some Wb)));replace HS:=iH (HS.out.below hba);replace HB:=iH (ah HB.out hba);replace HX:=iH (HX.out.below hba);replace HW:=iH (HW.out.below hba);replace HK:=iH (HK.out.below hba);have Ck:=iH (iT acc [k.version] Wb _ _ (w8.alloc (.cells #[iI k.version] 3)) HW.out hsl (fun b hb=>by subst hb;omega) (by simp only [List.length_cons,List.length_nil];omega))
  go_wp2_with fail
  refine Ck.out.mono ?_;rintro e w9 ⟨rfl,hbw,hg⟩;clear Ck hsl hba hwl k2;replace HS:=iH (HS.out.move fun b hb hlt=>⟨hg.block b hlt (fun e=>by have:=Option.some.inj e;have:b<w.heap.size:=hb;omega),hb⟩);replace HB:=iH (HB.out.grown hg HB.out.size (fun k e=>by have:=Option.some.inj e;omega));replace HX:=iH (HX.out.grown hg (fun e=>by have:=Option.some.inj e;omega));replace HG:=iH (grownBy_trans HG.out hg);replace HK:=iH (HK.out.grown hg (fun e=>by have:=Option.some.inj e;omega));replace jb:=iH (show (acc++cK [k.version])++(_:Bytes)=bn s from by simpa only [cK,List.flatMap_cons,List.flatMap_nil,List.append_nil,List.append_assoc,List.nil_append] using jb.out);replace HW:=iH hbw;clear hbw hg hal;generalize acc++cK [k.version]=Cf at jb HW;clear acc
  rename List UInt8=>acc
  go_wp2
  go_roundw
  case rel=>exact ⟨n+1,acc,by omega,by go_num,HW,jb,HG⟩
  case measure=>simp [intOf];omega
 have h0:=jb.out;rw [jv fF s.pairs n hlt,List.nil_append] at h0;replace jb:=iH h0;clear h0;have KD:=HW.out.lt;have b3:=HX.out.cell 3 _ rfl;have hal:=l9 jb.out K5.out;have hsl:aZ 1 jE (wr.alloc (.cells #[iI (s.af.length:Int)] 3)) (.slice (some ⟨wr.heap.size,0,none⟩) 1 1) [(s.af.length:Int)] (fun c=>c=wr.heap.size):=pM (l:=[(s.af.length:Int)]) (aD.new (w:=wr) (cs:=[iI (s.af.length:Int)])) (by simp [maxLen]);have hwl:=HW.out.lt;have hba:=aj wr (.cells #[iI (s.af.length:Int)] 3);replace HS:=iH (HS.out.below hba);replace HB:=iH (ah HB.out hba);replace HX:=iH (HX.out.below hba);replace HW:=iH (HW.out.below hba);have Ck:=iH (iT acc [(s.af.length:Int)] Wb _ _ (wr.alloc (.cells #[iI (s.af.length:Int)] 3)) HW.out hsl (fun b hb=>by subst hb;omega) (by simp only [List.length_cons,List.length_nil];omega))
 go_wp2_with fail
 refine Ck.out.mono ?_;rintro e w6 ⟨rfl,hbw,hg⟩;clear Ck hsl hba hwl b3 KD;replace HS:=iH (HS.out.move fun b hb hlt=>⟨hg.block b hlt (fun e=>by have:=Option.some.inj e;have:b<w.heap.size:=hb;omega),hb⟩);replace HB:=iH (HB.out.grown hg HB.out.size (fun k e=>by have:=Option.some.inj e;omega));replace HX:=iH (HX.out.grown hg (fun e=>by have:=Option.some.inj e;omega));replace jb:=iH (show (acc++cK [(s.af.length:Int)])++(_:Bytes)=bn s from by simpa only [cK,List.flatMap_cons,List.flatMap_nil,List.append_nil,List.append_assoc,List.nil_append] using jb.out);replace HW:=iH hbw;clear hbw hg hal;generalize acc++cK [(s.af.length:Int)]=Cf at jb HW;clear acc
 rename List UInt8=>acc
 clear HG hlt hn;have b3:=HX.out.cell 3 _ rfl;go_wp2;clear b3
 go_loopw [91] (fun i wr=>∃(n:Nat) (acc:Bytes),n≤s.af.length∧i=iI n∧Hid (aD wr Wb [iS acc])∧Hid (acc++((s.af.drop n).flatMap bI)=bn s)∧Hid (w6.grownBy wr (some Wb)))
  (fun i _=>s.af.length - (intOf i).toNat)
 case atStart=>exact ⟨0,acc,by omega,rfl,HW,jb,iH (grownBy_refl _ _)⟩
 case round =>
 clear HW jb;obtain ⟨n,acc,hn,rfl,HW,jb,HG⟩:=hrel;replace HS:=iH (HS.out.move fun b hb hlt=>⟨HG.out.block b hlt (fun e=>by have:=Option.some.inj e;have:b<w.heap.size:=hb;omega),hb⟩);replace HB:=iH (HB.out.grown HG.out HB.out.size (fun k e=>by have:=Option.some.inj e;omega));replace HX:=iH (HX.out.grown HG.out (fun e=>by have:=Option.some.inj e;omega))
 by_cases hlt:n<s.af.length
 ·have h0:=jb.out
  rw [iL bI s.af n hlt] at h0;replace jb:=iH h0;clear h0;obtain ⟨b,off,cap',row,hv,-,hrow,hcells⟩:=HS.out.dG.row n hlt;simp only [Value.slice.injEq] at hv;obtain ⟨rfl,-,rfl⟩:=hv;have jo:=gG.out.dG.rep _ (List.getElem_mem hlt);have hrl:=iA jo;have Ra:=iH (fU.1 jo).one;clear jo;generalize s.af[n]=x at *;obtain ⟨rv,rfl,jd⟩:=hrow;obtain ⟨ra,rc,rfl,-,hrc,-,-⟩:=id jd;unfold maxLen at hrc;have q0:=hcells 0 _ rfl;have q1:=hcells 1 _ rfl;have q2:=hcells 2 _ rfl;have q3:=hcells 3 _ rfl;have q4:=hcells 4 _ rfl;simp only [Nat.add_zero] at q0;have DR:=iH jd;have KD:=HW.out.lt;clear hcells jd;go_upto_region 25 with (fail);clear q0 q1 q2 q3 q4;have h0:=jb.out;simp only [bI,List.append_assoc] at h0;replace jb:=iH h0;clear h0;have HK:=iH (aD.new (w:=wr) (cs:=[iI x.client, iI x.id, iI x.aH, iI x.last, .slice ra x.aA.length rc]) (E:=115));have hba:=aj wr (.cells #[iI x.client, iI x.id, iI x.aH, iI x.last, .slice ra x.aA.length rc] 115);replace HG:=iH (grownBy_trans HG.out (aY hba (some Wb)));replace HS:=iH (HS.out.below hba);replace HB:=iH (ah HB.out hba);replace HX:=iH (HX.out.below hba);replace HW:=iH (HW.out.below hba);replace DR:=iH (DR.out.below aS (by decide) hba);clear hba
  generalize wr.alloc (.cells #[iI x.client, iI x.id, iI x.aH, iI x.last, .slice ra x.aA.length rc] 115)=w7 at *;generalize wr.heap.size=K at *;obtain ⟨k0,k1,k2,k3,k4⟩:=IP HK.out;have hal:=l9 jb.out K5.out;have hsl:aZ 1 jE (w7.alloc (.cells #[iI x.client, iI x.id, iI x.aH, iI x.last, iI (x.aA.length:Int)] 3)) (.slice (some ⟨w7.heap.size,0,none⟩) 5 5) [x.client,x.id,x.aH,x.last,(x.aA.length:Int)] (fun c=>c=w7.heap.size):=pM (l:=[x.client,x.id,x.aH,x.last,(x.aA.length:Int)]) (aD.new (w:=w7) (cs:=[iI x.client, iI x.id, iI x.aH, iI x.last, iI (x.aA.length:Int)])) (by simp [maxLen]);have hwl:=HW.out.lt;have hba:=aj w7 (.cells #[iI x.client, iI x.id, iI x.aH, iI x.last, iI (x.aA.length:Int)] 3);replace HG:=iH (grownBy_trans HG.out (aY hba (some Wb)));replace HS:=iH (HS.out.below hba);replace HB:=iH (ah HB.out hba);replace HX:=iH (HX.out.below hba);replace HW:=iH (HW.out.below hba);replace DR:=iH (DR.out.below aS (by decide) hba);replace HK:=iH (HK.out.below hba)
  have Ck:=iH (iT acc [x.client,x.id,x.aH,x.last,(x.aA.length:Int)] Wb _ _ (w7.alloc (.cells #[iI x.client, iI x.id, iI x.aH, iI x.last, iI (x.aA.length:Int)] 3)) HW.out hsl (fun b hb=>by subst hb;omega) (by simp only [List.length_cons,List.length_nil];omega))
  go_wp2_with fail
  refine Ck.out.mono ?_;rintro e w8 ⟨rfl,hbw,hg⟩;clear Ck hsl hba hwl k0 k1 k2 k3 k4;replace HS:=iH (HS.out.move fun b hb hlt=>⟨hg.block b hlt (fun e=>by have:=Option.some.inj e;have:b<w.heap.size:=hb;omega),hb⟩);replace HB:=iH (HB.out.grown hg HB.out.size (fun k e=>by have:=Option.some.inj e;omega));replace HX:=iH (HX.out.grown hg (fun e=>by have:=Option.some.inj e;omega));replace HG:=iH (grownBy_trans HG.out hg);replace DR:=iH (DR.out.nA aS (by decide) hg (fun b hb=>by have:b<w.heap.size:=hb;omega));replace HK:=iH (HK.out.grown hg (fun e=>by have:=Option.some.inj e;omega));replace jb:=iH (show (acc++cK [x.client,x.id,x.aH,x.last,(x.aA.length:Int)])++(_:Bytes)=bn s from by simpa only [cK,List.flatMap_cons,List.flatMap_nil,List.append_nil,List.append_assoc,List.nil_append] using jb.out);replace HW:=iH hbw;clear hbw hg hal;generalize acc++cK [x.client,x.id,x.aH,x.last,(x.aA.length:Int)]=Cf at jb HW;clear acc
  rename List UInt8=>acc
  have k4:=HK.out.cell 4 _ rfl;go_wp2;clear k4
  go_loopw [112] (fun i wr=>∃(m:Nat) (acc:Bytes),m≤x.aA.length∧i=iI m∧Hid (aD wr Wb [iS acc])∧Hid (acc++((x.aA.drop m).flatMap fO++(s.af.drop (n+1)).flatMap bI)=bn s)∧Hid (w8.grownBy wr (some Wb)))
   (fun i _=>x.aA.length - (intOf i).toNat)
  case atStart=>exact ⟨0,acc,by omega,rfl,HW,jb,iH (grownBy_refl _ _)⟩
  case round =>
  clear HW jb;obtain ⟨m,acc,hm,rfl,HW,jb,I5⟩:=hrel
  rename World=>w9
  replace HS:=iH (HS.out.move fun b hb hlt=>⟨I5.out.block b hlt (fun e=>by have:=Option.some.inj e;have:b<w.heap.size:=hb;omega),hb⟩);replace HB:=iH (HB.out.grown I5.out HB.out.size (fun k e=>by have:=Option.some.inj e;omega));replace HX:=iH (HX.out.grown I5.out (fun e=>by have:=Option.some.inj e;omega));replace HG:=iH (grownBy_trans HG.out I5.out);replace DR:=iH (DR.out.nA aS (by decide) I5.out (fun b hb=>by have:b<w.heap.size:=hb;omega));replace HK:=iH (HK.out.grown I5.out (fun e=>by have:=Option.some.inj e;omega))
  by_cases Ox:m<x.aA.length
  ·have h0:=jb.out
   rw [iL fO x.aA m Ox] at h0;replace jb:=iH h0;clear h0;obtain ⟨b4,off4,cap4,row4,hv,-,hrow,hcells⟩:=DR.out.row m Ox;simp only [Value.slice.injEq] at hv;obtain ⟨rfl,-,rfl⟩:=hv;have hko:=(Ra.out _ (List.getElem_mem Ox)).2.2.2.2;generalize x.aA[m]=k at *;obtain rfl:=hrow;have q0:=hcells 0 _ rfl;have q1:=hcells 1 _ rfl;have q2:=hcells 2 _ rfl;have q3:=hcells 3 _ rfl;simp only [Nat.add_zero] at q0;have Yo:=HW.out.lt;clear hcells;go_upto_region 29 with (fail);clear q0 q1 q2 q3;have h0:=jb.out;simp only [fO,List.append_assoc] at h0;replace jb:=iH h0;clear h0;have JS:=iH (aD.new (w:=w9) (cs:=[iI k.seq, iI k.aI.code, iI k.aI.n, iS k.aI.text]) (E:=117));have hba:=aj w9 (.cells #[iI k.seq, iI k.aI.code, iI k.aI.n, iS k.aI.text] 117);replace I5:=iH (grownBy_trans I5.out (aY hba (some Wb)));replace HS:=iH (HS.out.below hba);replace HB:=iH (ah HB.out hba);replace HX:=iH (HX.out.below hba);replace HW:=iH (HW.out.below hba);replace DR:=iH (DR.out.below aS (by decide) hba);replace HK:=iH (HK.out.below hba);clear hba;generalize w9.alloc (.cells #[iI k.seq, iI k.aI.code, iI k.aI.n, iS k.aI.text] 117)=Lx at *;generalize w9.heap.size=K4 at *;obtain ⟨k0,k1,k2⟩:=gV JS.out;have hal:=l9 jb.out K5.out
   have hsl:aZ 1 jE (Lx.alloc (.cells #[iI k.seq, iI k.aI.code, iI k.aI.n] 3)) (.slice (some ⟨Lx.heap.size,0,none⟩) 3 3) [k.seq,k.aI.code,k.aI.n] (fun c=>c=Lx.heap.size):=pM (l:=[k.seq,k.aI.code,k.aI.n]) (aD.new (w:=Lx) (cs:=[iI k.seq, iI k.aI.code, iI k.aI.n])) (by simp [maxLen]);have hwl:=HW.out.lt;have hba:=aj Lx (.cells #[iI k.seq, iI k.aI.code, iI k.aI.n] 3);replace I5:=iH (grownBy_trans I5.out (aY hba (some Wb)));replace HS:=iH (HS.out.below hba);replace HB:=iH (ah HB.out hba);replace HX:=iH (HX.out.below hba);replace HW:=iH (HW.out.below hba);replace DR:=iH (DR.out.below aS (by decide) hba);replace HK:=iH (HK.out.below hba);replace JS:=iH (JS.out.below hba);have Ck:=iH (iT acc [k.seq,k.aI.code,k.aI.n] Wb _ _ (Lx.alloc (.cells #[iI k.seq, iI k.aI.code, iI k.aI.n] 3)) HW.out hsl (fun b hb=>by subst hb;omega) (by simp only [List.length_cons,List.length_nil];omega))
   go_wp2_with fail
   refine Ck.out.mono ?_;rintro e Pj ⟨rfl,hbw,hg⟩;clear Ck hsl hba hwl k0 k1 k2;replace HS:=iH (HS.out.move fun b hb hlt=>⟨hg.block b hlt (fun e=>by have:=Option.some.inj e;have:b<w.heap.size:=hb;omega),hb⟩);replace HB:=iH (HB.out.grown hg HB.out.size (fun k e=>by have:=Option.some.inj e;omega));replace HX:=iH (HX.out.grown hg (fun e=>by have:=Option.some.inj e;omega));replace DR:=iH (DR.out.nA aS (by decide) hg (fun b hb=>by have:b<w.heap.size:=hb;omega));replace HK:=iH (HK.out.grown hg (fun e=>by have:=Option.some.inj e;omega));replace I5:=iH (grownBy_trans I5.out hg);replace JS:=iH (JS.out.grown hg (fun e=>by have:=Option.some.inj e;omega));replace jb:=iH (show (acc++cK [k.seq,k.aI.code,k.aI.n])++(_:Bytes)=bn s from by simpa only [cK,List.flatMap_cons,List.flatMap_nil,List.append_nil,List.append_assoc,List.nil_append] using jb.out);replace HW:=iH hbw;clear hbw hg hal;generalize acc++cK [k.seq,k.aI.code,k.aI.n]=Cf at jb HW;clear acc
   rename List UInt8=>acc
   have k3:=JS.out.cell 3 _ rfl;have hal:=l9 jb.out K5.out;have Ns:=iH (qC acc k.aI.text Wb Pj HW.out (by omega) (by omega))
   go_wp2_with fail
   refine Ns.out.mono ?_;rintro e UR ⟨rfl,hbw,hg⟩;clear Ns k3;replace HS:=iH (HS.out.move fun b hb hlt=>⟨hg.block b hlt (fun e=>by have:=Option.some.inj e;have:b<w.heap.size:=hb;omega),hb⟩);replace HB:=iH (HB.out.grown hg HB.out.size (fun k e=>by have:=Option.some.inj e;omega));replace HX:=iH (HX.out.grown hg (fun e=>by have:=Option.some.inj e;omega));replace DR:=iH (DR.out.nA aS (by decide) hg (fun b hb=>by have:b<w.heap.size:=hb;omega));replace HK:=iH (HK.out.grown hg (fun e=>by have:=Option.some.inj e;omega));replace I5:=iH (grownBy_trans I5.out hg);replace JS:=iH (JS.out.grown hg (fun e=>by have:=Option.some.inj e;omega));replace jb:=iH (show (acc++jG k.aI.text)++(_:Bytes)=bn s from by simpa only [cK,List.flatMap_cons,List.flatMap_nil,List.append_nil,List.append_assoc,List.nil_append] using jb.out);replace HW:=iH hbw;clear hbw hg hal;generalize acc++jG k.aI.text=Cf at jb HW;clear acc
   rename List UInt8=>acc
   go_wp2
   go_roundw
   case rel=>exact ⟨m+1,acc,by omega,by go_num,HW,jb,I5⟩
   case measure=>simp [intOf];omega
  have h0:=jb.out;rw [jv fO x.aA m Ox,List.nil_append] at h0;replace jb:=iH h0;clear h0;go_wp2
  go_roundw
  case rel=>exact ⟨n+1,acc,by omega,by go_num,HW,jb,HG⟩
  case measure=>simp [intOf];omega
 have h0:=jb.out;rw [jv bI s.af n hlt,List.append_nil] at h0;replace jb:=iH h0;clear h0;have hal:=K5.out;rw [←jb.out] at hal;clear HG HS HX;go_upto_region 33 with (fail);clear hlt hn
 rename World=>XY
 refine bH 12 (fun wx=>Below XY.heap.size XY wx) (fun wx wy=>Below wx.heap.size wx wy) [aW (iP Wb 0),aW (iP Wb 0),aW (iP Wb 0),aW (iS acc),aW (iP Wb 0),aW (iP Wb 0),aW (iP Wb 0),aW (iS acc),aW (.string ⟨(jI acc).toArray⟩),aW (.string ⟨(acc++jI acc).toArray⟩),aW (.string ⟨(acc++jI acc).toArray⟩),aW (iI 0)] (by kernel_rfl) (by kernel_rfl) rfl ?hJ ?jP ?hst ?ek ?hend
 case hJ=>exact Below.drew iB
 case jP =>
  exact fun wx wy h1 h2=>ah h1 h2
 case hst=>exact bX _ ⟨ax _,ax _,ax _,ax _,ax _,ax _,ax _,ax _,ax _,ax _,ax _,ax _,trivial⟩
 case ek =>
  simp only [dY,aJ,Act.put,Nat.reduceAdd,Nat.zero_add,pS];refine ⟨?_,?_,?_,?_,?_,?_,?_,?_,?_,?_,?_,?_,trivial⟩
  all_goals
   intro vs wx hJ hn K hK;simp [dA,mJ,aW,Region.binds] at hn;simp only [mJ,aW,Act.put,Nat.reduceAdd,Nat.zero_add,pS] at hK
  ·go_wp2
   exact hK _ _ iB rfl
  ·simp only [hn] at hK⊢
   go_wp2;exact hK _ _ iB rfl
  ·simp only [hn] at hK⊢
   go_wp2;exact hK _ _ iB rfl
  ·simp only [hn] at hK⊢
   have c0:=(HW.out.below hJ).cell 0 _ rfl;go_wp2;exact hK _ _ iB rfl
  ·go_wp2
   exact hK _ _ iB rfl
  ·simp only [hn] at hK⊢
   go_wp2;exact hK _ _ iB rfl
  ·simp only [hn] at hK⊢
   go_wp2;exact hK _ _ iB rfl
  ·simp only [hn] at hK⊢
   have c0:=(HW.out.below hJ).cell 0 _ rfl;go_wp2;exact hK _ _ iB rfl
  ·simp only [hn] at hK⊢
   go_wp2_with fail
   refine (AU acc (by omega) _).mono ?_;rintro e w8 ⟨rfl,ET⟩;go_wp2;exact hK _ _ ET rfl
  ·simp only [hn] at hK⊢
   have hsl:=Fh acc;generalize jI acc=sb at *;go_wp2;exact hK _ _ iB rfl
  ·simp only [hn] at hK⊢
   generalize jI acc=sb at *;go_wp2;exact hK _ _ iB rfl
  ·simp only [hn] at hK⊢
   go_wp2;exact hK _ _ iB rfl
 case hend =>
  intro vs wx hJ hv;simp [eF,aW] at hv;obtain ⟨e0,e1,e2,e3,e4,e5,e6,e7,e8,e9,e10,e11⟩:=hv;simp only [aJ,Act.put,Nat.reduceAdd,Nat.zero_add,pS];rw [e0,e1,e2,e3,e4,e5,e6,e7,e8,e9,e10,e11];clear e0 e1 e2 e3 e4 e5 e6 e7 e8 e9 e10 e11;go_wp2
  go_ret2
  exact ⟨by rw [←jb.out];rfl,ah HB.out hJ⟩
end Go.Proofs.YtbngpjdflblffaaGreatDoor
