/- A part of the proof, laid together from: RunE, CloneAct, Same, CluGood. -/
import Derived.Test.YtbngpjdflblffaaGreatDoorPd01
import Derived.Test.YtbngpjdflblffaaGreatDoorPa47
set_option linter.all false
set_option maxRecDepth 100000
set_option maxHeartbeats 12800000
namespace Go.Tk
open Go Go.RowKit
theorem refusedP_fine (kind:Int):∀a∈Fs kind,fC a:=by
 have hp:=dB kind 9 (by decide);intro a ha;simp only [Fs,List.mem_cons,List.not_mem_nil,or_false] at ha
 rcases ha with rfl | rfl | rfl | rfl | rfl<;>exact fC.of (by simp only;omega) (by simp) (by simp) (by simp) (by simp only;omega)
theorem slr_acts {E:Nat} (w:World) (L:List dK) (hL:L.length≤100):aZ 8 qA (w.alloc (.cells ((L.map iQ).flatten).toArray E)) (.slice (some ⟨w.heap.size,0,none⟩) L.length L.length) L (fun _=>True):=by
 have hr:∀r∈L.map iQ,r.length=8:=fun r hr=>by
  obtain ⟨a,-,rfl⟩:=List.mem_map.1 hr
  rfl
 refine ⟨_,L.length,rfl,Nat.le_refl _,by unfold maxLen;omega,by simp,fun i x hx=>⟨w.heap.size,0,iQ x,rfl,trivial,rfl,fun j u hu=>?_⟩⟩;have h1:=flatten_getElem? (L.map iQ) hr i j (iQ x) u (by rw [List.getElem?_map,hx];rfl) hu;rw [Nat.zero_add];exact (aD.new (w:=w) (cs:=(L.map iQ).flatten) (E:=E)).cell _ u h1
theorem slr_addr {α:Type} {k:Nat} {R:Rel α} {w:World} {a:Addr} {n c:Nat} {l:List α} {S:Nat→Prop} (h:aZ k R w (.slice (some a) n c) l S) (hl:l≠[]):∃b o,a=⟨b,o,none⟩:=by
 cases l with
 | nil=>exact absurd rfl hl
 | cons x l =>
   obtain ⟨b,o,c',row,hv,-⟩:=h.row 0 (by simp);simp only [Value.slice.injEq,Option.some.injEq] at hv;exact ⟨b,o,hv.1⟩
end Go.Tk
namespace Go.Proofs.YtbngpjdflblffaaGreatDoor
open Go.RowKit Go.Tk
theorem runRange_calls (w:World):Calls Tryz.prog 25 #[iI 0, iN] w (Va w 2):=by
 go_enter Tryz.func25,Tryz.ntmps25
 go_wp2;refine bodyPost_ret (v:=.tuple #[.agg #[iN, iN, iN, iN, iI 0, iN], iI 2]) (by simp [results,Tryz.results25,go_sem]) rfl ?_;exact ⟨rfl,by first | exact iB | exact aj w _ | exact Below.drew iB⟩
theorem runSize_calls (w:World) (a:Option Addr) (c:Nat):Calls Tryz.prog 25 #[iI 3, .slice a 401 c] w (Va w 1):=by
 go_enter Tryz.func25,Tryz.ntmps25
 go_wp2;refine bodyPost_ret (v:=.tuple #[.agg #[iN, iN, iN, iN, iI 0, iN], iI 1]) (by simp [results,Tryz.results25,go_sem]) rfl ?_;exact ⟨rfl,by first | exact iB | exact aj w _ | exact Below.drew iB⟩
theorem Tryz.tycAct:dM Tryz.prog 56 70 8 80:=⟨Tryz.underlying56,by kernel_rfl,by decide⟩
theorem cloneAct_calls {α:Type} {R:Rel α} (hR:cu R 8) (w:World) (v:Value) (l:List α) (S:Nat→Prop) (h:aZ 8 R w v l S) (hn:l.length≤1000000) :
 Calls Tryz.prog 26 #[v] w fun e w'=>∃v',e=.returned v'∧bZ 70 8 R w' v' l S∧Below w.heap.size w w'∧(∀g,v'.ownBlock=some g→w.heap.size≤g):=by
 obtain ⟨a,cap,hv,hl,hm,hnil,hr⟩:=id h;subst hv;have hm':=hm;unfold maxLen at hm';cases a with
 | none =>
   have h0:=hnil rfl;subst h0;have hl0:l=[]:=List.eq_nil_of_length_eq_zero (by omega);subst hl0;have he:=Lib.run_eql_slice_nil (P:=Tryz.prog) (t:=56)
   go_enter Tryz.func26,Tryz.ntmps26
   go_wp2;go_ret;exact ⟨_,rfl,bZ.nil w S,iB,by simp [Value.ownBlock]⟩
 | some a =>
   obtain ⟨a',cap',rows,hv,-,-,hrl,hrel,hcells⟩:=h.rows hR (by decide);simp only [Value.slice.injEq] at hv;obtain ⟨rfl,-,rfl⟩:=hv;have hlen:=bZ.jq (E:=70) (v:=.slice (some a) l.length cap) hR hrl hrel;have hone:=bZ.qm (E:=70) hR hrl hrel;have hfl:rows.flatten.length=l.length*8:=by
    have:∀(rs:List (List Value)),(∀r∈rs,r.length=8)→rs.flatten.length=rs.length*8:=by
     intro rs
     induction rs with
     | nil=>intro _;rfl
     | cons r rs ih=>intro hk;rw [List.flatten_cons,List.length_append,hk r (by simp),ih (fun r hr=>hk r (by simp [hr]))];simp;omega
    rw [this rows hlen,hrl]
   have hown0:(w.alloc (.cells #[] 70)).ownsRow 0 70 8 (.slice (some ⟨w.heap.size,0,none⟩) 0 0) 0 [] :=
    ⟨rfl, .inr ⟨w.heap.size,0,#[],rfl,Nat.zero_le _,heap_alloc_new w _,Nat.le_refl _,by decide,rfl,rfl⟩⟩
   obtain ⟨v',w',hrun,g1,g2,g3⟩:=gD (P:=Tryz.prog) (ty:=56) (w.alloc (.cells #[] 70)) Tryz.tycAct _ 0 [] hown0 a l.length cap rows.flatten hfl (fun j u hu=>by
    obtain ⟨b,off,ha,_,hc⟩:=hcells j u hu;simp only [Option.some.injEq] at ha;subst ha;have hlt:=World.block_lt_of_cell? w _ hc;rw [Addr.add_lit,World.cell?_alloc_past _ _ _ hlt];exact hc) hone (by omega)
   have hvb:∀g,v'.ownBlock=some g→w.heap.size≤g:=by
    intro g hg
    rcases g3 with e | ⟨g',e,h⟩
    ·rw [e] at hg;cases hg;exact Nat.le_refl _
    ·rw [e] at hg;cases hg;simp at h;omega
   have hb:Below w.heap.size w w':=(iB.alloc (Nat.le_refl _) _).grown g2 (by simp) (fun k hk=>by cases hk;exact Nat.le_refl _);have hfin:bZ 70 8 R w' v' l S:=by
    refine ⟨rows,hrl,by simpa using g1,fun i r x hr hx=>hR.move (hrel i r x hr hx) fun b hs hlt=>⟨hb.block b hlt,hs,?_⟩⟩;intro hbg;have:=hvb b hbg.symm;omega
   have HF:=iH hfin;have HV:=iH hvb;have he:=Lib.run_eql_slice_nil (P:=Tryz.prog) (t:=56);clear hfin hvb g1 g2 g3 hcells hrel hlen hone hfl hown0 hr h hrl
   go_enter Tryz.func26,Tryz.ntmps26
   go_wp2_with (at_builtin;refine wpList_append_run rfl _ _ _ _ rfl _ _ rfl rfl hrun ?_)
   go_ret;exact ⟨v',rfl,HF.out,hb,HV.out⟩
theorem ksame_calls (s:bf) (hs:mO s) (vl vp vz Cn K9 RI:Value) (S S':Nat→Prop) (w:World) (h:fT w s vl vp vz S) (h':fT w s Cn K9 RI S') :
 Calls Tryz.prog 21 #[.agg #[iI s.index,vl,vp,vz], .agg #[iI s.index,Cn,K9,RI]] w fun e w'=>e=.returned (.bool true)∧Below w.heap.size w w':=by
 have o1:=h.lock.oneCell;have o2:=h.pair.oneCell;have o3:=h.dG.oneCell;have p1:=h'.lock.oneCell;have p2:=h'.pair.oneCell;have p3:=h'.dG.oneCell;have HS:=iH h;have HT:=iH h';have HK:=iH hs;clear h h' hs
 go_enter Tryz.func21,Tryz.ntmps21
 go_upto_region 1 with (fail);have HX:=iH ((aD.new (w:=w) (cs:=[iI s.index,vl,vp,vz]) (E:=27)).below (aj _ (.cells #[iI s.index,Cn,K9,RI] 27)));have hz:=aD.new (w:=w.alloc (.cells #[iI s.index,vl,vp,vz] 27)) (cs:=[iI s.index,Cn,K9,RI]) (E:=27);rw [World.size_alloc] at hz;have HZ:=iH hz;clear hz;have HB:=iH (below_alloc2 w (.cells #[iI s.index,vl,vp,vz] 27) (.cells #[iI s.index,Cn,K9,RI] 27));replace HS:=iH (HS.out.below HB.out);replace HT:=iH (HT.out.below HB.out);generalize (w.alloc (.cells #[iI s.index,vl,vp,vz] 27)).alloc (.cells #[iI s.index,Cn,K9,RI] 27)=w0 at *;obtain ⟨x0,x1,x2,x3⟩:=dJ HX.out
 go_wp2_with fail
 refine (oQ s _ _ _ _ w0 HS.out HK.out).mono ?_;rw [show bn s++jI (bn s)=eD s from rfl];rintro e w1 ⟨rfl,hb1⟩;clear x0 x1 x2 x3;replace HS:=iH (HS.out.below hb1);replace HT:=iH (HT.out.below hb1);replace HX:=iH (HX.out.below hb1);replace HZ:=iH (HZ.out.below hb1);replace HB:=iH (ah HB.out hb1);clear hb1;obtain ⟨z0,z1,z2,z3⟩:=dJ HZ.out
 go_wp2_with fail
 refine (oQ s _ _ _ _ w1 HT.out HK.out).mono ?_;rw [show bn s++jI (bn s)=eD s from rfl];rintro e w2 ⟨rfl,hb2⟩;clear z0 z1 z2 z3;replace HS:=iH (HS.out.below hb2);replace HT:=iH (HT.out.below hb2);replace HX:=iH (HX.out.below hb2);replace HZ:=iH (HZ.out.below hb2);replace HB:=iH (ah HB.out hb2);clear hb2;generalize eD s=bs at *;go_wp2;go_ret;exact ⟨rfl,HB.out⟩
theorem Tryz.makeActs:∃aad,∀w:World,(Instr.makeSlice 56 (iI 401) (iI 401)).run Tryz.prog w=.ok (.slice (some ⟨w.heap.size,0,none⟩) 401 401) (w.alloc (.cells aad 70)):=by
 obtain ⟨i,z,hi,hz,hs,hby,hzs⟩:=Tryz.oU.parts;exact ⟨_,fun w=>run_makeSlice (P:=Tryz.prog) (w:=w) 56 70 i z Tryz.underlying56 hi hz .i64 .i64 401 401 (by decide) (by decide) (by rw [hs];decide) (by rw [hby];decide) (by decide)⟩
theorem aah (w:World) (l:List kX) (v:Value) (S:Nat→Prop) (h:aZ 4 FB w v l S) (hr:∀x∈l,uM x) (kind:Int) (hk1:-9223372036854775808≤kind) (hk2:kind≤9223372036854775807) :
 Calls Tryz.prog 5 #[v, iI kind] w fun e w'=>e=.returned (.bool true)∧Below w.heap.size w w':=by
 obtain ⟨la,lc,rfl,-,-,-,-⟩:=id h;have HH:=iH h;have HR:=iH hr;have hsl:=mF l 90;have hok1:=o8 (m:=3) (by omega) (nP l 90) (by omega);have Ry:=iH (nP l 90);have HA2:=iH (show ∀a∈gJ l 90++Fs kind,fC a from fun a ha=>(List.mem_append.1 ha).elim (nP l 90 a) (refusedP_fine kind a));have hrg:=Qd hok1 rfl kind (kT 3 (gJ l 90)).2;have hra:=zx 3 (gJ l 90) (Fs kind);rw [show kT 3 (gJ l 90)=((kT 3 (gJ l 90)).1,(kT 3 (gJ l 90)).2) from rfl,hrg] at hra;have hcl:=qo 3 (gJ l 90);have hsc:sM 3++vU l 90 3=gJ l 90:=rfl;obtain ⟨A,hA⟩:∃A,gJ l 90=A:=⟨_,rfl⟩;rw [hA] at hsl hok1 hra hcl hsc Ry HA2;clear hrg hA;obtain ⟨⟨x,c1⟩,hX⟩:∃X,kT 3 A=X:=⟨_,rfl⟩;rw [hX] at hok1 hra hcl;have HX:=iH hX;have HSC:=iH hsc;have HRA:=iH (show kT 3 (A++Fs kind)=(x,c1++[3,6,6,6,2]) from hra);have gG:=iH (show aT 3 A.length x from hok1);have I8:=iH (show c1.length=A.length from hcl);have hA1:A.length≤98:=by omega
 have hlx:x.kP.length=3:=hok1.len;have GL:=iH (dB kind 9 (by decide));clear h hr hok1 hX hsl hra hcl hsc
 go_enter Tryz.func5,Tryz.ntmps5
 go_wp2_with fail
 refine (rV 3 (by omega) w).mono ?_;rintro e wa ⟨va,rfl,hga⟩;obtain ⟨ga,gca,hv0⟩:=hga.own.shape;rw [show (sM 3).length=8 from rfl] at hv0;subst hv0;have HGA:=iH hga;clear hga
 go_wp2_with fail
 refine (Ca l 90 (by omega) _ S wa (HH.out.below qI (by decide) HGA.out.below) HR.out).mono ?_;rintro e wb ⟨vb,rfl,hgb⟩;obtain ⟨gb,gcb,rfl⟩:=hgb.own.shape;have hal:(vU l 90 3).length≤90:=by rw [vU,List.length_map,List.length_take];omega
 obtain ⟨vc,wc,hrun,hoc,hgc,Qq⟩:=zA (P:=Tryz.prog) (ty:=56) Tryz.oU fo Bc (HGA.out.own.below fo hgb.below) hgb.read (by rw [show (sM 3).length=8 from rfl];omega);have HG:=iH ((HGA.out.step hgb.below).next hoc hgc Qq);rw [HSC.out] at HG;clear hgb hoc hgc Qq HGA hal HR HH;obtain ⟨gc,gcc,rfl⟩:=HG.out.own.shape
 go_wp2_with (at_builtin;refine wpList_append_run rfl _ _ _ _ rfl _ _ rfl rfl hrun ?_)
 clear hrun HSC;generalize (vU l 90 3).length=nb;refine (ym 3 (by omega) A Ry.out (by omega) _ _ wc HG.out.read).mono ?_;rw [HX.out];rintro e w1 ⟨vr,vc,vm,vk,vo,rfl,hO,hb⟩;obtain ⟨Qf,Ke,rfl,-,-,-,-⟩:=id hO.rep;obtain ⟨TN,TM,rfl,-,-,-,-⟩:=id hO.nV;obtain ⟨Sv,Su,rfl,-,-,-,-⟩:=id hO.jh;obtain ⟨Od,Oc,rfl,-,-,-,-⟩:=id hO.comm;obtain ⟨Ql,Qk,rfl,-,-,-,-⟩:=id hO.codes;rw [hlx,I8.out] at hO⊢;have vC:=iH hO;replace HG:=iH (HG.out.step hb);clear hO hb HX Ry;go_upto_region 3 with (fail);have vB:=iH (aD.new (w:=w1) (cs:=[.slice Qf 3 Ke, .slice TN x.bu.length TM, .slice Sv x.bD.length Su, .slice Od x.K.length Oc, iI (x.lead:Int), .slice Ql A.length Qk]) (E:=63));have hba:=aj w1 (.cells #[.slice Qf 3 Ke, .slice TN x.bu.length TM, .slice Sv x.bD.length Su, .slice Od x.K.length Oc, iI (x.lead:Int), .slice Ql A.length Qk] 63);replace vC:=iH (vC.out.below hba);replace HG:=iH (HG.out.step hba);clear hba;generalize w1.alloc (.cells #[.slice Qf 3 Ke, .slice TN x.bu.length TM, .slice Sv x.bD.length Su, .slice Od x.K.length Oc, iI (x.lead:Int), .slice Ql A.length Qk] 63)=w2 at *;obtain ⟨B1,hB1⟩:∃B,w1.heap.size=B:=⟨_,rfl⟩;rw [hB1] at vB⊢;clear hB1
 go_wp2_with fail
 refine (cloneAct_calls fo w2 _ A _ HG.out.read (by omega)).mono ?_;rintro e w3 ⟨v3,rfl,ho3,hb3,hv3⟩;obtain ⟨g3,gc3,rfl⟩:=ho3.shape;have xZ:=iH (show GrowAt 70 w2 w3 _ A from ⟨ho3.forget Bc,hv3,hb3⟩);clear ho3 hv3 hb3
 go_wp2_with fail
 refine (fM kind 9 (by decide) (by decide) hk1 hk2 w3).mono ?_;rintro e w4 ⟨rfl,rfl⟩;have hpk:=GL.out;have hb4:=aj w3 (.cells ((Fs kind).map iQ).flatten.toArray 70);have hln:List.length (A++Fs kind)=A.length+5:=by rw [List.length_append];rfl
 obtain ⟨v5,w5,hrun,vQ,hg5,hv5⟩:=zA (P:=Tryz.prog) (ty:=56) Tryz.oU fo Bc (xZ.out.own.below fo hb4) (slr_acts (E:=70) w3 (Fs kind) (by simp [Fs])) (by rw [show (Fs kind).length=5 from rfl];omega);have Vs:=iH ((xZ.out.step hb4).next vQ hg5 hv5);clear vQ hg5 hv5 hb4 xZ;obtain ⟨g5,gc5,h5⟩:=Vs.out.own.shape;rw [hln] at h5;subst h5;have hb5:=Vs.out.below;replace vB:=iH (vB.out.below hb5);replace vC:=iH (vC.out.below hb5);replace HG:=iH (HG.out.step hb5);clear hb5;have ko:=iH hln;clear hln
 go_wp2_with (at_builtin;refine wpList_append_run rfl _ _ _ _ rfl _ _ rfl rfl hrun ?_)
 clear hrun hpk;refine (ym 3 (by omega) (A++Fs kind) HA2.out (by rw [ko.out];omega) _ _ w5 Vs.out.read).mono ?_;rw [HRA.out];rintro e w6 ⟨vr,vc,vm,vk,vo,rfl,hO,hb⟩;obtain ⟨N7,ES,rfl,-,-,-,-⟩:=id hO.rep;obtain ⟨JK,JJ,rfl,-,-,-,-⟩:=id hO.nV;obtain ⟨Ju,Js,rfl,-,-,-,-⟩:=id hO.jh;obtain ⟨Kr,F4,rfl,-,-,-,-⟩:=id hO.comm;obtain ⟨Pq,NB,rfl,-,-,-,-⟩:=id hO.codes;rw [hlx,show List.length (c1++[3,6,6,6,2])=A.length+5 by rw [List.length_append,I8.out];rfl] at hO⊢;have Aj:=iH hO;replace vB:=iH (vB.out.below hb);replace vC:=iH (vC.out.below hb);replace HG:=iH (HG.out.step hb);clear hO hb Vs ko HA2 HRA GL;go_upto_region 4 with (fail);have wP:=iH (aD.new (w:=w6) (cs:=[.slice N7 3 ES, .slice JK x.bu.length JJ, .slice Ju x.bD.length Js, .slice Kr x.K.length F4, iI (x.lead:Int), .slice Pq (A.length+5) NB]) (E:=63));have hba:=aj w6 (.cells #[.slice N7 3 ES, .slice JK x.bu.length JJ, .slice Ju x.bD.length Js, .slice Kr x.K.length F4, iI (x.lead:Int), .slice Pq (A.length+5) NB] 63);replace vB:=iH (vB.out.below hba);replace vC:=iH (vC.out.below hba);replace HG:=iH (HG.out.step hba);replace Aj:=iH (Aj.out.below hba);clear hba;generalize w6.alloc (.cells #[.slice N7 3 ES, .slice JK x.bu.length JJ, .slice Ju x.bD.length Js, .slice Kr x.K.length F4, iI (x.lead:Int), .slice Pq (A.length+5) NB] 63)=w7 at *
 obtain ⟨B2,hB2⟩:∃B,w6.heap.size=B:=⟨_,rfl⟩;rw [hB2] at wP⊢;clear hB2
 go_wp2_with fail
 refine (runRange_calls w7).mono ?_;rintro e w8 ⟨rfl,hba⟩;replace vB:=iH (vB.out.below hba);replace vC:=iH (vC.out.below hba);replace HG:=iH (HG.out.step hba);replace Aj:=iH (Aj.out.below hba);replace wP:=iH (wP.out.below hba);clear hba;go_upto_region 5 with (fail);have hba:=aj w8 (.cells #[iN, iN, iN, iN, iI 0, iN] 63);replace vB:=iH (vB.out.below hba);replace vC:=iH (vC.out.below hba);replace HG:=iH (HG.out.step hba);replace Aj:=iH (Aj.out.below hba);replace wP:=iH (wP.out.below hba);clear hba;generalize w8.alloc (.cells #[iN, iN, iN, iN, iI 0, iN] 63)=w9 at *;generalize w8.heap.size=B8;obtain ⟨aad,hmk⟩:=Tryz.makeActs
 go_wp2_with fail
 refine (runSize_calls _ _ _).mono ?_;rintro e Lx ⟨rfl,hbm⟩;have hba:=ah (aj w9 (.cells aad 70)) hbm;replace vB:=iH (vB.out.below hba);replace vC:=iH (vC.out.below hba);replace HG:=iH (HG.out.step hba);replace Aj:=iH (Aj.out.below hba);replace wP:=iH (wP.out.below hba);clear hba hbm hmk;generalize w9.heap.size=B9;go_upto_region 6 with (fail);have hba:=aj Lx (.cells #[iN, iN, iN, iN, iI 0, iN] 63);replace vB:=iH (vB.out.below hba);replace vC:=iH (vC.out.below hba);replace HG:=iH (HG.out.step hba);replace Aj:=iH (Aj.out.below hba);replace wP:=iH (wP.out.below hba);clear hba;generalize Lx.alloc (.cells #[iN, iN, iN, iN, iI 0, iN] 63)=Pj at *;generalize Lx.heap.size=B10;have u5:=vB.out.cell 5 _ rfl;have u0:=vB.out.cell 0 _ rfl;go_wp2;clear u5 u0
 go_loopw [78] (fun j wi=>∃i:Nat,i≤3∧j=iI i∧Hid (Below Pj.heap.size Pj wi)) (fun j _=>3 - (intOf j).toNat)
 case atStart=>exact ⟨0,by omega,rfl,iH iB⟩
 case round =>
  obtain ⟨i,hi,rfl,hbi⟩:=hrel
  by_cases hlt:i<3
  case neg =>
   have hba:=hbi.out;replace vB:=iH (vB.out.below hba);replace vC:=iH (vC.out.below hba);replace HG:=iH (HG.out.step hba);replace Aj:=iH (Aj.out.below hba);replace wP:=iH (wP.out.below hba);clear hba hbi
   rename World=>UR
   have hcx:x.bu.length≤9:=by have:=gG.out.tK;omega
   have u1:=vB.out.cell 1 _ rfl;go_wp2;clear u1 hlt hi
   go_loopw [111] (fun j wi=>∃i:Nat,i≤x.bu.length∧j=iI i∧Hid (Below UR.heap.size UR wi)) (fun j _=>x.bu.length - (intOf j).toNat)
   case atStart=>exact ⟨0,by omega,rfl,iH iB⟩
   case round =>
    obtain ⟨i,hi,rfl,hbi⟩:=hrel
    by_cases hlt:i<x.bu.length
    case neg =>
     have hba:=hbi.out;replace vB:=iH (vB.out.below hba);replace vC:=iH (vC.out.below hba);replace HG:=iH (HG.out.step hba);replace Aj:=iH (Aj.out.below hba);replace wP:=iH (wP.out.below hba);clear hba hbi
     rename World=>XY
     have hkl:=gG.out.tL.len;have u3:=vB.out.cell 3 _ rfl;have y3:=wP.out.cell 3 _ rfl;have HE:=iH (qf x.K x.K _ _ _ _ XY vC.out.comm Aj.out.comm (by omega) (by omega));rw [show decide (x.K=x.K)=true from decide_eq_true rfl] at HE
     go_wp2_with fail
     refine HE.out.mono ?_;rintro e RH ⟨rfl,hba⟩;replace vB:=iH (vB.out.below hba);replace vC:=iH (vC.out.below hba);replace HG:=iH (HG.out.step hba);replace Aj:=iH (Aj.out.below hba);replace wP:=iH (wP.out.below hba);clear hba HE u3 y3 hkl hlt hi;obtain ⟨a9,c9,e9,Yk,Ow,hn9,-⟩:=id Aj.out.codes;simp only [Value.slice.injEq] at e9;obtain ⟨rfl,-,rfl⟩:=e9;rw [List.length_append,I8.out] at Yk;simp only [List.length_cons,List.length_nil] at Yk;unfold maxLen at Ow;cases Pq with
     | none=>exact absurd (hn9 rfl) (by omega)
     | some ad =>
       obtain ⟨b0,o0,e0⟩:=slr_addr Aj.out.codes (by simp);subst e0;clear hn9;have hcod:=Aj.out.codes.drop A.length (by rw [List.length_append,I8.out];simp);rw [show List.drop A.length (c1++[3,6,6,6,2])=([3,6,6,6,2]:List Int) by rw [←I8.out,List.drop_left]] at hcod;rw [show List.length (c1++[3,6,6,6,2]) - A.length=5 by rw [List.length_append,I8.out];simp,Nat.mul_one] at hcod;have O9:=iH hcod;clear hcod;have y5:=wP.out.cell 5 _ rfl
       go_wp2_with fail
       have hb6:=aj RH (.cells #[iI 3, iI 6, iI 6, iI 6, iI 2] 34);have hbx:=aD.new (w:=RH) (cs:=[iI 3, iI 6, iI 6, iI 6, iI 2]) (E:=34);refine (uB [3,6,6,6,2] _ _ _ _ _ (O9.out.below bB (by decide) hb6) (pM (l:=[3,6,6,6,2]) hbx (by simp [maxLen])) (by simp)).mono ?_;rintro e w15 ⟨rfl,sG⟩;clear y5;go_wp2;go_ret;exact ⟨rfl,ah (ah HG.out.below hb6) sG⟩
    obtain ⟨g1,o1,cap',row,hv,hSb,hrow,hcells⟩:=(vC.out.below hbi.out).nV.row i hlt;simp only [Value.slice.injEq] at hv;obtain ⟨rfl,-,rfl⟩:=hv;rw [show x.bu[i]=iq x i from (getD_lt hlt).symm] at hrow;obtain ⟨vw,rfl,hwt⟩:=hrow;have Vv:=iH (gG.out.bu i (by have:=gG.out.tK;omega)).1;generalize iq x i=c at *;obtain ⟨wa9,wc9,rfl,-,-,-,-⟩:=id hwt;have q0:=hcells 0 _ rfl;have q1:=hcells 1 _ rfl;have q2:=hcells 2 _ rfl;have q3:=hcells 3 _ rfl;simp only [Nat.add_zero] at q0;have Ch:=iH hwt;clear hcells hwt hSb;go_upto_region 17 with (fail);have yY:=iH (aD.new (w:=wr) (cs:=[iI c.id, iI c.session, iI c.next, .slice wa9 c.waits.length wc9]) (E:=73));have hba:=aj wr (.cells #[iI c.id, iI c.session, iI c.next, .slice wa9 c.waits.length wc9] 73);replace Ch:=iH (Ch.out.below aV (by decide) hba);have HBI:=iH (ah hbi.out hba);clear hba hbi q0 q1 q2 q3;generalize wr.alloc (.cells #[iI c.id, iI c.session, iI c.next, .slice wa9 c.waits.length wc9] 73)=w15 at *;obtain ⟨B17,hB17⟩:∃B,wr.heap.size=B:=⟨_,rfl⟩;rw [hB17] at yY⊢;clear hB17;obtain ⟨z0,z1,z2,z3⟩:=dJ yY.out
    go_wp2_with fail
    refine (l8 c _ _ w15 Ch.out Vv.out).mono ?_;rintro e w16 ⟨rfl,hb⟩;clear z0 z1 z2 z3;go_wp2
    go_roundw
    case rel=>exact ⟨i+1,by omega,by go_num,iH (ah HBI.out hb)⟩
    case measure=>simp [intOf];omega
  obtain ⟨g1,o1,cap',row,hv,hSb,hrow,hcells⟩:=(vC.out.below hbi.out).rep.row i (by omega);simp only [Value.slice.injEq] at hv;obtain ⟨rfl,-,rfl⟩:=hv;obtain ⟨g2,o2,cap',row,hv,TC,hrow2,je⟩:=(Aj.out.below hbi.out).rep.row i (by omega);simp only [Value.slice.injEq] at hv;obtain ⟨rfl,-,rfl⟩:=hv;rw [show x.kP[i]=aU x i from (getD_lt (by omega)).symm] at hrow hrow2;obtain ⟨ve,vl,vp,vz,rfl,jo⟩:=hrow;obtain ⟨RJ,VG,VF,Z8,rfl,Mr⟩:=hrow2;have hro:=gG.out.rep i hlt;have Rs:=iH (hro.fine gG.out.tL gG.out.n4);have HIX:=iH (show (dw x.K (aU x i)).state.index≤(x.K.length:Int) by have h1:=(hro.state gG.out.tL).2;have h2:=hro.iK;show (dF x.K (aU x i).i).index≤_;omega);clear hro;generalize dw x.K (aU x i)=R at *;generalize dF x.K (aU x i).b=aae at *;obtain ⟨ae,ce,rfl,-,-,-,-⟩:=id jo.lD;obtain ⟨al,cl,rfl,-,-,-,-⟩:=id jo.st.lock;obtain ⟨ap,cp,rfl,-,-,-,-⟩:=id jo.st.pair;obtain ⟨az,cz,rfl,-,-,-,-⟩:=id jo.st.dG;obtain ⟨bl,dl,rfl,-,-,-,-⟩:=id Mr.st.lock;obtain ⟨bp,dp,rfl,-,-,-,-⟩:=id Mr.st.pair;obtain ⟨bz,dz,rfl,-,-,-,-⟩:=id Mr.st.dG;have q0:=hcells 0 _ rfl;have q1:=hcells 1 _ rfl;have q2:=hcells 2 _ rfl;have q3:=hcells 3 _ rfl;have q4:=hcells 4 _ rfl;have q5:=hcells 5 _ rfl;have q6:=hcells 6 _ rfl;simp only [Nat.add_zero] at q0;have HP3:=iH (je 3 _ rfl);have PR:=iH (je 4 _ rfl);have O3:=iH (je 5 _ rfl);have HP6:=iH (je 6 _ rfl);have Kz:=World.block_lt_of_cell? wr _ HP3.out
  have KX:=iH jo;have uX:=iH Mr.st;clear hcells je jo Mr hSb TC;have hi3:(i:Int)<3:=by omega
  go_upto_region 11 with (fail);have yY:=iH (aD.new (w:=wr) (cs:=[iI R.log.base, .slice ae R.log.entries.length ce, iS R.snap, iI R.state.index, .slice al R.state.au.length cl, .slice ap R.state.pairs.length cp, .slice az R.state.af.length cz]) (E:=45));have hba:=aj wr (.cells #[iI R.log.base, .slice ae R.log.entries.length ce, iS R.snap, iI R.state.index, .slice al R.state.au.length cl, .slice ap R.state.pairs.length cp, .slice az R.state.af.length cz] 45);replace KX:=iH (KX.out.below hba);replace uX:=iH (uX.out.below hba);have HBI:=iH (ah hbi.out hba);replace HP3:=iH (aB HP3.out (hba.block g2 Kz));replace PR:=iH (aB PR.out (hba.block g2 Kz));replace O3:=iH (aB O3.out (hba.block g2 Kz));replace HP6:=iH (aB HP6.out (hba.block g2 Kz));replace Kz:=Nat.lt_of_lt_of_le Kz hba.size;clear hba hbi q0 q1 q2 q3 q4 q5 q6;generalize wr.alloc (.cells #[iI R.log.base, .slice ae R.log.entries.length ce, iS R.snap, iI R.state.index, .slice al R.state.au.length cl, .slice ap R.state.pairs.length cp, .slice az R.state.af.length cz] 45)=UR at *;obtain ⟨B15,hB15⟩:∃B,wr.heap.size=B:=⟨_,rfl⟩;rw [hB15] at yY⊢;clear hB15
  refine bH 24 (fun wx=>Below UR.heap.size UR wx) (fun wx wy=>Below wx.heap.size wx wy) [aW (.agg #[iI R.log.base, .slice ae R.log.entries.length ce, iS R.snap, iI R.state.index, .slice al R.state.au.length cl, .slice ap R.state.pairs.length cp, .slice az R.state.af.length cz]),aW (iI 0),aW (.bool false),aW (.bool false),aW (iP B15 3),aW (iP B15 3),aW (iI R.state.index),aW (iP B1 3),aW (.slice Od x.K.length Oc),aW (iI (x.K.length:Int)),aW (.bool false),aW (.bool false),aW (.bool false),aW (iP B15 3),aW (.agg #[iI R.state.index, .slice al R.state.au.length cl, .slice ap R.state.pairs.length cp, .slice az R.state.af.length cz]),aW (iP B2 0),aW (.slice (some ⟨g2,o2,none⟩) 3 ES),aW (iI (i:Int)),aW (.pointer (some ⟨g2,o2+i*7,none⟩)),aW (.pointer (some ⟨g2,o2+i*7+3,none⟩)),aW (.agg #[iI R.state.index, .slice bl R.state.au.length dl, .slice bp R.state.pairs.length dp, .slice bz R.state.af.length dz]),aW (.bool true),aW (.bool false),aW (.bool false)] (by kernel_rfl) (by kernel_rfl) rfl ?hJ ?jP ?hst ?ek ?hend
  case hJ=>exact Below.drew iB
  case jP =>
   exact fun wx wy h1 h2=>ah h1 h2
  case hst=>exact bX _ ⟨ax _,ax _,ax _,ax _,ax _,ax _,ax _,ax _,ax _,ax _,ax _,ax _,ax _,ax _,ax _,ax _,ax _,ax _,ax _,ax _,ax _,ax _,ax _,ax _,trivial⟩
  case ek =>
   simp only [dY,aJ,Act.put,Nat.reduceAdd,Nat.zero_add,pS];refine ⟨?_,?_,?_,?_,?_,?_,?_,?_,?_,?_,?_,?_,?_,?_,?_,?_,?_,?_,?_,?_,?_,?_,?_,?_,trivial⟩
   all_goals
    intro vs wx hJ hn K hK;simp [dA,mJ,aW,Region.binds] at hn;simp only [mJ,aW,Act.put,Nat.reduceAdd,Nat.zero_add,pS] at hK
   ·obtain ⟨z0,z1,z2,z3,z4,z5,z6⟩:=gM (yY.out.below hJ)
    go_wp2;exact hK _ _ iB rfl
   ·simp only [hn] at hK⊢
    have hs1:=KX.out.below hJ
    go_wp2_with fail
    refine (lq R aae _ _ _ _ _ wx hs1 Rs.out).mono ?_;rintro e w9 ⟨rfl,gQ⟩;go_wp2;exact hK _ _ gQ rfl
   ·simp only [hn] at hK⊢
    go_wp2;exact hK _ _ iB rfl
   ·simp only [hn] at hK⊢
    go_wp2;exact hK _ _ iB rfl
   ·simp only [hn] at hK⊢
    go_wp2;exact hK _ _ iB rfl
   ·simp only [hn] at hK⊢
    go_wp2;exact hK _ _ iB rfl
   ·simp only [hn] at hK⊢
    have z3:=(yY.out.below hJ).cell 3 _ rfl;go_wp2;exact hK _ _ iB rfl
   ·simp only [hn] at hK⊢
    go_wp2;exact hK _ _ iB rfl
   ·simp only [hn] at hK⊢
    have u3:=(vB.out.below (ah HBI.out hJ)).cell 3 _ rfl;go_wp2;exact hK _ _ iB rfl
   ·simp only [hn] at hK⊢
    go_wp2;exact hK _ _ iB rfl
   ·simp only [hn] at hK⊢
    have hq:decide ((x.K.length:Int)<R.state.index)=false:=decide_eq_false (by have:=HIX.out;omega);go_wp2;exact hK _ _ iB rfl
   ·simp only [hn] at hK⊢
    go_wp2;exact hK _ _ iB rfl
   ·simp only [hn] at hK⊢
    go_wp2;exact hK _ _ iB rfl
   ·simp only [hn] at hK⊢
    go_wp2;exact hK _ _ iB rfl
   ·simp only [hn] at hK⊢
    have z3:=(yY.out.below hJ).cell 3 _ rfl;have z4:=(yY.out.below hJ).cell 4 _ rfl;have z5:=(yY.out.below hJ).cell 5 _ rfl;have z6:=(yY.out.below hJ).cell 6 _ rfl;go_wp2;exact hK _ _ iB rfl
   ·simp only [hn] at hK⊢
    go_wp2;exact hK _ _ iB rfl
   ·simp only [hn] at hK⊢
    have y0:=(wP.out.below (ah HBI.out hJ)).cell 0 _ rfl;go_wp2;exact hK _ _ iB rfl
   ·simp only [hn] at hK⊢
    go_wp2;exact hK _ _ iB rfl
   ·simp only [hn] at hK⊢
    go_wp2;exact hK _ _ iB rfl
   ·simp only [hn] at hK⊢
    go_wp2;exact hK _ _ iB rfl
   ·simp only [hn] at hK⊢
    have p3:=aB HP3.out (hJ.block g2 Kz);have p4:=aB PR.out (hJ.block g2 Kz);have p5:=aB O3.out (hJ.block g2 Kz);have p6:=aB HP6.out (hJ.block g2 Kz);go_wp2;exact hK _ _ iB rfl
   ·simp only [hn] at hK⊢
    have hs1:=KX.out.st.below hJ;have hs2:=uX.out.below hJ
    go_wp2_with fail
    refine (ksame_calls R.state Rs.out.st _ _ _ _ _ _ _ _ wx hs1 hs2).mono ?_;rintro e w9 ⟨rfl,gQ⟩;go_wp2;exact hK _ _ gQ rfl
   ·simp only [hn] at hK⊢
    go_wp2;exact hK _ _ iB rfl
   ·simp only [hn] at hK⊢
    go_wp2;exact hK _ _ iB rfl
  case hend =>
   intro vs wx hJ hv;simp [eF,aW] at hv;obtain ⟨e0,e1,e2,e3,e4,e5,e6,e7,e8,e9,e10,e11,e12,e13,e14,e15,e16,e17,e18,e19,e20,e21,e22,e23⟩:=hv;simp only [aJ,Act.put,Nat.reduceAdd,Nat.zero_add,pS];rw [e0,e1,e2,e3,e4,e5,e6,e7,e8,e9,e10,e11,e12,e13,e14,e15,e16,e17,e18,e19,e20,e21,e22,e23];clear e0 e1 e2 e3 e4 e5 e6 e7 e8 e9 e10 e11 e12 e13 e14 e15 e16 e17 e18 e19 e20 e21 e22 e23;go_wp2
   go_roundw
   case rel=>exact ⟨i+1,by omega,by go_num,iH (ah HBI.out hJ)⟩
   case measure=>simp [intOf];omega
end Go.Proofs.YtbngpjdflblffaaGreatDoor
