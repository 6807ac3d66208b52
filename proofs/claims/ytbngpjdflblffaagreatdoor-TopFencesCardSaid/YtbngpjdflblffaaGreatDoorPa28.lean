/- A part of the proof, laid together from: Gone, MachB, PairG, InsPair, PairS. -/
import Derived.Test.YtbngpjdflblffaaGreatDoorPa27
import Derived.Conc.MuLone
set_option linter.all false
set_option maxRecDepth 100000
set_option maxHeartbeats 3200000
namespace Go.Tk
open Go Go.RowKit
def rX (w:World) (res:List aN×Int) (e:Ending) (w':World):Prop :=
 ∃v',e=.returned (.tuple #[v', iI res.2])∧aZ 4 fZ w' v' res.1 (fun b=>w.heap.size≤b)∧Below w.heap.size w w'
theorem rX.nil {w w':World} {c:Int} (hb:Below w.heap.size w w'):rX w ([],c) (.returned (.tuple #[iN, iI c])) w':=⟨_,rfl,aZ.nil _ _,hb⟩
theorem Jt {α:Type} (f:α→α) (l:List α) (n:Nat) (hn:n≤l.length):((l.take n).map f++l.drop n).length=l.length:=by simp;omega
theorem Qm {α:Type} (f:α→α) (l:List α) (n:Nat) (hn:n<l.length):((l.take n).map f++l.drop n)[n]'(by rw [Jt f l n (by omega)];exact hn)=l[n]:=by
 rw [List.getElem_append_right (by simp;omega)];simp [Nat.min_eq_left (Nat.le_of_lt hn)]
theorem Md {α:Type} (f:α→α) (l:List α) (n:Nat) (hn:n<l.length):((l.take n).map f++l.drop n).set n (f l[n])=(l.take (n+1)).map f++l.drop (n+1):=by
 rw [List.take_succ_eq_append_getElem hn,List.map_append,List.set_append_right _ _ (by simp;omega)];have h1:n - ((l.take n).map f).length=0:=by simp;omega
 rw [h1,List.drop_eq_getElem_cons hn,List.set_cons_zero];simp
theorem fT.grown {w w':World} {s:bf} {vl vp vs:Value} {S:Nat→Prop} {B:Nat} (h:fT w s vl vp vs S) (hg:w.grownBy w' (some B)) (hS:∀b,S b→b≠B):fT w' s vl vp vs S :=
 h.move fun b hb hlt=>⟨hg.block b hlt (fun e=>hS b hb (by cases e;rfl)),hb⟩
theorem aZ.grown {α:Type} {k:Nat} {R:Rel α} (hR:cu R k) (hk:0<k) {w w':World} {v:Value} {l:List α} {S:Nat→Prop} {B:Nat} (h:aZ k R w v l S) (hg:w.grownBy w' (some B)) (hS:∀b,S b→b≠B):aZ k R w' v l S :=
 h.move hR hk fun b hb hlt=>⟨hg.block b hlt (fun e=>hS b hb (by cases e;rfl)),hb⟩
theorem FT (lW was:List aG) (n:Nat) (hn:n<was.length) (lk:List aN):mE lk lW (was.take (n+1))=mZ lW (mE lk lW (was.take n)) was[n]:=by
 rw [mE,List.take_succ_eq_append_getElem hn,List.foldl_append];rfl
theorem bZ.N9 {E:Nat} {w:World} {g cap n:Nat} {l:List fB} {S:Nat→Prop} (h:bZ E 3 jC w (.slice (some ⟨g,0,none⟩) n cap) l S) {i:Nat} (hi:i<l.length) (val:List UInt8) (x:Int) :
 bZ E 3 jC ((w.setCell ⟨g,i*3+1,none⟩ (iS val)).setCell ⟨g,i*3+2,none⟩ (iI x)) (.slice (some ⟨g,0,none⟩) n cap) (l.set i ⟨l[i].name,val,x⟩) S:=by
 obtain ⟨row,hrow,hc⟩:=h.at bg hi;obtain rfl:=hrow;have c0:=hc 0 _ rfl;have c1:=hc 1 _ rfl;have c2:=hc 2 _ rfl;refine h.set bg hi (cs:=[.string ⟨l[i].name.toArray⟩, iS val, iI x]) rfl (((bW.refl _ _).set _ _ _).set _ _ _) (fun j hj=>?_) (fun j u hu=>?_) (fun b _ hb _=>(aC hb).trans (aC hb))
 ·exact (bK (by omega)).trans (bK (by omega))
 ·match j,hu with
  | 0,hu=>cases hu;exact (bK (by omega)).trans ((bK (by omega)).trans c0)
  | 1,hu=>cases hu;exact (bK (by omega)).trans (World.cell?_setCell_same _ _ _ c1)
  | 2,hu=>cases hu;exact World.cell?_setCell_same _ _ _ ((bK (by omega)).trans c2)
theorem bZ.Pm {α:Type} {E k:Nat} {R:Rel α} {w:World} {g cap n:Nat} {l:List α} {S:Nat→Prop} (h:bZ E k R w (.slice (some ⟨g,0,none⟩) n cap) l S) (j:Nat):w.frozen? ⟨g,j,none⟩=false:=by
 obtain ⟨rows,h1,h2,h3⟩:=h
 rcases h2.2 with ⟨hv,_⟩ | ⟨g',cap',cur,hv,-,hg,-⟩
 ·simp at hv
 ·simp only [Value.slice.injEq,Option.some.injEq,Addr.mk.injEq,and_true] at hv
  obtain ⟨rfl,-,-⟩:=hv;rw [World.frozen?,hg];simp
def Ni (w:World) (r:List fB×eX×Int):Ending→World→Prop:=fun e w'=>∃v',e=.returned (.tuple #[v', .agg #[iI r.2.1.code, iI r.2.1.n, iS r.2.1.text], iI r.2.2])∧aZ 3 jC w' v' r.1 (fun b=>w.heap.size≤b)∧Below w.heap.size w w'
theorem Dn (w:World) (cs:List Value) (x:fB) (S S':Nat→Prop) (h:jC w cs x S):jC w cs x S':=h
theorem bZ.uj {E:Nat} {w:World} {v:Value} {l:List fB} {S S':Nat→Prop} (h:bZ E 3 jC w v l S) (hS:∀g,v.ownBlock=some g→S' g):aZ 3 jC w v l S' :=
 (h.forget Dn).read bg (by decide) hS
end Go.Tk
namespace Go.Proofs.YtbngpjdflblffaaGreatDoor
open Go.RowKit Go.Tk
theorem Iu (l:List aN) (who:Int) (v:Value) (S:Nat→Prop) (w:World) (h:aZ 4 fZ w v l S) (hin:∀x∈l,x.line.length≤1000000) :
 Calls Tryz.prog 98 #[v, iI who] w (rX w (kH l who)):=by
 have HN:=iH hin;have HH:=iH h;clear hin h
 go_enter Tryz.func98,Tryz.ntmps98
 go_wp2_with fail
 refine (om l v S _ HH.out HN.out).mono ?_;rintro e w1 ⟨rfl,hb1⟩
 by_cases he:dU l=0
 case neg =>
  have HJ:=iH (show kH l who=([],dU l) by rw [kH,if_pos he]);have he':(dU l != 0)=true:=by simpa using he
  clear he;go_wp2
  go_ret2
  rw [HJ.out];exact rX.nil hb1
 have he':(dU l != 0)=false:=by simpa using he
 have HE:=iH he;have hok:=jB.1 he;have HO:=iH hok;have hl5:=hok.len;clear he hok
 go_wp2_with fail
 refine (lG who _).mono ?_;rintro e w' ⟨rfl,rfl⟩;cases hcl:gU who
 case false =>
  have HJ:=iH (show kH l who=([],2) by rw [kH,if_neg (by simpa using HE.out),if_pos hcl]);clear hcl;go_wp2
  go_ret2
  rw [HJ.out];exact rX.nil hb1
 have HJ:=iH (show kH l who=(l.map (fun k=>jr k who),0) by rw [kH,if_neg (by simpa using HE.out),if_neg (by rw [hcl];decide)]);clear hcl
 go_wp2_with fail
 refine (qi _ v l S (HH.out.below aM (by decide) hb1) (by omega) HN.out).mono ?_;rintro e w2 ⟨v2,rfl,ho2,hb2,hv2⟩;have hs1:=hb1.size;have XD:=iH ((ho2.sub (S':=fun b=>w.heap.size≤b) (iG _) (fun b hb _=>by show _≤_;omega)).map (R':=iZ 3) fun _ _ _ _ h=>h.Pk);have HB0:=iH (ah hb1 hb2);have wO:=iH (fun g (hg:v2.ownBlock=some g)=>(by have:=hv2 g hg;omega:w.heap.size≤g));obtain ⟨a2,c2,rfl⟩:∃a c,v2=.slice a l.length c:=(ho2.own (iG _)).shape;clear ho2 hb2 hv2 hb1;go_wp2
 go_loopw [7,8,9,22] (fun _ _ _ i wr=>∃n:Nat,n≤l.length∧i=iI n∧Hid (lT 89 4 (iZ 3) wr (.slice a2 l.length c2) ((l.take n).map (fun k=>jr k who)++l.drop n) (fun b=>w.heap.size≤b))∧Hid (Below w.heap.size w wr))
  (fun _ _ _ i _=>l.length - (intOf i).toNat)
 case atStart=>exact ⟨0,by omega,rfl,XD.out,HB0.out⟩
 case round =>
  obtain ⟨n,hnl,rfl,hod,hbw⟩:=hrel
  by_cases hlt:n<l.length
  ·obtain ⟨L,hL⟩:∃L,L=(l.take n).map (fun k=>jr k who)++l.drop n:=⟨_,rfl⟩
   have hml:L.length=l.length:=by rw [hL];exact Jt (fun k=>jr k who) l n hnl
   have hlt2:n<L.length:=by omega
   have Rj:Hid (L[n]=l[n]):=by subst hL;exact Qm (fun k=>jr k who) l n hlt
   have O7:Hid (L.set n (jr l[n] who)=(l.take (n+1)).map (fun k=>jr k who)++l.drop (n+1)):=by subst hL;exact Md (fun k=>jr k who) l n hlt
   have JO:=iH (HO.out.line l[n] (List.getElem_mem hlt));have Np:=iH (HO.out.fence l[n] (List.getElem_mem hlt));rw [←hL] at hod;clear hL;generalize xX:l[n]=x at Rj O7 JO Np;clear xX;obtain ⟨g,cap,hv,-,-,hg2,hfz⟩:=hod.out.pO (by omega);simp only [Value.slice.injEq] at hv;obtain ⟨rfl,-,rfl⟩:=hv;have hgw:=wO.out g rfl;obtain ⟨rv,hcells,jd,hrg⟩:=hod.out.wD n hlt2;rw [Rj.out] at hcells jd;obtain ⟨ra,rc,rfl⟩:=jd.shape;have c1:=hcells 1 _ rfl;have c3:=hcells 3 _ rfl;have f3:=hfz (n*4+3);have HV:=iH jd;have HG:=iH hrg;clear hcells jd hrg hfz XD HB0;have Zl:=iH hml;clear hml;have HC:=iH (qa wr _ x.line (fun _=>True) ((HV.out.forget (S':=fun _=>True) (fun _ _ _ _ _ h=>h)).read bB (fun _ _=>trivial)) (by have:=JO.out.len;omega) who)
   go_wp2_with fail
   refine HC.out.mono ?_;rintro e w2 ⟨rfl,hb2⟩;clear HC;have hs2:=hb2.size;have HB2:=iH (ah hbw.out hb2);have KY:=iH (hod.out.below (mG _) hb2);have d1:=aB c1 (hb2.block g hg2);have d3:=aB c3 (hb2.block g hg2);have e3:=(World.frozen?_of_block (hb2.block g hg2)).trans f3;clear c1 c3 f3 hod hbw;have Im:g<w2.heap.size:=by omega
   have hx3:=JO.out.len
   rcases j6 (fun y=>who == y) x.line with ⟨hi,-⟩ | ⟨m,hm,hi,-,-⟩
   ·have HU:=iH (G5 hi)
    rw [hi];clear hi
    by_cases hw:x.holder=who
    ·have HK:=iH (show jr x who=mY x by rw [jr,HU.out,if_pos hw])
     have hwb:(x.holder == who)=true:=by simpa using hw
     have HP:=iH (wh w2 g l.length c2 L _ KY.out n hlt2 (by rw [Rj.out];have:=Np.out;omega) (by rw [Rj.out];omega));clear hw
     go_wp2_with fail
     refine HP.out.mono ?_;rintro e w3 ⟨rfl,ho3,hg3⟩;clear HP;rw [Rj.out] at ho3;have Rf:=iH ho3;have HB3:=iH (HB2.out.grown hg3 (by have:=HB2.out.size;omega) (fun k hk=>by cases hk;exact hgw));clear ho3 hg3;go_wp2
     go_roundw
     case rel=>exact ⟨n+1,by omega,by go_num,by rw [←O7.out];show Hid _;rw [HK.out];exact Rf.out,HB3.out⟩
     case measure=>simp [intOf];omega
    ·have HK:=iH (show jr x who=x by rw [jr,HU.out,if_neg hw])
     have hwb:(x.holder == who)=false:=by simpa using hw
     have HSS:Hid (L.set n x=L):=by show _=_;rw [←Rj.out];exact List.set_getElem_self _
     clear hw;go_wp2
     go_roundw
     case rel=>exact ⟨n+1,by omega,by go_num,by rw [←O7.out];show Hid _;rw [HK.out,HSS.out];exact KY.out,HB2.out⟩
     case measure=>simp [intOf];omega
   ·have HU:=iH (Az hi)
    rw [hi];clear hi;have hna:(Value.slice ra x.line.length rc).ownBlock≠some g:=fun e=>(HG.out g e).2.1 rfl
    have HD:=iH (xM w2 _ x.line (fun _=>False) (HV.out.below bB hb2) (by omega) m hm);have hwn:IntKind.i64.wrap ((m:Int)+1)=(m:Int)+1:=IntWalk.i64_in _ (by omega)
    go_wp2_with fail
    refine HD.out.mono ?_;rintro e w3 ⟨v3,rfl,ho3,hg3,hv3⟩;clear HD;obtain ⟨ra3,rc3,e3'⟩:=ho3.shape;have u1:=aB d1 (hg3.block g Im (Ne.symm hna));have u3:=aB d3 (hg3.block g Im (Ne.symm hna));have uf:=(World.frozen?_of_block (hg3.block g Im (Ne.symm hna))).trans e3;have JR:Hid (lT 89 4 (iZ 3) (w3.setCell ⟨g,n*4+3,none⟩ v3) (.slice (some ⟨g,0,none⟩) l.length c2) (L.set n (gH x who)) (fun b=>w.heap.size≤b)):=by
     have k1:=KY.out.xD hlt2 d3 hg3 ho3 (.inl hv3);rw [Rj.out] at k1;rw [HU.out];exact k1
    have HB3:=iH (HB2.out.grown hg3 (by have:=HB2.out.size;omega) (fun k hk=>(HG.out k hk).1));have hs3:=hg3.size;subst e3';clear d1 d3 e3 ho3 hg3 hv3
    by_cases hw:x.holder=who
    ·have HK:=iH (show jr x who=mY (gH x who) by rw [jr,if_pos (by rw [HU.out];exact hw)])
     have hwb:(x.holder == who)=true:=by simpa using hw
     have ko:=iH (show (gH x who).line.length≤1000000 by rw [HU.out];exact Nat.le_trans (List.length_eraseIdx_le _ _) (by omega));have HLF:=iH (show (gH x who).fence=x.fence by rw [HU.out]);have HP:=iH (wh _ g l.length c2 (L.set n (gH x who)) _ JR.out n (by rw [List.length_set];exact hlt2) (by rw [List.getElem_set_self,HLF.out];have:=Np.out;omega) (by rw [List.getElem_set_self];exact ko.out));clear hw
     go_wp2_with fail
     refine HP.out.mono ?_;rintro e w5 ⟨rfl,vQ,hg5⟩;clear HP;rw [List.getElem_set_self,List.set_set] at vQ;have Re:=iH vQ;have Pe:=iH ((ay HB3.out (b:=g) (by omega) _ _).grown hg5 (by have:=HB3.out.size;simp [World.setCell];omega) (fun k hk=>by cases hk;exact hgw));clear vQ hg5;go_wp2
     go_roundw
     case rel=>exact ⟨n+1,by omega,by go_num,by rw [←O7.out];show Hid _;rw [HK.out];exact Re.out,Pe.out⟩
     case measure=>simp [intOf];omega
    ·have HK:=iH (show jr x who=gH x who by rw [jr,if_neg (by rw [HU.out];exact hw)])
     have hwb:(x.holder == who)=false:=by simpa using hw
     clear hw;go_wp2
     go_roundw
     case rel=>exact ⟨n+1,by omega,by go_num,by rw [←O7.out];show Hid _;rw [HK.out];exact JR.out,ay HB3.out (by omega) _ _⟩
     case measure=>simp [intOf];omega
  ·obtain rfl:n=l.length:=by omega
   have HOF:Hid (lT 89 4 (iZ 3) wr (.slice a2 l.length c2) (l.map (fun k=>jr k who)) (fun b=>w.heap.size≤b)):=by
    have:=hod.out;rw [List.take_length,List.drop_length,List.append_nil] at this;exact this
   clear hod XD HB0;go_wp2
   go_ret2
   rw [HJ.out];exact ⟨_,rfl,HOF.out.yo wO.out,hbw.out⟩
theorem Gf (w:World) (y:aG) (rv:Value) (jd:rv.oneCell'=true) (B:Nat) (c:Int) (hc:w.cell? ⟨B,0,none⟩=some (iI c)) :
 Calls Tryz.prog 97 #[.agg #[iI y.client, iI y.id, iI y.aH, iI y.last,rv], iP B 0] w fun e w'=>e=.returned (.bool (y.client == c))∧Below w.heap.size w w':=by
 have hB:=World.block_lt_of_cell? w _ hc
 go_enter Tryz.func97,Tryz.ntmps97
 go_wp2;go_ret;exact ⟨rfl,aj w _⟩
theorem xy (s:bf) (B:Nat) (vl vp vs vw:Value) (was:List aG) (S:Nat→Prop) (w:World) (hx:aD w B [iI s.index,vl,vp,vs]) (h:fT w s vl vp vs S) (hw:aZ 5 bR w vw was S)
 (hS:∀b,S b→b≠B) (hl:ji s.au) (hcl:∀x∈was,1≤x.client∧x.client≤9) (VZ:s.af.length≤1000000) (hwas:was.length≤1000000) :
 Calls Tryz.prog 60 #[iP B 0,vw] w fun e w'=>e=.returned (.tuple #[]) ∧
  ∃Cn,aD w' B [iI s.index,Cn,vp,vs]∧aZ 4 fZ w' Cn (mE s.au s.af was) (fun b=>S b∨w.heap.size≤b)∧w.grownBy w' (some B):=by
 have o2:=h.pair.oneCell;have o3:=h.dG.oneCell;obtain ⟨aw,cw,hv,-,hm,-,-⟩:=id hw;subst hv;unfold maxLen at hm;have hBlt:=hx.lt;have HX:=iH hx;have HS:=iH h.dG;have HL:=iH (h.lock.sub (S':=fun b=>S b∨w.heap.size≤b) aM (by decide) fun b hb _=>.inl hb);have HW:=iH hw;have HB:=iH hS;have DU:=iH hl;have I8:=iH hcl;clear hx h hw hS hl hcl
 go_enter Tryz.func60,Tryz.ntmps60
 go_wp2
 go_loopw [5,8] (fun _ i wr=>∃n:Nat,n≤was.length∧i=iI n∧∃Cn,Hid (aD wr B [iI s.index,Cn,vp,vs])∧Hid (aZ 4 fZ wr Cn (mE s.au s.af (was.take n)) (fun b=>S b∨w.heap.size≤b))∧Hid (w.grownBy wr (some B)))
  (fun _ i _=>was.length - (intOf i).toNat)
 case atStart=>exact ⟨0,by omega,rfl,vl,HX,HL,iH (grownBy_refl _ _)⟩
 case round =>
  obtain ⟨n,hn,rfl,Cn,hbx,hbl,hbg⟩:=hrel
  by_cases hlt:n<was.length
  case neg =>
   have HF:=iH (show was.take n=was from List.take_of_length_le (by omega));go_wp2;refine bodyPost_end (v:=.tuple #[]) (by simp [results,Tryz.results60,go_sem]) rfl ⟨rfl,Cn,hbx.out,?_,hbg.out⟩;have:=hbl.out;rw [HF.out] at this;exact this
  obtain ⟨b,off,cap',row,hv,hSb,hrow,hcells⟩:=(HW.out.grown aF (by decide) hbg.out HB.out).row n hlt;simp only [Value.slice.injEq] at hv;obtain ⟨rfl,_,rfl⟩:=hv;have IZ:=iH (oD s.af (was.take n) s.au DU.out fun x hx=>I8.out x (List.mem_of_mem_take hx)).1;have HT:=iH (FT s.af was n hlt s.au);have R8:=iH (I8.out was[n] (List.getElem_mem hlt));generalize mE s.au s.af (was.take n)=L at *;generalize was[n]=x at *;obtain ⟨rv,rfl,jd⟩:=hrow;obtain ⟨ra,rc,rfl,-⟩:=id jd;have q0:=hcells 0 _ rfl;have q1:=hcells 1 _ rfl;have q2:=hcells 2 _ rfl;have q3:=hcells 3 _ rfl;have q4:=hcells 4 _ rfl;simp only [Nat.add_zero] at q0;clear hcells jd;have hsz:=hbg.out.size;have HZ:=iH (aD.new (w:=wr) (cs:=[iI x.client, iI x.id, iI x.aH, iI x.last, .slice ra x.aA.length rc]) (E:=115));have HD:=iH (aj wr (.cells #[iI x.client, iI x.id, iI x.aH, iI x.last, .slice ra x.aA.length rc] 115));go_upto_region 3 with (fail);generalize wr.alloc (.cells #[iI x.client, iI x.id, iI x.aH, iI x.last, .slice ra x.aA.length rc] 115)=w5 at *;clear q0 q1 q2 q3 q4;have b3:=(hbx.out.below HD.out).cell 3 _ rfl
  go_wp2_with fail
  clear b3;have RX:=iH ((HS.out.grown aF (by decide) hbg.out HB.out).below aF (by decide) HD.out);have hin:=fun args w=>MuLone.run_callFunc_enter Tryz.func97 (by kernel_rfl) rfl args w
  have hp:rW w5 none S 97 (iP (wr.heap.size) 0) (fun y=>y.client == x.client):=fun w' y rv' hg hr =>
   Gf w' y rv' (by obtain ⟨v,e,a,c,hv,_⟩:=hr;cases e;rw [hv];rfl) wr.heap.size x.client ((World.cell?_of_block (hg.block _ HZ.out.lt (by simp))).trans (HZ.out.cell 0 _ rfl))
  have HK:=iH (wC w5 vs s.af S RX.out VZ 97 (iP (wr.heap.size) 0) rfl (fun y=>y.client == x.client) none hin hp);clear hp hin;refine HK.out.mono ?_;rintro e w6 ⟨rfl,hb6⟩;clear HK RX;have Xj:=iH ((hbx.out.below HD.out).below hb6);have Zn:=iH ((hbl.out.below aM (by decide) HD.out).below aM (by decide) hb6);have vW:=iH (grownBy_trans hbg.out (aY (ah HD.out hb6) (some B)));have h5x:=(HZ.out.below hb6).cell 0 _ rfl;have hs6:=vW.out.size;clear hbx hbl hbg HD HZ hb6
  by_cases hc:fG s.af x.client=true
  ·have HF:=iH (show mZ s.af L x=L by rw [mZ,if_pos hc])
   have hc':(s.af.any fun y=>y.client == x.client)=true:=hc;clear hc;rw [hc'];clear hc';go_wp2
   go_roundw
   case rel=>exact ⟨n+1,by omega,by go_num,Cn,Xj,iH (by rw [HT.out,HF.out];exact Zn.out),vW⟩
   case measure=>simp [intOf];omega
  ·have HF:=iH (show mZ s.af L x=(kH L x.client).1 by rw [mZ,if_neg hc])
   have hc':(s.af.any fun y=>y.client == x.client)=false:=by have:¬ (s.af.any fun y=>y.client == x.client)=true:=hc;simpa using this
   clear hc;rw [hc'];clear hc';have HG:=iH (Iu L x.client Cn _ w6.drew (Zn.out.move aM (by decide) fun b hb _=>⟨rfl,hb⟩) (fun k hk=>by have:=(IZ.out.line k hk).len;omega));have x1:=Xj.out.cell 1 _ rfl;go_upto_region 4 with (fail)
   go_region_law (go_simp;go_at_call 98;refine HG.out.mono ?_;rintro e w7 ⟨v7,rfl,hs7,uy⟩;have sG:Below w6.heap.size w6 w7:=⟨uy.os,uy.tape,uy.output,uy.size,uy.block⟩;obtain ⟨a7,c7,e7,-⟩:=id hs7;subst e7;have hx7:=Xj.out.below sG;have u1:=hx7.cell 1 _ rfl;have t1:=hx7.thaw 1)
   all_goals
    have NF:=iH (hx7.set 1 (by simp) (.slice a7 (kH L x.client).1.length c7));have HL7:=iH (hs7.move (S':=fun b=>S b∨w.heap.size≤b) (w':=w7.setCell ⟨B,1,none⟩ (.slice a7 (kH L x.client).1.length c7)) aM (by decide) (fun b hb _=>⟨aC (by have:=hx7.lt;have:w6.heap.size≤b:=hb;omega), .inr (by have:w6.heap.size≤b:=hb;omega)⟩));have HG7:=iH (grownBy_trans vW.out (bO (aY sG (some B)) 1 (.slice a7 (kH L x.client).1.length c7)));clear hx7 hs7 sG x1;go_wp2
    go_roundw
    case rel=>exact ⟨n+1,by omega,by go_num,_,NF,iH (by rw [HT.out,HF.out];exact HL7.out),HG7⟩
    case measure=>simp [intOf];omega
theorem FE (l:List fB) (t:List UInt8) (v:Value) (S:Nat→Prop) (w:World) (h:aZ 3 jC w v l S) (hok:qB l) :
 Calls Tryz.prog 108 #[v, iS t] w fun e w'=>e=.returned (.tuple #[.agg #[iI (jW l t).1.code, iI (jW l t).1.n, .string ⟨(jW l t).1.text.toArray⟩], iI (jW l t).2])∧Below w.heap.size w w':=by
 have hone:=h.oneCell;have hlen:=hok.len;have HC:=iH (mh.2 hok);have HV:=iH (get_eq (name:=t) hok);have PN:=iH (show ∀x∈l,x.value.length≤1000000 from fun x hx=>Nat.le_trans (hok.one x hx).size (by decide));have HS:=iH h;clear h hok;obtain ⟨a,cap,hv,hl,hm,-,-⟩:=id HS.out;subst hv;unfold maxLen at hm
 go_enter Tryz.func108,Tryz.ntmps108
 go_wp2_with fail
 refine (ry l _ S _ (HS.out.below bg (by decide) (aj w _)) PN.out).mono ?_;rw [HC.out];rintro e w1 ⟨rfl,hb1⟩;rw [World.size_alloc] at hb1;have HB1:=iH ((aj w _).trans (hb1.mono (by omega)));have GU:=iH hb1;clear hb1
 go_wp2_with fail
 refine (zn l t _ S _ (HS.out.below bg (by decide) HB1.out) (by omega)).mono ?_;rintro e w2 ⟨rfl,hb2⟩;have HB2:=iH (ah HB1.out hb2);have Ty:=GU.out.trans (hb2.mono (by have:=GU.out.size;rw [World.size_alloc] at this;exact this));obtain ⟨hz,jm,hzs⟩:=Tk.fresh Ty;have z0:=hz 0;have z1:=hz 1;have z2:=hz 2;have f0:=jm 0;have f1:=jm 1;have f2:=jm 2;have Nr:=iH ((aD.new (w:=w) (cs:=[iI 0, iI 0, .string ⟨#[]⟩]) (E:=80)).keep (Ty.block w.heap.size (by omega)));clear hz jm hb2 GU HB1;cases ht:mo l t
 case false =>
  have HF:=iH (show jW l t=(⟨6,0,[]⟩,0) by rw [HV.out,if_pos ht]);clear ht;go_wp2;have hp:=((Nr.out.set 0 (by simp) (iI 6)).set 1 (by simp) (iI 0)).set 2 (by simp) (.string ⟨#[]⟩);have hbf:=ay (ay (ay (Below.refl w.heap.size w2) (Nat.le_refl _) 0 (iI 6)) (Nat.le_refl _) 1 (iI 0)) (Nat.le_refl _) 2 (.string ⟨#[]⟩);generalize ((w2.setCell ⟨w.heap.size,0,none⟩ (iI 6)).setCell ⟨w.heap.size,1,none⟩ (iI 0)).setCell ⟨w.heap.size,2,none⟩ (.string ⟨#[]⟩)=wf at *;obtain ⟨p0,p1,p2⟩:=gV hp;refine bodyPost_ret (v:=.tuple #[.agg #[iI 6, iI 0, .string ⟨#[]⟩], iI 0]) (by simp [results,Tryz.results108,go_sem,p0,p1,p2]) rfl ?_;rw [HF.out];exact ⟨rfl,HB2.out.trans hbf⟩
 case true =>
  have hlt:=rO ht;have HF:=iH (show jW l t=(⟨0,l[eG l t].version,l[eG l t].value⟩,0) by rw [HV.out,if_neg (by rw [ht];decide),getD_at hlt]);obtain ⟨b,off,cap',row,hv,hSb,hrow,hcells⟩:=(HS.out.below bg (by decide) HB2.out).row (eG l t) hlt;simp only [Value.slice.injEq] at hv;obtain ⟨rfl,_,rfl⟩:=hv;obtain rfl:=hrow;have q1:=hcells 1 _ rfl;have q2:=hcells 2 _ rfl;clear hcells ht;generalize l[eG l t]=x at *;generalize eG l t=i at *;go_wp2;go_region;go_wp2;have hp:=((Nr.out.set 0 (by simp) (iI 0)).set 1 (by simp) (iI x.version)).set 2 (by simp) (iS x.value);have hbf:=ay (ay (ay (Below.refl w.heap.size w2) (Nat.le_refl _) 0 (iI 0)) (Nat.le_refl _) 1 (iI x.version)) (Nat.le_refl _) 2 (iS x.value);generalize ((w2.setCell ⟨w.heap.size,0,none⟩ (iI 0)).setCell ⟨w.heap.size,1,none⟩ (iI x.version)).setCell ⟨w.heap.size,2,none⟩ (iS x.value)=wf at *;obtain ⟨p0,p1,p2⟩:=gV hp.drew;refine bodyPost_ret (v:=.tuple #[.agg #[iI 0, iI x.version, iS x.value], iI 0]) (by simp [results,Tryz.results108,go_sem,p0,p1,p2]) rfl ?_;rw [HF.out];exact ⟨rfl,HB2.out.trans (Below.drew hbf)⟩
theorem Tryz.G6:dM Tryz.prog 24 96 3 40:=⟨Tryz.underlying24,by kernel_rfl,by decide⟩
theorem Bt:Cg Tryz.prog 149 96 3:=by
 intro w v n xs cs hown hcs h1 hn;obtain ⟨v',w',hr,g1,g2,g3⟩:=Ap (ty:=24) Tryz.G6 (by decide) hown hcs h1 hn;have HF:=iH (And.intro g2 g3);have G1:=iH g1;clear g1 g2 g3
 rcases hown.2 with ⟨rfl,rfl⟩ | ⟨g,cap,cur,rfl,-,hg,hnc,hcm,hcs2,htake⟩
 ·clear hown
  go_enter Tryz.func149,Tryz.ntmps149
  go_wp2_with (at_builtin;refine wpList_append_run rfl _ _ _ _ rfl _ _ rfl rfl hr ?_)
  go_ret;exact ⟨v',rfl,G1.out,HF.out⟩
 ·unfold maxLen at hcm
  clear hown htake hg hcs2
  by_cases hcap:cap=n
  ·subst hcap
   go_enter Tryz.func149,Tryz.ntmps149
   go_wp2_with (at_builtin;refine wpList_append_run rfl _ _ _ _ rfl _ _ rfl rfl hr ?_)
   go_ret;exact ⟨v',rfl,G1.out,HF.out⟩
  ·go_enter Tryz.func149,Tryz.ntmps149
   go_wp2_with (at_builtin;refine wpList_append_run rfl _ _ _ _ rfl _ _ rfl rfl hr ?_)
   go_ret;exact ⟨v',rfl,G1.out,HF.out⟩
theorem zS:xW Tryz.prog 149 96 3:=by
 intro w g n i xs cs hown hi hcs h1 h1x hn;unfold vV;obtain ⟨w1,w2,w3,b1,nc,hr1,hr2,hr3,f1,f2,Ga,Kw,f3⟩:=xC (ty:=24) Tryz.G6 Tryz.underlying3 (by decide) (by decide) hown hi hcs h1 h1x hn;have HF:=iH (And.intro f1 f2);have H1:=iH f3;clear f1 f2 f3 h1 h1x hown hcs
 go_enter Tryz.func149,Tryz.ntmps149
 go_wp2_with (at_builtin;refine wpList_append_run rfl (.tmp 34) (.tmp 39) _ _ rfl _ _ rfl rfl hr1 ?_)
 have q1:IntKind.i64.wrap ((i:Int)+1)=(i:Int)+1:=IntWalk.i64_in _ (by omega);have q2:(0:Int)≤(i:Int)+1:=by omega
 have q3:((i:Int)+1).toNat=i+1:=by omega
 have q4:¬ (nc=i+1):=by omega
 have q5:¬ (n=i):=by omega
 have q6:(i:Int)+1≤(n:Int)+1:=by omega
 have q7:i≤n:=by omega
 go_region_law (refine iR rfl _ _ 24 24 rfl _ _ (by simp [Act.eval,Act.put]) (by simp [Act.eval,Act.put]) hr3 ?_)
 clear q1 q2 q3 q4 q5 q6 q7;go_wp2;go_ret;exact ⟨_,rfl,HF.out.1,HF.out.2, .inr ⟨_,rfl,H1.out⟩⟩
theorem yG:uP Tryz.prog 149 96 3:=by
 intro w g n cap i xs cs hown hi hcap hcs h1 h1x hn;unfold vV;obtain ⟨cur,w1,w2,hg0,hcsz,Ev,hcm,hr1,hr2,f1,f2⟩:=uU (I:=3) Tryz.G6 hown hi hcap hcs h1 h1x;have HF:=iH (And.intro f1 f2);have hov:(callFunc 166 #[.slice (some ⟨w.heap.size,0,none⟩) 1 1, .slice (some ⟨g,(i+1)*3,none⟩) (n - i) (cap - (i+1))]).run Tryz.prog (w.alloc (.cells cs 96))=.ok (.value (.bool false)) (w.alloc (.cells cs 96)):=by
  rw [run_callFunc_extern Tryz.func166 (by kernel_rfl) (by kernel_rfl) (by kernel_rfl) (e:=Extern.SlicesOverlaps.overlaps #[24,24] #[4]) (by kernel_rfl),
   Lib.run_overlaps_apart (w.alloc (.cells cs 96)) 24 4 96 Tryz.underlying24 3 (fun _=>by kernel_rfl) ⟨w.heap.size,0,none⟩ ⟨g,(i+1)*3,none⟩ 1 1 _ _ (by simp;omega) 96 96 3 (cap*3)
    (by simp only [World.shape?];rw [heap_alloc_new];simp [hcs]) (by simp only [World.shape?];rw [hg0];simp [hcsz]) (by omega) (World.frozen?_alloc_new w cs _ _) (World.frozen?_alloc_new w cs _ _)]
  rfl
 unfold maxLen at hcm;clear f1 f2 hg0 hcsz h1 h1x hown hcs
 go_enter Tryz.func149,Tryz.ntmps149
 have p4:¬ (cap=i+1):=by omega
 have p5:¬ (cap=i):=by omega
 go_wp2_with (simp only [hov])
 clear hov;have q1:IntKind.i64.wrap ((i:Int)+1)=(i:Int)+1:=IntWalk.i64_in _ (by omega);have q2:(0:Int)≤(i:Int)+1:=by omega
 have q3:((i:Int)+1).toNat=i+1:=by omega
 have q6:(i:Int)+1≤(n:Int)+1:=by omega
 have q7:i≤n:=by omega
 have q8:(i:Int)≤(n:Int)+1:=by omega
 go_region_law (refine iR rfl _ _ 24 24 rfl _ _ (by simp [Act.eval,Act.put]) (by simp [Act.eval,Act.put]) hr1 ?_)
 clear q1 q2 q3 q6 q7 q8 hr1;go_wp2;go_ret;exact ⟨_,rfl,HF.out.1,HF.out.2, .inl rfl⟩
def yH {α:Type} {R:Rel α}:=uV (α:=α) (R:=R) Bt zS yG
theorem FD (l:List fB) (t val:List UInt8) (v:Value) (S:Nat→Prop) (w:World) (h:aZ 3 jC w v l S) (hok:qB l) (hnm:fD t=true) (hvl:val.length≤12) :
 Calls Tryz.prog 109 #[v, iS t, iS val] w (Ni w (ja l t val)):=by
 have hone:=h.oneCell;have hlen:=hok.len;have HC:=iH (mh.2 hok);have HV:=iH (LJ hok hnm hvl);have Vp:=iH hnm;have PN:=iH (show ∀x∈l,x.value.length≤1000000 from fun x hx=>Nat.le_trans (hok.one x hx).size (by decide));have HVE:=iH (show ∀x∈l,1≤x.version∧x.version≤1073741824 from fun x hx=>(hok.one x hx).JY);have HS:=iH h;clear h hok hnm
 go_enter Tryz.func109,Tryz.ntmps109
 go_wp2_with fail
 refine (ry l _ S _ (HS.out.below bg (by decide) (aj w _)) PN.out).mono ?_;rw [HC.out];rintro e w1 ⟨rfl,hb1⟩;rw [World.size_alloc] at hb1;have HB1:=iH ((aj w _).trans (hb1.mono (by omega)));have GU:=iH hb1;clear hb1
 go_wp2_with fail
 refine (pX t _).mono ?_;rw [Vp.out];rintro e w2 ⟨rfl,hb2⟩;have HB2:=iH (ah HB1.out hb2);have vD:=iH (GU.out.trans (hb2.mono (by have:=GU.out.size;rw [World.size_alloc] at this;exact this)));clear hb2 GU HB1
 go_wp2_with fail
 refine (sZ bg w2 _ l S (HS.out.below bg (by decide) HB2.out) (by omega)).mono ?_;rintro e w3 ⟨v3,rfl,ho3,hb3,hg3⟩;have hsz2:w.heap.size+1≤w2.heap.size:=by have:=vD.out.size;rw [World.size_alloc] at this;exact this
 have HB3:=iH (ah HB2.out hb3);have Rx:=iH (vD.out.trans (hb3.mono hsz2));have qb:=ho3.oneCell;have xZ:=iH (show ∀g,v3.ownBlock=some g→w.heap.size+1≤g from fun g hg=>by have:=hg3 g hg;omega);have Rf:=iH (ho3.forget Dn (S':=fun _=>False));clear hb3 vD HB2 ho3 hg3
 go_wp2_with fail
 refine (zn l t _ _ _ (Rf.out.uj (S':=fun _=>True) (fun _ _=>trivial)) (by omega)).mono ?_;rintro e w4 ⟨rfl,hb4⟩;have VW:w.heap.size+1≤w3.heap.size:=by have:=Rx.out.size;rw [World.size_alloc] at this;exact this
 have GV:=iH (ah HB3.out hb4);have MH:=Rx.out.trans (hb4.mono VW);have JR:=iH (Rf.out.below bg hb4);have Nq:=iH ((aD.new (w:=w) (cs:=[iI 0, iI 0, .string ⟨#[]⟩]) (E:=80)).keep (MH.block w.heap.size (by omega)));obtain ⟨hz,jm,hzs⟩:=Tk.fresh MH;have z0:=hz 0;have z1:=hz 1;have z2:=hz 2;have f0:=jm 0;have f1:=jm 1;have f2:=jm 2;clear hz jm hb4 Rx HB3 Rf MH;cases ht:mo l t
 case false =>
  by_cases h5:l.length=5
  ·have HF:=iH (show ja l t val=(l,⟨8,0,[]⟩,0) by rw [HV.out,if_pos ht,if_pos h5])
   obtain ⟨ra,rc,rfl⟩:=JR.out.shape;have Yx:((l.length:Int) == 5)=true:=by rw [beq_iff_eq];omega
   clear ht h5;go_wp2;have hp:=((Nq.out.set 0 (by simp) (iI 8)).set 1 (by simp) (iI 0)).set 2 (by simp) (.string ⟨#[]⟩);have hbf:=ay (ay (ay (Below.refl w.heap.size w4) (Nat.le_refl _) 0 (iI 8)) (Nat.le_refl _) 1 (iI 0)) (Nat.le_refl _) 2 (.string ⟨#[]⟩);have wu:aZ 3 jC (((w4.setCell ⟨w.heap.size,0,none⟩ (iI 8)).setCell ⟨w.heap.size,1,none⟩ (iI 0)).setCell ⟨w.heap.size,2,none⟩ (.string ⟨#[]⟩)) (.slice ra l.length rc) (l) (fun b=>w.heap.size≤b):=(JR.out.move (S':=fun _=>False) bg (fun g hg=>(aC (by have:=xZ.out g hg;omega)).trans ((aC (by have:=xZ.out g hg;omega)).trans (aC (by have:=xZ.out g hg;omega)))) (fun b hb=>hb.elim)).uj (fun g hg=>by have:=xZ.out g hg;show w.heap.size≤g;omega);generalize ((w4.setCell ⟨w.heap.size,0,none⟩ (iI 8)).setCell ⟨w.heap.size,1,none⟩ (iI 0)).setCell ⟨w.heap.size,2,none⟩ (.string ⟨#[]⟩)=wf at *;obtain ⟨p0,p1,p2⟩:=gV hp;refine bodyPost_ret (v:=.tuple #[.slice ra l.length rc, .agg #[iI 8, iI 0, .string ⟨#[]⟩], iI 0]) (by simp [results,Tryz.results109,go_sem,p0,p1,p2]) rfl ?_;rw [HF.out];exact ⟨_,rfl,wu,GV.out.trans (hbf)⟩
  ·have HF:=iH (show ja l t val=(l.take (eG l t)++⟨t,val,1⟩::l.drop (eG l t),⟨0,1,[]⟩,0) by rw [HV.out,if_pos ht,if_neg h5])
   obtain ⟨ra,rc,rfl⟩:=JR.out.shape;have Yx:((l.length:Int) == 5)=false:=by rw [beq_eq_false_iff_ne];omega
   have hfl:eG l t≤l.length:=zy _ _;clear ht h5;generalize eG l t=i at *
   go_wp2_with fail
   refine (yH bg l i hfl ⟨t,val,1⟩ #[iS t, iS val, iI 1] w4 _ _ JR.out rfl (by omega)).mono ?_;rintro e w5 ⟨v5,rfl,vQ,hg5,hv5⟩;obtain ⟨rb,rd,rfl⟩:=vQ.shape;have Q5:=iH (Nq.out.grown hg5 (fun e=>by have:=xZ.out _ e.symm;omega));have Pe:=iH (GV.out.grown hg5 GV.out.size (fun g hg=>by have:=xZ.out g hg;omega));have Vs:=iH (show ∀g,(Value.slice rb (l.take i++⟨t,val,1⟩::l.drop i).length rd).ownBlock=some g→w.heap.size+1≤g from fun g hg=>by
    rcases hv5 with e | ⟨y,e,hy⟩
    ·exact xZ.out g (by rw [←e];exact hg)
    ·rw [e] at hg;cases hg;omega)
   obtain ⟨z0',z1',z2'⟩:=gV Q5.out;obtain ⟨f0',f1',f2'⟩:=rH Q5.out;have Re:=iH vQ;clear z0 z1 z2 f0 f1 f2 hg5 hv5 vQ;generalize l.take i++⟨t,val,1⟩::l.drop i=L at *;go_wp2;have hp:=((Q5.out.set 0 (by simp) (iI 0)).set 1 (by simp) (iI 1)).set 2 (by simp) (.string ⟨#[]⟩);have hbf:=ay (ay (ay (Below.refl w.heap.size w5) (Nat.le_refl _) 0 (iI 0)) (Nat.le_refl _) 1 (iI 1)) (Nat.le_refl _) 2 (.string ⟨#[]⟩);have wu:aZ 3 jC (((w5.setCell ⟨w.heap.size,0,none⟩ (iI 0)).setCell ⟨w.heap.size,1,none⟩ (iI 1)).setCell ⟨w.heap.size,2,none⟩ (.string ⟨#[]⟩)) (.slice rb L.length rd) (L) (fun b=>w.heap.size≤b):=(Re.out.move (S':=fun _=>False) bg (fun g hg=>(aC (by have:=Vs.out g hg;omega)).trans ((aC (by have:=Vs.out g hg;omega)).trans (aC (by have:=Vs.out g hg;omega)))) (fun b hb=>hb.elim)).uj (fun g hg=>by have:=Vs.out g hg;show w.heap.size≤g;omega);generalize ((w5.setCell ⟨w.heap.size,0,none⟩ (iI 0)).setCell ⟨w.heap.size,1,none⟩ (iI 1)).setCell ⟨w.heap.size,2,none⟩ (.string ⟨#[]⟩)=wf at *;obtain ⟨p0,p1,p2⟩:=gV hp;refine bodyPost_ret (v:=.tuple #[.slice rb L.length rd, .agg #[iI 0, iI 1, .string ⟨#[]⟩], iI 0]) (by simp [results,Tryz.results109,go_sem,p0,p1,p2]) rfl ?_;rw [HF.out];exact ⟨_,rfl,wu,Pe.out.trans (hbf)⟩
 case true =>
  have hlt:=rO ht;have VT:=HVE.out _ (List.getElem_mem hlt);obtain ⟨ra,rc,rfl⟩:=JR.out.shape;obtain ⟨g,rfl⟩:=JR.out.inBlock (by omega);have hgap:=xZ.out g rfl;obtain ⟨row,hrow,hcells⟩:=JR.out.at bg hlt;obtain rfl:=hrow;have q0:=hcells 0 _ rfl;have q1:=hcells 1 _ rfl;have q2:=hcells 2 _ rfl;simp only [Nat.add_zero] at q0;have hgl:=World.block_lt_of_cell? w4 _ q0;clear hcells
  by_cases hmx:l[eG l t].version=1073741824
  ·have HF:=iH (show ja l t val=(l,⟨8,0,[]⟩,0) by rw [HV.out,if_neg (by rw [ht];decide),getD_at hlt,if_pos hmx])
   clear ht;generalize l[eG l t]=x at *;generalize eG l t=i at *;have hmb:(x.version == 1073741824)=true:=by simpa using hmx
   clear hmx;go_wp2;have hp:=((Nq.out.set 0 (by simp) (iI 8)).set 1 (by simp) (iI 0)).set 2 (by simp) (.string ⟨#[]⟩);have hbf:=ay (ay (ay (Below.refl w.heap.size w4) (Nat.le_refl _) 0 (iI 8)) (Nat.le_refl _) 1 (iI 0)) (Nat.le_refl _) 2 (.string ⟨#[]⟩);have wu:aZ 3 jC (((w4.setCell ⟨w.heap.size,0,none⟩ (iI 8)).setCell ⟨w.heap.size,1,none⟩ (iI 0)).setCell ⟨w.heap.size,2,none⟩ (.string ⟨#[]⟩)) (.slice (some ⟨g,0,none⟩) l.length rc) (l) (fun b=>w.heap.size≤b):=(JR.out.move (S':=fun _=>False) bg (fun g hg=>(aC (by have:=xZ.out g hg;omega)).trans ((aC (by have:=xZ.out g hg;omega)).trans (aC (by have:=xZ.out g hg;omega)))) (fun b hb=>hb.elim)).uj (fun g hg=>by have:=xZ.out g hg;show w.heap.size≤g;omega);generalize ((w4.setCell ⟨w.heap.size,0,none⟩ (iI 8)).setCell ⟨w.heap.size,1,none⟩ (iI 0)).setCell ⟨w.heap.size,2,none⟩ (.string ⟨#[]⟩)=wf at *;obtain ⟨p0,p1,p2⟩:=gV hp;refine bodyPost_ret (v:=.tuple #[.slice (some ⟨g,0,none⟩) l.length rc, .agg #[iI 8, iI 0, .string ⟨#[]⟩], iI 0]) (by simp [results,Tryz.results109,go_sem,p0,p1,p2]) rfl ?_;rw [HF.out];exact ⟨_,rfl,wu,GV.out.trans (hbf)⟩
  ·have HF:=iH (show ja l t val=(l.set (eG l t) ⟨l[eG l t].name,val,l[eG l t].version+1⟩,⟨0,l[eG l t].version+1,[]⟩,0) by rw [HV.out,if_neg (by rw [ht];decide),getD_at hlt,if_neg hmx])
   have Re:=iH (JR.out.N9 hlt val (l[eG l t].version+1));clear ht;generalize l[eG l t]=x at *;generalize eG l t=i at *;have hmb:(x.version == 1073741824)=false:=by simpa using hmx
   clear hmx;have t1:=JR.out.Pm (i*3+1);have t2:=JR.out.Pm (i*3+2);go_wp2;go_region;go_wp2;have Q5:=iH ((Nq.out.far (c:=g) (by omega) (i*3+1) (iS val)).far (c:=g) (by omega) (i*3+2) (iI (x.version+1)));have Pe:=iH (ay (b:=g) (ay (b:=g) GV.out (by omega) (i*3+1) (iS val)) (by omega) (i*3+2) (iI (x.version+1)));generalize hL:l.set i ⟨x.name,val,x.version+1⟩=L at *;clear hL;generalize (w4.setCell ⟨g,i*3+1,none⟩ (iS val)).setCell ⟨g,i*3+2,none⟩ (iI (x.version+1))=w5 at *;have hp:=((Q5.out.set 0 (by simp) (iI 0)).set 1 (by simp) (iI (x.version+1))).set 2 (by simp) (.string ⟨#[]⟩);have hbf:=ay (ay (ay (Below.refl w.heap.size w5) (Nat.le_refl _) 0 (iI 0)) (Nat.le_refl _) 1 (iI (x.version+1))) (Nat.le_refl _) 2 (.string ⟨#[]⟩);have wu:aZ 3 jC (((w5.setCell ⟨w.heap.size,0,none⟩ (iI 0)).setCell ⟨w.heap.size,1,none⟩ (iI (x.version+1))).setCell ⟨w.heap.size,2,none⟩ (.string ⟨#[]⟩)) (.slice (some ⟨g,0,none⟩) l.length rc) (L) (fun b=>w.heap.size≤b):=(Re.out.move (S':=fun _=>False) bg (fun g hg=>(aC (by have:=xZ.out g hg;omega)).trans ((aC (by have:=xZ.out g hg;omega)).trans (aC (by have:=xZ.out g hg;omega)))) (fun b hb=>hb.elim)).uj (fun g hg=>by have:=xZ.out g hg;show w.heap.size≤g;omega)
   generalize ((w5.setCell ⟨w.heap.size,0,none⟩ (iI 0)).setCell ⟨w.heap.size,1,none⟩ (iI (x.version+1))).setCell ⟨w.heap.size,2,none⟩ (.string ⟨#[]⟩)=wf at *;obtain ⟨p0,p1,p2⟩:=gV hp.drew;refine bodyPost_ret (v:=.tuple #[.slice (some ⟨g,0,none⟩) l.length rc, .agg #[iI 0, iI (x.version+1), .string ⟨#[]⟩], iI 0]) (by simp [results,Tryz.results109,go_sem,p0,p1,p2]) rfl ?_;rw [HF.out];exact ⟨_,rfl,wu.below bg (by decide) (Below.drew iB),Pe.out.trans (Below.drew hbf)⟩
end Go.Proofs.YtbngpjdflblffaaGreatDoor
