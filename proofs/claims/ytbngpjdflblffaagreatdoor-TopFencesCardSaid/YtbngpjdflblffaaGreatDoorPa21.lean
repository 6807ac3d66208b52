/- A part of the proof, laid together from: CmdD, LogA, CloneStr, LogB, LogD. -/
import Derived.Test.YtbngpjdflblffaaGreatDoorPa20
set_option linter.all false
set_option maxRecDepth 100000
set_option maxHeartbeats 1600000
namespace Go.Tk
open Go Go.RowKit
theorem En {l:pq} (h1:¬ (l.base<0∨1073741424<l.base)) (h2:¬ 400<l.entries.length):iE l=bU (yC l.entries) l.entries.length:=by
 rw [iE,if_neg h1,if_neg h2]
theorem pF (w:World) (cs:List Value) (x:List UInt8) (S S':Nat→Prop) (h:iw w cs x S):iw w cs x S':=h
theorem bZ.sj {E:Nat} {w:World} {v:Value} {l:List (List UInt8)} {S S':Nat→Prop} (h:bZ E 1 iw w v l S) (hS:∀g,v.ownBlock=some g→S' g):aZ 1 iw w v l S' :=
 (h.forget pF).read aK (by decide) hS
theorem aZ.drop {α:Type} {k:Nat} {R:Rel α} {w:World} {b off:Nat} {n cap:Nat} {l:List α} {S:Nat→Prop} (h:aZ k R w (.slice (some ⟨b,off,none⟩) n cap) l S) (i:Nat) (hi:i≤l.length) :
 aZ k R w (.slice (some ⟨b,off+i*k,none⟩) (l.length - i) (cap - i)) (l.drop i) S:=by
 obtain ⟨a',cap',hv,h1,h2,h3,h4⟩:=h;simp only [Value.slice.injEq] at hv;obtain ⟨rfl,rfl,rfl⟩:=hv;refine ⟨_,_,by rw [List.length_drop],by rw [List.length_drop];omega,by omega,(fun h=>by cases h),fun j x hx=>?_⟩;rw [List.getElem?_drop] at hx;obtain ⟨b',off',row,ha,hS,hR,hc⟩:=h4 (i+j) x hx;cases ha;exact ⟨_,_,row,rfl,hS,hR,fun m u hu=>by have:=hc m u hu;rw [←this];congr 2;rw [Nat.add_mul];omega⟩
theorem aZ.empty {α:Type} {k:Nat} {R:Rel α} (w:World) (S:Nat→Prop) {a:Option Addr} {cap:Nat} (hc:cap≤maxLen) (hn:a=none→cap=0):aZ k R w (.slice a 0 cap) [] S :=
 ⟨a,cap,rfl,Nat.zero_le _,hc,hn,fun i x hx=>by simp at hx⟩
def Nj (w:World) (r:pq×Int):Ending→World→Prop:=fun e w'=>∃v',e=.returned (.tuple #[.agg #[iI r.1.base,v'], iI r.2])∧aZ 1 iw w' v' r.1.entries (fun b=>w.heap.size≤b)∧Below w.heap.size w w'
def OQ (w:World) (r:List Bytes×Int):Ending→World→Prop:=fun e w'=>∃v',e=.returned (.tuple #[v', iI r.2])∧aZ 1 iw w' v' r.1 (fun b=>w.heap.size≤b)∧Below w.heap.size w w'
theorem mR {w:World} {B:Nat} {u0 u1 x0 x1:Value} (z0:w.cell? ⟨B,0,none⟩=some x0) (z1:w.cell? ⟨B,1,none⟩=some x1) :
 ((w.setCell ⟨B,0,none⟩ u0).setCell ⟨B,1,none⟩ u1).cell? ⟨B,0,none⟩=some u0∧((w.setCell ⟨B,0,none⟩ u0).setCell ⟨B,1,none⟩ u1).cell? ⟨B,1,none⟩=some u1 ∧
  Below B w ((w.setCell ⟨B,0,none⟩ u0).setCell ⟨B,1,none⟩ u1)∧∀k,k≠B→((w.setCell ⟨B,0,none⟩ u0).setCell ⟨B,1,none⟩ u1).heap[k]?=w.heap[k]? :=
 ⟨(bK (by omega)).trans (World.cell?_setCell_same _ _ _ z0),World.cell?_setCell_same _ _ _ ((bK (by omega)).trans z1),
  ay (ay iB (Nat.le_refl _) 0 _) (Nat.le_refl _) 1 _,fun _ hk=>(aC hk).trans (aC hk)⟩
end Go.Tk
namespace Go.Proofs.YtbngpjdflblffaaGreatDoor
open Go.RowKit Go.Tk
theorem o6 (s:List UInt8) (w:World) (hs:s.length≤1000000) :
 Calls Tryz.prog 32 #[iS s] w fun e w'=>e=.returned (.tuple #[dR (bM s).1, iI (bM s).2])∧Below w.heap.size w w':=by
 by_cases h5:5000<s.length
 ·have HV:=iH (show bM s=(bL,1) by rw [bM,if_pos h5])
  go_enter Tryz.func32,Tryz.ntmps32
  go_wp2;refine bodyPost_ret (v:=.tuple #[dR bL, iI 1]) (by simp [results,Tryz.results32,go_sem,dR,bL,bP]) rfl ⟨by rw [HV.out],?_⟩
  repeat (first | with_reducible exact aj w _ | with_reducible refine ay ?_ (Nat.le_refl _) _ _)
 match s,hs,h5 with
 | [],_,_ =>
   have HV:=iH (show bM []=(bL,5) from rfl)
   go_enter Tryz.func32,Tryz.ntmps32
   go_wp2;refine bodyPost_ret (v:=.tuple #[dR bL, iI 5]) (by simp [results,Tryz.results32,go_sem,dR,bL,bP]) rfl ⟨by rw [HV.out],?_⟩
   repeat (first | with_reducible exact aj w _ | with_reducible refine ay ?_ (Nat.le_refl _) _ _)
 | [a],_,_ =>
   have HV:=iH (show bM [a]=(bL,5) from rfl)
   go_enter Tryz.func32,Tryz.ntmps32
   go_wp2;refine bodyPost_ret (v:=.tuple #[dR bL, iI 5]) (by simp [results,Tryz.results32,go_sem,dR,bL,bP]) rfl ⟨by rw [HV.out],?_⟩
   repeat (first | with_reducible exact aj w _ | with_reducible refine ay ?_ (Nat.le_refl _) _ _)
 | a::b::r,hs,h5 =>
   have hl:r.length+2≤5000:=by simp at h5;omega
   have hx2:(a=2)↔(a.toNat:Int)=2:=⟨fun e=>by rw [e];rfl,fun e=>UInt8.toNat_inj.1 (by have e2:(2:UInt8).toNat=2:=rfl;omega)⟩;have HV:Hid (bM (a::b::r)=if (a.toNat:Int)=2 then (if (iM ⟨(a.toNat:Int),(b.toNat:Int),0,0,0,bP⟩ r).2.2≠0 then (bL,(iM ⟨(a.toNat:Int),(b.toNat:Int),0,0,0,bP⟩ r).2.2)
    else nC (iM ⟨(a.toNat:Int),(b.toNat:Int),0,0,0,bP⟩ r).1 (iM ⟨(a.toNat:Int),(b.toNat:Int),0,0,0,bP⟩ r).2.1) else nC ⟨(a.toNat:Int),(b.toNat:Int),0,0,0,bP⟩ r):=by
    show _=_
    rw [bM,if_neg (by simp;omega),if_neg (by simp)];simp only [List.getD_cons_zero,List.getD_cons_succ,List.drop_succ_cons,List.drop_zero,hx2]
   clear h5 hs hx2;have i0:∀wx:World,(Instr.index 9 (.string ⟨(a::b::r).toArray⟩) (iI 0)).run Tryz.prog wx=.ok (.int .u8 a.toNat) wx:=fun wx=>by
    rw [run_index_string wx _ _ _ _ Tryz.underlying9,dif_pos ⟨by decide,by simp [ByteArray.size];omega⟩];rfl
   have i1:∀wx:World,(Instr.index 9 (.string ⟨(a::b::r).toArray⟩) (iI 1)).run Tryz.prog wx=.ok (.int .u8 b.toNat) wx:=fun wx=>by
    rw [run_index_string wx _ _ _ _ Tryz.underlying9,dif_pos ⟨by decide,by simp [ByteArray.size];omega⟩];rfl
   have hdr:List.drop 2 (a::b::r)=r:=rfl;have hgt:¬ 5000<(a::b::r).length:=by simp;omega
   have hge:¬ (a::b::r).length<2:=by simp
   have ha:=a.toNat_lt;have hb:=b.toNat_lt;obtain ⟨x,hx,hx0,hx1⟩:∃x:Int,(a.toNat:Int)=x∧0≤x∧x≤255:=⟨_,rfl,by omega,by omega⟩;obtain ⟨y,hy,hy0,hy1⟩:∃x:Int,(b.toNat:Int)=x∧0≤x∧x≤255:=⟨_,rfl,by omega,by omega⟩;rw [hx,hy] at HV;rw [hx] at i0;rw [hy] at i1;clear hx hy ha hb;generalize a::b::r=s at *
   go_enter Tryz.func32,Tryz.ntmps32
   go_wp2;go_region;refine eZ (fun wx=>mK wx w.heap.size bL∧mK wx (w.heap.size+1) ⟨x,y,0,0,0,bP⟩∧Below w.heap.size w wx∧w.heap.size+1<wx.heap.size) ?_ ?_
   ·obtain ⟨g1,g2,g3,g4,g5⟩:=ic (Below.drew (Below.refl (w.heap.size+2) ((w.alloc (.cells (jR bL).toArray 84)).alloc (.cells (jR ⟨x,y,0,0,0,bP⟩).toArray 84))))
    exact ⟨mK.of rfl g1 g2,mK.of rfl g3 g4,Below.drew (below_alloc2 w _ _),g5⟩
   rintro wx ⟨hR,hC,hbw,hsz⟩;clear i0 i1;have hbs:=hbw.size
   by_cases h2:x=2
   case' pos =>
    subst h2;have wO:=iH (HV.out.trans (if_pos rfl));have HR:=iH hR;have HB:=iH hbw;have HC:=iH (IQ ⟨2,y,0,0,0,bP⟩ r (w.heap.size+1) wx hC (by omega));have k0:wx.cell? ⟨w.heap.size+1,0,none⟩=some (iI 2):=hC.1 0 _ rfl;clear HV hC hR hbw
    go_wp2_with fail
    refine HC.out.mono ?_;rintro e w2 ⟨rfl,hg,c1,hc',hce⟩;have hR:=HR.out.keep (hg.block _ (by omega) (by simp));have hbw:=HB.out.grown hg (by omega) (fun k hk=>by cases hk;omega);have hsz2:w.heap.size+1<w2.heap.size:=by have:=hg.size;omega
    clear HC hg HR HB k0 hsz hbs;generalize iM ⟨2,y,0,0,0,bP⟩ r=res at hce wO⊢;obtain ⟨c2,t,e0⟩:=res;simp only at hce wO
    by_cases he:e0=0
    case neg =>
     have hF:=iH (wO.out.trans (if_pos he));have QG:(e0 != 0)=true:=by simpa using he
     clear wO he hce hc';obtain ⟨u6,uZ⟩:=hR;have y0:w2.cell? ⟨w.heap.size,0,none⟩=some (iI 0):=u6 0 _ rfl;have y1:w2.cell? ⟨w.heap.size,1,none⟩=some (iI 0):=u6 1 _ rfl;have y2:w2.cell? ⟨w.heap.size,2,none⟩=some (iI 0):=u6 2 _ rfl;have y3:w2.cell? ⟨w.heap.size,3,none⟩=some (iI 0):=u6 3 _ rfl;have y4:w2.cell? ⟨w.heap.size,4,none⟩=some (iI 0):=u6 4 _ rfl;have y5:w2.cell? ⟨w.heap.size,5,none⟩=some (iI 0):=u6 5 _ rfl;have y6:w2.cell? ⟨w.heap.size,6,none⟩=some (.string ⟨#[]⟩):=u6 6 _ rfl;have y7:w2.cell? ⟨w.heap.size,7,none⟩=some (.string ⟨#[]⟩):=u6 7 _ rfl;have y8:w2.cell? ⟨w.heap.size,8,none⟩=some (iI 0):=u6 8 _ rfl;have f0:=uZ 0;have f1:=uZ 1;have f2:=uZ 2;have f3:=uZ 3;have f4:=uZ 4;have f5:=uZ 5;have f6:=uZ 6;have f7:=uZ 7;have f8:=uZ 8;clear u6 uZ;go_wp2;refine bodyPost_ret (v:=.tuple #[dR bL, iI e0]) (by simp [results,Tryz.results32,go_sem,dR,bL,bP,y0,y1,y2,y3,y4,y5,y6,y7,y8]) rfl ⟨by rw [hF.out],?_⟩
     repeat (first | with_reducible exact hbw | with_reducible refine ay ?_ (Nat.le_refl _) _ _)
    subst he;obtain rfl:=hce rfl;have HW:=iH (wO.out.trans (if_neg (by simp)));clear wO hce;have hC:=hc';clear hc';have hsz:=hsz2;clear hsz2;clear hl hgt hge
    rename World=>wx
   case' neg =>
    obtain ⟨c1,hc1⟩:∃c1:aQ,c1=⟨x,y,0,0,0,bP⟩:=⟨_,rfl⟩;have U4:(c1.kind == 2)=false:=by rw [hc1];simpa using h2
    have HW:=iH (HV.out.trans (if_neg h2));rw [←hc1] at HW hC;obtain ⟨t,ht⟩:∃t,t=r:=⟨_,rfl⟩;subst ht;clear HV h2 hbs hl hgt hge hc1
   all_goals
    have hbs:=hbw.size;obtain ⟨u6,uZ⟩:=hR;obtain ⟨Co,-⟩:=hC;have y0:wx.cell? ⟨w.heap.size,0,none⟩=some (iI 0):=u6 0 _ rfl;have y1:wx.cell? ⟨w.heap.size,1,none⟩=some (iI 0):=u6 1 _ rfl;have y2:wx.cell? ⟨w.heap.size,2,none⟩=some (iI 0):=u6 2 _ rfl;have y3:wx.cell? ⟨w.heap.size,3,none⟩=some (iI 0):=u6 3 _ rfl;have y4:wx.cell? ⟨w.heap.size,4,none⟩=some (iI 0):=u6 4 _ rfl;have y5:wx.cell? ⟨w.heap.size,5,none⟩=some (iI 0):=u6 5 _ rfl;have y6:wx.cell? ⟨w.heap.size,6,none⟩=some (.string ⟨#[]⟩):=u6 6 _ rfl;have y7:wx.cell? ⟨w.heap.size,7,none⟩=some (.string ⟨#[]⟩):=u6 7 _ rfl;have y8:wx.cell? ⟨w.heap.size,8,none⟩=some (iI 0):=u6 8 _ rfl;have x0:wx.cell? ⟨w.heap.size+1,0,none⟩=some (iI c1.kind):=Co 0 _ rfl;have x1:wx.cell? ⟨w.heap.size+1,1,none⟩=some (iI c1.client):=Co 1 _ rfl;have x2:wx.cell? ⟨w.heap.size+1,2,none⟩=some (iI c1.session):=Co 2 _ rfl;have x3:wx.cell? ⟨w.heap.size+1,3,none⟩=some (iI c1.seq):=Co 3 _ rfl;have x4:wx.cell? ⟨w.heap.size+1,4,none⟩=some (iI c1.aH):=Co 4 _ rfl;have x5:wx.cell? ⟨w.heap.size+1,5,none⟩=some (iI c1.op.kind):=Co 5 _ rfl;have x6:wx.cell? ⟨w.heap.size+1,6,none⟩=some (iS c1.op.a):=Co 6 _ rfl;have x7:wx.cell? ⟨w.heap.size+1,7,none⟩=some (iS c1.op.b):=Co 7 _ rfl;have x8:wx.cell? ⟨w.heap.size+1,8,none⟩=some (iI c1.op.n):=Co 8 _ rfl
    have f0:=uZ 0;have f1:=uZ 1;have f2:=uZ 2;have f3:=uZ 3;have f4:=uZ 4;have f5:=uZ 5;have f6:=uZ 6;have f7:=uZ 7;have f8:=uZ 8;have O0:=iH u6;have Nv:=iH uZ;have PT:=iH Co;clear u6 uZ Co;cases t with
    | cons d q =>
      have HF:=iH (HW.out.trans (show _=(bL,(4:Int)) from if_pos (by simp)));go_wp2;refine bodyPost_ret (v:=.tuple #[dR bL, iI 4]) (by simp [results,Tryz.results32,go_sem,dR,bL,bP,y0,y1,y2,y3,y4,y5,y6,y7,y8]) rfl ⟨by rw [HF.out],?_⟩
      repeat (first | with_reducible exact hbw | with_reducible refine ay ?_ (Nat.le_refl _) _ _)
    | nil =>
      have HW2:=iH (HW.out.trans (show _=(if dx c1≠0 then (bL,dx c1) else (c1,(0:Int))) from if_neg (by simp)));clear HW;have HB:=iH hbw;clear hbw
      go_wp2_with fail
      refine (ql c1 _).mono ?_;rintro e w3 ⟨rfl,hb3⟩;have rP:=ah HB.out hb3;have Co:∀(j:Nat) (u:Value),(jR c1)[j]?=some u→w3.cell? ⟨w.heap.size+1,j,none⟩=some u:=fun j u hu=>aB (PT.out j u hu) (hb3.block _ hsz)
      have u6:∀(j:Nat) (u:Value),(jR bL)[j]?=some u→w3.cell? ⟨w.heap.size,j,none⟩=some u:=fun j u hu=>aB (O0.out j u hu) (hb3.block _ (by show w.heap.size<_;omega))
      have uZ:∀j,w3.frozen? ⟨w.heap.size,j,none⟩=false:=fun j=>(World.frozen?_of_block (a:=⟨w.heap.size,j,none⟩) (hb3.block _ (by show w.heap.size<_;omega))).trans (Nv.out j)
      clear y0 y1 y2 y3 y4 y5 y6 y7 y8 x0 x1 x2 x3 x4 x5 x6 x7 x8 f0 f1 f2 f3 f4 f5 f6 f7 f8 hb3;have y0:w3.cell? ⟨w.heap.size,0,none⟩=some (iI 0):=u6 0 _ rfl;have y1:w3.cell? ⟨w.heap.size,1,none⟩=some (iI 0):=u6 1 _ rfl;have y2:w3.cell? ⟨w.heap.size,2,none⟩=some (iI 0):=u6 2 _ rfl;have y3:w3.cell? ⟨w.heap.size,3,none⟩=some (iI 0):=u6 3 _ rfl;have y4:w3.cell? ⟨w.heap.size,4,none⟩=some (iI 0):=u6 4 _ rfl;have y5:w3.cell? ⟨w.heap.size,5,none⟩=some (iI 0):=u6 5 _ rfl;have y6:w3.cell? ⟨w.heap.size,6,none⟩=some (.string ⟨#[]⟩):=u6 6 _ rfl;have y7:w3.cell? ⟨w.heap.size,7,none⟩=some (.string ⟨#[]⟩):=u6 7 _ rfl;have y8:w3.cell? ⟨w.heap.size,8,none⟩=some (iI 0):=u6 8 _ rfl;have x0:w3.cell? ⟨w.heap.size+1,0,none⟩=some (iI c1.kind):=Co 0 _ rfl;have x1:w3.cell? ⟨w.heap.size+1,1,none⟩=some (iI c1.client):=Co 1 _ rfl;have x2:w3.cell? ⟨w.heap.size+1,2,none⟩=some (iI c1.session):=Co 2 _ rfl;have x3:w3.cell? ⟨w.heap.size+1,3,none⟩=some (iI c1.seq):=Co 3 _ rfl;have x4:w3.cell? ⟨w.heap.size+1,4,none⟩=some (iI c1.aH):=Co 4 _ rfl;have x5:w3.cell? ⟨w.heap.size+1,5,none⟩=some (iI c1.op.kind):=Co 5 _ rfl;have x6:w3.cell? ⟨w.heap.size+1,6,none⟩=some (iS c1.op.a):=Co 6 _ rfl;have x7:w3.cell? ⟨w.heap.size+1,7,none⟩=some (iS c1.op.b):=Co 7 _ rfl;have x8:w3.cell? ⟨w.heap.size+1,8,none⟩=some (iI c1.op.n):=Co 8 _ rfl
      have f0:=uZ 0;have f1:=uZ 1;have f2:=uZ 2;have f3:=uZ 3;have f4:=uZ 4;have f5:=uZ 5;have f6:=uZ 6;have f7:=uZ 7;have f8:=uZ 8;clear u6 uZ Co
      by_cases he:dx c1=0
      ·have QG:(dx c1 != 0)=false:=by simpa using he
       have HF:=iH (HW2.out.trans (if_neg (by simp [he])));clear HW2 he;go_wp2;refine bodyPost_ret (v:=.tuple #[dR c1, iI 0]) (by simp [results,Tryz.results32,go_sem,dR,y0,y1,y2,y3,y4,y5,y6,y7,y8]) rfl ⟨by rw [HF.out],?_⟩
       repeat (first | with_reducible exact rP | with_reducible refine ay ?_ (Nat.le_refl _) _ _)
      ·have QG:(dx c1 != 0)=true:=by simpa using he
       have HF:=iH (HW2.out.trans (if_pos he));clear HW2 he;go_wp2;refine bodyPost_ret (v:=.tuple #[dR bL, iI (dx c1)]) (by simp [results,Tryz.results32,go_sem,dR,bL,bP,y0,y1,y2,y3,y4,y5,y6,y7,y8]) rfl ⟨by rw [HF.out],?_⟩
       repeat (first | with_reducible exact rP | with_reducible refine ay ?_ (Nat.le_refl _) _ _)
theorem ni (l:pq) (v:Value) (S:Nat→Prop) (w:World) (h:aZ 1 iw w v l.entries S) (hs:∀s∈l.entries,s.length≤1000000) :
 Calls Tryz.prog 53 #[.agg #[iI l.base,v]] w fun e w'=>e=.returned (iI (iE l))∧Below w.heap.size w w':=by
 obtain ⟨a,cap,hv,hl,hm,-,-⟩:=id h;subst hv;unfold maxLen at hm;have HS:=iH h;have HL:=iH hs;clear h hs
 by_cases h1:l.base<0∨1073741424<l.base
 ·have HV:=iH (show iE l=2 by rw [iE,if_pos h1])
  rcases (show l.base<0∨(0≤l.base∧1073741424<l.base) by omega) with h1 | h1
  all_goals
   go_enter Tryz.func53,Tryz.ntmps53
   go_wp2;go_ret;exact ⟨by rw [HV.out];rfl,aj w _⟩
 by_cases h2:400<l.entries.length
 ·have HV:=iH (show iE l=1 by rw [iE,if_neg h1,if_pos h2])
  have h10:0≤l.base∧l.base≤1073741424:=by omega
  clear h1
  go_enter Tryz.func53,Tryz.ntmps53
  go_wp2;go_ret;exact ⟨by rw [HV.out];rfl,aj w _⟩
 have HV:=iH (En h1 h2);have h10:0≤l.base∧l.base≤1073741424:=by omega
 clear h1
 go_enter Tryz.func53,Tryz.ntmps53
 go_wp2
 go_loopw [4,5,6,22] (fun _ _ _ i wr=>∃n:Nat,n≤l.entries.length∧i=iI n∧Hid (bU (yC l.entries) n=0)∧Hid (Below w.heap.size w wr))
  (fun _ _ _ i _=>l.entries.length - (intOf i).toNat)
 case atStart=>exact ⟨0,by omega,rfl,rfl,aj w _⟩
 case round =>
  obtain ⟨n,hn,rfl,hf,hb⟩:=hrel
  by_cases hlt:n<l.entries.length
  case neg =>
   have HF:=iH (show iE l=0 by rw [HV.out,←hf.out];congr 1;omega);go_wp2;go_ret;exact ⟨by rw [HF.out];rfl,hb.out⟩
  obtain ⟨b,off,cap',row,hv,hSb,hrow,hcells⟩:=(HS.out.below aK (by decide) hb.out).row n hlt;simp only [Value.slice.injEq] at hv;obtain ⟨rfl,_,rfl⟩:=hv;obtain rfl:=hrow;have q0:=hcells 0 _ rfl;simp only [Nat.add_zero,Nat.mul_one] at q0;clear hcells;have hsz:=HL.out l.entries[n] (List.getElem_mem hlt);have hle:yC l.entries n=dI l.entries[n]:=by rw [yC];congr 1;simp [List.getD,hlt]
  have HB:Hid (dI l.entries[n]≠0→iE l=dI l.entries[n]):=fun hbad=>by
   rw [HV.out,←hle];exact kS hf.out (by rw [hle];exact hbad) _ hlt
  have HG:Hid (dI l.entries[n]=0→bU (yC l.entries) (n+1)=0):=fun hok=>kF hf.out (by rw [hle];exact hok)
  clear hle hf;generalize l.entries[n]=s at *
  go_wp2_with fail
  refine (o6 s _ hsz).mono ?_;rintro e w2 ⟨rfl,hb2⟩;have HB2:=iH (ah hb.out hb2);rw [dI] at HB HG;generalize bM s=d at *;obtain ⟨d,e⟩:=d;rw [dR]
  by_cases he:e=0
  ·subst he
   have HG2:=iH (HG.out rfl);go_wp2
   go_roundw
   case rel=>exact ⟨n+1,by omega,by go_num,HG2,iH (ah HB2.out (aj w2 _))⟩
   case measure=>simp [intOf];omega
  ·have HG2:=iH (HB.out he)
   have QG:(e != 0)=true:=by simpa using he
   go_wp2;go_ret;exact ⟨by rw [HG2.out];rfl,ah HB2.out (aj w2 _)⟩
theorem gF (l:pq) (v:Value) (S:Nat→Prop) (w:World) (h:aZ 1 iw w v l.entries S) (hb:0≤l.base∧l.base≤1000000000000) (hn:l.entries.length≤1000000) :
 Calls Tryz.prog 49 #[.agg #[iI l.base,v]] w fun e w'=>e=.returned (iI (dH l))∧Below w.heap.size w w':=by
 obtain ⟨a,cap,hv,hl,hm,-,-⟩:=id h;subst hv;unfold maxLen at hm;clear h
 go_enter Tryz.func49,Tryz.ntmps49
 go_wp2;go_ret;exact ⟨rfl,aj w _⟩
theorem Tryz.P8:dM Tryz.prog 30 9 1 16:=⟨Tryz.underlying30,by kernel_rfl,by decide⟩
theorem jS {α:Type} {R:Rel α} (hR:cu R 1) (w:World) (v:Value) (l:List α) (S:Nat→Prop) (h:aZ 1 R w v l S) (hn:l.length≤1000000) :
 Calls Tryz.prog 85 #[v] w fun e w'=>∃v',e=.returned v'∧bZ 9 1 R w' v' l S∧Below w.heap.size w w'∧(∀g,v'.ownBlock=some g→w.heap.size≤g):=by
 obtain ⟨a,cap,hv,hl,hm,hnil,hr⟩:=id h;subst hv;have hm':=hm;unfold maxLen at hm';cases a with
 | none =>
   have h0:=hnil rfl;subst h0;have hl0:l=[]:=List.eq_nil_of_length_eq_zero (by omega);subst hl0;have he:=Lib.run_eql_slice_nil (P:=Tryz.prog) (t:=30)
   go_enter Tryz.func85,Tryz.ntmps85
   go_wp2;go_ret;exact ⟨_,rfl,bZ.nil w S,iB,by simp [Value.ownBlock]⟩
 | some a =>
   obtain ⟨a',cap',rows,hv,-,-,hrl,hrel,hcells⟩:=h.rows hR (by decide);simp only [Value.slice.injEq] at hv;obtain ⟨rfl,-,rfl⟩:=hv;have hlen:=bZ.jq (E:=9) (v:=.slice (some a) l.length cap) hR hrl hrel;have hone:=bZ.qm (E:=9) hR hrl hrel;have hfl:rows.flatten.length=l.length*1:=by
    have:∀(rs:List (List Value)),(∀r∈rs,r.length=1)→rs.flatten.length=rs.length*1:=by
     intro rs
     induction rs with
     | nil=>intro _;rfl
     | cons r rs ih=>intro hk;rw [List.flatten_cons,List.length_append,hk r (by simp),ih (fun r hr=>hk r (by simp [hr]))];simp;omega
    rw [this rows hlen,hrl]
   have hown0:(w.alloc (.cells #[] 9)).ownsRow 0 9 1 (.slice (some ⟨w.heap.size,0,none⟩) 0 0) 0 [] :=
    ⟨rfl, .inr ⟨w.heap.size,0,#[],rfl,Nat.zero_le _,heap_alloc_new w _,Nat.le_refl _,by decide,rfl,rfl⟩⟩
   obtain ⟨v',w',hrun,g1,g2,g3⟩:=gD (P:=Tryz.prog) (ty:=30) (w.alloc (.cells #[] 9)) Tryz.P8 _ 0 [] hown0 a l.length cap rows.flatten hfl (fun j u hu=>by
    obtain ⟨b,off,ha,_,hc⟩:=hcells j u hu;simp only [Option.some.injEq] at ha;subst ha;have hlt:=World.block_lt_of_cell? w _ hc;rw [Addr.add_lit,World.cell?_alloc_past _ _ _ hlt];exact hc) hone (by omega)
   have hvb:∀g,v'.ownBlock=some g→w.heap.size≤g:=by
    intro g hg
    rcases g3 with e | ⟨g',e,h⟩
    ·rw [e] at hg;cases hg;exact Nat.le_refl _
    ·rw [e] at hg;cases hg;simp at h;omega
   have hb:Below w.heap.size w w':=(iB.alloc (Nat.le_refl _) _).grown g2 (by simp) (fun k hk=>by cases hk;exact Nat.le_refl _);have hfin:bZ 9 1 R w' v' l S:=by
    refine ⟨rows,hrl,by simpa using g1,fun i r x hr hx=>hR.move (hrel i r x hr hx) fun b hs hlt=>⟨hb.block b hlt,hs,?_⟩⟩;intro hbg;have:=hvb b hbg.symm;omega
   have HF:=iH hfin;have HV:=iH hvb;have he:=Lib.run_eql_slice_nil (P:=Tryz.prog) (t:=30);clear hfin hvb g1 g2 g3 hcells hrel hlen hone hfl hown0 hr h hrl
   go_enter Tryz.func85,Tryz.ntmps85
   go_wp2_with (at_builtin;refine wpList_append_run rfl _ _ _ _ rfl _ _ rfl rfl hrun ?_)
   go_ret;exact ⟨v',rfl,HF.out,hb,HV.out⟩
theorem vO (l:pq) (v:Value) (S:Nat→Prop) (w:World) (h:aZ 1 iw w v l.entries S) (hlen:l.entries.length≤1000000) :
 Calls Tryz.prog 84 #[.agg #[iI l.base,v]] w fun e w'=>∃v',e=.returned (.agg #[iI l.base,v'])∧bZ 9 1 iw w' v' l.entries (fun _=>False)∧(∀g,v'.ownBlock=some g→w.heap.size≤g)∧Below w.heap.size w w':=by
 have hone:=h.oneCell;obtain ⟨a,cap,hv,hl,hm,-,-⟩:=id h;subst hv;have HS:=iH h;clear h
 go_enter Tryz.func84,Tryz.ntmps84
 go_upto_region 1 with (fail);refine bH 5 (fun wx=>Below (w.heap.size+2) ((w.alloc (.cells #[iI l.base, .slice a l.entries.length cap] 43)).alloc (.cells #[iI 0, iN] 43)) wx) (fun wx wy=>Below wx.heap.size wx wy) [aW (iP (w.heap.size) 0),aW (iI l.base),aW (iP (w.heap.size) 1),aW (.slice a l.entries.length cap),fun v wx=>bZ 9 1 iw wx v l.entries (fun _=>False)∧∀g,v.ownBlock=some g→w.heap.size+2≤g] (by kernel_rfl) (by kernel_rfl) rfl ?hJ ?jP ?hst ?ek ?hend
 case hJ=>exact Below.drew iB
 case jP =>
  exact fun wx wy h1 h2=>h1.trans (h2.mono (by have:=h1.size;rw [fq] at this;omega))
 case hst=>exact bX _ ⟨ax _,ax _,ax _,ax _,(by rintro v wx wy - h2 ⟨h3,h4⟩;exact ⟨h3.below aK h2,h4⟩),trivial⟩
 case ek =>
  simp only [dY,aJ,Act.put,Nat.reduceAdd,Nat.zero_add,pS];refine ⟨?_,?_,?_,?_,?_,trivial⟩
  all_goals
   intro vs wx hJ hn K hK;simp [dA,mJ,aW,Region.binds] at hn;simp only [mJ,aW,Act.put,Nat.reduceAdd,Nat.zero_add,pS] at hK
  ·go_wp2
   exact hK _ _ iB rfl
  ·simp only [hn] at hK⊢
   obtain ⟨hz,-,-,-,-⟩:=ic hJ;have z0:=hz 0;clear hz;go_wp2;exact hK _ _ iB rfl
  ·go_wp2
   exact hK _ _ iB rfl
  ·simp only [hn] at hK⊢
   obtain ⟨hz,-,-,-,-⟩:=ic hJ;have z1:=hz 1;clear hz;go_wp2;exact hK _ _ iB rfl
  ·simp only [hn] at hK⊢
   have OW:=HS.out.below aK (by decide) ((below_alloc2 w _ _).trans (hJ.mono (by omega)))
   go_wp2_with fail
   refine (jS aK wx _ l.entries _ OW hlen).mono ?_;rintro e w2 ⟨v2,rfl,ho2,hb2,hg2⟩;have kL:=ho2.oneCell;go_wp2;exact hK _ _ hb2 ⟨ho2.forget pF,fun g hg=>Nat.le_trans (by have:=hJ.size;rw [fq] at this;exact this) (hg2 g hg)⟩
 case hend =>
  intro vs wx hJ hv;simp [eF,aW] at hv;obtain ⟨e0,e1,e2,e3,h4⟩:=hv;simp only [aJ,Act.put,Nat.reduceAdd,Nat.zero_add,pS];rw [e0,e1,e2,e3];clear e0 e1 e2 e3;obtain ⟨kY,hg4⟩:=h4;generalize vs 4=v4 at *;obtain ⟨ra,rc,rfl⟩:=kY.shape;obtain ⟨-,-,hz,hf,hs⟩:=ic hJ;have z0:=hz 0;have z1:=hz 1;have f0:=hf 0;have f1:=hf 1;clear hz hf;go_wp2;have hb2:Below (w.heap.size+1) wx ((wx.setCell ⟨w.heap.size+1,0,none⟩ (iI l.base)).setCell ⟨w.heap.size+1,1,none⟩ (.slice ra l.entries.length rc)):=ay (ay iB (Nat.le_refl _) 0 _) (Nat.le_refl _) 1 _;obtain ⟨wf,hwf⟩:∃wf,(wx.setCell ⟨w.heap.size+1,0,none⟩ (iI l.base)).setCell ⟨w.heap.size+1,1,none⟩ (.slice ra l.entries.length rc)=wf:=⟨_,rfl⟩;have p0:wf.cell? ⟨w.heap.size+1,0,none⟩=some (iI l.base):=by rw [←hwf];exact (bK (by omega)).trans (World.cell?_setCell_same _ _ _ z0)
  have p1:wf.cell? ⟨w.heap.size+1,1,none⟩=some (.slice ra l.entries.length rc):=by rw [←hwf];exact World.cell?_setCell_same _ _ _ ((bK (by omega)).trans z1)
  have vQ:bZ 9 1 iw wf (.slice ra l.entries.length rc) l.entries (fun _=>False):=by rw [←hwf];exact kY.move aK (fun g hg=>(aC (by have:=hg4 g hg;omega)).trans (aC (by have:=hg4 g hg;omega))) (fun b hb=>hb.elim)
  rw [hwf] at hb2⊢;refine bodyPost_ret (v:=.agg #[iI l.base, .slice ra l.entries.length rc]) (by simp [results,Tryz.results84,go_sem,p0,p1]) rfl ⟨_,rfl,vQ,fun g hg=>Nat.le_trans (by omega) (hg4 g hg),?_⟩;exact ((below_alloc2 w _ _).trans (hJ.mono (by omega))).trans (hb2.mono (by omega))
theorem xB (l:pq) (v:Value) (S:Nat→Prop) (w:World) (h:aZ 1 iw w v l.entries S) (hok:uO l) (hs:∀s∈l.entries,s.length≤1000000) (x:Int) (hx:-9223372036854775808≤x∧x≤9223372036854775807) :
 Calls Tryz.prog 51 #[.agg #[iI l.base,v], iI x] w (Nj w (p8 l x)):=by
 have HC:=iH (jX.2 hok);obtain ⟨hb0,hb1⟩:=hok.base;have hlen:=hok.len;obtain ⟨hx0,hx1⟩:=hx;have HV:=iH (show p8 l x=if x<l.base∨dH l<x then (ku,2) else if 1073741424<x then (ku,8) else (⟨x,l.entries.drop (x - l.base).toNat⟩,0) by rw [p8,if_neg (by rw [HC.out];simp)]);obtain ⟨la,hla⟩:∃la,dH l=la:=⟨_,rfl⟩;have hlv:la=l.base+l.entries.length:=hla.symm;have Un:=iH hla;rw [hla] at HV;clear hla hok;obtain ⟨a,cap,hv,hl,hm,hnl,-⟩:=id h;subst hv;unfold maxLen at hm;have HS:=iH h;have HZ:=iH hs;clear h hs
 go_enter Tryz.func51,Tryz.ntmps51
 go_wp2_with fail
 refine (ni l _ S _ (HS.out.below aK (by decide) (below_alloc2 w _ _)) HZ.out).mono ?_;rw [HC.out];rintro e w1 ⟨rfl,hb⟩;rw [fq] at hb;obtain ⟨hz,-,hr,hrf,hzs⟩:=ic hb;have z0:=hz 0;have z1:=hz 1;have r0:=hr 0;have r1:=hr 1;have f0:=hrf 0;have f1:=hrf 1;have GU:=iH hb;clear hz hr hrf hb
 by_cases h1:x<l.base
 ·have HF:=iH (show p8 l x=(ku,2) by rw [HV.out,if_pos (.inl h1)])
  go_wp2;obtain ⟨p0,p1,gQ,-⟩:=mR (B:=w.heap.size+1) (u0:=iI 0) (u1:=iN) r0 r1;generalize (w1.setCell ⟨w.heap.size+1,0,none⟩ (iI 0)).setCell ⟨w.heap.size+1,1,none⟩ (iN)=wf at *;refine bodyPost_ret (v:=.tuple #[.agg #[iI 0, iN], iI 2]) (by simp [results,Tryz.results51,go_sem,p0,p1]) rfl ?_;rw [HF.out];exact ⟨_,rfl,aZ.nil _ _,((below_alloc2 w _ _).trans (GU.out.mono (by omega))).trans (gQ.mono (by omega))⟩
 go_wp2_with fail
 refine (gF l _ S _ (HS.out.below aK (by decide) ((below_alloc2 w _ _).trans (GU.out.mono (by omega)))) (by omega) (by omega)).mono ?_;rw [Un.out];rintro e w2 ⟨rfl,hb2⟩;have vD:=iH (GU.out.trans (hb2.mono (by omega)));clear z0 z1 r0 r1 f0 f1 hb2;obtain ⟨hz,-,hr,hrf,Qn⟩:=ic vD.out;have z0:=hz 0;have z1:=hz 1;have r0:=hr 0;have r1:=hr 1;have f0:=hrf 0;have f1:=hrf 1;clear hz hr hrf
 by_cases h2:la<x
 ·have HF:=iH (show p8 l x=(ku,2) by rw [HV.out,if_pos (.inr h2)])
  go_wp2;obtain ⟨p0,p1,gQ,-⟩:=mR (B:=w.heap.size+1) (u0:=iI 0) (u1:=iN) r0 r1;generalize (w2.setCell ⟨w.heap.size+1,0,none⟩ (iI 0)).setCell ⟨w.heap.size+1,1,none⟩ (iN)=wf at *;refine bodyPost_ret (v:=.tuple #[.agg #[iI 0, iN], iI 2]) (by simp [results,Tryz.results51,go_sem,p0,p1]) rfl ?_;rw [HF.out];exact ⟨_,rfl,aZ.nil _ _,((below_alloc2 w _ _).trans (vD.out.mono (by omega))).trans (gQ.mono (by omega))⟩
 by_cases h3:1073741424<x
 ·have HF:=iH (show p8 l x=(ku,8) by rw [HV.out,if_neg (by omega),if_pos h3])
  go_wp2;obtain ⟨p0,p1,gQ,-⟩:=mR (B:=w.heap.size+1) (u0:=iI 0) (u1:=iN) r0 r1;generalize (w2.setCell ⟨w.heap.size+1,0,none⟩ (iI 0)).setCell ⟨w.heap.size+1,1,none⟩ (iN)=wf at *;refine bodyPost_ret (v:=.tuple #[.agg #[iI 0, iN], iI 8]) (by simp [results,Tryz.results51,go_sem,p0,p1]) rfl ?_;rw [HF.out];exact ⟨_,rfl,aZ.nil _ _,((below_alloc2 w _ _).trans (vD.out.mono (by omega))).trans (gQ.mono (by omega))⟩
 obtain ⟨i,hxi⟩:∃i:Nat,x - l.base=i:=⟨(x - l.base).toNat,by omega⟩;have hi:i≤l.entries.length:=by omega
 have HF:=iH (show p8 l x=(⟨x,l.entries.drop i⟩,0) by rw [HV.out,if_neg (by omega),if_neg h3,hxi,Int.toNat_natCast]);have e1:IntKind.i64.wrap (x - l.base)=(i:Int):=(IntWalk.i64_in _ (by omega)).trans hxi
 by_cases hl0:l.entries.length=0
 ·have HE:=iH (List.eq_nil_of_length_eq_zero hl0)
  obtain rfl:i=0:=by omega
  rw [hl0]
  go_wp2_with fail
  obtain ⟨d,hd⟩:∃d:List Bytes,l.entries.drop 0=d:=⟨_,rfl⟩;have hd0:d=[]:=by rw [←hd,HE.out];rfl
  rw [hd] at HF;refine (jS aK w2 (.slice a 0 cap) d S (by rw [hd0];exact aZ.empty _ _ (by unfold maxLen;omega) hnl) (by rw [hd0];decide)).mono ?_;clear hd hd0;rintro e w3 ⟨v3,rfl,ho3,hb3,hg3⟩;obtain ⟨ra,rc,rfl⟩:=ho3.shape;have HB3:=iH (vD.out.trans (hb3.mono (by omega)));clear z0 z1 r0 r1 f0 f1;obtain ⟨hz,-,hr,hrf,Et⟩:=ic HB3.out;have r0:=hr 0;have r1:=hr 1;have f0:=hrf 0;have f1:=hrf 1;clear hz hr hrf;go_wp2;obtain ⟨p0,p1,gQ,QA⟩:=mR (B:=w.heap.size+1) (u0:=iI x) (u1:=.slice ra (d).length rc) r0 r1;have wu:aZ 1 iw ((w3.setCell ⟨w.heap.size+1,0,none⟩ (iI x)).setCell ⟨w.heap.size+1,1,none⟩ (.slice ra (d).length rc)) (.slice ra (d).length rc) (d) (fun b=>w.heap.size≤b):=((ho3.forget (S':=fun _=>False) pF).move (S':=fun _=>False) aK (fun g hg=>QA g (by have:=hg3 g hg;omega)) (fun b hb=>hb.elim)).sj (fun g hg=>by have:=hg3 g hg;show w.heap.size≤g;omega);generalize (w3.setCell ⟨w.heap.size+1,0,none⟩ (iI x)).setCell ⟨w.heap.size+1,1,none⟩ (.slice ra (d).length rc)=wf at *;refine bodyPost_ret (v:=.tuple #[.agg #[iI x, .slice ra (d).length rc], iI 0]) (by simp [results,Tryz.results51,go_sem,p0,p1]) rfl ?_;rw [HF.out];exact ⟨_,rfl,wu,((below_alloc2 w _ _).trans (HB3.out.mono (by omega))).trans (gQ.mono (by omega))⟩
 obtain ⟨b,off,cap',row,hv,-,-,-⟩:=HS.out.row 0 (by omega);simp only [Value.slice.injEq] at hv;obtain ⟨rfl,-,rfl⟩:=hv
 by_cases hci:cap=i
 ·obtain rfl:cap=l.entries.length:=by omega
  obtain rfl:i=l.entries.length:=hci.symm;have HE:=iH (show l.entries.drop l.entries.length=[] from List.drop_length)
  go_wp2_with fail
  obtain ⟨d,hd⟩:∃d:List Bytes,l.entries.drop l.entries.length=d:=⟨_,rfl⟩;have hd0:d=[]:=by rw [←hd,HE.out]
  rw [hd] at HF;refine (jS aK w2 (.slice (some ⟨b,off,none⟩) 0 0) d S (by rw [hd0];exact aZ.empty _ _ (by decide) (fun _=>rfl)) (by rw [hd0];decide)).mono ?_;clear hd hd0;rintro e w3 ⟨v3,rfl,ho3,hb3,hg3⟩;obtain ⟨ra,rc,rfl⟩:=ho3.shape;have HB3:=iH (vD.out.trans (hb3.mono (by omega)));clear z0 z1 r0 r1 f0 f1;obtain ⟨hz,-,hr,hrf,Et⟩:=ic HB3.out;have r0:=hr 0;have r1:=hr 1;have f0:=hrf 0;have f1:=hrf 1;clear hz hr hrf;go_wp2;obtain ⟨p0,p1,gQ,QA⟩:=mR (B:=w.heap.size+1) (u0:=iI x) (u1:=.slice ra (d).length rc) r0 r1;have wu:aZ 1 iw ((w3.setCell ⟨w.heap.size+1,0,none⟩ (iI x)).setCell ⟨w.heap.size+1,1,none⟩ (.slice ra (d).length rc)) (.slice ra (d).length rc) (d) (fun b=>w.heap.size≤b):=((ho3.forget (S':=fun _=>False) pF).move (S':=fun _=>False) aK (fun g hg=>QA g (by have:=hg3 g hg;omega)) (fun b hb=>hb.elim)).sj (fun g hg=>by have:=hg3 g hg;show w.heap.size≤g;omega);generalize (w3.setCell ⟨w.heap.size+1,0,none⟩ (iI x)).setCell ⟨w.heap.size+1,1,none⟩ (.slice ra (d).length rc)=wf at *;refine bodyPost_ret (v:=.tuple #[.agg #[iI x, .slice ra (d).length rc], iI 0]) (by simp [results,Tryz.results51,go_sem,p0,p1]) rfl ?_;rw [HF.out];exact ⟨_,rfl,wu,((below_alloc2 w _ _).trans (HB3.out.mono (by omega))).trans (gQ.mono (by omega))⟩
 have OW:=(HS.out.below aK (by decide) ((below_alloc2 w _ _).trans (vD.out.mono (by omega)))).drop i hi;rw [Nat.mul_one] at OW
 go_wp2_with fail
 obtain ⟨d,hd⟩:∃d:List Bytes,l.entries.drop i=d:=⟨_,rfl⟩;have hdl:l.entries.length - i=d.length:=by rw [←hd,List.length_drop]
 rw [hd] at HF OW;refine (jS aK w2 _ d S OW (by rw [←hdl];omega)).mono ?_;clear hd;rintro e w3 ⟨v3,rfl,ho3,hb3,hg3⟩;obtain ⟨ra,rc,rfl⟩:=ho3.shape;have HB3:=iH (vD.out.trans (hb3.mono (by omega)));clear z0 z1 r0 r1 f0 f1;obtain ⟨hz,-,hr,hrf,Et⟩:=ic HB3.out;have r0:=hr 0;have r1:=hr 1;have f0:=hrf 0;have f1:=hrf 1;clear hz hr hrf;go_wp2;obtain ⟨p0,p1,gQ,QA⟩:=mR (B:=w.heap.size+1) (u0:=iI x) (u1:=.slice ra (d).length rc) r0 r1;have wu:aZ 1 iw ((w3.setCell ⟨w.heap.size+1,0,none⟩ (iI x)).setCell ⟨w.heap.size+1,1,none⟩ (.slice ra (d).length rc)) (.slice ra (d).length rc) (d) (fun b=>w.heap.size≤b):=((ho3.forget (S':=fun _=>False) pF).move (S':=fun _=>False) aK (fun g hg=>QA g (by have:=hg3 g hg;omega)) (fun b hb=>hb.elim)).sj (fun g hg=>by have:=hg3 g hg;show w.heap.size≤g;omega);generalize (w3.setCell ⟨w.heap.size+1,0,none⟩ (iI x)).setCell ⟨w.heap.size+1,1,none⟩ (.slice ra (d).length rc)=wf at *;refine bodyPost_ret (v:=.tuple #[.agg #[iI x, .slice ra (d).length rc], iI 0]) (by simp [results,Tryz.results51,go_sem,p0,p1]) rfl ?_;rw [HF.out];exact ⟨_,rfl,wu,((below_alloc2 w _ _).trans (HB3.out.mono (by omega))).trans (gQ.mono (by omega))⟩
theorem zN (l:pq) (v:Value) (S:Nat→Prop) (w:World) (h:aZ 1 iw w v l.entries S) (hok:uO l) (hs:∀s∈l.entries,s.length≤1000000) (x m:Int) (hx:-9223372036854775808≤x∧x≤9223372036854775807) (hmm:-9223372036854775808≤m∧m≤9223372036854775807) :
 Calls Tryz.prog 155 #[.agg #[iI l.base,v], iI x, iI m] w (OQ w (jK l x m)):=by
 have HC:=iH (jX.2 hok);obtain ⟨hb0,hb1⟩:=hok.base;have hlen:=hok.len;obtain ⟨hx0,hx1⟩:=hx;obtain ⟨hm0,hm1⟩:=hmm;have HV:=iH (show jK l x m=if x<l.base∨m<0 then ([],2) else if dH l≤x then ([],0) else ((l.entries.drop (x - l.base).toNat).take m.toNat,0) by rw [jK,if_neg (by rw [HC.out];simp)]);obtain ⟨la,hla⟩:∃la,dH l=la:=⟨_,rfl⟩;have hlv:la=l.base+l.entries.length:=hla.symm;have Un:=iH hla;rw [hla] at HV;clear hla hok;obtain ⟨a,cap,hv,hl,hm,hnl,-⟩:=id h;subst hv;unfold maxLen at hm;have HS:=iH h;have HZ:=iH hs;clear h hs
 go_enter Tryz.func155,Tryz.ntmps155
 go_wp2_with fail
 refine (ni l _ S _ (HS.out.below aK (by decide) (aj w _)) HZ.out).mono ?_;rw [HC.out];rintro e w1 ⟨rfl,hb⟩;rw [World.size_alloc] at hb;obtain ⟨hz,-,hzs⟩:=Tk.fresh hb;have z0:=hz 0;have z1:=hz 1;have HB:=iH ((aj w _).trans (hb.mono (by omega)));clear hz hb
 by_cases h1:x<l.base
 ·have HF:=iH (show jK l x m=([],2) by rw [HV.out,if_pos (.inl h1)])
  go_wp2;refine bodyPost_ret (v:=.tuple #[iN, iI 2]) (by simp [results,Tryz.results155,go_sem]) rfl ?_;rw [HF.out];exact ⟨_,rfl,aZ.nil _ _,HB.out⟩
 by_cases h2:m<0
 ·have HF:=iH (show jK l x m=([],2) by rw [HV.out,if_pos (.inr h2)])
  go_wp2;refine bodyPost_ret (v:=.tuple #[iN, iI 2]) (by simp [results,Tryz.results155,go_sem]) rfl ?_;rw [HF.out];exact ⟨_,rfl,aZ.nil _ _,HB.out⟩
 go_wp2_with fail
 refine (gF l _ S _ (HS.out.below aK (by decide) HB.out) (by omega) (by omega)).mono ?_;rw [Un.out];rintro e w2 ⟨rfl,hb2⟩;have y0:=(hb2.cell (p:=⟨w.heap.size,0,none⟩) hzs).trans z0;have y1:=(hb2.cell (p:=⟨w.heap.size,1,none⟩) hzs).trans z1;have HB2:=iH (ah HB.out hb2);clear z0 z1 hb2
 by_cases h3:la≤x
 ·have HF:=iH (show jK l x m=([],0) by rw [HV.out,if_neg (by omega),if_pos h3])
  go_wp2;refine bodyPost_ret (v:=.tuple #[iN, iI 0]) (by simp [results,Tryz.results155,go_sem]) rfl ?_;rw [HF.out];exact ⟨_,rfl,aZ.nil _ _,HB2.out⟩
 obtain ⟨i,hxi⟩:∃i:Nat,x - l.base=i:=⟨(x - l.base).toNat,by omega⟩;have hi:i<l.entries.length:=by omega
 have e1:IntKind.i64.wrap (x - l.base)=(i:Int):=(IntWalk.i64_in _ (by omega)).trans hxi;obtain ⟨b,off,cap',row,hv,-,-,-⟩:=HS.out.row 0 (by omega);simp only [Value.slice.injEq] at hv;obtain ⟨rfl,-,rfl⟩:=hv;have hci:¬ cap=i:=by omega
 have OW:=iH ((HS.out.below aK (by decide) HB2.out).drop i (by omega));rw [Nat.mul_one] at OW
 by_cases hmj:m≤((l.entries.length - i:Nat):Int)
 ·obtain ⟨j,rfl⟩:∃j:Nat,m=j:=⟨m.toNat,by omega⟩
  have hjl:j≤l.entries.length - i:=by omega
  have HF:=iH (show jK l x j=((l.entries.drop i).take j,0) by rw [HV.out,if_neg (by omega),if_neg h3,hxi,Int.toNat_natCast,Int.toNat_natCast]);have Ua:=OW.out.take j (by rw [List.length_drop];exact hjl);have hdl:((l.entries.drop i).take j).length=j:=by rw [List.length_take,List.length_drop];omega
  go_wp2_with fail
  obtain ⟨d,hd⟩:∃d:List Bytes,(l.entries.drop i).take j=d:=⟨_,rfl⟩;rw [hd] at HF Ua hdl;refine (jS aK w2 _ d S Ua (by rw [hdl];omega)).mono ?_;clear hd;rintro e w3 ⟨v3,rfl,ho3,hb3,hg3⟩;go_wp2;refine bodyPost_ret (v:=.tuple #[v3, iI 0]) (by simp [results,Tryz.results155,go_sem]) rfl ?_;rw [HF.out];exact ⟨_,rfl,ho3.sj (fun g hg=>Nat.le_trans HB2.out.size (hg3 g hg)),ah HB2.out hb3⟩
 ·have HF:=iH (show jK l x m=(l.entries.drop i,0) by rw [HV.out,if_neg (by omega),if_neg h3,hxi,Int.toNat_natCast,List.take_of_length_le (by rw [List.length_drop];omega)])
  have Ua:=OW.out;have hdl:(l.entries.drop i).length=l.entries.length - i:=by rw [List.length_drop]
  go_wp2_with fail
  obtain ⟨d,hd⟩:∃d:List Bytes,l.entries.drop i=d:=⟨_,rfl⟩;rw [hd] at HF Ua hdl;refine (jS aK w2 _ d S Ua (by rw [hdl];omega)).mono ?_;clear hd;rintro e w3 ⟨v3,rfl,ho3,hb3,hg3⟩;go_wp2;refine bodyPost_ret (v:=.tuple #[v3, iI 0]) (by simp [results,Tryz.results155,go_sem]) rfl ?_;rw [HF.out];exact ⟨_,rfl,ho3.sj (fun g hg=>Nat.le_trans HB2.out.size (hg3 g hg)),ah HB2.out hb3⟩
end Go.Proofs.YtbngpjdflblffaaGreatDoor
