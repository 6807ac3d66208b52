/- A part of the proof, laid together from: MachC, DelFSess, Fresh. -/
import Derived.Test.YtbngpjdflblffaaGreatDoorPa28
set_option linter.all false
set_option maxRecDepth 100000
set_option maxHeartbeats 6400000
namespace Go.Tk
open Go Go.RowKit
theorem yc {w w':World} (h:Below w.drew.heap.size w.drew w'):Below w.heap.size w w':=⟨h.os,h.tape,h.output,h.size,h.block⟩
theorem ji.lines {l:List aN} (h:ji l):∀x∈l,x.line.length≤1000000:=fun x hx=>by have:=(h.line x hx).len;omega
structure r9 (w wx:World) (B:Nat) (S:Nat→Prop) (ix:Int) (lk:List aN) (pr:List fB) (vl vp vs:Value) (rc:List Value):Prop where
 box:aD wx B [iI ix,vl,vp,vs]
 lock:aZ 4 fZ wx vl lk (fun b=>S b∨w.heap.size+3≤b)
 pair:aZ 3 jC wx vp pr (fun b=>S b∨w.heap.size+3≤b)
 res:aD wx (w.heap.size+1) [iI 0, iI 0, .string ⟨#[]⟩]
 rep:aD wx (w.heap.size+1+1) rc
 grown:w.grownBy wx (some B)
 size:w.heap.size+3≤wx.heap.size
theorem r9.below {w wx wy:World} {B:Nat} {S:Nat→Prop} {ix:Int} {lk:List aN} {pr:List fB} {vl vp vs:Value} {rc:List Value} (h:r9 w wx B S ix lk pr vl vp vs rc) (hb:Below wx.heap.size wx wy):r9 w wy B S ix lk pr vl vp vs rc :=
 ⟨h.box.below hb,h.lock.below aM (by decide) hb,h.pair.below bg (by decide) hb,h.res.below hb,h.rep.below hb,grownBy_trans h.grown (aY hb (some B)),Nat.le_trans h.size hb.size⟩
theorem qN {a w:World} {g:Nat} (h:a.grownBy w (some g)) {b:Nat} (hb:a.heap.size≤b) (o:Nat) (u:Value):a.grownBy (w.setCell ⟨b,o,none⟩ u) (some g):=grownBy_set h (.inr hb) o u
theorem r9.aI {w wx:World} {B:Nat} {S:Nat→Prop} {ix:Int} {lk:List aN} {pr:List fB} {vl vp vs:Value} {r0 r1 r2:Value} (h:r9 w wx B S ix lk pr vl vp vs [r0,r1,r2]) (hS:∀b,S b→b≠B∧b<w.heap.size) (hB:B<w.heap.size) (i:Nat) (hi:i<3) (u:Value) :
 r9 w (wx.setCell ⟨w.heap.size+1+1,i,none⟩ u) B S ix lk pr vl vp vs ([r0,r1,r2].set i u) :=
 have far:∀b,(S b∨w.heap.size+3≤b)→b<wx.heap.size→(wx.setCell ⟨w.heap.size+1+1,i,none⟩ u).heap[b]?=wx.heap[b]?∧(S b∨w.heap.size+3≤b):=fun b hb _=>⟨aC (by rcases hb with hb | hb;(have:=hS b hb;omega);omega),hb⟩
 ⟨h.box.far (by omega) _ _,h.lock.move aM (by decide) far,h.pair.move bg (by decide) far,h.res.far (by omega) _ _,h.rep.set i hi u,qN h.grown (by omega) _ _,by rw [World.size_setCell];exact h.size⟩
theorem r9.au {w wx wy:World} {B:Nat} {S:Nat→Prop} {ix:Int} {lk lk':List aN} {pr:List fB} {vl vp vs v':Value} {rc:List Value} (h:r9 w wx B S ix lk pr vl vp vs rc) (hS:∀b,S b→b≠B∧b<w.heap.size) (hB:B<w.heap.size) (hb:Below wx.heap.size wx wy) (hs:aZ 4 fZ wy v' lk' (fun b=>wx.heap.size≤b)) :
 r9 w (wy.setCell ⟨B,1,none⟩ v') B S ix lk' pr v' vp vs rc :=
 have h':=h.below hb;have hsz:=h.size
 ⟨h'.box.set 1 (by simp) v',hs.move aM (by decide) fun b hb _=>⟨aC (by have:wx.heap.size≤b:=hb;omega), .inr (by have:wx.heap.size≤b:=hb;omega)⟩,
  h'.pair.move bg (by decide) fun b hb _=>⟨aC (by rcases hb with hb | hb;(have:=hS b hb;omega);omega),hb⟩,h'.res.far (by omega) _ _,h'.rep.far (by omega) _ _,bO h'.grown _ _,by rw [World.size_setCell];exact h'.size⟩
theorem r9.pairs {w wx wy:World} {B:Nat} {S:Nat→Prop} {ix:Int} {lk:List aN} {pr pr':List fB} {vl vp vs v':Value} {rc:List Value} (h:r9 w wx B S ix lk pr vl vp vs rc) (hS:∀b,S b→b≠B∧b<w.heap.size) (hB:B<w.heap.size) (hb:Below wx.heap.size wx wy) (hs:aZ 3 jC wy v' pr' (fun b=>wx.heap.size≤b)) :
 r9 w (wy.setCell ⟨B,2,none⟩ v') B S ix lk pr' vl v' vs rc :=
 have h':=h.below hb;have hsz:=h.size
 ⟨h'.box.set 2 (by simp) v',h'.lock.move aM (by decide) fun b hb _=>⟨aC (by rcases hb with hb | hb;(have:=hS b hb;omega);omega),hb⟩,
  hs.move bg (by decide) fun b hb _=>⟨aC (by have:wx.heap.size≤b:=hb;omega), .inr (by have:wx.heap.size≤b:=hb;omega)⟩,h'.res.far (by omega) _ _,h'.rep.far (by omega) _ _,bO h'.grown _ _,by rw [World.size_setCell];exact h'.size⟩
theorem r9.fin {w wx:World} {B:Nat} {S:Nat→Prop} {ix:Int} {lk:List aN} {pr:List fB} {vl vp vs:Value} {rc:List Value} (h:r9 w wx B S ix lk pr vl vp vs rc) (hS:∀b,S b→b≠B∧b<w.heap.size) (hB:B<w.heap.size) (r0 r1 r2:Value) :
 aD (((wx.setCell ⟨w.heap.size+1,0,none⟩ r0).setCell ⟨w.heap.size+1,1,none⟩ r1).setCell ⟨w.heap.size+1,2,none⟩ r2) (w.heap.size+1) [r0,r1,r2] ∧
 aD (((wx.setCell ⟨w.heap.size+1,0,none⟩ r0).setCell ⟨w.heap.size+1,1,none⟩ r1).setCell ⟨w.heap.size+1,2,none⟩ r2) B [iI ix,vl,vp,vs] ∧
 aZ 4 fZ (((wx.setCell ⟨w.heap.size+1,0,none⟩ r0).setCell ⟨w.heap.size+1,1,none⟩ r1).setCell ⟨w.heap.size+1,2,none⟩ r2) vl lk (fun b=>S b∨w.heap.size≤b) ∧
 aZ 3 jC (((wx.setCell ⟨w.heap.size+1,0,none⟩ r0).setCell ⟨w.heap.size+1,1,none⟩ r1).setCell ⟨w.heap.size+1,2,none⟩ r2) vp pr (fun b=>S b∨w.heap.size≤b) ∧
 w.grownBy (((wx.setCell ⟨w.heap.size+1,0,none⟩ r0).setCell ⟨w.heap.size+1,1,none⟩ r1).setCell ⟨w.heap.size+1,2,none⟩ r2) (some B) :=
 have far:∀b,(S b∨w.heap.size+3≤b)→b<wx.heap.size→(((wx.setCell ⟨w.heap.size+1,0,none⟩ r0).setCell ⟨w.heap.size+1,1,none⟩ r1).setCell ⟨w.heap.size+1,2,none⟩ r2).heap[b]?=wx.heap[b]?∧(S b∨w.heap.size≤b):=fun b hb _ =>
  ⟨by
   have:b≠w.heap.size+1:=by (rcases hb with hb | hb;(have:=hS b hb;omega);omega)
   exact (aC this).trans ((aC this).trans (aC this)),hb.imp id (fun h=>by omega)⟩
 ⟨((h.res.set 0 (by simp) r0).set 1 (by simp) r1).set 2 (by simp) r2,((h.box.far (by omega) _ _).far (by omega) _ _).far (by omega) _ _,h.lock.move aM (by decide) far,h.pair.move bg (by decide) far,
  qN (qN (qN h.grown (by omega) _ _) (by omega) _ _) (by omega) _ _⟩
theorem r9.drew {w wx:World} {B:Nat} {S:Nat→Prop} {ix:Int} {lk:List aN} {pr:List fB} {vl vp vs:Value} {rc:List Value} (h:r9 w wx B S ix lk pr vl vp vs rc):r9 w wx.drew B S ix lk pr vl vp vs rc:=h.below (Below.drew iB)
theorem MR {w:World} {B:Nat} {S:Nat→Prop} {ix:Int} {lk:List aN} {pr:List fB} {vl vp vs:Value} {o:Obj} {E:Nat} {cs:List Value} {E2:Nat} (hx:aD w B [iI ix,vl,vp,vs]) (hl:aZ 4 fZ w vl lk S) (hp:aZ 3 jC w vp pr S) :
 r9 w (((w.alloc o).alloc (.cells (List.toArray [iI 0, iI 0, .string ⟨#[]⟩]) E)).alloc (.cells cs.toArray E2)) B S ix lk pr vl vp vs cs:=by
 have hb:Below w.heap.size w (((w.alloc o).alloc (.cells (List.toArray [iI 0, iI 0, .string ⟨#[]⟩]) E)).alloc (.cells cs.toArray E2)):=ah (below_alloc2 w _ _) (aj _ _);have h1:=(aD.new (w:=w.alloc o) (cs:=[iI 0, iI 0, .string ⟨#[]⟩]) (E:=E)).below (aj _ (.cells cs.toArray E2));have h2:=aD.new (w:=(w.alloc o).alloc (.cells (List.toArray [iI 0, iI 0, .string ⟨#[]⟩]) E)) (cs:=cs) (E:=E2);rw [World.size_alloc] at h1;rw [World.size_alloc,World.size_alloc] at h2;refine ⟨hx.below hb,(hl.below aM (by decide) hb).sub aM (by decide) fun b hb _=>.inl hb,(hp.below bg (by decide) hb).sub bg (by decide) fun b hb _=>.inl hb,h1,h2,aY hb _,?_⟩;rw [World.size_alloc,World.size_alloc,World.size_alloc];omega
end Go.Tk
namespace Go.Proofs.YtbngpjdflblffaaGreatDoor
open Go.RowKit Go.Tk
theorem H9 (s:bf) (B:Nat) (vl vp vs:Value) (hvs:vs.oneCell'=true) (who:Int) (o:zC) (S:Nat→Prop) (w:World) (hx:aD w B [iI s.index,vl,vp,vs]) (hl:aZ 4 fZ w vl s.au S) (hp:aZ 3 jC w vp s.pairs S)
 (hS:∀b,S b→b≠B∧b<w.heap.size) (Tf:ji s.au) (SV:qB s.pairs) (ho:wJ o) :
 Calls Tryz.prog 64 #[iP B 0, iI who, .agg #[iI o.kind, iS o.a, iS o.b, iI o.n]] w fun e w' =>
  ∃Cn K9,e=.returned (.agg #[iI (lZ s who o).2.code, iI (lZ s who o).2.n, .string ⟨(lZ s who o).2.text.toArray⟩])∧aD w' B [iI s.index,Cn,K9,vs] ∧
   aZ 4 fZ w' Cn (lZ s who o).1.au (fun b=>S b∨w.heap.size≤b)∧aZ 3 jC w' K9 (lZ s who o).1.pairs (fun b=>S b∨w.heap.size≤b)∧w.grownBy w' (some B):=by
 have o1:=hl.oneCell;have o2:=hp.oneCell;have hBlt:=hx.lt;have HX:=iH hx;have HL:=iH hl;have HP:=iH hp;have HS:=iH hS;have IZ:=iH Tf;have R4:=iH SV;have Vp:=iH ho.name;have PN:=iH ho.size;have hkind:=ho.kind;clear hx hl hp hS Tf SV ho;obtain ⟨kd,oa,ob,on⟩:=o;simp only at Vp PN hkind⊢
 go_enter Tryz.func64,Tryz.ntmps64
 go_upto_region 2 with (fail);generalize bF:((w.alloc (.cells #[iI kd, iS oa, iS ob, iI on] 68)).alloc (.cells #[iI 0, iI 0, .string ⟨#[]⟩] 80)).alloc (.cells #[iI 0, iI 0, .string ⟨#[]⟩] 80)=w3 at *;have HD:Hid (r9 w w3 B S s.index s.au s.pairs vl vp vs [iI 0, iI 0, .string ⟨#[]⟩]):=bF▸iH (MR HX.out HL.out HP.out);have HO:Hid (aD w3 w.heap.size [iI kd, iS oa, iS ob, iI on]):=bF▸iH (((aD.new (cs:=[iI kd, iS oa, iS ob, iI on])).below (aj _ _)).below (aj _ _));clear bF;clear HX HL HP
 go_cut [8,9,10] (fun h f e wx=>h=iI (jF s.au oa).1∧f=iI (jF s.au oa).2.1∧e=iI (jF s.au oa).2.2∧Hid (r9 w wx B S s.index s.au s.pairs vl vp vs [iI 0, iI 0, .string ⟨#[]⟩])∧Hid (aD wx w.heap.size [iI kd, iS oa, iS ob, iI on]))
 case first =>
  have b1:=HD.out.box.cell 1 _ rfl;have p1:=HO.out.cell 1 _ rfl;have HT:=iH (Ie s.au oa vl _ w3.drew HD.out.drew.lock IZ.out.lines)
  go_region_law (go_simp;go_at_call 33;refine HT.out.mono ?_;rintro e w7 ⟨rfl,uy⟩;have sG:=yc uy)
  all_goals
   go_wp2
   go_meet
   exact ⟨rfl,rfl,rfl,iH (HD.out.below sG),iH (HO.out.below sG)⟩
 case rest =>
  obtain ⟨rfl,rfl,rfl,HD,HO⟩:=hcut
  rename World=>w4
  obtain rfl | rfl | rfl | rfl | rfl | rfl:kd=1∨kd=2∨kd=3∨kd=4∨kd=5∨kd=6:=by omega
  ·have F:lZ s who ⟨1,oa,ob,on⟩=(⟨s.index,(cO s.au oa who false).1,s.pairs,s.af⟩,(cO s.au oa who false).2.1):=by rw [lZ,if_pos (by simp)];simp
   have b1:=HD.out.box.cell 1 _ rfl;have b2:=HD.out.box.cell 2 _ rfl;obtain ⟨p0,p1,p2,p3⟩:=dJ HO.out;have HT:=iH (AR s.au oa who false vl _ w4.drew HD.out.drew.lock IZ.out.lines);go_upto_region 5 with (fail)
   go_region_law (go_simp;go_at_call 106;refine HT.out.mono ?_;rintro e w7 ⟨v7,rfl,hs7,uy⟩;have sG:=yc uy;obtain ⟨a7,c7,e7,-⟩:=id hs7;subst e7;have hd7:=HD.out.below sG;have u1:=hd7.box.cell 1 _ rfl;have t1:=hd7.box.thaw 1;have Iq:=HD.out.au HS.out hBlt sG hs7;have y0:=hd7.rep.cell 0 _ rfl;have y1:=hd7.rep.cell 1 _ rfl;have y2:=hd7.rep.cell 2 _ rfl;have y3:=hd7.rep.thaw 0;have y4:=hd7.rep.thaw 1;have y5:=hd7.rep.thaw 2)
   all_goals
    have HF:=iH (((Iq.aI HS.out hBlt 0 (by decide) (iI (cO s.au oa who false).2.1.code)).aI HS.out hBlt 1 (by decide) (iI (cO s.au oa who false).2.1.n)).aI HS.out hBlt 2 (by decide) (.string ⟨(cO s.au oa who false).2.1.text.toArray⟩));generalize ((((w7.setCell ⟨B,1,none⟩ (.slice a7 (cO s.au oa who false).1.length c7)).setCell ⟨w.heap.size+1+1,0,none⟩ (iI (cO s.au oa who false).2.1.code)).setCell ⟨w.heap.size+1+1,1,none⟩ (iI (cO s.au oa who false).2.1.n)).setCell ⟨w.heap.size+1+1,2,none⟩ (.string ⟨(cO s.au oa who false).2.1.text.toArray⟩))=w9 at *;obtain ⟨c0,c1,c2⟩:=gV HF.out.rep;obtain ⟨d0,d1,d2⟩:=gV HF.out.res;obtain ⟨s0,s1,s2⟩:=rH HF.out.res;simp only [List.set_cons_zero,List.set_cons_succ] at HF;go_wp2;obtain ⟨hrx,hbx,hlk,hpr,hgr⟩:=HF.out.fin HS.out hBlt (iI (cO s.au oa who false).2.1.code) (iI (cO s.au oa who false).2.1.n) (.string ⟨(cO s.au oa who false).2.1.text.toArray⟩);generalize ((w9.setCell ⟨w.heap.size+1,0,none⟩ (iI (cO s.au oa who false).2.1.code)).setCell ⟨w.heap.size+1,1,none⟩ (iI (cO s.au oa who false).2.1.n)).setCell ⟨w.heap.size+1,2,none⟩ (.string ⟨(cO s.au oa who false).2.1.text.toArray⟩)=wf at *;obtain ⟨g0,g1,g2⟩:=gV hrx
    refine bodyPost_ret (v:=.agg #[iI (cO s.au oa who false).2.1.code, iI (cO s.au oa who false).2.1.n, .string ⟨(cO s.au oa who false).2.1.text.toArray⟩]) (by simp [results,Tryz.results64,go_sem,g0,g1,g2]) rfl ?_;rw [F];exact ⟨_,_,rfl,hbx,hlk,hpr,hgr⟩
  ·have F:lZ s who ⟨2,oa,ob,on⟩=(⟨s.index,(cO s.au oa who true).1,s.pairs,s.af⟩,(cO s.au oa who true).2.1):=by rw [lZ,if_pos (by simp)];simp
   have b1:=HD.out.box.cell 1 _ rfl;have b2:=HD.out.box.cell 2 _ rfl;obtain ⟨p0,p1,p2,p3⟩:=dJ HO.out;have HT:=iH (AR s.au oa who true vl _ w4.drew HD.out.drew.lock IZ.out.lines);go_upto_region 5 with (fail)
   go_region_law (go_simp;go_at_call 106;refine HT.out.mono ?_;rintro e w7 ⟨v7,rfl,hs7,uy⟩;have sG:=yc uy;obtain ⟨a7,c7,e7,-⟩:=id hs7;subst e7;have hd7:=HD.out.below sG;have u1:=hd7.box.cell 1 _ rfl;have t1:=hd7.box.thaw 1;have Iq:=HD.out.au HS.out hBlt sG hs7;have y0:=hd7.rep.cell 0 _ rfl;have y1:=hd7.rep.cell 1 _ rfl;have y2:=hd7.rep.cell 2 _ rfl;have y3:=hd7.rep.thaw 0;have y4:=hd7.rep.thaw 1;have y5:=hd7.rep.thaw 2)
   all_goals
    have HF:=iH (((Iq.aI HS.out hBlt 0 (by decide) (iI (cO s.au oa who true).2.1.code)).aI HS.out hBlt 1 (by decide) (iI (cO s.au oa who true).2.1.n)).aI HS.out hBlt 2 (by decide) (.string ⟨(cO s.au oa who true).2.1.text.toArray⟩));generalize ((((w7.setCell ⟨B,1,none⟩ (.slice a7 (cO s.au oa who true).1.length c7)).setCell ⟨w.heap.size+1+1,0,none⟩ (iI (cO s.au oa who true).2.1.code)).setCell ⟨w.heap.size+1+1,1,none⟩ (iI (cO s.au oa who true).2.1.n)).setCell ⟨w.heap.size+1+1,2,none⟩ (.string ⟨(cO s.au oa who true).2.1.text.toArray⟩))=w9 at *;obtain ⟨c0,c1,c2⟩:=gV HF.out.rep;obtain ⟨d0,d1,d2⟩:=gV HF.out.res;obtain ⟨s0,s1,s2⟩:=rH HF.out.res;simp only [List.set_cons_zero,List.set_cons_succ] at HF;go_wp2;obtain ⟨hrx,hbx,hlk,hpr,hgr⟩:=HF.out.fin HS.out hBlt (iI (cO s.au oa who true).2.1.code) (iI (cO s.au oa who true).2.1.n) (.string ⟨(cO s.au oa who true).2.1.text.toArray⟩);generalize ((w9.setCell ⟨w.heap.size+1,0,none⟩ (iI (cO s.au oa who true).2.1.code)).setCell ⟨w.heap.size+1,1,none⟩ (iI (cO s.au oa who true).2.1.n)).setCell ⟨w.heap.size+1,2,none⟩ (.string ⟨(cO s.au oa who true).2.1.text.toArray⟩)=wf at *;obtain ⟨g0,g1,g2⟩:=gV hrx
    refine bodyPost_ret (v:=.agg #[iI (cO s.au oa who true).2.1.code, iI (cO s.au oa who true).2.1.n, .string ⟨(cO s.au oa who true).2.1.text.toArray⟩]) (by simp [results,Tryz.results64,go_sem,g0,g1,g2]) rfl ?_;rw [F];exact ⟨_,_,rfl,hbx,hlk,hpr,hgr⟩
  ·have F:lZ s who ⟨3,oa,ob,on⟩=(⟨s.index,(fJ s.au oa who).1,s.pairs,s.af⟩,(fJ s.au oa who).2.1):=by rw [lZ,if_neg (by simp),if_pos (by simp)]
   have b1:=HD.out.box.cell 1 _ rfl;have b2:=HD.out.box.cell 2 _ rfl;obtain ⟨p0,p1,p2,p3⟩:=dJ HO.out;have HT:=iH (Iz s.au oa who vl _ w4.drew HD.out.drew.lock IZ.out.lines);go_upto_region 7 with (fail)
   go_region_law (go_simp;go_at_call 107;refine HT.out.mono ?_;rintro e w7 ⟨v7,rfl,hs7,uy⟩;have sG:=yc uy;obtain ⟨a7,c7,e7,-⟩:=id hs7;subst e7;have hd7:=HD.out.below sG;have u1:=hd7.box.cell 1 _ rfl;have t1:=hd7.box.thaw 1;have Iq:=HD.out.au HS.out hBlt sG hs7;have y0:=hd7.rep.cell 0 _ rfl;have y1:=hd7.rep.cell 1 _ rfl;have y2:=hd7.rep.cell 2 _ rfl;have y3:=hd7.rep.thaw 0;have y4:=hd7.rep.thaw 1;have y5:=hd7.rep.thaw 2)
   all_goals
    have HF:=iH (((Iq.aI HS.out hBlt 0 (by decide) (iI (fJ s.au oa who).2.1.code)).aI HS.out hBlt 1 (by decide) (iI (fJ s.au oa who).2.1.n)).aI HS.out hBlt 2 (by decide) (.string ⟨(fJ s.au oa who).2.1.text.toArray⟩));generalize ((((w7.setCell ⟨B,1,none⟩ (.slice a7 (fJ s.au oa who).1.length c7)).setCell ⟨w.heap.size+1+1,0,none⟩ (iI (fJ s.au oa who).2.1.code)).setCell ⟨w.heap.size+1+1,1,none⟩ (iI (fJ s.au oa who).2.1.n)).setCell ⟨w.heap.size+1+1,2,none⟩ (.string ⟨(fJ s.au oa who).2.1.text.toArray⟩))=w9 at *;obtain ⟨c0,c1,c2⟩:=gV HF.out.rep;obtain ⟨d0,d1,d2⟩:=gV HF.out.res;obtain ⟨s0,s1,s2⟩:=rH HF.out.res;simp only [List.set_cons_zero,List.set_cons_succ] at HF;go_wp2;obtain ⟨hrx,hbx,hlk,hpr,hgr⟩:=HF.out.fin HS.out hBlt (iI (fJ s.au oa who).2.1.code) (iI (fJ s.au oa who).2.1.n) (.string ⟨(fJ s.au oa who).2.1.text.toArray⟩);generalize ((w9.setCell ⟨w.heap.size+1,0,none⟩ (iI (fJ s.au oa who).2.1.code)).setCell ⟨w.heap.size+1,1,none⟩ (iI (fJ s.au oa who).2.1.n)).setCell ⟨w.heap.size+1,2,none⟩ (.string ⟨(fJ s.au oa who).2.1.text.toArray⟩)=wf at *;obtain ⟨g0,g1,g2⟩:=gV hrx;refine bodyPost_ret (v:=.agg #[iI (fJ s.au oa who).2.1.code, iI (fJ s.au oa who).2.1.n, .string ⟨(fJ s.au oa who).2.1.text.toArray⟩]) (by simp [results,Tryz.results64,go_sem,g0,g1,g2]) rfl ?_;rw [F]
    exact ⟨_,_,rfl,hbx,hlk,hpr,hgr⟩
  ·have F:lZ s who ⟨4,oa,ob,on⟩=(s,⟨0,(jF s.au oa).1,[]⟩):=by rw [lZ,if_neg (by simp),if_neg (by simp),if_pos (by simp)]
   have b1:=HD.out.box.cell 1 _ rfl;have b2:=HD.out.box.cell 2 _ rfl;obtain ⟨p0,p1,p2,p3⟩:=dJ HO.out;have y1:=HD.out.rep.cell 1 _ rfl;have y4:=HD.out.rep.thaw 1;go_upto_region 14 with (fail);have HF:=iH (HD.out.aI HS.out hBlt 1 (by decide) (iI (jF s.au oa).1));generalize w4.setCell ⟨w.heap.size+1+1,1,none⟩ (iI (jF s.au oa).1)=w9 at *;obtain ⟨c0,c1,c2⟩:=gV HF.out.rep;obtain ⟨d0,d1,d2⟩:=gV HF.out.res;obtain ⟨s0,s1,s2⟩:=rH HF.out.res;simp only [List.set_cons_zero,List.set_cons_succ] at HF;go_wp2;obtain ⟨hrx,hbx,hlk,hpr,hgr⟩:=HF.out.fin HS.out hBlt (iI 0) (iI (jF s.au oa).1) (.string ⟨#[]⟩);generalize ((w9.setCell ⟨w.heap.size+1,0,none⟩ (iI 0)).setCell ⟨w.heap.size+1,1,none⟩ (iI (jF s.au oa).1)).setCell ⟨w.heap.size+1,2,none⟩ (.string ⟨#[]⟩)=wf at *;obtain ⟨g0,g1,g2⟩:=gV hrx;refine bodyPost_ret (v:=.agg #[iI 0, iI (jF s.au oa).1, .string ⟨#[]⟩]) (by simp [results,Tryz.results64,go_sem,g0,g1,g2]) rfl ?_;rw [F];exact ⟨_,_,rfl,hbx,hlk,hpr,hgr⟩
  ·have b1:=HD.out.box.cell 1 _ rfl;have b2:=HD.out.box.cell 2 _ rfl
   obtain ⟨p0,p1,p2,p3⟩:=dJ HO.out
   by_cases hh:(jF s.au oa).1≠who∨(jF s.au oa).2.1≠on
   ·have F:lZ s who ⟨5,oa,ob,on⟩=(s,⟨10,(jF s.au oa).1,[]⟩):=by rw [lZ,if_neg (by simp),if_neg (by simp),if_neg (by simp),if_neg (by simp),if_pos hh]
    obtain ⟨y0,y1,y2⟩:=gV HD.out.rep;obtain ⟨y3,y4,y5⟩:=rH HD.out.rep;generalize (jF s.au oa).1=Jv at *;generalize (jF s.au oa).2.1=X6 at *;have HH:=iH hh
    by_cases h1:Jv=who
    ·have h1b:(Jv != who)=false:=by simpa using h1
     have U4:(X6 != on)=true:=by rcases HH.out with h | h;exact absurd h1 h;simpa using h
     clear hh h1;go_upto_region 14 with (fail);have HF:=iH (((HD.out.aI HS.out hBlt 0 (by decide) (iI 10)).aI HS.out hBlt 1 (by decide) (iI Jv)).aI HS.out hBlt 2 (by decide) (.string ⟨#[]⟩));generalize ((((w4).setCell ⟨w.heap.size+1+1,0,none⟩ (iI 10)).setCell ⟨w.heap.size+1+1,1,none⟩ (iI Jv)).setCell ⟨w.heap.size+1+1,2,none⟩ (.string ⟨#[]⟩))=w9 at *;obtain ⟨c0,c1,c2⟩:=gV HF.out.rep;obtain ⟨d0,d1,d2⟩:=gV HF.out.res;obtain ⟨s0,s1,s2⟩:=rH HF.out.res;simp only [List.set_cons_zero,List.set_cons_succ] at HF;go_wp2;obtain ⟨hrx,hbx,hlk,hpr,hgr⟩:=HF.out.fin HS.out hBlt (iI 10) (iI Jv) (.string ⟨#[]⟩);generalize ((w9.setCell ⟨w.heap.size+1,0,none⟩ (iI 10)).setCell ⟨w.heap.size+1,1,none⟩ (iI Jv)).setCell ⟨w.heap.size+1,2,none⟩ (.string ⟨#[]⟩)=wf at *;obtain ⟨g0,g1,g2⟩:=gV hrx;refine bodyPost_ret (v:=.agg #[iI 10, iI Jv, .string ⟨#[]⟩]) (by simp [results,Tryz.results64,go_sem,g0,g1,g2]) rfl ?_;rw [F];exact ⟨_,_,rfl,hbx,hlk,hpr,hgr⟩
    ·have h1b:(Jv != who)=true:=by simpa using h1
     clear hh h1;go_upto_region 14 with (fail);have HF:=iH (((HD.out.aI HS.out hBlt 0 (by decide) (iI 10)).aI HS.out hBlt 1 (by decide) (iI Jv)).aI HS.out hBlt 2 (by decide) (.string ⟨#[]⟩));generalize ((((w4).setCell ⟨w.heap.size+1+1,0,none⟩ (iI 10)).setCell ⟨w.heap.size+1+1,1,none⟩ (iI Jv)).setCell ⟨w.heap.size+1+1,2,none⟩ (.string ⟨#[]⟩))=w9 at *;obtain ⟨c0,c1,c2⟩:=gV HF.out.rep;obtain ⟨d0,d1,d2⟩:=gV HF.out.res;obtain ⟨s0,s1,s2⟩:=rH HF.out.res;simp only [List.set_cons_zero,List.set_cons_succ] at HF;go_wp2;obtain ⟨hrx,hbx,hlk,hpr,hgr⟩:=HF.out.fin HS.out hBlt (iI 10) (iI Jv) (.string ⟨#[]⟩);generalize ((w9.setCell ⟨w.heap.size+1,0,none⟩ (iI 10)).setCell ⟨w.heap.size+1,1,none⟩ (iI Jv)).setCell ⟨w.heap.size+1,2,none⟩ (.string ⟨#[]⟩)=wf at *;obtain ⟨g0,g1,g2⟩:=gV hrx;refine bodyPost_ret (v:=.agg #[iI 10, iI Jv, .string ⟨#[]⟩]) (by simp [results,Tryz.results64,go_sem,g0,g1,g2]) rfl ?_;rw [F];exact ⟨_,_,rfl,hbx,hlk,hpr,hgr⟩
   ·have F:lZ s who ⟨5,oa,ob,on⟩=(⟨s.index,s.au,(ja s.pairs oa ob).1,s.af⟩,(ja s.pairs oa ob).2.1):=by rw [lZ,if_neg (by simp),if_neg (by simp),if_neg (by simp),if_neg (by simp),if_neg hh]
    have h1b:((jF s.au oa).1 != who)=false:=by simp only [bne_eq_false_iff_eq];exact Decidable.byContradiction fun h=>hh (.inl h)
    have U4:((jF s.au oa).2.1 != on)=false:=by simp only [bne_eq_false_iff_eq];exact Decidable.byContradiction fun h=>hh (.inr h)
    generalize (jF s.au oa).1=Jv at *;generalize (jF s.au oa).2.1=X6 at *;clear hh;have HT:=iH (FD s.pairs oa ob vp _ w4.drew HD.out.drew.pair R4.out Vp.out PN.out);go_upto_region 3 with (fail)
    go_region_law (go_simp;go_at_call 109;refine HT.out.mono ?_;rintro e w7 ⟨v7,rfl,hs7,uy⟩;have sG:=yc uy;obtain ⟨a7,c7,e7,-⟩:=id hs7;subst e7;have hd7:=HD.out.below sG;have u1:=hd7.box.cell 2 _ rfl;have t1:=hd7.box.thaw 2;have Iq:=HD.out.pairs HS.out hBlt sG hs7;have y0:=hd7.rep.cell 0 _ rfl;have y1:=hd7.rep.cell 1 _ rfl;have y2:=hd7.rep.cell 2 _ rfl;have y3:=hd7.rep.thaw 0;have y4:=hd7.rep.thaw 1;have y5:=hd7.rep.thaw 2)
    all_goals
     have HF:=iH (((Iq.aI HS.out hBlt 0 (by decide) (iI (ja s.pairs oa ob).2.1.code)).aI HS.out hBlt 1 (by decide) (iI (ja s.pairs oa ob).2.1.n)).aI HS.out hBlt 2 (by decide) (.string ⟨(ja s.pairs oa ob).2.1.text.toArray⟩));generalize ((((w7.setCell ⟨B,2,none⟩ (.slice a7 (ja s.pairs oa ob).1.length c7)).setCell ⟨w.heap.size+1+1,0,none⟩ (iI (ja s.pairs oa ob).2.1.code)).setCell ⟨w.heap.size+1+1,1,none⟩ (iI (ja s.pairs oa ob).2.1.n)).setCell ⟨w.heap.size+1+1,2,none⟩ (.string ⟨(ja s.pairs oa ob).2.1.text.toArray⟩))=w9 at *;obtain ⟨c0,c1,c2⟩:=gV HF.out.rep;obtain ⟨d0,d1,d2⟩:=gV HF.out.res;obtain ⟨s0,s1,s2⟩:=rH HF.out.res;simp only [List.set_cons_zero,List.set_cons_succ] at HF;go_wp2;obtain ⟨hrx,hbx,hlk,hpr,hgr⟩:=HF.out.fin HS.out hBlt (iI (ja s.pairs oa ob).2.1.code) (iI (ja s.pairs oa ob).2.1.n) (.string ⟨(ja s.pairs oa ob).2.1.text.toArray⟩);generalize ((w9.setCell ⟨w.heap.size+1,0,none⟩ (iI (ja s.pairs oa ob).2.1.code)).setCell ⟨w.heap.size+1,1,none⟩ (iI (ja s.pairs oa ob).2.1.n)).setCell ⟨w.heap.size+1,2,none⟩ (.string ⟨(ja s.pairs oa ob).2.1.text.toArray⟩)=wf at *;obtain ⟨g0,g1,g2⟩:=gV hrx;refine bodyPost_ret (v:=.agg #[iI (ja s.pairs oa ob).2.1.code, iI (ja s.pairs oa ob).2.1.n, .string ⟨(ja s.pairs oa ob).2.1.text.toArray⟩]) (by simp [results,Tryz.results64,go_sem,g0,g1,g2]) rfl ?_;rw [F];exact ⟨_,_,rfl,hbx,hlk,hpr,hgr⟩
  ·have F:lZ s who ⟨6,oa,ob,on⟩=(s,(jW s.pairs oa).1):=by rw [lZ,if_neg (by simp),if_neg (by simp),if_neg (by simp),if_pos (by simp)]
   have b1:=HD.out.box.cell 1 _ rfl;have b2:=HD.out.box.cell 2 _ rfl;obtain ⟨p0,p1,p2,p3⟩:=dJ HO.out;have HT:=iH (FE s.pairs oa vp _ w4.drew HD.out.drew.pair R4.out);go_upto_region 11 with (fail)
   go_region_law (go_simp;go_at_call 108;refine HT.out.mono ?_;rintro e w7 ⟨rfl,uy⟩;have sG:=yc uy;have Iq:=HD.out.below sG;have y0:=Iq.rep.cell 0 _ rfl;have y1:=Iq.rep.cell 1 _ rfl;have y2:=Iq.rep.cell 2 _ rfl;have y3:=Iq.rep.thaw 0;have y4:=Iq.rep.thaw 1;have y5:=Iq.rep.thaw 2)
   all_goals
    have HF:=iH (((Iq.aI HS.out hBlt 0 (by decide) (iI (jW s.pairs oa).1.code)).aI HS.out hBlt 1 (by decide) (iI (jW s.pairs oa).1.n)).aI HS.out hBlt 2 (by decide) (.string ⟨(jW s.pairs oa).1.text.toArray⟩));generalize ((((w7).setCell ⟨w.heap.size+1+1,0,none⟩ (iI (jW s.pairs oa).1.code)).setCell ⟨w.heap.size+1+1,1,none⟩ (iI (jW s.pairs oa).1.n)).setCell ⟨w.heap.size+1+1,2,none⟩ (.string ⟨(jW s.pairs oa).1.text.toArray⟩))=w9 at *;obtain ⟨c0,c1,c2⟩:=gV HF.out.rep;obtain ⟨d0,d1,d2⟩:=gV HF.out.res;obtain ⟨s0,s1,s2⟩:=rH HF.out.res;simp only [List.set_cons_zero,List.set_cons_succ] at HF;go_wp2;obtain ⟨hrx,hbx,hlk,hpr,hgr⟩:=HF.out.fin HS.out hBlt (iI (jW s.pairs oa).1.code) (iI (jW s.pairs oa).1.n) (.string ⟨(jW s.pairs oa).1.text.toArray⟩);generalize ((w9.setCell ⟨w.heap.size+1,0,none⟩ (iI (jW s.pairs oa).1.code)).setCell ⟨w.heap.size+1,1,none⟩ (iI (jW s.pairs oa).1.n)).setCell ⟨w.heap.size+1,2,none⟩ (.string ⟨(jW s.pairs oa).1.text.toArray⟩)=wf at *;obtain ⟨g0,g1,g2⟩:=gV hrx;refine bodyPost_ret (v:=.agg #[iI (jW s.pairs oa).1.code, iI (jW s.pairs oa).1.n, .string ⟨(jW s.pairs oa).1.text.toArray⟩]) (by simp [results,Tryz.results64,go_sem,g0,g1,g2]) rfl ?_;rw [F];exact ⟨_,_,rfl,hbx,hlk,hpr,hgr⟩
theorem Tryz.Lr:∀i z,Tryz.prog.info? 115=some i→i.zero=some z→∀v∈z.cells.toList,v.oneCell'=true:=by
 have h:((Tryz.prog.info? 115).bind (·.zero)).map (fun z=>z.cells.toList.all (·.oneCell'))=some true:=by kernel_rfl
 intro i z hi hz;rw [hi,Option.bind_some,hz,Option.map_some,Option.some.injEq,List.all_eq_true] at h;exact h
theorem uC (w:World) (v:Value) (l:List aG) (S:Nat→Prop) (h:bZ 115 5 bR w v l S) (hS:∀g,v.ownBlock=some g→S g) (hn:l.length≤1000000) (c:Nat) (cap:Value) (p:aG→Bool)
 (hin:∀args w,(callFunc c args).run Tryz.prog w=.ok (.enter c args) w) (hp:rW w v.ownBlock S c cap p) :
 Calls Tryz.prog 94 #[v, .func (.func c) #[] #[cap]] w fun e w'=>∃v',
  e=.returned v'∧bZ 115 5 bR w' v' (l.filter fun x=>!p x) S∧w.grownBy w' v.ownBlock∧v'.ownBlock=v.ownBlock:=by
 rcases j6 p l with ⟨hi,hall⟩ | ⟨n,hnl,hi,hpn,hall⟩
 ·have hl0:l.filter (fun x=>!p x)=l:=List.filter_eq_self.2 fun x hx=>by rw [hall x hx];rfl
  have HC:=iH (oO w v l S (h.read aF (by decide) hS) hn c cap p _ hin hp);have HI:=iH hi;have HL:=iH hl0;clear hl0 hi hp;obtain ⟨va,vc,rfl⟩:=h.shape
  go_enter Tryz.func94,Tryz.ntmps94
  go_wp2_with fail
  refine HC.out.mono ?_;rw [HI.out];rintro e w1 ⟨rfl,hb1⟩;go_wp2;go_ret;exact ⟨_,rfl,by rw [HL.out];exact h.below aF hb1,aY hb1 _,rfl⟩
 ·have HC:=iH (oO w v l S (h.read aF (by decide) hS) hn c cap p _ hin hp)
  have HI:=iH hi;obtain ⟨g,vc,rfl,hlc,hcm⟩:∃g vc,v=.slice (some ⟨g,0,none⟩) l.length vc∧l.length≤vc∧vc≤maxLen:=by
   obtain ⟨rows,h1,h2,h3⟩:=id h
   rcases h2.2 with ⟨rfl,hn⟩ | ⟨g,vc,cur,rfl,_,_,hc,hm,_⟩
   ·omega
   ·exact ⟨g,vc,rfl,hc,hm⟩
  have HK:=iH (Bp hnl hpn hall);unfold maxLen at hcm;have hlen:(l.length:Int)≤1000000:=by omega
  have hni:((n:Int) == -1)=false:=by simp
  have RO:=hS g rfl;clear hall hpn hi hS
  go_enter Tryz.func94,Tryz.ntmps94
  go_wp2_with fail
  refine HC.out.mono ?_;rw [HI.out];rintro e w1 ⟨rfl,hb1⟩;go_wp2
  go_loopw [5,6] (fun i j wr=>∃(a b:Nat) (m:List aG),a<b∧b≤l.length∧i=iI a∧j=iI b∧m.length=l.length∧bZ 115 5 bR wr (.slice (some ⟨g,0,none⟩) l.length vc) m S ∧
   Hid (m.take a=(l.take b).filter fun x=>!p x)∧Hid (m.drop b=l.drop b)∧w.grownBy wr (some g))
   (fun _ j _=>l.length - (intOf j).toNat)
  case atStart=>exact ⟨n,n+1,l,by omega,by omega,rfl,by go_num,rfl,h.below aF hb1,HK.out,rfl,aY hb1 _⟩
  case round =>
   obtain ⟨a,b,m,hab,hbl,rfl,rfl,hml,ho,hk1,hk2,hgr⟩:=hrel;have hws:=hgr.size;have hrd:=ho.read aF (by decide) (fun g' hg'=>by cases hg';exact RO);have hgl:g<wr.heap.size:=ho.lt g rfl;have hfz:∀j,wr.frozen? ⟨g,j,none⟩=false:=by
    obtain ⟨rows,h1,h2,h3⟩:=id ho
    rcases h2.2 with ⟨h,_⟩ | ⟨g',NN,cur,h,_,hg,_⟩
    ·simp at h
    ·simp only [Value.slice.injEq,Option.some.injEq,Addr.mk.injEq,and_true] at h
     obtain ⟨rfl,_,_⟩:=h;exact fun j=>frozen_of_row wr g j cur _ hg
   by_cases hlt:b<l.length
   ·have hmb:b<m.length:=by omega
    obtain ⟨row,hrow,hcells⟩:=ho.at aF hmb;obtain ⟨VH,Ms,xG⟩:=ho.at aF (i:=a) (by omega);have hd:=drop_at hlt hml hk2.out;have HT:Hid (p l[b]=true→m.take a=(l.take (b+1)).filter fun x=>!p x):=fun e=>Du hlt e hk1.out
    have HF:Hid (p l[b]=false→(m.set a l[b]).take (a+1)=(l.take (b+1)).filter fun x=>!p x):=fun e=>Dt hlt (by omega) e hk1.out
    have HD:Hid (m.drop (b+1)=l.drop (b+1)):=DC hk2.out;have HE:Hid ((m.set a l[b]).drop (b+1)=l.drop (b+1)):=Dv hab _ hk2.out;clear hk1 hk2;rw [hd] at hrow;clear hd;generalize l[b]=x at *;generalize m[a]=y at *;have hrow':=hrow;have HO:=iH ho;obtain ⟨rv,rfl,jd⟩:=hrow;obtain ⟨ra,wZ,rfl,-⟩:=id jd;have q0:=hcells 0 _ rfl;have q1:=hcells 1 _ rfl;have q2:=hcells 2 _ rfl;have q3:=hcells 3 _ rfl;have q4:=hcells 4 _ rfl;simp only [Nat.add_zero] at q0;have HA:=iH xG;clear hcells xG ho;obtain ⟨rva,rfl,-⟩:=Ms
    by_cases hf:p x=true
    ·have Xn:=iH (HT.out hf)
     clear HT HF HE
     go_wp2_with fail
     refine (hp _ _ _ (grownBy_alloc hgr _) (aF.sub (aF.below hrow' (aj _ _)) fun b hb _=>hb.1)).mono ?_;rw [hf];rintro e w2 ⟨rfl,hb2⟩;go_wp2
     go_roundw
     case rel=>exact ⟨a,b+1,m,by omega,by omega,rfl,by go_num,hml,HO.out.below aF (ah (aj _ _) hb2),Xn.out,HD.out,grownBy_below (grownBy_alloc hgr _) hb2⟩
     case measure=>simp [intOf];omega
    ·have hf':p x=false:=by simpa using hf
     have XK:=iH (HF.out hf');clear HT HF hf
     go_wp2_with fail
     refine (hp _ _ _ (grownBy_alloc hgr _) (aF.sub (aF.below hrow' (aj _ _)) fun b hb _=>hb.1)).mono ?_;rw [hf'];rintro e w2 ⟨rfl,hb2⟩;have hb3:=ah (aj wr _) hb2;rw [World.size_alloc] at hb2;obtain ⟨hz,jm,hzs⟩:=fresh hb2;have z0:=hz 0;have z1:=hz 1;have z2:=hz 2;have z3:=hz 3;have z4:=hz 4;have hc2:∀j,w2.cell? ⟨g,j,none⟩=wr.cell? ⟨g,j,none⟩:=fun j=>hb3.cell (p:=⟨g,j,none⟩) hgl
     have Wy:∀j,w2.frozen? ⟨g,j,none⟩=false:=fun j=>(hb3.frozen (p:=⟨g,j,none⟩) hgl).trans (hfz j)
     have p0:=(hc2 _).trans (HA.out 0 _ rfl);have p1:=(hc2 _).trans (HA.out 1 _ rfl);have p2:=(hc2 _).trans (HA.out 2 _ rfl);have p3:=(hc2 _).trans (HA.out 3 _ rfl);have p4:=(hc2 _).trans (HA.out 4 _ rfl);simp only [Nat.add_zero] at p0;clear hz jm hc2;have hal:a<l.length:=by omega
     go_wp2
     go_roundw
     case rel =>
      refine ⟨a+1,b+1,m.set a x,by omega,by omega,by go_num,by go_num,by simp [hml],?_,XK.out,HE.out,?_⟩
      ·exact (HO.out.below aF hb3).setRow aF (i:=a) (by omega) (x:=x) (cs:=[iI x.client, iI x.id, iI x.aH, iI x.last, .slice ra x.aA.length wZ]) (aF.below hrow' hb3)
      ·exact j5 (.inl rfl) [iI x.client, iI x.id, iI x.aH, iI x.last, .slice ra x.aA.length wZ] (a*5) w2 (grownBy_below hgr hb3)
     case measure=>simp [intOf];omega
   ·obtain rfl:b=l.length:=by omega
    have HM:Hid (m.take a=l.filter fun x=>!p x):=by have:=hk1.out;rwa [List.take_length] at this
    obtain ⟨cur,hg,hcs⟩:∃cur,wr.heap[g]?=some (.cells cur 115 (0,0))∧cur.size=vc*5:=by
     obtain ⟨rows,h1,h2,h3⟩:=id ho
     rcases h2.2 with ⟨h,_⟩ | ⟨g',NN,cur,h,_,hg,_,_,hs,_⟩
     ·simp at h
     ·simp only [Value.slice.injEq,Option.some.injEq,Addr.mk.injEq,and_true] at h
      obtain ⟨rfl,_,rfl⟩:=h;exact ⟨cur,hg,hs⟩
    have hcl:cur.toList.length=vc*5:=by simpa using hcs
    obtain ⟨zs,hzl,hr1⟩:=lg (P:=Tryz.prog) (ty:=0) wr Tryz.DY g (a*5) (l.length - a) (vc - a) cur hg (by rw [hcs];omega) Tryz.Lr;obtain ⟨wc,hwc⟩:∃wc,wc=wr.setRow g (splice cur.toList (a*5) zs).toArray:=⟨_,rfl⟩;rw [←hwc] at hr1;have hfin:bZ 115 5 bR wc (.slice (some ⟨g,0,none⟩) a vc) (m.take a) S∧w.grownBy wc (some g):=by
     have hgc:wc.heap[g]?=some (.cells (splice cur.toList (a*5) zs).toArray 115 (0,0)):=by rw [hwc];exact setRow_heap wr g _ _ _ _ hg
     refine ⟨ho.cut aF (by omega) ?_ (fun j hj=>?_) (fun b' _ hb' _=>by rw [hwc];exact setRow_other wr g b' _ hb'),?_⟩
     ·intro c0 E0 fz0 h0
      rw [hg] at h0;cases h0;exact ⟨_,hgc,by rw [List.size_toArray,length_splice _ _ _ (by omega)];simp⟩
     ·rw [dN hgc,dN hg,←Array.getElem?_toList,←Array.getElem?_toList]
      have:=qF cur.toList (a*5) zs (by omega);have h2:((splice cur.toList (a*5) zs).take (a*5+zs.length))[j]?=(cur.toList.take (a*5)++zs)[j]?:=by rw [this]
      rw [List.getElem?_take_of_lt (by omega),List.getElem?_append_left (by rw [List.length_take];omega),List.getElem?_take_of_lt (by omega)] at h2;exact h2
     ·rw [hwc];exact grownBy_trans hgr ⟨rfl,rfl,rfl,by simp [World.setRow],fun k _ hk=>setRow_other wr g k _ (fun e=>hk (by rw [e]))⟩
    have HF:=iH hfin;clear hfin hg hcs hcl hwc hk1 hk2 ho hrd hfz;have hal:a≤l.length:=by omega
    have WN:a≤vc:=by omega
    have hne:¬ vc=a:=by omega
    go_wp2_with (at_builtin;refine eU rfl (.tmp 38) _ rfl _ rfl hr1 ?_)
    go_ret;exact ⟨_,rfl,by rw [←HM.out];exact HF.out.1,HF.out.2,rfl⟩
theorem Ex (w:World) (x:aG) (rv:Value) (jd:rv.oneCell'=true) (B:Nat) (index:Int) (hi:0≤index∧index≤1073741824) (hB:B<w.heap.size) (hc:w.cell? ⟨B,0,none⟩=some (iI index)) :
 Calls Tryz.prog 95 #[.agg #[iI x.client, iI x.id, iI x.aH, iI x.last,rv], iP B 0] w fun e w'=>e=.returned (.bool (yP index x))∧Below w.heap.size w w':=by
 have hw:IntKind.i64.wrap (index+1)=index+1:=IntWalk.i64_in _ (by omega)
 go_enter Tryz.func95,Tryz.ntmps95
 go_wp2;go_ret;exact ⟨rfl,iB.alloc (Nat.le_refl _) _⟩
theorem Gh (l:List aG) (index:Int) (v:Value) (S:Nat→Prop) (w:World) (h:aZ 5 bR w v l S) :
 Calls Tryz.prog 59 #[v, iI index] w fun e w'=>∃v',e=.returned (.tuple #[v', iI (kI l index).2]) ∧
  aZ 5 bR w' v' (kI l index).1 (fun b=>w.heap.size≤b)∧Below w.heap.size w w':=by
 by_cases he:bC l index=0
 case neg =>
  have HJ:=iH (show kI l index=([],bC l index) by rw [kI,if_pos he]);have he':(bC l index != 0)=true:=by simpa using he
  clear he
  go_enter Tryz.func59,Tryz.ntmps59
  go_wp2_with fail
  refine (eH l index v S _ (h.below aF (by decide) (aj w _))).mono ?_;rintro e w1 ⟨rfl,hb1⟩;go_wp2
  go_ret2
  exact ⟨_,qg rfl (by rw [HJ.out];rfl),by rw [HJ.out];exact aZ.nil _ _,ah (aj w _) hb1⟩
 have HJ:=iH (show kI l index=(l.filter (fun x=>!yP index x),0) by rw [kI,if_neg (by simpa using he)]);have he':(bC l index != 0)=false:=by simpa using he
 have hok:=fA.1 he;have hin:∀x∈l,x.aA.length≤1000000:=fun x hx=>by have:=iA (hok.rep x hx);omega
 have hl4:=hok.len;have hidx:=hok.idx;have HN:=iH hin;clear he hin hok
 go_enter Tryz.func59,Tryz.ntmps59
 go_wp2_with fail
 refine (eH l index v S _ (h.below aF (by decide) (aj w _))).mono ?_;rintro e w1 ⟨rfl,hb1⟩
 go_wp2_with fail
 refine (iF _ v l S (h.below aF (by decide) (ah (aj w _) hb1)) (by omega) HN.out).mono ?_;rintro e w2 ⟨v2,rfl,ho2,hb2,hv2⟩;have hb2':=ah hb1 hb2;have hs1:=hb1.size;rw [World.size_alloc] at hb2' hs1;obtain ⟨hz,jm,hzs⟩:=Tk.fresh hb2';have z0:=hz 0;clear hz jm;have hin:=fun args w=>MuLone.run_callFunc_enter Tryz.func95 (by kernel_rfl) rfl args w
 have hp:rW w2 v2.ownBlock (fun b=>w1.heap.size≤b) 95 (iP (w.heap.size) 0) (yP index):=fun w' x rv hg hr=>by
  have hbl:w'.heap[w.heap.size]?=w2.heap[w.heap.size]?:=hg.block _ hzs (fun e=>by have:=hv2 _ e.symm;omega);exact Ex w' x rv (by obtain ⟨v,e,a,c,hv,_⟩:=hr;cases e;rw [hv];rfl) w.heap.size index hidx (by have:=hg.size;omega) ((World.cell?_of_block hbl).trans z0)
 have HD:=iH (uC w2 v2 l _ ((ho2.own (dX _)).map fun _ _ _ _ hr=>hr.read) hv2 (by omega) 95 (iP (w.heap.size) 0) (yP index) hin hp);clear hp hin z0
 go_wp2_with fail
 refine HD.out.mono ?_;rintro e w3 ⟨v3,rfl,ho3,hg3,hv3⟩;go_wp2
 go_ret2
 have hb3:Below w.heap.size w w3:=(ah (aj w _) (ah hb1 hb2)).grown hg3 (by have:=hb2.size;omega) (fun k hk=>by have:=hv2 k hk;omega);refine ⟨_,qg rfl (by rw [HJ.out];rfl),?_,hb3⟩;rw [HJ.out];exact (ho3.read aF (by decide) (fun g hg=>hv2 g (by rw [←hv3];exact hg))).sub aF (by decide) fun b hb _=>by show _≤_;omega
end Go.Proofs.YtbngpjdflblffaaGreatDoor
