/- A part of the proof, laid together from: SnapF, CmdE, CmdB. -/
import Derived.Test.YtbngpjdflblffaaGreatDoorPa19
set_option linter.all false
set_option maxRecDepth 100000
set_option maxHeartbeats 6400000
namespace Go.Tk
open Go Go.RowKit
theorem NT {w:World} {x y:Int} {E:Nat} (a b:UInt8) (ha:(a.toNat:Int)=x) (hb:(b.toNat:Int)=y) :
 aZ 1 xh (w.alloc (.cells #[.int .u8 x, .int .u8 y] E)) (.slice (some ⟨w.heap.size,0,none⟩) 2 2) [a,b] (fun _=>True):=by
 subst ha hb;refine ⟨_,2,rfl,Nat.le_refl 2,by decide,(fun h=>by cases h),fun i c hi=>?_⟩
 rcases i with _ | _ | i
 ·simp at hi;subst hi
  refine ⟨_,_,[.int .u8 a.toNat],rfl,trivial,rfl,fun j u hu=>?_⟩
  rcases j with _ | j
  ·simp at hu;subst hu;exact World.cell?_alloc_at _ _ _ _ rfl
  ·simp at hu
 ·simp at hi;subst hi
  refine ⟨_,_,[.int .u8 b.toNat],rfl,trivial,rfl,fun j u hu=>?_⟩
  rcases j with _ | j
  ·simp at hu;subst hu;exact World.cell?_alloc_at _ _ _ _ rfl
  ·simp at hu
 ·simp at hi
def nums (c:aQ):List Int:=[c.session,c.seq,c.aH,c.op.kind,c.op.n]
def words (c:aQ):List (List UInt8):=[c.op.a,c.op.b]
def um (c:aQ) (k:Nat):List UInt8:=((nums c).take k).flatMap fun n=>(number n).1
def pJ (c:aQ) (k:Nat):List UInt8:=((words c).take k).flatMap fun s=>(text s).1
theorem Bg (c:aQ) (k:Nat) (h:k<5):um c (k+1)=um c k++(number ((nums c).getD k 0)).1:=by
 rw [um,um,List.take_succ_eq_append_getElem (by exact h),List.flatMap_append];rw [List.getD,List.getElem?_eq_getElem (show k<(nums c).length from h)];simp;rfl
theorem yZ (c:aQ) (k:Nat) (h:k<2):pJ c (k+1)=pJ c k++(text ((words c).getD k [])).1:=by
 rw [pJ,pJ,List.take_succ_eq_append_getElem (by exact h),List.flatMap_append];rw [List.getD,List.getElem?_eq_getElem (show k<(words c).length from h)];simp;rfl
theorem yA (c:aQ):∀k,k≤5→(um c k).length≤7*k
 | 0,_=>by simp [um]
 | k+1,h=>by
   have:=yA c k (by omega);have h2:=jy ((nums c).getD k 0);rw [Bg c k (by omega),List.length_append];omega
theorem EZ (s:List UInt8):(text s).1.length≤5007:=by
 by_cases h:s.length≤5000
 ·have:=wT s h;omega
 ·rw [text,if_pos (by omega)];simp
theorem Au (c:aQ):∀k,k≤2→(pJ c k).length≤5007*k
 | 0,_=>by simp [pJ]
 | k+1,h=>by
   have:=Au c k (by omega);have h2:=EZ ((words c).getD k []);rw [yZ c k (by omega),List.length_append];omega
theorem Kn (c:aQ) (k:Nat) (h:k<5):(#[iI c.session, iI c.seq, iI c.aH, iI c.op.kind, iI c.op.n])[k]?=some (iI ((nums c).getD k 0)):=by
 rcases (show k=0∨k=1∨k=2∨k=3∨k=4 by omega) with rfl | rfl | rfl | rfl | rfl<;>rfl
theorem GY (c:aQ) (k:Nat) (h:k<2):(#[iS c.op.a, iS c.op.b])[k]?=some (.string ⟨((words c).getD k []).toArray⟩):=by
 rcases (show k=0∨k=1 by omega) with rfl | rfl<;>rfl
theorem IG (c:aQ):um c 5++pJ c 2=mI c:=by simp [um,pJ,nums,words,mI]
def jR (c:aQ):List Value:=[iI c.kind, iI c.client, iI c.session, iI c.seq, iI c.aH, iI c.op.kind, iS c.op.a, iS c.op.b, iI c.op.n]
def mK (w:World) (b:Nat) (c:aQ):Prop:=(∀(j:Nat) (u:Value),(jR c)[j]?=some u→w.cell? ⟨b,j,none⟩=some u)∧∀j,w.frozen? ⟨b,j,none⟩=false
theorem mK.of {w:World} {b:Nat} {c:aQ} {A:Array Value} (hA:A=(jR c).toArray) (h1:∀i,w.cell? ⟨b,i,none⟩=A[i]?) (h2:∀i,w.frozen? ⟨b,i,none⟩=false):mK w b c :=
 ⟨fun j u hu=>by rw [h1,hA];simpa using hu,h2⟩
theorem mK.keep {w w':World} {b:Nat} {c:aQ} (h:mK w b c) (hb:w'.heap[b]?=w.heap[b]?):mK w' b c :=
 ⟨fun j u hu=>aB (h.1 j u hu) hb,fun j=>(World.frozen?_of_block (a:=⟨b,j,none⟩) hb).trans (h.2 j)⟩
theorem mK.lt {w:World} {b:Nat} {c:aQ} (h:mK w b c):b<w.heap.size:=World.block_lt_of_cell? w _ (h.1 0 _ rfl)
theorem mK.set {w:World} {b:Nat} {c c':aQ} (h:mK w b c) (i:Nat) (hi:i<9) (u:Value) (hc:jR c'=(jR c).set i u):mK (w.setCell ⟨b,i,none⟩ u) b c':=by
 refine ⟨fun j v hv=>?_,fun j=>(World.frozen?_setCell _ _ _ _).trans (h.2 j)⟩;rw [hc] at hv
 by_cases hij:i=j
 ·subst hij
  rw [List.getElem?_set_self (by exact hi)] at hv;cases hv;exact World.cell?_setCell_same w ⟨b,i,none⟩ u (h.1 i _ (List.getElem?_eq_getElem (by exact hi)))
 ·rw [List.getElem?_set_ne hij] at hv
  exact (bK hij).trans (h.1 j v hv)
def jY (s:List UInt8):Nat→List UInt8
 | 0=>s
 | k+1=>(aL (jY s k)).2.1
def uH (s:List UInt8) (k:Nat):Int:=(aL (jY s k)).1
def sN (s:List UInt8) (k:Nat):Int:=(aL (jY s k)).2.2
def Gq (c:aQ) (s:List UInt8):Nat→aQ
 | 0=>c
 | 1=>⟨c.kind,c.client,uH s 0,c.seq,c.aH,c.op⟩
 | 2=>⟨c.kind,c.client,uH s 0,uH s 1,c.aH,c.op⟩
 | 3=>⟨c.kind,c.client,uH s 0,uH s 1,uH s 2,c.op⟩
 | 4=>⟨c.kind,c.client,uH s 0,uH s 1,uH s 2,⟨uH s 3,c.op.a,c.op.b,c.op.n⟩⟩
 | _=>⟨c.kind,c.client,uH s 0,uH s 1,uH s 2,⟨uH s 3,c.op.a,c.op.b,uH s 4⟩⟩
def Cz:Nat→Nat
 | 0=>2
 | 1=>3
 | 2=>4
 | 3=>5
 | _=>8
theorem KU (c:aQ) (s:List UInt8) (k:Nat) (h:k<5):jR (Gq c s (k+1))=(jR (Gq c s k)).set (Cz k) (iI (uH s k)):=by
 rcases (show k=0∨k=1∨k=2∨k=3∨k=4 by omega) with rfl | rfl | rfl | rfl | rfl<;>rfl
theorem Jr (k:Nat):Cz k<9:=by
 unfold Cz;split<;>omega
def nM (s:List UInt8):Nat→List UInt8
 | 0=>s
 | k+1=>(dn (nM s k)).2.1
def E8 (s:List UInt8) (k:Nat):List UInt8:=(dn (nM s k)).1
def zJ (s:List UInt8) (k:Nat):Int:=(dn (nM s k)).2.2
def J4 (c:aQ) (s:List UInt8):Nat→aQ
 | 0=>c
 | 1=>⟨c.kind,c.client,c.session,c.seq,c.aH,⟨c.op.kind,E8 s 0,c.op.b,c.op.n⟩⟩
 | _=>⟨c.kind,c.client,c.session,c.seq,c.aH,⟨c.op.kind,E8 s 0,E8 s 1,c.op.n⟩⟩
theorem J3 (c:aQ) (s:List UInt8) (k:Nat) (h:k<2):jR (J4 c s (k+1))=(jR (J4 c s k)).set (6+k) (.string ⟨(E8 s k).toArray⟩):=by
 rcases (show k=0∨k=1 by omega) with rfl | rfl<;>rfl
theorem fQ {α:Type} {s:List UInt8} {fail:Int→α} {k:Int→List UInt8→α} (h:(aL s).2.2=0):mV s fail k=k (aL s).1 (aL s).2.1:=by rw [mV,if_neg (by simp [h])]
theorem oz {α:Type} {s:List UInt8} {fail:Int→α} {k:Int→List UInt8→α} (h:(aL s).2.2≠0):mV s fail k=fail (aL s).2.2:=by rw [mV,if_pos h]
theorem tX {α:Type} {s:List UInt8} {fail:Int→α} {k:List UInt8→List UInt8→α} (h:(dn s).2.2=0):lV s fail k=k (dn s).1 (dn s).2.1:=by rw [lV,if_neg (by simp [h])]
theorem wS {α:Type} {s:List UInt8} {fail:Int→α} {k:List UInt8→List UInt8→α} (h:(dn s).2.2≠0):lV s fail k=fail (dn s).2.2:=by rw [lV,if_pos h]
theorem M4 (c:aQ) (s:List UInt8) (k:Nat) (hk:k<5) (h0:∀j,j<k→sN s j=0) (h:sN s k≠0):iM c s=(bL,[],sN s k):=by
 unfold iM
 rcases (show k=0∨k=1∨k=2∨k=3∨k=4 by omega) with rfl | rfl | rfl | rfl | rfl
 ·have e:=h;simp only [sN,jY] at e
  rw [oz e];simp only [sN,jY]
 ·have e0:=h0 0 (by omega);have e:=h;simp only [sN,jY] at e0 e
  rw [fQ e0,oz e];simp only [sN,jY]
 ·have e0:=h0 0 (by omega);have e1:=h0 1 (by omega);have e:=h;simp only [sN,jY] at e0 e1 e
  rw [fQ e0,fQ e1,oz e];simp only [sN,jY]
 ·have e0:=h0 0 (by omega);have e1:=h0 1 (by omega);have e2:=h0 2 (by omega);have e:=h;simp only [sN,jY] at e0 e1 e2 e
  rw [fQ e0,fQ e1,fQ e2,oz e];simp only [sN,jY]
 ·have e0:=h0 0 (by omega);have e1:=h0 1 (by omega);have e2:=h0 2 (by omega);have e3:=h0 3 (by omega);have e:=h;simp only [sN,jY] at e0 e1 e2 e3 e
  rw [fQ e0,fQ e1,fQ e2,fQ e3,oz e];simp only [sN,jY]
def DK (c:aQ) (s:List UInt8):aQ×List UInt8×Int :=
 lV s (fun e=>(bL,[],e)) fun y1 s=>lV s (fun e=>(bL,[],e)) fun y2 s=>(⟨c.kind,c.client,c.session,c.seq,c.aH,⟨c.op.kind,y1,y2,c.op.n⟩⟩,s,0)
theorem KQ (c:aQ) (s:List UInt8) (h0:∀j,j<5→sN s j=0):iM c s=DK (Gq c s 5) (jY s 5):=by
 unfold iM DK;have e0:=h0 0 (by omega);have e1:=h0 1 (by omega);have e2:=h0 2 (by omega);have e3:=h0 3 (by omega);have e4:=h0 4 (by omega);simp only [sN,jY] at e0 e1 e2 e3 e4;rw [fQ e0,fQ e1,fQ e2,fQ e3,fQ e4];simp only [Gq,jY,uH]
theorem KS (c:aQ) (s:List UInt8) (k:Nat) (hk:k<2) (h0:∀j,j<k→zJ s j=0) (h:zJ s k≠0):DK c s=(bL,[],zJ s k):=by
 unfold DK
 rcases (show k=0∨k=1 by omega) with rfl | rfl
 ·have e:=h;simp only [zJ,nM] at e
  rw [wS e];simp only [zJ,nM]
 ·have e0:=h0 0 (by omega);have e:=h;simp only [zJ,nM] at e0 e
  rw [tX e0,wS e];simp only [zJ,nM]
theorem M5 (c:aQ) (s:List UInt8) (h0:∀j,j<2→zJ s j=0):DK c s=(J4 c s 2,nM s 2,0):=by
 unfold DK;have e0:=h0 0 (by omega);have e1:=h0 1 (by omega);simp only [zJ,nM] at e0 e1;rw [tX e0,tX e1];simp only [J4,nM,E8]
theorem Dl (s:List UInt8):∀f k m,(uh s f k m).2.1.length≤s.length
 | 0,k,m=>by simp [uh]
 | f+1,k,m=>by
   rw [uh]
   split
   ·split
    ·exact Dl s f _ _
    ·split
     ·simp
     ·simp
   ·simp
theorem sO (s:List UInt8):(aL s).2.1.length≤s.length:=Dl s 6 0 0
theorem Cy (s:List UInt8):(dn s).2.1.length≤s.length:=by
 have:=sO s;rw [dn]
 split
 ·simp
 ·split
  ·simp
  ·split
   ·simp
   ·simp;omega
theorem yT (s:List UInt8):∀k,(jY s k).length≤s.length
 | 0=>Nat.le_refl _
 | k+1=>Nat.le_trans (sO _) (yT s k)
theorem De (s:List UInt8):∀k,(nM s k).length≤s.length
 | 0=>Nat.le_refl _
 | k+1=>Nat.le_trans (Cy _) (De s k)
def OU (w:World) (b:Nat) (res:aQ×List UInt8×Int) (e:Ending) (w':World):Prop :=
 e=.returned (.tuple #[iS res.2.1, iI res.2.2])∧w.grownBy w' (some b)∧∃c',mK w' b c'∧(res.2.2=0→c'=res.1)
def TY (w:World) (p b:Nat):Prop:=∀j,j<5→w.cell? ⟨p,j,none⟩=some (.pointer (some ⟨b,Cz j,none⟩))
def TW (w:World) (p b:Nat):Prop:=∀j,j<2→w.cell? ⟨p,j,none⟩=some (.pointer (some ⟨b,6+j,none⟩))
end Go.Tk
namespace Go.Proofs.YtbngpjdflblffaaGreatDoor
open Go.RowKit Go.Tk
theorem sV (s:bf) (hok:mO s) (w:World):Calls Tryz.prog 14 #[.string ⟨(bn s++jI (bn s)).toArray⟩] w fun e w'=>∃vl vp vs,e=.returned (.tuple #[.agg #[iI s.index,vl,vp,vs], iI 0])∧fT w' s vl vp vs (fun b=>w.heap.size≤b)∧Below w.heap.size w w':=by
 obtain ⟨k,hkk⟩:∃k,(bn s).length=k:=⟨_,rfl⟩;have GI:=iH (show (bn s++jI (bn s)).take k=bn s by rw [←hkk];simp);have hk:(bn s++jI (bn s)).length=k+4:=by rw [List.length_append,Fh,hkk]
 have hl:(bn s++jI (bn s)).length≤5000:=by have:=sI hok;omega
 have Ui:=iH (show (jI ((bn s++jI (bn s)).take k) == ((bn s++jI (bn s)).take (k+4)).drop k)=true by
  rw [List.take_of_length_le (l:=bn s++jI (bn s)) (i:=k+4) (by omega),GI.out,←hkk];simp)
 have gG:=iH hok;clear hkk hok;generalize bn s++jI (bn s)=b at *
 go_enter Tryz.func14,Tryz.ntmps14
 go_upto_region 1 with (fail);have HZ:=iH (aD.new (w:=w) (cs:=[iI 0, iN, iN, iN]) (E:=27));have HB:=iH (aj w (.cells #[iI 0, iN, iN, iN] 27));generalize w.alloc (.cells #[iI 0, iN, iN, iN] 27)=w1 at *;go_upto_region 6 with (fail);have hk1:(b.length:Int) - 4=(k:Int):=by omega
 refine bH 8 (fun wx=>Below w1.heap.size w1 wx) (fun wx wy=>Below wx.heap.size wx wy) [aW (iS b),aW (iI (k:Int)),aW (.string ⟨(b.take k).toArray⟩),aW (.string ⟨(jI (b.take k)).toArray⟩),aW (iS b),aW (iI (k:Int)),aW (.string ⟨((b.take (k+4)).drop k).toArray⟩),aW (.bool false)] (by kernel_rfl) (by kernel_rfl) rfl ?hJ ?jP ?hst ?ek ?hend
 case hJ=>exact Below.drew iB
 case jP =>
  exact fun wx wy h1 h2=>ah h1 h2
 case hst=>exact bX _ ⟨ax _,ax _,ax _,ax _,ax _,ax _,ax _,ax _,trivial⟩
 case ek =>
  simp only [dY,aJ,Act.put,Nat.reduceAdd,Nat.zero_add,pS];refine ⟨?_,?_,?_,?_,?_,?_,?_,?_,trivial⟩
  all_goals
   intro vs wx hJ hn K hK;simp [dA,mJ,aW,Region.binds] at hn;simp only [mJ,aW,Act.put,Nat.reduceAdd,Nat.zero_add,pS] at hK
  ·go_wp2
   exact hK _ _ iB rfl
  ·go_wp2
   exact hK _ _ iB rfl
  ·simp only [hn] at hK⊢
   go_wp2;exact hK _ _ iB rfl
  ·simp only [hn] at hK⊢
   go_wp2_with fail
   refine (AU (b.take k) (by rw [List.length_take];omega) _).mono ?_;rintro e w8 ⟨rfl,ET⟩;go_wp2;exact hK _ _ ET rfl
  ·go_wp2
   exact hK _ _ iB rfl
  ·go_wp2
   exact hK _ _ iB rfl
  ·simp only [hn] at hK⊢
   go_wp2;exact hK _ _ iB rfl
  ·simp only [hn] at hK⊢
   have hne:=Ui.out;generalize jI (b.take k)=x0 at *;generalize (b.take (k+4)).drop k=x1 at *;go_wp2;exact hK _ _ iB rfl
 case hend =>
  intro vs wx hJ hv;simp [eF,aW] at hv;obtain ⟨e0,e1,e2,e3,e4,e5,e6,e7⟩:=hv;simp only [aJ,Act.put,Nat.reduceAdd,Nat.zero_add,pS];rw [e0,e1,e2,e3,e4,e5,e6,e7];clear e0 e1 e2 e3 e4 e5 e6 e7;have HZ:=iH (HZ.out.below hJ);have HB:=iH (ah HB.out hJ);clear hJ
  rename World=>w2
  have HR:=iH (aD.new (w:=w2) (cs:=[.string ⟨(b.take k).toArray⟩, iI 0]) (E:=121));have hba:=aj w2 (.cells #[.string ⟨(b.take k).toArray⟩, iI 0] 121);have hz2:=HZ.out.lt;have hB2:=HB.out.size;replace HZ:=iH (HZ.out.below hba);replace HB:=iH (ah HB.out hba);clear hba;go_upto_region 9 with (fail);generalize w2.alloc (.cells #[.string ⟨(b.take k).toArray⟩, iI 0] 121)=w3 at *;obtain ⟨R,hRe⟩:∃R,w2.heap.size=R:=⟨_,rfl⟩;rw [hRe] at HR hz2 hB2⊢;clear hRe;have hr0:=HR.out;rw [GI.out,←List.append_nil (bn s)] at hr0;have HST:=iH (Eb s gG.out [] R w3 hr0 (by rw [List.append_nil];have:=sI gG.out;omega));clear hr0
  go_wp2_with fail
  refine HST.out.mono ?_;rintro e w4 ⟨vl,vp,vs,rfl,hst,hr4,hg4⟩;obtain ⟨a1,c1,rfl,-,-,-,-⟩:=id hst.lock;obtain ⟨a2,c2,rfl,-,-,-,-⟩:=id hst.pair;obtain ⟨a3,c3,rfl,-,-,-,-⟩:=id hst.dG;replace HZ:=iH (HZ.out.grown hg4 (fun e=>by have:=Option.some.inj e;omega));replace HB:=iH (HB.out.grown hg4 HB.out.size (fun q e=>by have:=Option.some.inj e;omega));have HX:=iH (aD.new (w:=w4) (cs:=[iI s.index, .slice a1 s.au.length c1, .slice a2 s.pairs.length c2, .slice a3 s.af.length c3]) (E:=27));have hba:=aj w4 (.cells #[iI s.index, .slice a1 s.au.length c1, .slice a2 s.pairs.length c2, .slice a3 s.af.length c3] 27);replace HZ:=iH (HZ.out.below hba);replace HB:=iH (ah HB.out hba);have HRX:=iH (hr4.below hba);have HS:=iH ((hst.sub (S':=fun b=>w.heap.size+1≤b) (fun b hb _=>by show _≤_;have:w3.heap.size≤b:=hb;have:=HR.out.lt;omega)).below hba);clear hba hst hr4 hg4 HST HR;go_upto_region 10 with (fail);generalize w4.alloc (.cells #[iI s.index, .slice a1 s.au.length c1, .slice a2 s.pairs.length c2, .slice a3 s.af.length c3] 27)=w5 at *;generalize w4.heap.size=X at *;obtain ⟨r0,r1⟩:=qw HRX.out;obtain ⟨x0,x1,x2,x3⟩:=dJ HX.out
  go_wp2_with fail
  refine (oh s _ _ _ _ w5 HS.out gG.out.fits).mono ?_;rw [pY.2 gG.out];rintro e w6 ⟨rfl,hb6⟩;clear r0 r1 x0 x1 x2 x3;replace HZ:=iH (HZ.out.below hb6);replace HB:=iH (ah HB.out hb6);replace HX:=iH (HX.out.below hb6);replace HS:=iH (HS.out.below hb6);obtain ⟨x0,x1,x2,x3⟩:=dJ HX.out;obtain ⟨z0,z1,z2,z3⟩:=dJ HZ.out;obtain ⟨t0,t1,t2,t3⟩:=nH HZ.out;have HF:=iH ((((HZ.out.set 0 (by simp) (iI s.index)).set 1 (by simp) (.slice a1 s.au.length c1)).set 2 (by simp) (.slice a2 s.pairs.length c2)).set 3 (by simp) (.slice a3 s.af.length c3));have mP:=iH (ay (ay (ay (ay HB.out (Nat.le_refl _) 0 (iI s.index)) (Nat.le_refl _) 1 (.slice a1 s.au.length c1)) (Nat.le_refl _) 2 (.slice a2 s.pairs.length c2)) (Nat.le_refl _) 3 (.slice a3 s.af.length c3));have OY:=iH (HS.out.move (w':=((((w6.setCell ⟨w.heap.size,0,none⟩ (iI s.index)).setCell ⟨w.heap.size,1,none⟩ (.slice a1 s.au.length c1)).setCell ⟨w.heap.size,2,none⟩ (.slice a2 s.pairs.length c2)).setCell ⟨w.heap.size,3,none⟩ (.slice a3 s.af.length c3))) (S':=fun b=>w.heap.size≤b) fun q hq _=>⟨(aC (by omega)).trans ((aC (by omega)).trans ((aC (by omega)).trans (aC (by omega)))),by show _≤_;have:w.heap.size+1≤q:=hq;omega⟩);go_wp2
  generalize ((((w6.setCell ⟨w.heap.size,0,none⟩ (iI s.index)).setCell ⟨w.heap.size,1,none⟩ (.slice a1 s.au.length c1)).setCell ⟨w.heap.size,2,none⟩ (.slice a2 s.pairs.length c2)).setCell ⟨w.heap.size,3,none⟩ (.slice a3 s.af.length c3))=wf at *;obtain ⟨g0,g1,g2,g3⟩:=dJ HF.out;refine bodyPost_ret (v:=.tuple #[.agg #[iI s.index, .slice a1 s.au.length c1, .slice a2 s.pairs.length c2, .slice a3 s.af.length c3], iI 0]) (by simp [results,Tryz.results14,go_sem,g0,g1,g2,g3]) rfl ⟨_,_,_,rfl,OY.out,mP.out⟩
theorem xK (c:aQ) (w:World) (hw:∀s∈words c,s.length≤1000000) :
 Calls Tryz.prog 41 #[dR c] w fun e w'=>e=.returned (.tuple #[.string ⟨(ig c).1.toArray⟩, iI (ig c).2])∧Below w.heap.size w w':=by
 have HW:=iH hw;clear hw
 by_cases hok:dx c=0
 case neg =>
  have HV:=iH (show ig c=([],dx c) by rw [ig,if_pos hok]);have hb:(dx c != 0)=true:=by simpa using hok
  clear hok
  show Calls _ _ #[.agg #[_,_,_,_,_,_,_,_,_]] _ _
  go_enter Tryz.func41,Tryz.ntmps41
  go_wp2_with fail
  refine (ql c _).mono ?_;rintro e w2 ⟨rfl,hb2⟩;go_wp2
  go_ret2
  exact ⟨by rw [HV.out];rfl,ah (aj w _) hb2⟩
 have hb:(dx c != 0)=false:=by simpa using hok
 have hk:=oG.1 hok;have HE:=iH (encode_eq hk);have HC:=iH (hk.bounds);have hkk:=hk.bounds.1;have hcc:=hk.bounds.2;clear hok hk;obtain ⟨x1,hx1,hk1⟩:∃x:UInt8,x=UInt8.ofNat c.kind.toNat∧(x.toNat:Int)=c.kind:=⟨_,rfl,toUInt8_val _ (by omega) (by omega)⟩;obtain ⟨x2,hx2,hk2⟩:∃x:UInt8,x=UInt8.ofNat c.client.toNat∧(x.toNat:Int)=c.client:=⟨_,rfl,toUInt8_val _ (by omega) (by omega)⟩;have HE2:Hid (ig c=(x1::x2::qU c,0)):=by rw [hx1,hx2];exact HE.out
 have R7:=iH hk1;have Rp:=iH hk2;clear hk1 hk2 hx1 hx2 HE
 show Calls _ _ #[.agg #[_,_,_,_,_,_,_,_,_]] _ _
 go_enter Tryz.func41,Tryz.ntmps41
 go_wp2_with fail
 refine (ql c _).mono ?_;rintro e w2 ⟨rfl,hb2⟩;have hb2':=hb2;rw [World.size_alloc] at hb2';obtain ⟨hz,-,hzs⟩:=Tk.fresh hb2';have DV:=iH (ah (aj w _) hb2);clear hb2 hb2';have HZ:=iH hz;have z0:=hz 0;have z1:=hz 1;clear hz;have hcv:=lN (P:=Tryz.prog) Tryz.underlying39 Tryz.underlying5 Tryz.underlying9 (NT (w:=w2) (E:=5) x1 x2 R7.out Rp.out)
 by_cases h2:c.kind=2
 case neg =>
  have U4:(c.kind != 2)=true:=by simpa using h2
  have HF:=iH (HE2.out.trans (show _=([x1,x2],(0:Int)) by rw [qU,if_neg h2]));clear h2;go_wp2
  go_ret2
  exact ⟨by rw [HF.out];rfl,DV.out.alloc (by have:=DV.out.size;omega) _⟩
 have U4:(c.kind != 2)=false:=by simpa using h2
 have HF:=iH (HE2.out.trans (show _=(x1::x2::(um c 5++pJ c 2),(0:Int)) by rw [qU,if_pos h2,IG]));clear h2 HE2;have z2:=HZ.out 2;have z3:=HZ.out 3;have z4:=HZ.out 4;have z5:=HZ.out 5;have z8:=HZ.out 8;go_wp2;clear z0 z1 z2 z3 z4 z5 z8 hcv;have hs2:=DV.out.size
 go_loopw [5,7,8,9,45] (fun s _ _ _ i wr=>∃k:Nat,k≤5∧i=iI k∧s=.string ⟨(x1::x2::um c k).toArray⟩∧Hid (Below (w2.heap.size+2) ((w2.alloc (.cells #[.int .u8 c.kind, .int .u8 c.client] 5)).alloc (.cells #[iI c.session, iI c.seq, iI c.aH, iI c.op.kind, iI c.op.n] 3)) wr))
  (fun _ _ _ _ i _=>5 - (intOf i).toNat)
 case atStart=>trace_state;exact ⟨0,by omega,rfl,rfl,iB⟩
 case round =>
  obtain ⟨k,hk,rfl,rfl,hb3⟩:=hrel;obtain ⟨-,-,hy,-,Et⟩:=ic hb3.out
  by_cases hlt:k<5
  ·have hq:=(hy k).trans (Kn c k hlt)
   have HS:=iH (Bg c k hlt);clear hy;have hl1:=yA c k hk;generalize (nums c).getD k 0=n at hq HS;have hl2:=jy n
   go_wp2_with fail
   refine (sw n _).mono ?_;rintro e w4 ⟨rfl,hb4⟩;go_wp2
   go_roundw
   case rel=>exact ⟨k+1,by omega,by go_num,by rw [HS.out]<;>first | rfl | simp,hb3.out.trans (hb4.mono (by omega))⟩
   case measure=>simp [intOf];omega
  ·obtain rfl:k=5:=by omega
   clear hy;have Pe:Hid (Below w.heap.size w wr):=ah DV.out ((below_alloc2 w2 _ _).trans (hb3.out.mono (by omega)));have hk0:=aB (HZ.out 6) ((hb3.out.block w.heap.size (by omega)).trans ((Below.heap_alloc _ _ w.heap.size (by simp;omega)).trans (Below.heap_alloc _ _ w.heap.size (by omega))));have hk1:=aB (HZ.out 7) ((hb3.out.block w.heap.size (by omega)).trans ((Below.heap_alloc _ _ w.heap.size (by simp;omega)).trans (Below.heap_alloc _ _ w.heap.size (by omega))));have hl1:=yA c 5 hk;clear Et HC R7 Rp
   rename World=>w1
   go_wp2;have hw3:=hb3.out.size;simp only [World.size_alloc] at hw3
   go_loopw [5,11,12,13,66] (fun s _ _ _ i wq=>∃k:Nat,k≤2∧i=iI k∧s=.string ⟨(x1::x2::(um c 5++pJ c k)).toArray⟩∧Hid (Below (w1.heap.size+1) (w1.alloc (.cells #[iS c.op.a, iS c.op.b] 9)) wq))
    (fun _ _ _ _ i _=>2 - (intOf i).toNat)
   case atStart=>exact ⟨0,by omega,rfl,by simp [pJ],iB⟩
   case round =>
    obtain ⟨k,hk,rfl,rfl,hb4⟩:=hrel;obtain ⟨hy,-,Og⟩:=Tk.fresh hb4.out
    by_cases hlt:k<2
    ·have hq:=(hy k).trans (GY c k hlt)
     have HS:=iH (yZ c k hlt);have hwl:((words c).getD k []).length≤9223372036854775807:=by have:=HW.out _ (kC (words c) k [] hlt);omega
     clear hy;have hl3:=Au c k hk;generalize (words c).getD k []=n at hq HS hwl;have hl4:=EZ n
     go_wp2_with fail
     refine (AQ n hwl _).mono ?_;rintro e w4 ⟨rfl,hb5⟩;go_wp2
     go_roundw
     case rel=>(repeat apply Exists.intro);exact ⟨⟨k+1,by omega,by go_num,by rw [HS.out]<;>first | rfl | simp,hb4.out.trans (hb5.mono (by omega))⟩,rfl⟩
     case measure=>simp [intOf];omega
    ·obtain rfl:k=2:=by omega
     clear hy;go_wp2
     go_ret2
     exact ⟨by rw [HF.out];exact qg rfl rfl,ah Pe.out ((aj w1 _).trans (hb4.out.mono (by omega)))⟩
theorem IQ (c:aQ) (s:List UInt8) (b:Nat) (w:World) (h:mK w b c) (hs:s.length≤1000000) :
 Calls Tryz.prog 66 #[iP b 0, iS s] w (OU w b (iM c s)):=by
 have hlt:=h.lt;have HC:=iH h;clear h
 go_enter Tryz.func66,Tryz.ntmps66
 go_wp2;go_region;go_wp2
 go_loopw [1,7,8,31] (fun t _ _ i wr=>∃k:Nat,k≤5∧i=iI k∧t=.string ⟨(jY s k).toArray⟩∧Hid (∀j,j<k→sN s j=0)∧Hid (mK wr b (Gq c s k))∧Hid (TY wr w.heap.size b)∧Hid (w.grownBy wr (some b))∧w.heap.size<wr.heap.size)
  (fun _ _ _ i _=>5 - (intOf i).toNat)
 case atStart =>
  refine ⟨0,by omega,rfl,rfl,fun j hj=>by omega,HC.out.keep ((Go.Tk.heap_drew _ _).trans (Below.heap_alloc _ _ b hlt)),fun j hj=>?_,grownBy_drew (grownBy_alloc (grownBy_refl _ _) _),by simp⟩;refine (World.cell?_alloc_at _ _ _ _ rfl).trans ?_
  rcases (show j=0∨j=1∨j=2∨j=3∨j=4 by omega) with rfl | rfl | rfl | rfl | rfl<;>rfl
 case round =>
  obtain ⟨k,hk,rfl,rfl,HZ,hcm,hpt,hgr,hsz⟩:=hrel
  by_cases h5:k<5
  ·have q0:=hpt.out k h5
   have HN:=iH (M4 c s k h5 HZ.out);have HK:=iH (KU c s k h5);have hrl:(jY s k).length≤9223372036854775807:=by have:=yT s k;omega
   go_wp2_with fail
   refine (nQ (jY s k) hrl _).mono ?_;rintro e w' ⟨rfl,q,rfl⟩;have hbd:Below wr.heap.size wr (wr.drewN q):=below_drewN iB _;generalize wr.drewN q=wd at hbd⊢;have hsd:=hbd.size;have hcd:=iH (hcm.out.keep (hbd.block b hcm.out.lt));have Mt:Hid (TY wd w.heap.size b):=fun j hj=>aB (hpt.out j hj) (hbd.block _ hsz)
   have hgd:=iH (grownBy_below hgr.out hbd);clear hcm hpt hgr hbd q0;obtain ⟨old,c1⟩:∃u,wd.cell? ⟨b,Cz k,none⟩=some u:=⟨_,hcd.out.1 (Cz k) _ (List.getElem?_eq_getElem (show Cz k<(jR (Gq c s k)).length from Jr k))⟩;have c2:=hcd.out.2 (Cz k);have HE:=iH (show (aL (jY s k)).2.2=sN s k from rfl);have hst:Hid (mK (wd.setCell ⟨b,Cz k,none⟩ (iI (aL (jY s k)).1)) b (Gq c s (k+1))):=hcd.out.set (Cz k) (Jr k) _ HK.out;have hbl:=hcd.out.lt
   by_cases he:(aL (jY s k)).2.2=0
   ·have QG:((aL (jY s k)).2.2 != 0)=false:=by simpa using he
    have HZ2:Hid (∀j,j<k+1→sN s j=0):=fun j hj=>by
     rcases Nat.lt_or_ge j k with h | h
     ·exact HZ.out j h
     ·obtain rfl:j=k:=by omega
      exact he
    clear he;go_wp2
    go_roundw
    case rel=>exact ⟨k+1,by omega,by go_num,rfl,HZ2.out,hst.out,fun j hj=>(cell_far (by omega)).trans (Mt.out j hj),bO hgd.out _ _,by simp [World.setCell];omega⟩
    case measure=>simp [intOf];omega
   ·have QG:((aL (jY s k)).2.2 != 0)=true:=by simpa using he
    have HF:=iH (HN.out he);have HX:=iH (show sN s k≠0 from he);clear he;go_wp2
    go_ret2
    exact ⟨by rw [HF.out];rfl,bO hgd.out _ _,_,hst.out,fun h=>by rw [HF.out] at h;exact absurd h HX.out⟩
  ·obtain rfl:k=5:=by omega
   have HB:=iH (KQ c s HZ.out);have hrl:=yT s 5
   rename World=>w1
   clear h5 hk HZ;generalize jY s 5=s5 at *;generalize Gq c s 5=c5 at *;have hlt1:=hcm.out.lt;clear hpt;go_wp2;go_region;go_wp2
   go_loopw [1,10,11,57] (fun t _ _ i wq=>∃k:Nat,k≤2∧i=iI k∧t=.string ⟨(nM s5 k).toArray⟩∧Hid (∀j,j<k→zJ s5 j=0)∧Hid (mK wq b (J4 c5 s5 k))∧Hid (TW wq w1.heap.size b)∧Hid (w.grownBy wq (some b))∧w1.heap.size<wq.heap.size)
    (fun _ _ _ i _=>2 - (intOf i).toNat)
   case atStart =>
    refine ⟨0,by omega,rfl,rfl,fun j hj=>by omega,hcm.out.keep ((Go.Tk.heap_drew _ _).trans (Below.heap_alloc _ _ b hlt1)),fun j hj=>?_,grownBy_drew (grownBy_alloc hgr.out _),by simp⟩;refine (World.cell?_alloc_at _ _ _ _ rfl).trans ?_
    rcases (show j=0∨j=1 by omega) with rfl | rfl<;>rfl
   case round =>
    clear hcm hgr;obtain ⟨k,hk,rfl,rfl,HZ,hcm,hpt,hgr,hsz2⟩:=hrel
    by_cases h5:k<2
    ·have q0:=hpt.out k h5
     have HN:=iH (KS c5 s5 k h5 HZ.out);have HK:=iH (J3 c5 s5 k h5);have hrl2:(nM s5 k).length≤9223372036854775807:=by have:=De s5 k;omega
     go_wp2_with fail
     refine (ug (nM s5 k) hrl2 _).mono ?_;rintro e w' ⟨rfl,q,rfl⟩;have hbd:Below wr.heap.size wr (wr.drewN q):=below_drewN iB _;generalize wr.drewN q=wd at hbd⊢;have hsd:=hbd.size;have hcd:=iH (hcm.out.keep (hbd.block b hcm.out.lt));have Mt:Hid (TW wd w1.heap.size b):=fun j hj=>aB (hpt.out j hj) (hbd.block _ hsz2)
     have hgd:=iH (grownBy_below hgr.out hbd);clear hcm hpt hgr hbd q0;obtain ⟨old,c1⟩:∃u,wd.cell? ⟨b,6+k,none⟩=some u:=⟨_,hcd.out.1 (6+k) _ (List.getElem?_eq_getElem (show 6+k<9 by omega))⟩;have c2:=hcd.out.2 (6+k);have hst:Hid (mK (wd.setCell ⟨b,6+k,none⟩ (.string ⟨(dn (nM s5 k)).1.toArray⟩)) b (J4 c5 s5 (k+1))):=hcd.out.set (6+k) (by omega) _ HK.out;have hbl:=hcd.out.lt
     by_cases he:(dn (nM s5 k)).2.2=0
     ·have QG:((dn (nM s5 k)).2.2 != 0)=false:=by simpa using he
      have HZ2:Hid (∀j,j<k+1→zJ s5 j=0):=fun j hj=>by
       rcases Nat.lt_or_ge j k with h | h
       ·exact HZ.out j h
       ·obtain rfl:j=k:=by omega
        exact he
      clear he;go_wp2
      go_roundw
      case rel=>(repeat apply Exists.intro);exact ⟨⟨k+1,by omega,by go_num,rfl,HZ2.out,hst.out,fun j hj=>(cell_far (by omega)).trans (Mt.out j hj),bO hgd.out _ _,by simp [World.setCell];omega⟩,rfl⟩
      case measure=>simp [intOf];omega
     ·have QG:((dn (nM s5 k)).2.2 != 0)=true:=by simpa using he
      have HF:=iH (HB.out.trans (HN.out he));have HX:=iH (show zJ s5 k≠0 from he);clear he;go_wp2
      go_ret2
      exact ⟨by rw [HF.out];rfl,bO hgd.out _ _,_,hst.out,fun h=>by rw [HF.out] at h;exact absurd h HX.out⟩
    ·obtain rfl:k=2:=by omega
     have HF:=iH (HB.out.trans (M5 c5 s5 HZ.out));clear h5 hk HZ HB;go_wp2
     go_ret2
     exact ⟨by rw [HF.out];rfl,hgr.out,_,hcm.out,fun _=>by rw [HF.out]⟩
end Go.Proofs.YtbngpjdflblffaaGreatDoor
