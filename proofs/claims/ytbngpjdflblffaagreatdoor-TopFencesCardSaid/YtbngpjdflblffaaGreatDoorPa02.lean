/- A part of the proof, laid together from: LockP, CodecP, NumP, LinesP, LocksP, RawD, LocksQ, Kset, OneP, OneQ, SessQ. -/
import Derived.Test.YtbngpjdflblffaaGreatDoorPa01
import Derived.Lib.Bytealg
set_option linter.all false
set_option maxRecDepth 100000
namespace Go.Tk
open Go Go.RowKit
def kg (c:UInt8):Bool:=decide ((c.toNat:Int)<97) || decide ((122:Int)<(c.toNat:Int))
def fD (s:List UInt8):Bool:=!s.isEmpty && decide (s.length≤6) && !s.any kg
def gU (n:Int):Bool:=decide (1≤n) && decide (n≤9)
def jc (k:aN) (i:Nat):Prop:=gU (k.line.getD i 0)=false∨k.line.getD i 0=k.holder∨(k.line.take i).contains (k.line.getD i 0)=true
instance (k:aN) (i:Nat):Decidable (jc k i):=by unfold jc;infer_instance
def Ao (k:aN):Int:=bU (fun i=>if jc k i then 1 else 0) k.line.length
def nR (k:aN):Bool:=Ao k == 0 && (decide (k.line.length≤3) && (k.holder != 0 || k.line.length == 0))
def p9 (k:aN):Bool:=fD k.name && (k.holder == 0 || gU k.holder) && nR k
def sU (l:List aN) (i:Nat):Int :=
 if p9 (l.getD i aO)=false then 4
 else if (l.getD i aO).fence<1∨1073741824<(l.getD i aO).fence then 2
 else if 0<i∧Op.bytesLess (l.getD (i - 1) aO).name (l.getD i aO).name=false then 14
 else 0
def dU (l:List aN):Int:=if 5<l.length then 1 else bU (sU l) l.length
theorem jA {s:List UInt8} (h:fD s=true):s≠[]∧s.length≤6:=by
 simp only [fD,Bool.and_eq_true,Bool.not_eq_true',List.isEmpty_eq_false_iff,decide_eq_true_eq] at h;exact ⟨h.1.1,h.1.2⟩
structure wK (k:aN):Prop where
 len:k.line.length≤3
 held:k.holder=0→k.line=[]
 cl:∀x∈k.line,1≤x∧x≤9
 ne:∀x∈k.line,x≠k.holder
 nodup:k.line.Nodup
theorem lC {n:Int}:gU n=true↔1≤n∧n≤9:=by simp [gU]
theorem Hw {l:List Int} (h:∀i,i<l.length→(l.take i).contains (l.getD i 0)=false):l.Nodup:=by
 refine List.pairwise_iff_getElem.2 fun i j hi hj hij he=>?_
 have h1:=h j hj;have h2:l.getD j 0∈l.take j:=by
  rw [List.mem_take_iff_getElem];refine ⟨i,by omega,?_⟩;rw [he];simp [List.getD,hj]
 rw [List.contains_iff_mem.2 h2] at h1;cases h1
theorem G8 {l:List Int} (h:l.Nodup) (i:Nat) (hi:i<l.length):(l.take i).contains (l.getD i 0)=false:=by
 rw [Bool.eq_false_iff];intro hc;have h2:=List.contains_iff_mem.1 hc;rw [List.mem_take_iff_getElem] at h2;obtain ⟨j,hj,he⟩:=h2;refine List.pairwise_iff_getElem.1 h j i (by omega) hi (by omega) ?_;rw [he];simp [List.getD,hi]
theorem Ia {k:aN}:nR k=true↔wK k:=by
 simp only [nR,Ao,Bool.and_eq_true,beq_iff_eq,decide_eq_true_eq,Bool.or_eq_true,bne_iff_ne,ne_eq];constructor
 ·rintro ⟨h1,h2,h3⟩
  have hz:=eu.1 h1;have hg:∀i,i<k.line.length→¬ jc k i:=fun i hi hb=>by have:=hz i hi;rw [if_pos hb] at this;cases this
  refine ⟨h2,fun h0=>?_,fun x hx=>?_,fun x hx=>?_,Hw fun i hi=>?_⟩
  ·rcases h3 with h | h
   ·exact absurd h0 h
   ·exact List.eq_nil_of_length_eq_zero h
  ·obtain ⟨i,hi,rfl⟩:=lY k.line x 0 hx
   have:=hg i hi;unfold jc at this;exact lC.1 (by simpa using fun h=>this (.inl h))
  ·obtain ⟨i,hi,rfl⟩:=lY k.line x 0 hx
   have:=hg i hi;unfold jc at this;exact fun h=>this (.inr (.inl h))
  ·have:=hg i hi
   unfold jc at this;simpa using fun h=>this (.inr (.inr h))
 ·intro h
  refine ⟨eu.2 fun i hi=>if_neg fun hb=>?_,h.len,?_⟩
  ·have hm:=kC k.line i 0 hi
   rcases hb with hb | hb | hb
   ·rw [lC.2 (h.cl _ hm)] at hb;cases hb
   ·exact h.ne _ hm hb
   ·rw [G8 h.nodup i hi] at hb;cases hb
  ·by_cases h0:k.holder=0
   ·exact .inr (by rw [h.held h0];rfl)
   ·exact .inl h0
structure ji (l:List aN):Prop where
 len:l.length≤5
 name:∀x∈l,fD x.name=true
 hold:∀x∈l,0≤x.holder∧x.holder≤9
 line:∀x∈l,wK x
 fence:∀x∈l,1≤x.fence∧x.fence≤1073741824
 ord:∀i,0<i→i<l.length→Op.bytesLess (l.getD (i - 1) aO).name (l.getD i aO).name=true
theorem sF {k:aN}:p9 k=true↔fD k.name=true∧(0≤k.holder∧k.holder≤9)∧wK k:=by
 simp only [p9,Bool.and_eq_true,Bool.or_eq_true,beq_iff_eq,lC,Ia];constructor
 ·rintro ⟨⟨h1,h2⟩,h3⟩;exact ⟨h1,by omega,h3⟩
 ·rintro ⟨h1,h2,h3⟩;exact ⟨⟨h1,by omega⟩,h3⟩
theorem jB {l:List aN}:dU l=0↔ji l:=by
 rw [dU];constructor
 ·intro h
  split at h
  ·cases h
  ·have hz:=eu.1 h
   have hg:∀i,i<l.length→p9 (l.getD i aO)=true∧(1≤(l.getD i aO).fence∧(l.getD i aO).fence≤1073741824)∧(0<i→Op.bytesLess (l.getD (i - 1) aO).name (l.getD i aO).name=true):=by
    intro i hi;have:=hz i hi;rw [sU] at this
    split at this
    ·cases this
    ·split at this
     ·cases this
     ·split at this
      ·cases this
      ·rename_i a b c
       refine ⟨by simpa using a,by omega,fun h0=>?_⟩;cases hb:Op.bytesLess (l.getD (i - 1) aO).name (l.getD i aO).name
       ·exact absurd ⟨h0,hb⟩ c
       ·rfl
   refine ⟨by omega,fun x hx=>?_,fun x hx=>?_,fun x hx=>?_,fun x hx=>?_,fun i h0 hi=>(hg i hi).2.2 h0⟩<;>obtain ⟨i,hi,rfl⟩:=lY l x aO hx
   ·exact (sF.1 (hg i hi).1).1
   ·exact (sF.1 (hg i hi).1).2.1
   ·exact (sF.1 (hg i hi).1).2.2
   ·exact (hg i hi).2.1
 ·intro h
  rw [if_neg (by have:=h.len;omega)];refine eu.2 fun i hi=>?_
  have hm:=kC l i aO hi;rw [sU,if_neg (by rw [sF.2 ⟨h.name _ hm,h.hold _ hm,h.line _ hm⟩];decide),if_neg (by have:=h.fence _ hm;omega),if_neg (fun hc=>by rw [h.ord i hc.1 hi] at hc;cases hc.2)]
def bV (x:aN) (t:List UInt8):Int:=Lib.compareBytes x.name t
def bE (l:List aN) (t:List UInt8):Nat:=bs (fun i=>bV (l.getD i aO) t) l.length
def eO (l:List aN) (t:List UInt8):Bool:=di (fun i=>bV (l.getD i aO) t) l.length
theorem jL {l:List aN} {t:List UInt8} (h:eO l t=true):bE l t<l.length:=by
 simp only [eO,di,Bool.and_eq_true,decide_eq_true_eq] at h;exact h.1
def eT (l:List aN) (name:List UInt8) (who:Int):List aN×Int×Bool×Int :=
 if dU l≠0 then ([],0,false,dU l)
 else if fD name=false then ([],0,false,4)
 else if gU who=false then ([],0,false,2)
 else (l,(bE l name:Nat),eO l name,0)
def cO (l:List aN) (name:List UInt8) (who:Int) (wait:Bool):List aN×eX×Int :=
 if (eT l name who).2.2.2≠0 then ([],dP,(eT l name who).2.2.2)
 else if eO l name=false then (if l.length=5 then (l,⟨8,0,[]⟩,0) else (l.take (bE l name)++⟨name,who,1,[]⟩::l.drop (bE l name),⟨0,1,[]⟩,0))
 else if (l.getD (bE l name) aO).holder=who then (l,⟨0,(l.getD (bE l name) aO).fence,[]⟩,0)
 else if (l.getD (bE l name) aO).holder=0 then
  (if (l.getD (bE l name) aO).fence=1073741824 then (l,⟨8,0,[]⟩,0)
   else (l.set (bE l name) { l.getD (bE l name) aO with holder:=who,fence:=(l.getD (bE l name) aO).fence+1 },⟨0,(l.getD (bE l name) aO).fence+1,[]⟩,0))
 else if wait=false∨who∈(l.getD (bE l name) aO).line then (l,⟨10,(l.getD (bE l name) aO).holder,[]⟩,0)
 else if (l.getD (bE l name) aO).line.length=3 then (l,⟨8,0,[]⟩,0)
 else (l.set (bE l name) { l.getD (bE l name) aO with line:=(l.getD (bE l name) aO).line++[who] },⟨10,(l.getD (bE l name) aO).holder,[]⟩,0)
def mY (k:aN):aN :=
 if 0<k.line.length∧k.fence<1073741824 then ⟨k.name,k.line.getD 0 0,k.fence+1,k.line.drop 1⟩ else ⟨k.name,0,k.fence,[]⟩
def gH (k:aN) (who:Int):aN:=if 0≤kD (fun x=>who == x) k.line then { k with line:=k.line.eraseIdx (kD (fun x=>who == x) k.line).toNat } else k
def fJ (l:List aN) (name:List UInt8) (who:Int):List aN×eX×Int :=
 if (eT l name who).2.2.2≠0 then ([],dP,(eT l name who).2.2.2)
 else if eO l name=false then (l,⟨6,0,[]⟩,0)
 else if (l.getD (bE l name) aO).holder=who then (l.set (bE l name) (mY (l.getD (bE l name) aO)),⟨0,(mY (l.getD (bE l name) aO)).holder,[]⟩,0)
 else if 0≤kD (fun x=>who == x) (l.getD (bE l name) aO).line then (l.set (bE l name) (gH (l.getD (bE l name) aO) who),⟨0,(l.getD (bE l name) aO).holder,[]⟩,0)
 else (l,⟨10,(l.getD (bE l name) aO).holder,[]⟩,0)
def jr (k:aN) (who:Int):aN:=if (gH k who).holder=who then mY (gH k who) else gH k who
def kH (l:List aN) (who:Int):List aN×Int :=
 if dU l≠0 then ([],dU l)
 else if gU who=false then ([],2)
 else (l.map (fun k=>jr k who),0)
def jF (l:List aN) (name:List UInt8):Int×Int×Int :=
 if dU l≠0 then (0,0,dU l)
 else if eO l name=false∨(l.getD (bE l name) aO).holder=0 then (0,0,0)
 else ((l.getD (bE l name) aO).holder,(l.getD (bE l name) aO).fence,0)
theorem Mm (a b:Nat) (ha:a<9223372036854775808) (hb:b<9223372036854775808):bits .or .i64 (a:Int) (b:Int)=((a ||| b:Nat):Int):=by
 have hab:a ||| b<2 ^ 63:=Nat.or_lt_two_pow (by omega) (by omega)
 show IntKind.i64.wrap ((BitVec.ofInt 64 (a:Int) ||| BitVec.ofInt 64 (b:Int)).toNat:Int)=_
 rw [BitVec.toNat_or,ofInt_u64 a (by omega),ofInt_u64 b (by omega),IntKind.wrap_i64];omega
theorem i64_and127 (a:Nat):bits .and .i64 (a:Int) 127=((a % 128:Nat):Int):=by
 rw [Go.i64_and127];omega
theorem Oa (n d k:Nat) (hn:n<128 ^ k):n ||| d*2 ^ (7*k)=n+d*128 ^ k:=by
 have h7:(128:Nat) ^ k=2 ^ (7*k):=by rw [Nat.pow_mul]
 rw [h7] at hn⊢;rw [Nat.or_comm,nat_join (7*k) _ _ (by simp) hn,Nat.add_comm]
def uh (s:List UInt8):Nat→Nat→Nat→Int×List UInt8×Int
 | 0,_,_=>(0,[],4)
 | f+1,k,n =>
   if k<s.length then
    if 128≤(s.getD k 0).toNat then uh s f (k+1) (n+(s.getD k 0).toNat % 128*128 ^ k)
    else if (s.getD k 0).toNat=0∧0<k∨1099511627776<n+(s.getD k 0).toNat % 128*128 ^ k then (0,[],4)
    else ((n+(s.getD k 0).toNat % 128*128 ^ k:Nat),s.drop (k+1),0)
   else (0,[],5)
theorem MU (m x k:Nat) (hm:m<128 ^ k) (hk:k<6) (Pw:x<256) :
 bits .or .i64 (m:Int) (RowKit.wrap64 (RowKit.wrap64 (bits .and .u8 (x:Int) 127)*2 ^ (7*k)))=((m+x % 128*128 ^ k:Nat):Int)∧m+x % 128*128 ^ k<128 ^ (k+1):=by
 have hx:bits .and .u8 (x:Int) 127=((x % 128:Nat):Int):=by
  have h:=u8_and_nat x 127 Pw (by omega)
  rwa [nat_mask7] at h
 have h6:(128:Nat) ^ k≤128 ^ 5:=Nat.pow_le_pow_right (by decide) (by omega);have hlt:m+x % 128*128 ^ k<128 ^ (k+1):=by
  have h1:x % 128*128 ^ k≤127*128 ^ k:=Nat.mul_le_mul_right _ (by omega);rw [Nat.pow_succ];omega
 refine ⟨?_,hlt⟩;rw [hx,IntWalk.wrap64_in ((x % 128:Nat):Int) ⟨by omega,by omega⟩];have h7:(2:Nat) ^ (7*k)=128 ^ k:=by rw [Nat.pow_mul]
 have e:((x % 128:Nat):Int)*2 ^ (7*k)=((x % 128*2 ^ (7*k):Nat):Int):=by push_cast;rfl
 have h2:x % 128*2 ^ (7*k)≤127*128 ^ 5:=by rw [h7];exact Nat.mul_le_mul (by omega) h6
 have h3:(127*128 ^ 5:Nat)<9223372036854775808:=by decide
 rw [e,IntWalk.wrap64_in _ ⟨by omega,by omega⟩,Mm _ _ (by omega) (by omega),Oa _ _ _ hm]
def aL (s:List UInt8):Int×List UInt8×Int:=uh s 6 0 0
def rQ:Nat→Nat→List UInt8
 | 0,n=>[n.toUInt8]
 | f+1,n=>if n<128 then [n.toUInt8] else (n % 128+128).toUInt8::rQ f (n / 128)
def xh:Rel UInt8:=fun _ cs c _=>cs=[.int .u8 (c.toNat:Int)]
theorem xg:cu xh 1:=⟨by rintro w cs x S rfl;rfl,by rintro w cs x S rfl u hu;simp at hu;subst hu;rfl,fun h _=>h⟩
theorem nU (f m:Nat) (h:m<128):rQ f m=[m.toUInt8]:=by cases f<;>simp [rQ,h]
theorem xL (f m:Nat) (h:128≤m):rQ (f+1) m=(m % 128+128).toUInt8::rQ f (m / 128):=by simp [rQ];omega
theorem OL (m:Nat) (hm:m<9223372036854775808):bits .or .i64 (bits .and .i64 (m:Int) 127) 128 % 256=(((m % 128+128).toUInt8).toNat:Int):=by
 have h1:bits .or .i64 ((m % 128:Nat):Int) ((128:Nat):Int)=((m % 128 ||| 128:Nat):Int):=Mm _ _ (by omega) (by omega);have h2:m % 128 ||| 128=m % 128+128:=by rw [Nat.or_comm];exact (nat_join 7 128 (m % 128) (by decide) (by omega)).trans (by omega)
 rw [i64_and127];rw [show (128:Int)=((128:Nat):Int) from rfl,h1,h2];simp
def number (n:Int):List UInt8×Int:=if n<0∨1099511627776<n then ([],2) else (rQ 6 n.toNat,0)
theorem zh (s:List UInt8):∀f k n,0≤(uh s f k n).1
 | 0,k,n=>by simp [uh]
 | f+1,k,n=>by
   rw [uh]
   split
   ·split
    ·exact zh s f _ _
    ·split
     ·simp
     ·exact Int.natCast_nonneg _
   ·simp
theorem wY (s:List UInt8):0≤(aL s).1:=zh s 6 0 0
theorem Gm:∀f m,(rQ f m).length≤f+1
 | 0,m=>by simp [rQ]
 | f+1,m=>by
   rw [rQ]
   split
   ·simp
   ·have:=Gm f (m / 128)
    simp;omega
theorem jy (n:Int):(number n).1.length≤7:=by
 rw [number]
 split
 ·simp
 ·exact Gm 6 _
def text (s:List UInt8):List UInt8×Int:=if 5000<s.length then ([],1) else ((number s.length).1++s,0)
def dn (s:List UInt8):List UInt8×List UInt8×Int :=
 if (aL s).2.2≠0 then ([],[],(aL s).2.2)
 else if 5000<(aL s).1 then ([],[],1)
 else if ((aL s).2.1.length:Int)<(aL s).1 then ([],[],5)
 else ((aL s).2.1.take (aL s).1.toNat,(aL s).2.1.drop (aL s).1.toNat,0)
def picked (n m:Int):Int:=if n<0 then -(n+1) % m else n % m
theorem D7 (l:List UInt8):strOfNums (l.map fun c=>(c.toNat:Int))=⟨l.toArray⟩:=by
 apply ByteArray.ext
 simp [strOfNums,Function.comp_def]
theorem lN {P:Program} {w:World} {T E D:Nat} (hT:P.underlying T=some (.slice E)) (hE:P.underlying E=some (.int .u8)) (hD:P.underlying D=some .string)
 {v:Value} {l:List UInt8} {S:Nat→Prop} (h:aZ 1 xh w v l S):(convert T D v).run P w=.ok (iS l) w:=by
 obtain ⟨a,cap,rfl,h1,h2,h3,h4⟩:=h
 rcases l with _ | ⟨c,l⟩
 ·cases a with
  | none=>exact run_convert_bytes_nil w T E hT hE _ _ D hD
  | some a =>
    rw [run_convert_bytes_string w T D E _ _ cap hT hE hD];simp [Conv.bytesToString,loadCells,loadCellsFrom]
    rfl
 ·obtain ⟨b,off,row,rfl,_,_,_⟩:=h4 0 c rfl
  have h:=run_convert_bytes_arg (P:=P) w T E hT hE b off (c::l).length cap ((c::l).map fun c=>(c.toNat:Int)) (by simp) (fun i hi=>by
   obtain ⟨b',off',row,e,_,hr,hc⟩:=h4 i (c::l)[i] (List.getElem?_eq_getElem hi);simp only [Option.some.injEq,Addr.mk.injEq] at e;obtain ⟨rfl,rfl,_⟩:=e;cases hr;have:=hc 0 _ rfl;simp only [Nat.mul_one,Nat.add_zero] at this;rw [this];have e2:((c::l).map fun c=>(c.toNat:Int)).getD i 0=((c::l)[i]'hi).toNat:=by
    rw [List.getD,List.getElem?_map,List.getElem?_eq_getElem hi];rfl
   rw [e2]) D hD
  rw [h,D7]
theorem DD:∀f q,q<128 ^ (f+1)→rQ (f+1) q=rQ f q
 | 0,q,h=>by rw [nU _ _ (by simpa using h),nU _ _ (by simpa using h)]
 | f+1,q,h=>by
   by_cases h1:q<128
   ·rw [nU _ _ h1,nU _ _ h1]
   ·rw [xL (f+1) q (by omega),xL f q (by omega),DD f (q / 128) (by rw [Nat.pow_succ] at h;omega)]
theorem Dm (t:List UInt8):∀(f k m q:Nat) (pre:List UInt8),pre.length=k→q<128 ^ (f+1)→(0<k→q≠0)→m+q*128 ^ k≤1099511627776→uh (pre++(rQ f q++t)) (f+1) k m=(((m+q*128 ^ k:Nat):Int),t,0)
 | f,k,m,q,pre,hp,hq,hz,hm=>by
   subst hp
   by_cases h:q<128
   ·rw [nU f q h,uh]
    have hg:((pre++([q.toUInt8]++t)).getD pre.length 0).toNat=q:=by simp [List.getD];omega
    rw [if_pos (by simp),hg,if_neg (by omega),if_neg (by rw [Nat.mod_eq_of_lt h];omega),Nat.mod_eq_of_lt h];simp [List.drop_append]
   ·rcases f with _ | f
    ·simp at hq;omega
    ·rw [xL f q (by omega),uh]
     have hg:((pre++((q % 128+128).toUInt8::rQ f (q / 128)++t)).getD pre.length 0).toNat=q % 128+128:=by simp [List.getD];omega
     rw [if_pos (by simp),hg,if_pos (by omega)];have e:=Dm t f (pre.length+1) (m+q % 128*128 ^ pre.length) (q / 128) (pre++[(q % 128+128).toUInt8]) (by simp) (by rw [Nat.pow_succ] at hq;omega) (by omega);have e2:m+q % 128*128 ^ pre.length+q / 128*128 ^ (pre.length+1)=m+q*128 ^ pre.length:=by
      rw [Nat.pow_succ,Nat.add_assoc,Nat.mul_comm (128 ^ pre.length) 128,←Nat.mul_assoc,←Nat.add_mul]
      congr 2;omega
     rw [e2] at e;have e3:=e hm;simp only [List.append_assoc,List.cons_append,List.nil_append] at e3⊢;rw [show (q % 128+128) % 128=q % 128 by omega,←e3]
theorem sP (q:Nat) (hq:q≤1099511627776) (t:List UInt8):aL (rQ 6 q++t)=((q:Int),t,0):=by
 have h:=Dm t 5 0 0 q [] rfl (by omega) (by omega) (by omega);rw [DD 5 q (by omega)];simpa [aL] using h
theorem vI (s t:List UInt8) (h:s.length≤5000):dn ((text s).1++t)=(s,t,0):=by
 have e:(text s).1=rQ 6 s.length++s:=by rw [text,if_neg (by omega),number,if_neg (by omega)];rfl
 have r:aL ((text s).1++t)=(((s.length:Nat):Int),s++t,0):=by rw [e,List.append_assoc];exact sP _ (by omega) _
 rw [dn,r];simp;rw [if_neg (by omega),if_neg (by omega)]
theorem compare_self:∀s:List UInt8,Lib.compareBytes s s=0
 | []=>rfl
 | c::r=>by rw [Lib.compareBytes,if_neg (UInt8.lt_irrefl c),if_neg (UInt8.lt_irrefl c),compare_self r]
theorem uq {l:List aN} {name:List UInt8} {who:Int} (h:ji l) (h2:fD name=true) (h3:1≤who∧who≤9):(eT l name who).2.2.2=0:=by
 rw [eT,if_neg (by rw [jB.2 h];simp),if_neg (by rw [h2];decide),if_neg (by rw [lC.2 h3];decide)]
theorem Mg:ji []:=⟨by simp,by simp,by simp,by simp,by simp,by simp⟩
theorem take_nil {name:List UInt8} {who:Int} {wt:Bool} (h2:fD name=true) (h3:1≤who∧who≤9):cO [] name who wt=([⟨name,who,1,[]⟩],⟨0,1,[]⟩,0):=by
 rw [cO,if_neg (by rw [uq Mg h2 h3];simp),if_pos (show eO [] name=false from rfl),if_neg (by simp)];simp
def jM (n:Int):List UInt8:=if picked n 3=0 then [97] else if picked n 3=1 then [98] else [107,101,121]
theorem FY (n:Int):fD (jM n)=true:=by
 unfold jM
 split
 ·decide
 ·split<;>decide
def ord (a:Int):List Int:=[a,1+a % 3,1+(1+a) % 3]
theorem wK.rename {k k':List UInt8} {h f:Int} {l:List Int} (o:wK ⟨k,h,f,l⟩):wK ⟨k',h,f,l⟩:=⟨o.len,o.held,o.cl,o.ne,o.nodup⟩
theorem FU (a:List UInt8):Op.bytesLess a []=false:=by cases a<;>rfl
theorem nk:∀a b:List UInt8,Op.bytesLess a b=true↔Lib.compareBytes a b<0
 | [],[]=>by simp [Op.bytesLess,Lib.compareBytes]
 | [],b::bs=>by simp [Op.bytesLess,Lib.compareBytes]
 | a::as,[]=>by simp [Op.bytesLess,Lib.compareBytes]
 | a::as,b::bs=>by
   have ih:=nk as bs;rw [Op.bytesLess,Lib.compareBytes]
   by_cases h1:a<b
   ·simp [h1]
   ·rw [if_neg h1]
    by_cases h2:b<a
    ·rw [if_pos h2]
     have hne:(a == b)=false:=by
      rw [beq_eq_false_iff_ne];rintro rfl;exact UInt8.lt_irrefl _ h2
     simp [h1,hne]
    ·rw [if_neg h2]
     have he:a=b:=UInt8.le_antisymm (UInt8.not_lt.1 h2) (UInt8.not_lt.1 h1);subst he;simp only [h1,decide_false,Bool.false_or,beq_self_eq_true,Bool.true_and];exact ih
theorem BK:∀a b:List UInt8,Lib.compareBytes a b=0→a=b
 | [],[],_=>rfl
 | [],b::bs,h=>by simp [Lib.compareBytes] at h
 | a::as,[],h=>by simp [Lib.compareBytes] at h
 | a::as,b::bs,h=>by
   rw [Lib.compareBytes] at h
   by_cases h1:a<b
   ·rw [if_pos h1] at h;cases h
   ·rw [if_neg h1] at h
    by_cases h2:b<a
    ·rw [if_pos h2] at h;cases h
    ·rw [if_neg h2] at h
     rw [BK as bs h,UInt8.le_antisymm (UInt8.not_lt.1 h2) (UInt8.not_lt.1 h1)]
theorem nS:∀a b c:List UInt8,Op.bytesLess a b=true→Op.bytesLess b c=true→Op.bytesLess a c=true
 | a,b,[],_,h2=>by rw [FU] at h2;cases h2
 | a,[],c::cs,h1,_=>by rw [FU] at h1;cases h1
 | [],b::bs,c::cs,_,_=>rfl
 | a::as,b::bs,c::cs,h1,h2=>by
   rw [Op.bytesLess] at h1 h2⊢;simp only [Bool.or_eq_true,decide_eq_true_eq,Bool.and_eq_true,beq_iff_eq] at h1 h2⊢
   rcases h1 with h1 | ⟨rfl,h1⟩
   ·rcases h2 with h2 | ⟨rfl,h2⟩
    ·exact .inl (UInt8.lt_trans h1 h2)
    ·exact .inl h1
   ·rcases h2 with h2 | ⟨rfl,h2⟩
    ·exact .inl h2
    ·exact .inr ⟨rfl,nS as bs cs h1 h2⟩
theorem oF:∀a:List UInt8,Op.bytesLess a a=false
 | []=>rfl
 | a::as=>by rw [Op.bytesLess];simp [oF as,UInt8.lt_irrefl]
theorem wo:∀a b:List UInt8,Op.bytesLess a b=false→a≠b→Op.bytesLess b a=true
 | [],[],_,h=>absurd rfl h
 | [],b::bs,h,_=>by cases h
 | a::as,[],_,_=>rfl
 | a::as,b::bs,h,hne=>by
   rw [Op.bytesLess] at h⊢;simp only [Bool.or_eq_false_iff,decide_eq_false_iff_not,Bool.and_eq_false_iff,beq_eq_false_iff_ne,Bool.or_eq_true,decide_eq_true_eq,Bool.and_eq_true,beq_iff_eq] at h⊢
   by_cases h2:b<a
   ·exact .inl h2
   ·have he:a=b:=UInt8.le_antisymm (UInt8.not_lt.1 h2) (UInt8.not_lt.1 h.1)
    subst he;refine .inr ⟨rfl,wo as bs ?_ (fun e=>hne (by rw [e]))⟩
    rcases h.2 with h | h
    ·exact absurd rfl h
    ·exact h
def xA (ns:List (List UInt8)):Prop:=ns.Pairwise fun a b=>Op.bytesLess a b=true
theorem Bi {ns:List (List UInt8)} (h:∀i (h0:0<i) (hi:i<ns.length),Op.bytesLess (ns[i - 1]'(by omega)) ns[i]=true):xA ns:=by
 refine List.pairwise_iff_getElem.2 fun i j hi hj hij=>?_
 induction j with
 | zero=>omega
 | succ j ih =>
   rcases Nat.lt_or_ge i j with h1 | h1
   ·exact nS _ _ _ (ih (by omega) h1) (h (j+1) (by omega) hj)
   ·obtain rfl:i=j:=by omega
    exact h (i+1) (by omega) hj
structure tu (x:aN):Prop where
 name:fD x.name=true
 hold:0≤x.holder∧x.holder≤9
 line:wK x
 fence:1≤x.fence∧x.fence≤1073741824
theorem ji.names {l:List aN} (h:ji l):xA (l.map (·.name)):=by
 refine Bi fun i h0 hi=>?_
 rw [List.length_map] at hi;have:=h.ord i h0 hi;rw [show l.getD (i - 1) aO=l[i - 1] by simp [List.getD,show i - 1<l.length by omega],show l.getD i aO=l[i] by simp [List.getD,hi]] at this;simpa using this
theorem ji.one {l:List aN} (h:ji l):∀x∈l,tu x:=fun x hx=>⟨h.name x hx,h.hold x hx,h.line x hx,h.fence x hx⟩
theorem ji.of {l:List aN} (h1:l.length≤5) (h2:∀x∈l,tu x) (h3:xA (l.map (·.name))):ji l:=by
 refine ⟨h1,fun x hx=>(h2 x hx).name,fun x hx=>(h2 x hx).hold,fun x hx=>(h2 x hx).line,fun x hx=>(h2 x hx).fence,fun i h0 hi=>?_⟩;have:=List.pairwise_iff_getElem.1 h3 (i - 1) i (by rw [List.length_map];omega) (by rw [List.length_map];exact hi) (by omega);rw [show l.getD (i - 1) aO=l[i - 1] by simp [List.getD,show i - 1<l.length by omega],show l.getD i aO=l[i] by simp [List.getD,hi]];simpa using this
theorem ji.set {l:List aN} (h:ji l) {i:Nat} (hi:i<l.length) {x:aN} (hx:tu x) (hn:x.name=l[i].name):ji (l.set i x):=by
 refine ji.of (by rw [List.length_set];exact h.len) (fun y hy=>?_) ?_
 ·rcases List.mem_or_eq_of_mem_set hy with h1 | h1
  ·exact h.one y h1
  ·rw [h1];exact hx
 ·rw [List.map_set,hn]
  have:(l.map (·.name)).set i l[i].name=l.map (·.name):=by
   rw [show l[i].name=(l.map (·.name))[i]'(by rw [List.length_map];exact hi) by simp];exact List.set_getElem_self _
  rw [this];exact h.names
theorem Bn {l:List aN} (h:ji l) (t:List UInt8):(∀i (hi:i<l.length),i<bE l t→Op.bytesLess l[i].name t=true)∧(∀i (hi:i<l.length),bE l t≤i→Op.bytesLess l[i].name t=false):=by
 have hn:=List.pairwise_iff_getElem.1 h.names;have hg:∀i (hi:i<l.length),l.getD i aO=l[i]:=fun i hi=>by simp [List.getD,hi]
 obtain ⟨h1,h2⟩:=EB (f:=fun i=>bV (l.getD i aO) t) (N:=l.length) fun i j hij hj hf=>by
  have h3:=hn i j (by rw [List.length_map];omega) (by rw [List.length_map];exact hj) hij;simp only [List.getElem_map] at h3;simp only [bV,hg i (by omega),hg j hj] at hf⊢;exact (nk _ _).1 (nS _ _ _ h3 ((nk _ _).2 hf))
 refine ⟨fun i hi hlt=>?_,fun i hi hge=>?_⟩
 ·have:=h1 i hlt
  simp only [bV,hg i hi] at this;exact (nk _ _).2 this
 ·have:=h2 i hge hi
  simp only [bV,hg i hi] at this;cases hb:Op.bytesLess l[i].name t
  ·rfl
  ·exact absurd ((nk _ _).1 hb) this
theorem FW {l:List aN} {t:List UInt8} (h:eO l t=true):(l[bE l t]'(jL h)).name=t:=by
 have hlt:=jL h;simp only [eO,di,Bool.and_eq_true,beq_iff_eq] at h;have h2:bV (l.getD (bE l t) aO) t=0:=h.2;rw [show l.getD (bE l t) aO=l[bE l t] by simp [List.getD,hlt]] at h2;exact BK _ _ h2
theorem Dq {l:List aN} {t:List UInt8} (h:ji l) (hf:eO l t=false):∀x∈l,x.name≠t:=by
 intro x hx hxt;obtain ⟨j,hj,rfl⟩:=List.getElem_of_mem hx;obtain ⟨h1,h2⟩:=Bn h t;have Tc:Op.bytesLess l[j].name t=false:=by rw [hxt];exact oF _
 have hge:bE l t≤j:=by
  rcases Nat.lt_or_ge j (bE l t) with h3 | h3
  ·rw [h1 j hj h3] at Tc;cases Tc
  ·exact h3
 have heq:bE l t=j:=by
  rcases Nat.lt_or_ge (bE l t) j with h3 | h3
  ·have h4:=List.pairwise_iff_getElem.1 h.names (bE l t) j (by rw [List.length_map];omega) (by rw [List.length_map];exact hj) h3
   simp only [List.getElem_map] at h4;rw [hxt,h2 _ (by omega) (Nat.le_refl _)] at h4;cases h4
  ·omega
 have:eO l t=true:=by
  show (decide (bE l t<l.length) && (bV (l.getD (bE l t) aO) t == 0))=true
  rw [heq,show l.getD j aO=l[j] by simp [List.getD,hj],bV,hxt,compare_self];simp [hj]
 rw [this] at hf;cases hf
theorem ji.insert {l:List aN} (h:ji l) {x:aN} (hx:tu x) (hlen:l.length<5) (hno:eO l x.name=false):ji (l.take (bE l x.name)++x::l.drop (bE l x.name)):=by
 obtain ⟨h1,h2⟩:=Bn h x.name;have hne:=Dq h hno;have hfl:bE l x.name≤l.length:=zy _ _;refine ji.of (by simp;omega) (fun y hy=>?_) ?_
 ·rcases List.mem_append.1 hy with hy | hy
  ·exact h.one y (List.mem_of_mem_take hy)
  ·rcases List.mem_cons.1 hy with rfl | hy
   ·exact hx
   ·exact h.one y (List.mem_of_mem_drop hy)
 ·have hn:=h.names
  have hd:∀y∈l.drop (bE l x.name),Op.bytesLess x.name y.name=true:=fun y hy=>by
   obtain ⟨j,hj,rfl⟩:=List.getElem_of_mem hy;rw [List.length_drop] at hj;rw [List.getElem_drop];exact wo _ _ (h2 _ (by omega) (by omega)) (hne _ (List.getElem_mem _))
  have ht:∀y∈l.take (bE l x.name),Op.bytesLess y.name x.name=true:=fun y hy=>by
   obtain ⟨j,hj,rfl⟩:=List.getElem_of_mem hy;rw [List.length_take] at hj;rw [List.getElem_take];exact h1 _ (by omega) (by omega)
  rw [List.map_append,List.map_cons];refine List.pairwise_append.2 ⟨?_,List.pairwise_cons.2 ⟨fun n hn'=>?_,?_⟩,fun a ha b hb=>?_⟩
  ·rw [List.map_take];exact hn.sublist (List.take_sublist _ _)
  ·obtain ⟨y,hy,rfl⟩:=List.mem_map.1 hn'
   exact hd y hy
  ·rw [List.map_drop];exact hn.sublist (List.drop_sublist _ _)
  ·obtain ⟨y,hy,rfl⟩:=List.mem_map.1 ha
   rcases List.mem_cons.1 hb with rfl | hb
   ·exact ht y hy
   ·obtain ⟨z,hz,rfl⟩:=List.mem_map.1 hb
    exact nS _ _ _ (ht y hy) (hd z hz)
theorem Be (x:aN):(mY x).name=x.name:=by unfold mY;split<;>rfl
theorem qE (x:aN) (who:Int):(gH x who).name=x.name:=by unfold gH;split<;>rfl
theorem Iw (x:aN) (who:Int):(jr x who).name=x.name:=by
 unfold jr;split
 ·rw [Be,qE]
 ·rw [qE]
theorem yz {x:aN} (h:tu x):tu (mY x):=by
 unfold mY
 split
 ·rename_i hc
  obtain ⟨a,r,hl⟩:∃a r,x.line=a::r:=by
   cases hx:x.line with
   | nil=>rw [hx] at hc;simp at hc
   | cons a r=>exact ⟨a,r,rfl⟩
  have hn:=h.line.nodup;have hc1:=h.line.cl;have hlen:=h.line.len;rw [hl] at hn hc1 hlen;have ha:=hc1 a (by simp);refine ⟨h.name,?_,?_,?_⟩
  ·simp only [hl,List.getD_cons_zero];omega
  ·simp only [hl,List.getD_cons_zero,List.drop_succ_cons,List.drop_zero]
   refine ⟨by simp at hlen;show r.length≤3;omega,fun h0=>by simp only at h0;omega,fun y hy=>hc1 y (by simp [hy]),fun y hy=>?_,(List.nodup_cons.1 hn).2⟩;rintro rfl;exact (List.nodup_cons.1 hn).1 hy
  ·have:=h.fence;show 1≤x.fence+1∧x.fence+1≤1073741824;omega
 ·exact ⟨h.name,(show 0≤(0:Int)∧(0:Int)≤9 by decide),⟨by simp,fun _=>rfl,by simp,by simp,by simp⟩,h.fence⟩
theorem vY {x:aN} {who:Int} (h:tu x):tu (gH x who):=by
 unfold gH
 split
 ·have hs:∀i,(x.line.eraseIdx i).Sublist x.line:=fun i=>List.eraseIdx_sublist _ _
  refine ⟨h.name,h.hold,⟨Nat.le_trans (hs _).length_le h.line.len,fun h0=>?_,fun y hy=>h.line.cl y ((hs _).subset hy),fun y hy=>h.line.ne y ((hs _).subset hy),h.line.nodup.sublist (hs _)⟩,h.fence⟩;have h1:=h.line.held h0
  show x.line.eraseIdx _=[]
  rw [h1];rfl
 ·exact h
theorem KF {x:aN} {who:Int} (h:tu x):tu (jr x who):=by
 unfold jr;split
 ·exact yz (vY h)
 ·exact vY h
theorem NR {l:List aN} {name:List UInt8} {who:Int} {wt:Bool} (h:ji l) (hn:fD name=true) (hw:1≤who∧who≤9):ji (cO l name who wt).1∧(cO l name who wt).2.2=0:=by
 rw [cO,if_neg (by rw [uq h hn hw];simp)]
 by_cases ht:eO l name=false
 ·rw [if_pos ht]
  by_cases h5:l.length=5
  ·rw [if_pos h5];exact ⟨h,rfl⟩
  ·rw [if_neg h5]
   exact ⟨ji.insert (x:=⟨name,who,1,[]⟩) h ⟨hn,by show 0≤who∧who≤9;omega,⟨by simp,by simp,by simp,by simp,by simp⟩,(show 1≤(1:Int)∧(1:Int)≤1073741824 by decide)⟩ (by have:=h.len;omega) ht,rfl⟩
 ·rw [if_neg ht]
  have ht':eO l name=true:=by simpa using ht
  have hlt:=jL ht';have hg:l.getD (bE l name) aO=l[bE l name]:=by simp [List.getD,hlt]
  rw [hg];have ho:=h.one _ (List.getElem_mem hlt)
  split
  ·exact ⟨h,rfl⟩
  ·rename_i hw1
   split
   ·split
    ·exact ⟨h,rfl⟩
    ·rename_i h0 hf
     refine ⟨h.set hlt (x:={ l[bE l name] with holder:=who,fence:=l[bE l name].fence+1 }) ⟨ho.name,by show 0≤who∧who≤9;omega,?_,by have:=ho.fence;show 1≤l[bE l name].fence+1∧l[bE l name].fence+1≤1073741824;omega⟩ rfl,rfl⟩;have h1:=ho.line.held h0;exact ⟨ho.line.len,(fun h2=>by simp only at h2;omega),ho.line.cl,(fun y hy=>by simp only at hy;rw [h1] at hy;cases hy),ho.line.nodup⟩
   ·rename_i h0
    split
    ·exact ⟨h,rfl⟩
    ·rename_i hq
     split
     ·exact ⟨h,rfl⟩
     ·rename_i h3
      refine ⟨h.set hlt (x:={ l[bE l name] with line:=l[bE l name].line++[who] }) ⟨ho.name,ho.hold,?_,ho.fence⟩ rfl,rfl⟩;have Wi:who∉l[bE l name].line:=fun hm=>hq (.inr hm)
      refine ⟨by have:=ho.line.len;simp;omega,fun h2=>absurd h2 h0,fun y hy=>?_,fun y hy=>?_,?_⟩
      ·rcases List.mem_append.1 hy with hy | hy
       ·exact ho.line.cl y hy
       ·simp at hy;subst hy;exact hw
      ·rcases List.mem_append.1 hy with hy | hy
       ·exact ho.line.ne y hy
       ·simp at hy;subst hy;exact fun e=>hw1 e.symm
      ·exact List.nodup_append.2 ⟨ho.line.nodup,by simp,fun a ha b hb=>by simp at hb;subst hb;rintro rfl;exact Wi ha⟩
theorem OG {l:List aN} {name:List UInt8} {who:Int} (h:ji l) (hn:fD name=true) (hw:1≤who∧who≤9):ji (fJ l name who).1∧(fJ l name who).2.2=0:=by
 rw [fJ,if_neg (by rw [uq h hn hw];simp)]
 by_cases ht:eO l name=false
 ·rw [if_pos ht];exact ⟨h,rfl⟩
 ·rw [if_neg ht]
  have ht':eO l name=true:=by simpa using ht
  have hlt:=jL ht';have hg:l.getD (bE l name) aO=l[bE l name]:=by simp [List.getD,hlt]
  rw [hg];have ho:=h.one _ (List.getElem_mem hlt)
  split
  ·exact ⟨h.set hlt (yz ho) (Be _),rfl⟩
  ·split
   ·exact ⟨h.set hlt (vY ho) (qE _ _),rfl⟩
   ·exact ⟨h,rfl⟩
theorem JG {l:List aN} {who:Int} (h:ji l) (hw:1≤who∧who≤9):ji (kH l who).1∧kH l who=(l.map (fun k=>jr k who),0):=by
 have he:kH l who=(l.map (fun k=>jr k who),0):=by rw [kH,if_neg (by rw [jB.2 h];simp),if_neg (by rw [lC.2 hw];decide)]
 refine ⟨?_,he⟩;rw [he];refine ji.of (by rw [List.length_map];exact h.len) (fun y hy=>?_) ?_
 ·obtain ⟨x,hx,rfl⟩:=List.mem_map.1 hy
  exact KF (h.one x hx)
 ·rw [List.map_map]
  have:((fun x:aN=>x.name) ∘ fun k=>jr k who)=fun x=>x.name:=by funext x;exact Iw x who
  rw [this];exact h.names
structure kX where
 kind:Int
 a:Int
 b:Int
 c:Int
def FB:Rel kX:=fun _ cs x _=>cs=[iI x.kind, iI x.a, iI x.b, iI x.c]
theorem qI:cu FB 4:=⟨by rintro w cs x S rfl;rfl,by rintro w cs x S rfl u hu;simp at hu;rcases hu with rfl | rfl | rfl | rfl<;>rfl,fun h _=>h⟩
def PL (n:Int):Prop:=-9223372036854775808≤n∧n≤9223372036854775807
def uM (x:kX):Prop:=PL x.kind∧PL x.a∧PL x.b∧PL x.c
def Sy:List (List UInt8):=[[97],[98],[107,101,121]]
structure Small (n:Nat) (l:List aN):Prop where
 name:∀x∈l,x.name∈Sy
 fence:∀x∈l,x.fence≤n+1
 hold:∀x∈l,x.holder≤5
 line:∀x∈l,∀y∈x.line,y≤5
theorem Small.nil (n:Nat):Small n []:=⟨by simp,by simp,by simp,by simp⟩
theorem Small.more {n m:Nat} {l:List aN} (h:Small n l) (hm:n≤m):Small m l:=⟨h.name,fun x hx=>by have:=h.fence x hx;omega,h.hold,h.line⟩
theorem Small.set {n:Nat} {l:List aN} (h:Small n l) {i:Nat} {x:aN} (h1:x.name∈Sy) (h2:x.fence≤n+1) (h3:x.holder≤5) (h4:∀y∈x.line,y≤5):Small n (l.set i x):=by
 refine ⟨fun y hy=>?_,fun y hy=>?_,fun y hy=>?_,fun y hy=>?_⟩<;>rcases List.mem_or_eq_of_mem_set hy with h5 | h5
 ·exact h.name y h5
 ·rw [h5];exact h1
 ·exact h.fence y h5
 ·rw [h5];exact h2
 ·exact h.hold y h5
 ·rw [h5];exact h3
 ·exact h.line y h5
 ·rw [h5];exact h4
theorem qD (x:aN) (a:Int):(gH x a).holder=x.holder∧(gH x a).fence=x.fence:=by unfold gH;split<;>exact ⟨rfl,rfl⟩
theorem X7 {x:List aN} {k:List UInt8} {i:Nat} (h:ji x) (hi:i<x.length) (hn:x[i].name=k):eO x k=true∧bE x k=i:=by
 have ht:eO x k=true:=by
  cases hb:eO x k
  ·exact absurd hn (Dq h hb _ (List.getElem_mem hi))
  ·rfl
 refine ⟨ht,?_⟩;have h1:=FW ht;have h2:=jL ht;have hp:=List.pairwise_iff_getElem.1 h.names
 rcases Nat.lt_trichotomy (bE x k) i with h3 | h3 | h3
 ·have:=hp (bE x k) i (by rw [List.length_map];omega) (by rw [List.length_map];exact hi) h3
  simp only [List.getElem_map] at this;rw [h1,hn,oF] at this;cases this
 ·exact h3
 ·have:=hp i (bE x k) (by rw [List.length_map];omega) (by rw [List.length_map];omega) h3
  simp only [List.getElem_map] at this;rw [h1,hn,oF] at this;cases this
structure zC where
 kind:Int
 a:List UInt8
 b:List UInt8
 n:Int
structure aQ where
 kind:Int
 client:Int
 session:Int
 seq:Int
 aH:Int
 op:zC
def bP:zC:=⟨0,[],[],0⟩
def zC.cells (o:zC):List Value:=[iI o.kind, iS o.a, iS o.b, iI o.n]
def iC (s:aG) (index aH:Int):aG :=
 if s.aH<aH then ⟨s.client,s.id,aH,index+1,s.aA.filter (fun k=>!decide (k.seq≤aH))⟩ else ⟨s.client,s.id,s.aH,index+1,s.aA⟩
def lQ (s:aG) (seq:Int):eX×Bool :=
 if seq≤s.aH then (⟨12,0,[]⟩,false)
 else if 0≤kD (fun k=>k.seq == seq) s.aA then ((s.aA.getD (kD (fun k=>k.seq == seq) s.aA).toNat dZ).aI,false)
 else if s.aH+4<seq then (⟨2,0,[]⟩,false)
 else (dP,true)
def ready (l:List aG) (index client session seq aH:Int):List aG×eX×Bool×Int :=
 if bC l index≠0 then ([],dP,false,bC l index)
 else if index=1073741824∨seq<1∨1048576<seq∨aH<0∨seq≤aH then ([],dP,false,2)
 else if gz l client=false∨(l.getD (fH l client) aR).id≠session then (l,⟨11,0,[]⟩,false,0)
 else (l.set (fH l client) (iC (l.getD (fH l client) aR) index aH),(lQ (iC (l.getD (fH l client) aR) index aH) seq).1,(lQ (iC (l.getD (fH l client) aR) index aH) seq).2,0)
def Bq (l:List lK) (q:Int):Nat:=bs (fun i=>iy (l.getD i dZ) q) l.length
def yD (l:List lK) (q:Int):Bool:=di (fun i=>iy (l.getD i dZ) q) l.length
def zq (s:aG) (seq:Int) (r:eX):aG:=⟨s.client,s.id,s.aH,s.last,s.aA.take (Bq s.aA seq)++⟨seq,r⟩::s.aA.drop (Bq s.aA seq)⟩
def keep (l:List aG) (index client seq:Int) (r:eX):List aG×Int :=
 if bC l index≠0 then ([],bC l index)
 else if gz l client=false then ([],11)
 else if yD (l.getD (fH l client) aR).aA seq=true then ([],7)
 else if aA (zq (l.getD (fH l client) aR) seq r)=false then ([],2)
 else (l.set (fH l client) (zq (l.getD (fH l client) aR) seq r),0)
theorem wX {s:aG} {index aH:Int} (h:s.aH<aH):iC s index aH=⟨s.client,s.id,aH,index+1,s.aA.filter (fun k=>!decide (k.seq≤aH))⟩:=if_pos h
theorem zg {s:aG} {index aH:Int} (h:¬ s.aH<aH):iC s index aH=⟨s.client,s.id,s.aH,index+1,s.aA⟩:=if_neg h
end Go.Tk
