/- A part of the proof, laid together from: CluU. -/
import Derived.Test.YtbngpjdflblffaaGreatDoorPa44
set_option linter.all false
set_option maxRecDepth 100000
set_option maxHeartbeats 12800000
namespace Go.Proofs.YtbngpjdflblffaaGreatDoor
open Go.RowKit Go.Tk
theorem Ce (m n:Nat) (x:bS) (X:Nat) (Z:Nat→Prop) (w:World) (h:gW 45 73 101 9 w X x Z) (hok:aT m n x) (a:dK) (ha:fC a) (hk:a.kind<1) :
 Calls Tryz.prog 55 #[iP X 0, .agg #[iI a.kind, iI a.c, iI a.r, iI a.k, iI a.op.kind, iS a.op.a, iS a.op.b, iI a.op.n]] w fun e w'=>e=.returned (iI ((x,(3:Int))).2)∧eY 45 73 101 9 w X Z w' ((x,(3:Int))).1:=by
 have HH:=iH h;have gG:=iH hok;have HA:=iH ha;obtain ⟨kd,c,r',k,op⟩:=a;have HK:=iH hk;simp only at hk;clear h hok ha;have d1:decide (kd<1)=true:=decide_eq_true (by omega);clear hk
 go_enter Tryz.func55,Tryz.ntmps55
 go_upto_region 1 with (fail);generalize bF:w.alloc (.cells #[iI kd, iI c, iI r', iI k, iI op.kind, iS op.a, iS op.b, iI op.n] 70)=w1 at *;have hbz:=tQ bF;have HX:=iH (tO bF);have nL:=iH (cB HH.out hbz);have HB:=iH hbz;clear hbz HH;clear bF;obtain ⟨BX,jT⟩:∃BX,w.heap.size=BX:=⟨_,rfl⟩;rw [jT] at HX⊢;have yY:=iH jT;clear jT;have y0:=HX.out.cell 0 _ rfl;go_wp2;go_ret;exact ⟨rfl,Z,nL.out,fun b hb=>.inl hb,aX.of_below HB.out⟩
theorem Cc (m n:Nat) (x:bS) (X:Nat) (Z:Nat→Prop) (w:World) (h:gW 45 73 101 9 w X x Z) (hok:aT m n x) (a:dK) (ha:fC a) (hk:11<a.kind) :
 Calls Tryz.prog 55 #[iP X 0, .agg #[iI a.kind, iI a.c, iI a.r, iI a.k, iI a.op.kind, iS a.op.a, iS a.op.b, iI a.op.n]] w fun e w'=>e=.returned (iI ((x,(3:Int))).2)∧eY 45 73 101 9 w X Z w' ((x,(3:Int))).1:=by
 have HH:=iH h;have gG:=iH hok;have HA:=iH ha;obtain ⟨kd,c,r',k,op⟩:=a;have HK:=iH hk;simp only at hk;clear h hok ha;have d1:decide (kd<1)=false:=decide_eq_false (by omega);have d2:decide (11<kd)=true:=decide_eq_true (by omega);clear hk
 go_enter Tryz.func55,Tryz.ntmps55
 go_upto_region 1 with (fail);generalize bF:w.alloc (.cells #[iI kd, iI c, iI r', iI k, iI op.kind, iS op.a, iS op.b, iI op.n] 70)=w1 at *;have hbz:=tQ bF;have HX:=iH (tO bF);have nL:=iH (cB HH.out hbz);have HB:=iH hbz;clear hbz HH;clear bF;obtain ⟨BX,jT⟩:∃BX,w.heap.size=BX:=⟨_,rfl⟩;rw [jT] at HX⊢;have yY:=iH jT;clear jT;have y0:=HX.out.cell 0 _ rfl;go_wp2;go_ret;exact ⟨rfl,Z,nL.out,fun b hb=>.inl hb,aX.of_below HB.out⟩
theorem Gu (m n:Nat) (x:bS) (X:Nat) (Z:Nat→Prop) (w:World) (h:gW 45 73 101 9 w X x Z) (hok:aT m n x) (a:dK) (ha:fC a) (hn:n<400) (hk:1≤a.kind∧a.kind≤3) :
 Calls Tryz.prog 55 #[iP X 0, .agg #[iI a.kind, iI a.c, iI a.r, iI a.k, iI a.op.kind, iS a.op.a, iS a.op.b, iI a.op.n]] w fun e w'=>e=.returned (iI (ND x a).2)∧eY 45 73 101 9 w X Z w' (ND x a).1:=by
 have HH:=iH h;have gG:=iH hok;have HA:=iH ha;obtain ⟨kd,c,r',k,op⟩:=a;have HK:=iH hk;simp only at hk;clear h hok ha;have d1:decide (kd<1)=false:=decide_eq_false (by omega);have d2:decide (11<kd)=false:=decide_eq_false (by omega);have d3:decide (kd≤3)=true:=decide_eq_true (by omega);clear hk
 go_enter Tryz.func55,Tryz.ntmps55
 go_upto_region 1 with (fail);generalize bF:w.alloc (.cells #[iI kd, iI c, iI r', iI k, iI op.kind, iS op.a, iS op.b, iI op.n] 70)=w1 at *;have hbz:=tQ bF;have HX:=iH (tO bF);have nL:=iH (cB HH.out hbz);have HB:=iH hbz;clear hbz HH;clear bF;obtain ⟨BX,jT⟩:∃BX,w.heap.size=BX:=⟨_,rfl⟩;rw [jT] at HX⊢;have yY:=iH jT;clear jT;have y0:=HX.out.cell 0 _ rfl;go_upto_region 4 with (fail);have y1:=HX.out.cell 1 _ rfl;have y2:=HX.out.cell 2 _ rfl;have y3:=HX.out.cell 3 _ rfl;have y4:=HX.out.cell 4 _ rfl;have y5:=HX.out.cell 5 _ rfl;have y6:=HX.out.cell 6 _ rfl;have y7:=HX.out.cell 7 _ rfl
 go_wp2_with fail
 refine (M3 m n x X Z w1 nL.out gG.out _ HA.out hn HK.out).mono ?_;rintro e w5 ⟨rfl,hcd⟩;have vX:=iH (hcd.after HB.out);clear hcd y0 y1 y2 y3 y4 y5 y6 y7;go_wp2;go_ret;exact ⟨rfl,vX.out⟩
theorem Gv (m n:Nat) (x:bS) (X:Nat) (Z:Nat→Prop) (w:World) (h:gW 45 73 101 9 w X x Z) (hok:aT m n x) (a:dK) (ha:fC a) (hk:4≤a.kind∧a.kind≤8) :
 Calls Tryz.prog 55 #[iP X 0, .agg #[iI a.kind, iI a.c, iI a.r, iI a.k, iI a.op.kind, iS a.op.a, iS a.op.b, iI a.op.n]] w fun e w'=>e=.returned (iI (KP x a).2)∧eY 45 73 101 9 w X Z w' (KP x a).1:=by
 have HH:=iH h;have gG:=iH hok;have HA:=iH ha;obtain ⟨kd,c,r',k,op⟩:=a;have HK:=iH hk;simp only at hk;clear h hok ha;have d1:decide (kd<1)=false:=decide_eq_false (by omega);have d2:decide (11<kd)=false:=decide_eq_false (by omega);have d3:decide (kd≤3)=false:=decide_eq_false (by omega);have d4:decide (kd≤8)=true:=decide_eq_true (by omega);clear hk
 go_enter Tryz.func55,Tryz.ntmps55
 go_upto_region 1 with (fail);generalize bF:w.alloc (.cells #[iI kd, iI c, iI r', iI k, iI op.kind, iS op.a, iS op.b, iI op.n] 70)=w1 at *;have hbz:=tQ bF;have HX:=iH (tO bF);have nL:=iH (cB HH.out hbz);have HB:=iH hbz;clear hbz HH;clear bF;obtain ⟨BX,jT⟩:∃BX,w.heap.size=BX:=⟨_,rfl⟩;rw [jT] at HX⊢;have yY:=iH jT;clear jT;have y0:=HX.out.cell 0 _ rfl;go_upto_region 6 with (fail);have y1:=HX.out.cell 1 _ rfl;have y2:=HX.out.cell 2 _ rfl;have y3:=HX.out.cell 3 _ rfl;have y4:=HX.out.cell 4 _ rfl;have y5:=HX.out.cell 5 _ rfl;have y6:=HX.out.cell 6 _ rfl;have y7:=HX.out.cell 7 _ rfl
 go_wp2_with fail
 refine (Na m n x X Z w1 nL.out gG.out _ HA.out HK.out).mono ?_;rintro e w5 ⟨rfl,hcd⟩;have vX:=iH (hcd.after HB.out);clear hcd y0 y1 y2 y3 y4 y5 y6 y7;go_wp2;go_ret;exact ⟨rfl,vX.out⟩
theorem C9 (m n:Nat) (x:bS) (X:Nat) (Z:Nat→Prop) (w:World) (h:gW 45 73 101 9 w X x Z) (hok:aT m n x) (a:dK) (ha:fC a) (hk:9≤a.kind∧a.kind≤11) :
 Calls Tryz.prog 55 #[iP X 0, .agg #[iI a.kind, iI a.c, iI a.r, iI a.k, iI a.op.kind, iS a.op.a, iS a.op.b, iI a.op.n]] w fun e w'=>e=.returned (iI (qW x a).2)∧eY 45 73 101 9 w X Z w' (qW x a).1:=by
 have HH:=iH h;have gG:=iH hok;have HA:=iH ha;obtain ⟨kd,c,r',k,op⟩:=a;have HK:=iH hk;simp only at hk;clear h hok ha;have d1:decide (kd<1)=false:=decide_eq_false (by omega);have d2:decide (11<kd)=false:=decide_eq_false (by omega);have d3:decide (kd≤3)=false:=decide_eq_false (by omega);have d4:decide (kd≤8)=false:=decide_eq_false (by omega);clear hk
 go_enter Tryz.func55,Tryz.ntmps55
 go_upto_region 1 with (fail);generalize bF:w.alloc (.cells #[iI kd, iI c, iI r', iI k, iI op.kind, iS op.a, iS op.b, iI op.n] 70)=w1 at *;have hbz:=tQ bF;have HX:=iH (tO bF);have nL:=iH (cB HH.out hbz);have HB:=iH hbz;clear hbz HH;clear bF;obtain ⟨BX,jT⟩:∃BX,w.heap.size=BX:=⟨_,rfl⟩;rw [jT] at HX⊢;have yY:=iH jT;clear jT;have y0:=HX.out.cell 0 _ rfl;go_upto_region 7 with (fail);have y1:=HX.out.cell 1 _ rfl;have y2:=HX.out.cell 2 _ rfl;have y3:=HX.out.cell 3 _ rfl;have y4:=HX.out.cell 4 _ rfl;have y5:=HX.out.cell 5 _ rfl;have y6:=HX.out.cell 6 _ rfl;have y7:=HX.out.cell 7 _ rfl
 go_wp2_with fail
 refine (H6 m n x X Z w1 nL.out gG.out _ HA.out).mono ?_;rintro e w5 ⟨rfl,hcd⟩;have vX:=iH (hcd.after HB.out);clear hcd y0 y1 y2 y3 y4 y5 y6 y7;go_wp2;go_ret;exact ⟨rfl,vX.out⟩
theorem KV (m n:Nat) (x:bS) (X:Nat) (Z:Nat→Prop) (w:World) (h:gW 45 73 101 9 w X x Z) (hok:aT m n x) (a:dK) (ha:fC a) (hn:n<400) :
 Calls Tryz.prog 55 #[iP X 0, .agg #[iI a.kind, iI a.c, iI a.r, iI a.k, iI a.op.kind, iS a.op.a, iS a.op.b, iI a.op.n]] w fun e w'=>e=.returned (iI (nG x a).2)∧eY 45 73 101 9 w X Z w' (nG x a).1:=by
 rw [nG]
 by_cases hk:a.kind<1∨11<a.kind
 ·rw [if_pos hk]
  by_cases hk1:a.kind<1
  ·exact Ce m n x X Z w h hok a ha hk1
  ·exact Cc m n x X Z w h hok a ha (by omega)
 rw [if_neg hk]
 by_cases h3:a.kind≤3
 ·rw [if_pos h3];exact Gu m n x X Z w h hok a ha hn (by omega)
 rw [if_neg h3]
 by_cases h8:a.kind≤8
 ·rw [if_pos h8];exact Gv m n x X Z w h hok a ha (by omega)
 rw [if_neg h8];exact C9 m n x X Z w h hok a ha (by omega)
end Go.Proofs.YtbngpjdflblffaaGreatDoor
