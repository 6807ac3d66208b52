/- A part of the proof, laid together from: SnapC. -/
import Derived.Test.YtkefgapnghnjjaaGreatDoorPa08
import Derived.Test.YtkefgapnghnjjaaGreatDoorPa14
import Derived.Test.YtkefgapnghnjjaaGreatDoorPa09
set_option linter.unusedSimpArgs false
set_option linter.unusedVariables false
namespace Go.Tk
open Go Go.RowKit
theorem acc_len {a r : Bytes} {s : StateD} (h : a ++ r = encState s) (hs : (encState s).length ≤ 4000) : a.length ≤ 4000 := by
  rw [← h, List.length_append] at hs; omega
theorem flat_drop {α : Type} (f : α → Bytes) (l : List α) (n : Nat) (h : n < l.length) : (l.drop n).flatMap f = f l[n] ++ (l.drop (n + 1)).flatMap f := by
  rw [List.drop_eq_getElem_cons h, List.flatMap_cons]
theorem flat_end {α : Type} (f : α → Bytes) (l : List α) (n : Nat) (h : ¬ n < l.length) : (l.drop n).flatMap f = [] := by
  rw [List.drop_eq_nil_of_le (by omega)]; rfl
end Go.Tk
namespace Go.Proofs.YtkefgapnghnjjaaGreatDoor
open Go.RowKit Go.Tk
set_option linter.unusedSimpArgs false in
set_option maxRecDepth 100000 in
set_option maxHeartbeats 12800000 in
theorem encode_st_calls (s : StateD) (vl vp vs : Value) (S : Nat → Prop) (w : World) (h : StAt w s vl vp vs S) (hok : StOk s) :
    Calls Tryz.prog 28 #[.agg #[.int .i64 s.index, vl, vp, vs]] w fun e w' => e = .returned (.tuple #[.string ⟨(encState s ++ sealB (encState s)).toArray⟩, .int .i64 0]) ∧ Below w.heap.size w w' := by
  have HOK := Lib.hid hok
  have HEL := Lib.hid (encState_len hok)
  have HS := Lib.hid (h.sub (S' := fun b => b < w.heap.size) fun b _ hlt => hlt)
  clear h hok
  obtain ⟨al, cl, rfl, -, hml, -, -⟩ := id HS.out.lock; obtain ⟨ap, cp, rfl, -, hmp, -, -⟩ := id HS.out.pair; obtain ⟨az, cz, rfl, -, hmz, -, -⟩ := id HS.out.sess
  unfold maxLen at hml hmp hmz
  have hll := HOK.out.lock.len; have hpl := HOK.out.pair.len; have hzl := HOK.out.sess.len
  go_enter Tryz.func28, Tryz.ntmps28
  go_upto_region 1 with (fail)
  have HB := Lib.hid (Below.refl w.heap.size w)
  have HX := Lib.hid (BoxAt.new (w := w) (cs := [.int .i64 s.index, .slice al s.locks.length cl, .slice ap s.pairs.length cp, .slice az s.sessions.length cz]) (E := 36))
  have hba := below_alloc w (.cells #[.int .i64 s.index, .slice al s.locks.length cl, .slice ap s.pairs.length cp, .slice az s.sessions.length cz] 36)
  replace HS := Lib.hid (HS.out.below hba)
  replace HB := Lib.hid (below_step HB.out hba)
  clear hba
  generalize w.alloc (.cells #[.int .i64 s.index, .slice al s.locks.length cl, .slice ap s.pairs.length cp, .slice az s.sessions.length cz] 36) = w1 at *
  have b0 := HX.out.cell 0 _ rfl; have b1 := HX.out.cell 1 _ rfl; have b2 := HX.out.cell 2 _ rfl; have b3 := HX.out.cell 3 _ rfl
  go_wp2_with fail
  refine (maCheck_calls s _ _ _ _ w1 HS.out HOK.out.fits).mono ?_
  rw [maCheck_ok.2 HOK.out]
  rintro e w2 ⟨rfl, hb2⟩
  clear b0 b1 b2 b3
  replace HS := Lib.hid (HS.out.below hb2)
  replace HB := Lib.hid (below_step HB.out hb2)
  replace HX := Lib.hid (HX.out.below hb2)
  clear hb2
  have hBs := HX.out.lt
  go_upto_region 5 with (fail)
  have HW := Lib.hid (BoxAt.new (w := w2) (cs := [.string ⟨#[]⟩]) (E := 139))
  have hba := below_alloc w2 (.cells #[.string ⟨#[]⟩] 139)
  have hW2 := HB.out.size
  replace HS := Lib.hid (HS.out.below hba)
  replace HB := Lib.hid (below_step HB.out hba)
  replace HX := Lib.hid (HX.out.below hba)
  clear hba
  generalize w2.alloc (.cells #[.string ⟨#[]⟩] 139) = w3 at *
  obtain ⟨Wb, hWb⟩ : ∃ Wb, w2.heap.size = Wb := ⟨_, rfl⟩
  rw [hWb] at HW hBs hW2 ⊢
  clear hWb
  obtain ⟨acc, hacc⟩ : ∃ acc : Bytes, acc = [] := ⟨_, rfl⟩
  replace HW : Hid (BoxAt w3 Wb [.string ⟨acc.toArray⟩]) := by rw [hacc]; exact HW
  have HAC := Lib.hid (show acc ++ (numB s.index ++ (numB s.locks.length ++ (s.locks.flatMap encLock ++ (numB s.pairs.length ++ (s.pairs.flatMap encPair ++ (numB s.sessions.length ++ s.sessions.flatMap encSession)))))) = encState s by rw [hacc]; rfl)
  clear hacc
  have b0 := HX.out.cell 0 _ rfl; have b1 := HX.out.cell 1 _ rfl
  have hal := acc_len HAC.out HEL.out
  have hsl : SlR 1 rInt (w3.alloc (.cells #[.int .i64 s.index, .int .i64 (s.locks.length : Int)] 3)) (.slice (some ⟨w3.heap.size, 0, none⟩) 2 2) [s.index, (s.locks.length : Int)] (fun c => c = w3.heap.size) := slr_ints (l := [s.index, (s.locks.length : Int)]) (BoxAt.new (w := w3) (cs := [.int .i64 s.index, .int .i64 (s.locks.length : Int)])) (by simp [maxLen])
  have hwl := HW.out.lt
  have hba := below_alloc w3 (.cells #[.int .i64 s.index, .int .i64 (s.locks.length : Int)] 3)
  replace HS := Lib.hid (HS.out.below hba)
  replace HB := Lib.hid (below_step HB.out hba)
  replace HX := Lib.hid (HX.out.below hba)
  replace HW := Lib.hid (HW.out.below hba)
  have HNS := Lib.hid (numbers_calls acc [s.index, (s.locks.length : Int)] Wb _ _ (w3.alloc (.cells #[.int .i64 s.index, .int .i64 (s.locks.length : Int)] 3)) HW.out hsl (fun b hb => by subst hb; omega) (by simp only [List.length_cons, List.length_nil]; omega))
  go_wp2_with fail
  refine HNS.out.mono ?_
  rintro e w4 ⟨rfl, hbw, hg⟩
  clear HNS hsl hba hwl b0 b1
  replace HS := Lib.hid (HS.out.move fun b hb hlt => ⟨hg.block b hlt (fun e => by have := Option.some.inj e; have : b < w.heap.size := hb; omega), hb⟩)
  replace HB := Lib.hid (HB.out.grown hg HB.out.size (fun k e => by have := Option.some.inj e; omega))
  replace HX := Lib.hid (HX.out.grown hg (fun e => by have := Option.some.inj e; omega))
  replace HAC := Lib.hid (show (acc ++ encLine [s.index, (s.locks.length : Int)]) ++ (_ : Bytes) = encState s from by simpa only [encLine, List.flatMap_cons, List.flatMap_nil, List.append_nil, List.append_assoc, List.nil_append] using HAC.out)
  replace HW := Lib.hid hbw
  clear hbw hg hal
  generalize acc ++ encLine [s.index, (s.locks.length : Int)] = acc2 at HAC HW
  clear acc
  rename List UInt8 => acc
  have b1 := HX.out.cell 1 _ rfl
  go_wp2
  clear b1
  go_loopw [32] (fun i wr => ∃ (n : Nat) (acc : Bytes), n ≤ s.locks.length ∧ i = .int .i64 n ∧ Hid (BoxAt wr Wb [.string ⟨acc.toArray⟩]) ∧ Hid (acc ++ ((s.locks.drop n).flatMap encLock ++ (numB s.pairs.length ++ (s.pairs.flatMap encPair ++ (numB s.sessions.length ++ s.sessions.flatMap encSession)))) = encState s) ∧ Hid (w4.grownBy wr (some Wb)))
    (fun i _ => s.locks.length - (intOf i).toNat)
  case atStart => exact ⟨0, acc, by omega, rfl, HW, HAC, Lib.hid (grownBy_refl _ _)⟩
  case round =>
  clear HW HAC
  obtain ⟨n, acc, hn, rfl, HW, HAC, HG⟩ := hrel
  replace HS := Lib.hid (HS.out.move fun b hb hlt => ⟨HG.out.block b hlt (fun e => by have := Option.some.inj e; have : b < w.heap.size := hb; omega), hb⟩)
  replace HB := Lib.hid (HB.out.grown HG.out HB.out.size (fun k e => by have := Option.some.inj e; omega))
  replace HX := Lib.hid (HX.out.grown HG.out (fun e => by have := Option.some.inj e; omega))
  by_cases hlt : n < s.locks.length
  · have h0 := HAC.out
    rw [flat_drop encLock s.locks n hlt] at h0
    replace HAC := Lib.hid h0
    clear h0
    obtain ⟨b, off, cap', row, hv, -, hrow, hcells⟩ := HS.out.lock.row n hlt
    simp only [Value.slice.injEq] at hv
    obtain ⟨rfl, -, rfl⟩ := hv
    have hkn := (lkName_len (HOK.out.lock.name _ (List.getElem_mem hlt))).2
    have hkl := (HOK.out.lock.line _ (List.getElem_mem hlt)).len
    generalize s.locks[n] = k at *
    obtain ⟨rv, rfl, hrv⟩ := hrow
    obtain ⟨ra, rc, rfl, -, -, -, -⟩ := id hrv
    have q0 := hcells 0 _ rfl; have q1 := hcells 1 _ rfl; have q2 := hcells 2 _ rfl; have q3 := hcells 3 _ rfl
    simp only [Nat.add_zero] at q0
    have HKL := Lib.hid hrv
    have hWlt := HW.out.lt
    clear hcells hrv
    go_upto_region 9 with (fail)
    clear q0 q1 q2 q3
    have h0 := HAC.out
    simp only [encLock, List.append_assoc] at h0
    replace HAC := Lib.hid h0
    clear h0
    have HK := Lib.hid (BoxAt.new (w := wr) (cs := [.string ⟨k.name.toArray⟩, .int .i64 k.holder, .int .i64 k.fence, .slice ra k.line.length rc]) (E := 50))
    have hba := below_alloc wr (.cells #[.string ⟨k.name.toArray⟩, .int .i64 k.holder, .int .i64 k.fence, .slice ra k.line.length rc] 50)
    replace HG := Lib.hid (grownBy_trans HG.out (grownBy_any hba (some Wb)))
    replace HS := Lib.hid (HS.out.below hba)
    replace HB := Lib.hid (below_step HB.out hba)
    replace HX := Lib.hid (HX.out.below hba)
    replace HW := Lib.hid (HW.out.below hba)
    replace HKL := Lib.hid (HKL.out.below rInt_ok (by decide) hba)
    clear hba
    generalize wr.alloc (.cells #[.string ⟨k.name.toArray⟩, .int .i64 k.holder, .int .i64 k.fence, .slice ra k.line.length rc] 50) = w5 at *
    generalize wr.heap.size = K at *
    have k0 := HK.out.cell 0 _ rfl
    have hal := acc_len HAC.out HEL.out
    have HTX := Lib.hid (wtext_calls acc k.name Wb w5 HW.out (by omega) (by omega))
    go_wp2_with fail
    refine HTX.out.mono ?_
    rintro e w6 ⟨rfl, hbw, hg⟩
    clear HTX k0
    replace HS := Lib.hid (HS.out.move fun b hb hlt => ⟨hg.block b hlt (fun e => by have := Option.some.inj e; have : b < w.heap.size := hb; omega), hb⟩)
    replace HB := Lib.hid (HB.out.grown hg HB.out.size (fun k e => by have := Option.some.inj e; omega))
    replace HX := Lib.hid (HX.out.grown hg (fun e => by have := Option.some.inj e; omega))
    replace HG := Lib.hid (grownBy_trans HG.out hg)
    replace HKL := Lib.hid (HKL.out.grownB rInt_ok (by decide) hg (fun b hb => by have : b < w.heap.size := hb; omega))
    replace HK := Lib.hid (HK.out.grown hg (fun e => by have := Option.some.inj e; omega))
    replace HAC := Lib.hid (show (acc ++ textB k.name) ++ (_ : Bytes) = encState s from by simpa only [encLine, List.flatMap_cons, List.flatMap_nil, List.append_nil, List.append_assoc, List.nil_append] using HAC.out)
    replace HW := Lib.hid hbw
    clear hbw hg hal
    generalize acc ++ textB k.name = acc2 at HAC HW
    clear acc
    rename List UInt8 => acc
    have k1 := HK.out.cell 1 _ rfl; have k2 := HK.out.cell 2 _ rfl; have k3 := HK.out.cell 3 _ rfl
    have hal := acc_len HAC.out HEL.out
    have hsl : SlR 1 rInt (w6.alloc (.cells #[.int .i64 k.holder, .int .i64 k.fence, .int .i64 (k.line.length : Int)] 3)) (.slice (some ⟨w6.heap.size, 0, none⟩) 3 3) [k.holder, k.fence, (k.line.length : Int)] (fun c => c = w6.heap.size) := slr_ints (l := [k.holder, k.fence, (k.line.length : Int)]) (BoxAt.new (w := w6) (cs := [.int .i64 k.holder, .int .i64 k.fence, .int .i64 (k.line.length : Int)])) (by simp [maxLen])
    have hwl := HW.out.lt
    have hba := below_alloc w6 (.cells #[.int .i64 k.holder, .int .i64 k.fence, .int .i64 (k.line.length : Int)] 3)
    replace HG := Lib.hid (grownBy_trans HG.out (grownBy_any hba (some Wb)))
    replace HS := Lib.hid (HS.out.below hba)
    replace HB := Lib.hid (below_step HB.out hba)
    replace HX := Lib.hid (HX.out.below hba)
    replace HW := Lib.hid (HW.out.below hba)
    replace HKL := Lib.hid (HKL.out.below rInt_ok (by decide) hba)
    replace HK := Lib.hid (HK.out.below hba)
    have HNS := Lib.hid (numbers_calls acc [k.holder, k.fence, (k.line.length : Int)] Wb _ _ (w6.alloc (.cells #[.int .i64 k.holder, .int .i64 k.fence, .int .i64 (k.line.length : Int)] 3)) HW.out hsl (fun b hb => by subst hb; omega) (by simp only [List.length_cons, List.length_nil]; omega))
    go_wp2_with fail
    refine HNS.out.mono ?_
    rintro e w7 ⟨rfl, hbw, hg⟩
    clear HNS hsl hba hwl k1 k2 k3
    replace HS := Lib.hid (HS.out.move fun b hb hlt => ⟨hg.block b hlt (fun e => by have := Option.some.inj e; have : b < w.heap.size := hb; omega), hb⟩)
    replace HB := Lib.hid (HB.out.grown hg HB.out.size (fun k e => by have := Option.some.inj e; omega))
    replace HX := Lib.hid (HX.out.grown hg (fun e => by have := Option.some.inj e; omega))
    replace HG := Lib.hid (grownBy_trans HG.out hg)
    replace HKL := Lib.hid (HKL.out.grownB rInt_ok (by decide) hg (fun b hb => by have : b < w.heap.size := hb; omega))
    replace HK := Lib.hid (HK.out.grown hg (fun e => by have := Option.some.inj e; omega))
    replace HAC := Lib.hid (show (acc ++ encLine [k.holder, k.fence, (k.line.length : Int)]) ++ (_ : Bytes) = encState s from by simpa only [encLine, List.flatMap_cons, List.flatMap_nil, List.append_nil, List.append_assoc, List.nil_append] using HAC.out)
    replace HW := Lib.hid hbw
    clear hbw hg hal
    generalize acc ++ encLine [k.holder, k.fence, (k.line.length : Int)] = acc2 at HAC HW
    clear acc
    rename List UInt8 => acc
    have k3 := HK.out.cell 3 _ rfl
    have hal := acc_len HAC.out HEL.out
    have HNS := Lib.hid (numbers_calls acc k.line Wb _ _ w7 HW.out HKL.out (fun b hb => by have : b < w.heap.size := hb; omega) (by omega))
    go_wp2_with fail
    refine HNS.out.mono ?_
    rintro e w8 ⟨rfl, hbw, hg⟩
    clear HNS k3
    replace HS := Lib.hid (HS.out.move fun b hb hlt => ⟨hg.block b hlt (fun e => by have := Option.some.inj e; have : b < w.heap.size := hb; omega), hb⟩)
    replace HB := Lib.hid (HB.out.grown hg HB.out.size (fun k e => by have := Option.some.inj e; omega))
    replace HX := Lib.hid (HX.out.grown hg (fun e => by have := Option.some.inj e; omega))
    replace HG := Lib.hid (grownBy_trans HG.out hg)
    replace HKL := Lib.hid (HKL.out.grownB rInt_ok (by decide) hg (fun b hb => by have : b < w.heap.size := hb; omega))
    replace HK := Lib.hid (HK.out.grown hg (fun e => by have := Option.some.inj e; omega))
    replace HAC := Lib.hid (show (acc ++ encLine k.line) ++ (_ : Bytes) = encState s from by simpa only [encLine, List.flatMap_cons, List.flatMap_nil, List.append_nil, List.append_assoc, List.nil_append] using HAC.out)
    replace HW := Lib.hid hbw
    clear hbw hg hal
    generalize acc ++ encLine k.line = acc2 at HAC HW
    clear acc
    rename List UInt8 => acc
    go_wp2
    go_roundw
    case rel => exact ⟨n + 1, acc, by omega, by go_num, HW, HAC, HG⟩
    case measure => simp [intOf]; omega
  have h0 := HAC.out
  rw [flat_end encLock s.locks n hlt, List.nil_append] at h0
  replace HAC := Lib.hid h0
  clear h0
  have hWlt := HW.out.lt
  have b2 := HX.out.cell 2 _ rfl
  have hal := acc_len HAC.out HEL.out
  have hsl : SlR 1 rInt (wr.alloc (.cells #[.int .i64 (s.pairs.length : Int)] 3)) (.slice (some ⟨wr.heap.size, 0, none⟩) 1 1) [(s.pairs.length : Int)] (fun c => c = wr.heap.size) := slr_ints (l := [(s.pairs.length : Int)]) (BoxAt.new (w := wr) (cs := [.int .i64 (s.pairs.length : Int)])) (by simp [maxLen])
  have hwl := HW.out.lt
  have hba := below_alloc wr (.cells #[.int .i64 (s.pairs.length : Int)] 3)
  replace HS := Lib.hid (HS.out.below hba)
  replace HB := Lib.hid (below_step HB.out hba)
  replace HX := Lib.hid (HX.out.below hba)
  replace HW := Lib.hid (HW.out.below hba)
  have HNS := Lib.hid (numbers_calls acc [(s.pairs.length : Int)] Wb _ _ (wr.alloc (.cells #[.int .i64 (s.pairs.length : Int)] 3)) HW.out hsl (fun b hb => by subst hb; omega) (by simp only [List.length_cons, List.length_nil]; omega))
  go_wp2_with fail
  refine HNS.out.mono ?_
  rintro e w5 ⟨rfl, hbw, hg⟩
  clear HNS hsl hba hwl b2 hWlt
  replace HS := Lib.hid (HS.out.move fun b hb hlt => ⟨hg.block b hlt (fun e => by have := Option.some.inj e; have : b < w.heap.size := hb; omega), hb⟩)
  replace HB := Lib.hid (HB.out.grown hg HB.out.size (fun k e => by have := Option.some.inj e; omega))
  replace HX := Lib.hid (HX.out.grown hg (fun e => by have := Option.some.inj e; omega))
  replace HAC := Lib.hid (show (acc ++ encLine [(s.pairs.length : Int)]) ++ (_ : Bytes) = encState s from by simpa only [encLine, List.flatMap_cons, List.flatMap_nil, List.append_nil, List.append_assoc, List.nil_append] using HAC.out)
  replace HW := Lib.hid hbw
  clear hbw hg hal
  generalize acc ++ encLine [(s.pairs.length : Int)] = acc2 at HAC HW
  clear acc
  rename List UInt8 => acc
  clear HG hlt hn
  have b2 := HX.out.cell 2 _ rfl
  go_wp2
  clear b2
  go_loopw [64] (fun i wr => ∃ (n : Nat) (acc : Bytes), n ≤ s.pairs.length ∧ i = .int .i64 n ∧ Hid (BoxAt wr Wb [.string ⟨acc.toArray⟩]) ∧ Hid (acc ++ ((s.pairs.drop n).flatMap encPair ++ (numB s.sessions.length ++ s.sessions.flatMap encSession)) = encState s) ∧ Hid (w5.grownBy wr (some Wb)))
    (fun i _ => s.pairs.length - (intOf i).toNat)
  case atStart => exact ⟨0, acc, by omega, rfl, HW, HAC, Lib.hid (grownBy_refl _ _)⟩
  case round =>
  clear HW HAC
  obtain ⟨n, acc, hn, rfl, HW, HAC, HG⟩ := hrel
  replace HS := Lib.hid (HS.out.move fun b hb hlt => ⟨HG.out.block b hlt (fun e => by have := Option.some.inj e; have : b < w.heap.size := hb; omega), hb⟩)
  replace HB := Lib.hid (HB.out.grown HG.out HB.out.size (fun k e => by have := Option.some.inj e; omega))
  replace HX := Lib.hid (HX.out.grown HG.out (fun e => by have := Option.some.inj e; omega))
  by_cases hlt : n < s.pairs.length
  · have h0 := HAC.out
    rw [flat_drop encPair s.pairs n hlt] at h0
    replace HAC := Lib.hid h0
    clear h0
    obtain ⟨b, off, cap', row, hv, -, hrow, hcells⟩ := HS.out.pair.row n hlt
    simp only [Value.slice.injEq] at hv
    obtain ⟨rfl, -, rfl⟩ := hv
    have hkn := (lkName_len (HOK.out.pair.one _ (List.getElem_mem hlt)).name).2
    have hkl := (HOK.out.pair.one _ (List.getElem_mem hlt)).size
    generalize s.pairs[n] = k at *
    obtain rfl := hrow
    have q0 := hcells 0 _ rfl; have q1 := hcells 1 _ rfl; have q2 := hcells 2 _ rfl
    simp only [Nat.add_zero] at q0
    have hWlt := HW.out.lt
    clear hcells
    go_upto_region 17 with (fail)
    clear q0 q1 q2
    have h0 := HAC.out
    simp only [encPair, List.append_assoc] at h0
    replace HAC := Lib.hid h0
    clear h0
    have HK := Lib.hid (BoxAt.new (w := wr) (cs := [.string ⟨k.name.toArray⟩, .string ⟨k.value.toArray⟩, .int .i64 k.version]) (E := 57))
    have hba := below_alloc wr (.cells #[.string ⟨k.name.toArray⟩, .string ⟨k.value.toArray⟩, .int .i64 k.version] 57)
    replace HG := Lib.hid (grownBy_trans HG.out (grownBy_any hba (some Wb)))
    replace HS := Lib.hid (HS.out.below hba)
    replace HB := Lib.hid (below_step HB.out hba)
    replace HX := Lib.hid (HX.out.below hba)
    replace HW := Lib.hid (HW.out.below hba)
    clear hba
    generalize wr.alloc (.cells #[.string ⟨k.name.toArray⟩, .string ⟨k.value.toArray⟩, .int .i64 k.version] 57) = w6 at *
    generalize wr.heap.size = K at *
    have k0 := HK.out.cell 0 _ rfl
    have hal := acc_len HAC.out HEL.out
    have HTX := Lib.hid (wtext_calls acc k.name Wb w6 HW.out (by omega) (by omega))
    go_wp2_with fail
    refine HTX.out.mono ?_
    rintro e w7 ⟨rfl, hbw, hg⟩
    clear HTX k0
    replace HS := Lib.hid (HS.out.move fun b hb hlt => ⟨hg.block b hlt (fun e => by have := Option.some.inj e; have : b < w.heap.size := hb; omega), hb⟩)
    replace HB := Lib.hid (HB.out.grown hg HB.out.size (fun k e => by have := Option.some.inj e; omega))
    replace HX := Lib.hid (HX.out.grown hg (fun e => by have := Option.some.inj e; omega))
    replace HG := Lib.hid (grownBy_trans HG.out hg)
    replace HK := Lib.hid (HK.out.grown hg (fun e => by have := Option.some.inj e; omega))
    replace HAC := Lib.hid (show (acc ++ textB k.name) ++ (_ : Bytes) = encState s from by simpa only [encLine, List.flatMap_cons, List.flatMap_nil, List.append_nil, List.append_assoc, List.nil_append] using HAC.out)
    replace HW := Lib.hid hbw
    clear hbw hg hal
    generalize acc ++ textB k.name = acc2 at HAC HW
    clear acc
    rename List UInt8 => acc
    have k1 := HK.out.cell 1 _ rfl
    have hal := acc_len HAC.out HEL.out
    have HTX := Lib.hid (wtext_calls acc k.value Wb w7 HW.out (by omega) (by omega))
    go_wp2_with fail
    refine HTX.out.mono ?_
    rintro e w8 ⟨rfl, hbw, hg⟩
    clear HTX k1
    replace HS := Lib.hid (HS.out.move fun b hb hlt => ⟨hg.block b hlt (fun e => by have := Option.some.inj e; have : b < w.heap.size := hb; omega), hb⟩)
    replace HB := Lib.hid (HB.out.grown hg HB.out.size (fun k e => by have := Option.some.inj e; omega))
    replace HX := Lib.hid (HX.out.grown hg (fun e => by have := Option.some.inj e; omega))
    replace HG := Lib.hid (grownBy_trans HG.out hg)
    replace HK := Lib.hid (HK.out.grown hg (fun e => by have := Option.some.inj e; omega))
    replace HAC := Lib.hid (show (acc ++ textB k.value) ++ (_ : Bytes) = encState s from by simpa only [encLine, List.flatMap_cons, List.flatMap_nil, List.append_nil, List.append_assoc, List.nil_append] using HAC.out)
    replace HW := Lib.hid hbw
    clear hbw hg hal
    generalize acc ++ textB k.value = acc2 at HAC HW
    clear acc
    rename List UInt8 => acc
    have k2 := HK.out.cell 2 _ rfl
    have hal := acc_len HAC.out HEL.out
    have hsl : SlR 1 rInt (w8.alloc (.cells #[.int .i64 k.version] 3)) (.slice (some ⟨w8.heap.size, 0, none⟩) 1 1) [k.version] (fun c => c = w8.heap.size) := slr_ints (l := [k.version]) (BoxAt.new (w := w8) (cs := [.int .i64 k.version])) (by simp [maxLen])
    have hwl := HW.out.lt
    have hba := below_alloc w8 (.cells #[.int .i64 k.version] 3)
    replace HG := Lib.hid (grownBy_trans HG.out (grownBy_any hba (some Wb)))
    replace HS := Lib.hid (HS.out.below hba)
    replace HB := Lib.hid (below_step HB.out hba)
    replace HX := Lib.hid (HX.out.below hba)
    replace HW := Lib.hid (HW.out.below hba)
    replace HK := Lib.hid (HK.out.below hba)
    have HNS := Lib.hid (numbers_calls acc [k.version] Wb _ _ (w8.alloc (.cells #[.int .i64 k.version] 3)) HW.out hsl (fun b hb => by subst hb; omega) (by simp only [List.length_cons, List.length_nil]; omega))
    go_wp2_with fail
    refine HNS.out.mono ?_
    rintro e w9 ⟨rfl, hbw, hg⟩
    clear HNS hsl hba hwl k2
    replace HS := Lib.hid (HS.out.move fun b hb hlt => ⟨hg.block b hlt (fun e => by have := Option.some.inj e; have : b < w.heap.size := hb; omega), hb⟩)
    replace HB := Lib.hid (HB.out.grown hg HB.out.size (fun k e => by have := Option.some.inj e; omega))
    replace HX := Lib.hid (HX.out.grown hg (fun e => by have := Option.some.inj e; omega))
    replace HG := Lib.hid (grownBy_trans HG.out hg)
    replace HK := Lib.hid (HK.out.grown hg (fun e => by have := Option.some.inj e; omega))
    replace HAC := Lib.hid (show (acc ++ encLine [k.version]) ++ (_ : Bytes) = encState s from by simpa only [encLine, List.flatMap_cons, List.flatMap_nil, List.append_nil, List.append_assoc, List.nil_append] using HAC.out)
    replace HW := Lib.hid hbw
    clear hbw hg hal
    generalize acc ++ encLine [k.version] = acc2 at HAC HW
    clear acc
    rename List UInt8 => acc
    go_wp2
    go_roundw
    case rel => exact ⟨n + 1, acc, by omega, by go_num, HW, HAC, HG⟩
    case measure => simp [intOf]; omega
  have h0 := HAC.out
  rw [flat_end encPair s.pairs n hlt, List.nil_append] at h0
  replace HAC := Lib.hid h0
  clear h0
  have hWlt := HW.out.lt
  have b3 := HX.out.cell 3 _ rfl
  have hal := acc_len HAC.out HEL.out
  have hsl : SlR 1 rInt (wr.alloc (.cells #[.int .i64 (s.sessions.length : Int)] 3)) (.slice (some ⟨wr.heap.size, 0, none⟩) 1 1) [(s.sessions.length : Int)] (fun c => c = wr.heap.size) := slr_ints (l := [(s.sessions.length : Int)]) (BoxAt.new (w := wr) (cs := [.int .i64 (s.sessions.length : Int)])) (by simp [maxLen])
  have hwl := HW.out.lt
  have hba := below_alloc wr (.cells #[.int .i64 (s.sessions.length : Int)] 3)
  replace HS := Lib.hid (HS.out.below hba)
  replace HB := Lib.hid (below_step HB.out hba)
  replace HX := Lib.hid (HX.out.below hba)
  replace HW := Lib.hid (HW.out.below hba)
  have HNS := Lib.hid (numbers_calls acc [(s.sessions.length : Int)] Wb _ _ (wr.alloc (.cells #[.int .i64 (s.sessions.length : Int)] 3)) HW.out hsl (fun b hb => by subst hb; omega) (by simp only [List.length_cons, List.length_nil]; omega))
  go_wp2_with fail
  refine HNS.out.mono ?_
  rintro e w6 ⟨rfl, hbw, hg⟩
  clear HNS hsl hba hwl b3 hWlt
  replace HS := Lib.hid (HS.out.move fun b hb hlt => ⟨hg.block b hlt (fun e => by have := Option.some.inj e; have : b < w.heap.size := hb; omega), hb⟩)
  replace HB := Lib.hid (HB.out.grown hg HB.out.size (fun k e => by have := Option.some.inj e; omega))
  replace HX := Lib.hid (HX.out.grown hg (fun e => by have := Option.some.inj e; omega))
  replace HAC := Lib.hid (show (acc ++ encLine [(s.sessions.length : Int)]) ++ (_ : Bytes) = encState s from by simpa only [encLine, List.flatMap_cons, List.flatMap_nil, List.append_nil, List.append_assoc, List.nil_append] using HAC.out)
  replace HW := Lib.hid hbw
  clear hbw hg hal
  generalize acc ++ encLine [(s.sessions.length : Int)] = acc2 at HAC HW
  clear acc
  rename List UInt8 => acc
  clear HG hlt hn
  have b3 := HX.out.cell 3 _ rfl
  go_wp2
  clear b3
  go_loopw [91] (fun i wr => ∃ (n : Nat) (acc : Bytes), n ≤ s.sessions.length ∧ i = .int .i64 n ∧ Hid (BoxAt wr Wb [.string ⟨acc.toArray⟩]) ∧ Hid (acc ++ ((s.sessions.drop n).flatMap encSession) = encState s) ∧ Hid (w6.grownBy wr (some Wb)))
    (fun i _ => s.sessions.length - (intOf i).toNat)
  case atStart => exact ⟨0, acc, by omega, rfl, HW, HAC, Lib.hid (grownBy_refl _ _)⟩
  case round =>
  clear HW HAC
  obtain ⟨n, acc, hn, rfl, HW, HAC, HG⟩ := hrel
  replace HS := Lib.hid (HS.out.move fun b hb hlt => ⟨HG.out.block b hlt (fun e => by have := Option.some.inj e; have : b < w.heap.size := hb; omega), hb⟩)
  replace HB := Lib.hid (HB.out.grown HG.out HB.out.size (fun k e => by have := Option.some.inj e; omega))
  replace HX := Lib.hid (HX.out.grown HG.out (fun e => by have := Option.some.inj e; omega))
  by_cases hlt : n < s.sessions.length
  · have h0 := HAC.out
    rw [flat_drop encSession s.sessions n hlt] at h0
    replace HAC := Lib.hid h0
    clear h0
    obtain ⟨b, off, cap', row, hv, -, hrow, hcells⟩ := HS.out.sess.row n hlt
    simp only [Value.slice.injEq] at hv
    obtain ⟨rfl, -, rfl⟩ := hv
    have hrp := HOK.out.sess.rep _ (List.getElem_mem hlt)
    have hrl := replies_len hrp
    have HRO := Lib.hid (replies_iff.1 hrp).one
    clear hrp
    generalize s.sessions[n] = x at *
    obtain ⟨rv, rfl, hrv⟩ := hrow
    obtain ⟨ra, rc, rfl, -, hrc, -, -⟩ := id hrv
    unfold maxLen at hrc
    have q0 := hcells 0 _ rfl; have q1 := hcells 1 _ rfl; have q2 := hcells 2 _ rfl; have q3 := hcells 3 _ rfl; have q4 := hcells 4 _ rfl
    simp only [Nat.add_zero] at q0
    have HXR := Lib.hid hrv
    have hWlt := HW.out.lt
    clear hcells hrv
    go_upto_region 25 with (fail)
    clear q0 q1 q2 q3 q4
    have h0 := HAC.out
    simp only [encSession, List.append_assoc] at h0
    replace HAC := Lib.hid h0
    clear h0
    have HK := Lib.hid (BoxAt.new (w := wr) (cs := [.int .i64 x.client, .int .i64 x.id, .int .i64 x.acked, .int .i64 x.last, .slice ra x.replies.length rc]) (E := 144))
    have hba := below_alloc wr (.cells #[.int .i64 x.client, .int .i64 x.id, .int .i64 x.acked, .int .i64 x.last, .slice ra x.replies.length rc] 144)
    replace HG := Lib.hid (grownBy_trans HG.out (grownBy_any hba (some Wb)))
    replace HS := Lib.hid (HS.out.below hba)
    replace HB := Lib.hid (below_step HB.out hba)
    replace HX := Lib.hid (HX.out.below hba)
    replace HW := Lib.hid (HW.out.below hba)
    replace HXR := Lib.hid (HXR.out.below rKept_ok (by decide) hba)
    clear hba
    generalize wr.alloc (.cells #[.int .i64 x.client, .int .i64 x.id, .int .i64 x.acked, .int .i64 x.last, .slice ra x.replies.length rc] 144) = w7 at *
    generalize wr.heap.size = K at *
    have k0 := HK.out.cell 0 _ rfl; have k1 := HK.out.cell 1 _ rfl; have k2 := HK.out.cell 2 _ rfl; have k3 := HK.out.cell 3 _ rfl; have k4 := HK.out.cell 4 _ rfl
    have hal := acc_len HAC.out HEL.out
    have hsl : SlR 1 rInt (w7.alloc (.cells #[.int .i64 x.client, .int .i64 x.id, .int .i64 x.acked, .int .i64 x.last, .int .i64 (x.replies.length : Int)] 3)) (.slice (some ⟨w7.heap.size, 0, none⟩) 5 5) [x.client, x.id, x.acked, x.last, (x.replies.length : Int)] (fun c => c = w7.heap.size) := slr_ints (l := [x.client, x.id, x.acked, x.last, (x.replies.length : Int)]) (BoxAt.new (w := w7) (cs := [.int .i64 x.client, .int .i64 x.id, .int .i64 x.acked, .int .i64 x.last, .int .i64 (x.replies.length : Int)])) (by simp [maxLen])
    have hwl := HW.out.lt
    have hba := below_alloc w7 (.cells #[.int .i64 x.client, .int .i64 x.id, .int .i64 x.acked, .int .i64 x.last, .int .i64 (x.replies.length : Int)] 3)
    replace HG := Lib.hid (grownBy_trans HG.out (grownBy_any hba (some Wb)))
    replace HS := Lib.hid (HS.out.below hba)
    replace HB := Lib.hid (below_step HB.out hba)
    replace HX := Lib.hid (HX.out.below hba)
    replace HW := Lib.hid (HW.out.below hba)
    replace HXR := Lib.hid (HXR.out.below rKept_ok (by decide) hba)
    replace HK := Lib.hid (HK.out.below hba)
    have HNS := Lib.hid (numbers_calls acc [x.client, x.id, x.acked, x.last, (x.replies.length : Int)] Wb _ _ (w7.alloc (.cells #[.int .i64 x.client, .int .i64 x.id, .int .i64 x.acked, .int .i64 x.last, .int .i64 (x.replies.length : Int)] 3)) HW.out hsl (fun b hb => by subst hb; omega) (by simp only [List.length_cons, List.length_nil]; omega))
    go_wp2_with fail
    refine HNS.out.mono ?_
    rintro e w8 ⟨rfl, hbw, hg⟩
    clear HNS hsl hba hwl k0 k1 k2 k3 k4
    replace HS := Lib.hid (HS.out.move fun b hb hlt => ⟨hg.block b hlt (fun e => by have := Option.some.inj e; have : b < w.heap.size := hb; omega), hb⟩)
    replace HB := Lib.hid (HB.out.grown hg HB.out.size (fun k e => by have := Option.some.inj e; omega))
    replace HX := Lib.hid (HX.out.grown hg (fun e => by have := Option.some.inj e; omega))
    replace HG := Lib.hid (grownBy_trans HG.out hg)
    replace HXR := Lib.hid (HXR.out.grownB rKept_ok (by decide) hg (fun b hb => by have : b < w.heap.size := hb; omega))
    replace HK := Lib.hid (HK.out.grown hg (fun e => by have := Option.some.inj e; omega))
    replace HAC := Lib.hid (show (acc ++ encLine [x.client, x.id, x.acked, x.last, (x.replies.length : Int)]) ++ (_ : Bytes) = encState s from by simpa only [encLine, List.flatMap_cons, List.flatMap_nil, List.append_nil, List.append_assoc, List.nil_append] using HAC.out)
    replace HW := Lib.hid hbw
    clear hbw hg hal
    generalize acc ++ encLine [x.client, x.id, x.acked, x.last, (x.replies.length : Int)] = acc2 at HAC HW
    clear acc
    rename List UInt8 => acc
    have k4 := HK.out.cell 4 _ rfl
    go_wp2
    clear k4
    go_loopw [112] (fun i wr => ∃ (m : Nat) (acc : Bytes), m ≤ x.replies.length ∧ i = .int .i64 m ∧ Hid (BoxAt wr Wb [.string ⟨acc.toArray⟩]) ∧ Hid (acc ++ ((x.replies.drop m).flatMap encKept ++ (s.sessions.drop (n + 1)).flatMap encSession) = encState s) ∧ Hid (w8.grownBy wr (some Wb)))
      (fun i _ => x.replies.length - (intOf i).toNat)
    case atStart => exact ⟨0, acc, by omega, rfl, HW, HAC, Lib.hid (grownBy_refl _ _)⟩
    case round =>
    clear HW HAC
    obtain ⟨m, acc, hm, rfl, HW, HAC, HG4⟩ := hrel
    rename World => w9
    replace HS := Lib.hid (HS.out.move fun b hb hlt => ⟨HG4.out.block b hlt (fun e => by have := Option.some.inj e; have : b < w.heap.size := hb; omega), hb⟩)
    replace HB := Lib.hid (HB.out.grown HG4.out HB.out.size (fun k e => by have := Option.some.inj e; omega))
    replace HX := Lib.hid (HX.out.grown HG4.out (fun e => by have := Option.some.inj e; omega))
    replace HG := Lib.hid (grownBy_trans HG.out HG4.out)
    replace HXR := Lib.hid (HXR.out.grownB rKept_ok (by decide) HG4.out (fun b hb => by have : b < w.heap.size := hb; omega))
    replace HK := Lib.hid (HK.out.grown HG4.out (fun e => by have := Option.some.inj e; omega))
    by_cases hlt4 : m < x.replies.length
    · have h0 := HAC.out
      rw [flat_drop encKept x.replies m hlt4] at h0
      replace HAC := Lib.hid h0
      clear h0
      obtain ⟨b4, off4, cap4, row4, hv, -, hrow, hcells⟩ := HXR.out.row m hlt4
      simp only [Value.slice.injEq] at hv
      obtain ⟨rfl, -, rfl⟩ := hv
      have hko := (HRO.out _ (List.getElem_mem hlt4)).2.2.2.2
      generalize x.replies[m] = k at *
      obtain rfl := hrow
      have q0 := hcells 0 _ rfl; have q1 := hcells 1 _ rfl; have q2 := hcells 2 _ rfl; have q3 := hcells 3 _ rfl
      simp only [Nat.add_zero] at q0
      have hWlt4 := HW.out.lt
      clear hcells
      go_upto_region 29 with (fail)
      clear q0 q1 q2 q3
      have h0 := HAC.out
      simp only [encKept, List.append_assoc] at h0
      replace HAC := Lib.hid h0
      clear h0
      have HK4 := Lib.hid (BoxAt.new (w := w9) (cs := [.int .i64 k.seq, .int .i64 k.reply.code, .int .i64 k.reply.n, .string ⟨k.reply.text.toArray⟩]) (E := 146))
      have hba := below_alloc w9 (.cells #[.int .i64 k.seq, .int .i64 k.reply.code, .int .i64 k.reply.n, .string ⟨k.reply.text.toArray⟩] 146)
      replace HG4 := Lib.hid (grownBy_trans HG4.out (grownBy_any hba (some Wb)))
      replace HS := Lib.hid (HS.out.below hba)
      replace HB := Lib.hid (below_step HB.out hba)
      replace HX := Lib.hid (HX.out.below hba)
      replace HW := Lib.hid (HW.out.below hba)
      replace HXR := Lib.hid (HXR.out.below rKept_ok (by decide) hba)
      replace HK := Lib.hid (HK.out.below hba)
      clear hba
      generalize w9.alloc (.cells #[.int .i64 k.seq, .int .i64 k.reply.code, .int .i64 k.reply.n, .string ⟨k.reply.text.toArray⟩] 146) = w10 at *
      generalize w9.heap.size = K4 at *
      have k0 := HK4.out.cell 0 _ rfl; have k1 := HK4.out.cell 1 _ rfl; have k2 := HK4.out.cell 2 _ rfl
      have hal := acc_len HAC.out HEL.out
      have hsl : SlR 1 rInt (w10.alloc (.cells #[.int .i64 k.seq, .int .i64 k.reply.code, .int .i64 k.reply.n] 3)) (.slice (some ⟨w10.heap.size, 0, none⟩) 3 3) [k.seq, k.reply.code, k.reply.n] (fun c => c = w10.heap.size) := slr_ints (l := [k.seq, k.reply.code, k.reply.n]) (BoxAt.new (w := w10) (cs := [.int .i64 k.seq, .int .i64 k.reply.code, .int .i64 k.reply.n])) (by simp [maxLen])
      have hwl := HW.out.lt
      have hba := below_alloc w10 (.cells #[.int .i64 k.seq, .int .i64 k.reply.code, .int .i64 k.reply.n] 3)
      replace HG4 := Lib.hid (grownBy_trans HG4.out (grownBy_any hba (some Wb)))
      replace HS := Lib.hid (HS.out.below hba)
      replace HB := Lib.hid (below_step HB.out hba)
      replace HX := Lib.hid (HX.out.below hba)
      replace HW := Lib.hid (HW.out.below hba)
      replace HXR := Lib.hid (HXR.out.below rKept_ok (by decide) hba)
      replace HK := Lib.hid (HK.out.below hba)
      replace HK4 := Lib.hid (HK4.out.below hba)
      have HNS := Lib.hid (numbers_calls acc [k.seq, k.reply.code, k.reply.n] Wb _ _ (w10.alloc (.cells #[.int .i64 k.seq, .int .i64 k.reply.code, .int .i64 k.reply.n] 3)) HW.out hsl (fun b hb => by subst hb; omega) (by simp only [List.length_cons, List.length_nil]; omega))
      go_wp2_with fail
      refine HNS.out.mono ?_
      rintro e w11 ⟨rfl, hbw, hg⟩
      clear HNS hsl hba hwl k0 k1 k2
      replace HS := Lib.hid (HS.out.move fun b hb hlt => ⟨hg.block b hlt (fun e => by have := Option.some.inj e; have : b < w.heap.size := hb; omega), hb⟩)
      replace HB := Lib.hid (HB.out.grown hg HB.out.size (fun k e => by have := Option.some.inj e; omega))
      replace HX := Lib.hid (HX.out.grown hg (fun e => by have := Option.some.inj e; omega))
      replace HXR := Lib.hid (HXR.out.grownB rKept_ok (by decide) hg (fun b hb => by have : b < w.heap.size := hb; omega))
      replace HK := Lib.hid (HK.out.grown hg (fun e => by have := Option.some.inj e; omega))
      replace HG4 := Lib.hid (grownBy_trans HG4.out hg)
      replace HK4 := Lib.hid (HK4.out.grown hg (fun e => by have := Option.some.inj e; omega))
      replace HAC := Lib.hid (show (acc ++ encLine [k.seq, k.reply.code, k.reply.n]) ++ (_ : Bytes) = encState s from by simpa only [encLine, List.flatMap_cons, List.flatMap_nil, List.append_nil, List.append_assoc, List.nil_append] using HAC.out)
      replace HW := Lib.hid hbw
      clear hbw hg hal
      generalize acc ++ encLine [k.seq, k.reply.code, k.reply.n] = acc2 at HAC HW
      clear acc
      rename List UInt8 => acc
      have k3 := HK4.out.cell 3 _ rfl
      have hal := acc_len HAC.out HEL.out
      have HTX := Lib.hid (wtext_calls acc k.reply.text Wb w11 HW.out (by omega) (by omega))
      go_wp2_with fail
      refine HTX.out.mono ?_
      rintro e w12 ⟨rfl, hbw, hg⟩
      clear HTX k3
      replace HS := Lib.hid (HS.out.move fun b hb hlt => ⟨hg.block b hlt (fun e => by have := Option.some.inj e; have : b < w.heap.size := hb; omega), hb⟩)
      replace HB := Lib.hid (HB.out.grown hg HB.out.size (fun k e => by have := Option.some.inj e; omega))
      replace HX := Lib.hid (HX.out.grown hg (fun e => by have := Option.some.inj e; omega))
      replace HXR := Lib.hid (HXR.out.grownB rKept_ok (by decide) hg (fun b hb => by have : b < w.heap.size := hb; omega))
      replace HK := Lib.hid (HK.out.grown hg (fun e => by have := Option.some.inj e; omega))
      replace HG4 := Lib.hid (grownBy_trans HG4.out hg)
      replace HK4 := Lib.hid (HK4.out.grown hg (fun e => by have := Option.some.inj e; omega))
      replace HAC := Lib.hid (show (acc ++ textB k.reply.text) ++ (_ : Bytes) = encState s from by simpa only [encLine, List.flatMap_cons, List.flatMap_nil, List.append_nil, List.append_assoc, List.nil_append] using HAC.out)
      replace HW := Lib.hid hbw
      clear hbw hg hal
      generalize acc ++ textB k.reply.text = acc2 at HAC HW
      clear acc
      rename List UInt8 => acc
      go_wp2
      go_roundw
      case rel => exact ⟨m + 1, acc, by omega, by go_num, HW, HAC, HG4⟩
      case measure => simp [intOf]; omega
    have h0 := HAC.out
    rw [flat_end encKept x.replies m hlt4, List.nil_append] at h0
    replace HAC := Lib.hid h0
    clear h0
    go_wp2
    go_roundw
    case rel => exact ⟨n + 1, acc, by omega, by go_num, HW, HAC, HG⟩
    case measure => simp [intOf]; omega
  have h0 := HAC.out
  rw [flat_end encSession s.sessions n hlt, List.append_nil] at h0
  replace HAC := Lib.hid h0
  clear h0
  have hal := HEL.out
  rw [← HAC.out] at hal
  clear HG HS HX
  go_upto_region 33 with (fail)
  clear hlt hn
  rename World => w13
  refine wp_region_plan 12 (fun wx => Below w13.heap.size w13 wx) (fun wx wy => Below wx.heap.size wx wy) [eqV (.pointer (some ⟨Wb, 0, none⟩)), eqV (.pointer (some ⟨Wb, 0, none⟩)), eqV (.pointer (some ⟨Wb, 0, none⟩)), eqV (.string ⟨acc.toArray⟩), eqV (.pointer (some ⟨Wb, 0, none⟩)), eqV (.pointer (some ⟨Wb, 0, none⟩)), eqV (.pointer (some ⟨Wb, 0, none⟩)), eqV (.string ⟨acc.toArray⟩), eqV (.string ⟨(sealB acc).toArray⟩), eqV (.string ⟨(acc ++ sealB acc).toArray⟩), eqV (.string ⟨(acc ++ sealB acc).toArray⟩), eqV (.int .i64 0)] (by kernel_rfl) (by kernel_rfl) rfl ?hJ ?hJS ?hst ?hobl ?hend
  case hJ => exact Below.drew (Below.refl _ _)
  case hJS =>
    exact fun wx wy h1 h2 => below_step h1 h2
  case hst => exact planStab_at _ ⟨eqV_stab _, eqV_stab _, eqV_stab _, eqV_stab _, eqV_stab _, eqV_stab _, eqV_stab _, eqV_stab _, eqV_stab _, eqV_stab _, eqV_stab _, eqV_stab _, trivial⟩
  case hobl =>
    simp only [planObls, List.take_succ_cons, List.take_zero, planPut, Act.put, List.setIfInBounds_toArray, List.set_cons_zero, List.set_cons_succ, Nat.reduceAdd, Nat.zero_add]
    refine ⟨?_, ?_, ?_, ?_, ?_, ?_, ?_, ?_, ?_, ?_, ?_, ?_, trivial⟩
    · intro vs wx hJ hn K hK
      simp [planNeeds, VAt, eqV, Region.binds] at hn
      simp only [VAt, eqV, List.getD_cons_zero, List.getD_cons_succ, Act.put, List.setIfInBounds_toArray, List.set_cons_zero, List.set_cons_succ, Nat.reduceAdd, Nat.zero_add] at hK
      go_wp2
      exact hK _ _ (Below.refl _ _) rfl
    · intro vs wx hJ hn K hK
      simp [planNeeds, VAt, eqV, Region.binds] at hn
      simp only [VAt, eqV, List.getD_cons_zero, List.getD_cons_succ, Act.put, List.setIfInBounds_toArray, List.set_cons_zero, List.set_cons_succ, Nat.reduceAdd, Nat.zero_add] at hK
      simp only [hn] at hK ⊢
      go_wp2
      exact hK _ _ (Below.refl _ _) rfl
    · intro vs wx hJ hn K hK
      simp [planNeeds, VAt, eqV, Region.binds] at hn
      simp only [VAt, eqV, List.getD_cons_zero, List.getD_cons_succ, Act.put, List.setIfInBounds_toArray, List.set_cons_zero, List.set_cons_succ, Nat.reduceAdd, Nat.zero_add] at hK
      simp only [hn] at hK ⊢
      go_wp2
      exact hK _ _ (Below.refl _ _) rfl
    · intro vs wx hJ hn K hK
      simp [planNeeds, VAt, eqV, Region.binds] at hn
      simp only [VAt, eqV, List.getD_cons_zero, List.getD_cons_succ, Act.put, List.setIfInBounds_toArray, List.set_cons_zero, List.set_cons_succ, Nat.reduceAdd, Nat.zero_add] at hK
      simp only [hn] at hK ⊢
      have c0 := (HW.out.below hJ).cell 0 _ rfl
      go_wp2
      exact hK _ _ (Below.refl _ _) rfl
    · intro vs wx hJ hn K hK
      simp [planNeeds, VAt, eqV, Region.binds] at hn
      simp only [VAt, eqV, List.getD_cons_zero, List.getD_cons_succ, Act.put, List.setIfInBounds_toArray, List.set_cons_zero, List.set_cons_succ, Nat.reduceAdd, Nat.zero_add] at hK
      go_wp2
      exact hK _ _ (Below.refl _ _) rfl
    · intro vs wx hJ hn K hK
      simp [planNeeds, VAt, eqV, Region.binds] at hn
      simp only [VAt, eqV, List.getD_cons_zero, List.getD_cons_succ, Act.put, List.setIfInBounds_toArray, List.set_cons_zero, List.set_cons_succ, Nat.reduceAdd, Nat.zero_add] at hK
      simp only [hn] at hK ⊢
      go_wp2
      exact hK _ _ (Below.refl _ _) rfl
    · intro vs wx hJ hn K hK
      simp [planNeeds, VAt, eqV, Region.binds] at hn
      simp only [VAt, eqV, List.getD_cons_zero, List.getD_cons_succ, Act.put, List.setIfInBounds_toArray, List.set_cons_zero, List.set_cons_succ, Nat.reduceAdd, Nat.zero_add] at hK
      simp only [hn] at hK ⊢
      go_wp2
      exact hK _ _ (Below.refl _ _) rfl
    · intro vs wx hJ hn K hK
      simp [planNeeds, VAt, eqV, Region.binds] at hn
      simp only [VAt, eqV, List.getD_cons_zero, List.getD_cons_succ, Act.put, List.setIfInBounds_toArray, List.set_cons_zero, List.set_cons_succ, Nat.reduceAdd, Nat.zero_add] at hK
      simp only [hn] at hK ⊢
      have c0 := (HW.out.below hJ).cell 0 _ rfl
      go_wp2
      exact hK _ _ (Below.refl _ _) rfl
    · intro vs wx hJ hn K hK
      simp [planNeeds, VAt, eqV, Region.binds] at hn
      simp only [VAt, eqV, List.getD_cons_zero, List.getD_cons_succ, Act.put, List.setIfInBounds_toArray, List.set_cons_zero, List.set_cons_succ, Nat.reduceAdd, Nat.zero_add] at hK
      simp only [hn] at hK ⊢
      go_wp2_with fail
      refine (seal_calls acc (by omega) _).mono ?_
      rintro e w8 ⟨rfl, hb8⟩
      go_wp2
      exact hK _ _ hb8 rfl
    · intro vs wx hJ hn K hK
      simp [planNeeds, VAt, eqV, Region.binds] at hn
      simp only [VAt, eqV, List.getD_cons_zero, List.getD_cons_succ, Act.put, List.setIfInBounds_toArray, List.set_cons_zero, List.set_cons_succ, Nat.reduceAdd, Nat.zero_add] at hK
      simp only [hn] at hK ⊢
      have hsl := seal_len acc
      generalize sealB acc = sb at *
      go_wp2
      exact hK _ _ (Below.refl _ _) rfl
    · intro vs wx hJ hn K hK
      simp [planNeeds, VAt, eqV, Region.binds] at hn
      simp only [VAt, eqV, List.getD_cons_zero, List.getD_cons_succ, Act.put, List.setIfInBounds_toArray, List.set_cons_zero, List.set_cons_succ, Nat.reduceAdd, Nat.zero_add] at hK
      simp only [hn] at hK ⊢
      generalize sealB acc = sb at *
      go_wp2
      exact hK _ _ (Below.refl _ _) rfl
    · intro vs wx hJ hn K hK
      simp [planNeeds, VAt, eqV, Region.binds] at hn
      simp only [VAt, eqV, List.getD_cons_zero, List.getD_cons_succ, Act.put, List.setIfInBounds_toArray, List.set_cons_zero, List.set_cons_succ, Nat.reduceAdd, Nat.zero_add] at hK
      simp only [hn] at hK ⊢
      go_wp2
      exact hK _ _ (Below.refl _ _) rfl
  case hend =>
    intro vs wx hJ hv
    simp [planHave, eqV] at hv
    obtain ⟨e0, e1, e2, e3, e4, e5, e6, e7, e8, e9, e10, e11⟩ := hv
    simp only [List.take_succ_cons, List.take_zero, List.drop_succ_cons, List.drop_zero, planPut, Act.put, List.setIfInBounds_toArray, List.set_cons_zero, List.set_cons_succ, Nat.reduceAdd, Nat.zero_add]
    rw [e0, e1, e2, e3, e4, e5, e6, e7, e8, e9, e10, e11]
    clear e0 e1 e2 e3 e4 e5 e6 e7 e8 e9 e10 e11
    go_wp2
    go_ret2
    exact ⟨by rw [← HAC.out]; rfl, below_step HB.out hJ⟩
end Go.Proofs.YtkefgapnghnjjaaGreatDoor
