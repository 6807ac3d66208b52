/- PairsBack: what was set is got, with one more version; all others are as they were; no condition. -/
import Derived.Test.YtphkkkmjkagkbaaDoorPairS
import Derived.Test.YtphkkkmjkagkbaaDoorOpC
import Derived.Test.YtphkkkmjkagkbaaDoorMapS
namespace Go.Tk
open Go Go.RowKit
theorem op_six (b : Int) : (opOf ⟨6, 0, b, 0⟩).b = vtext b := rfl
theorem get_small {n : Int} {l : List PairD} {k : List UInt8} (h : PrFew n l) (h0 : 0 ≤ n) : 0 ≤ (prGet l k).1.n ∧ (prGet l k).1.n ≤ n := by
  rw [get_eq h.ok]
  split
  · exact ⟨by simp, h0⟩
  · rename_i ht
    have hlt := pThere_lt (show pThere l k = true by simpa using ht)
    have hm := List.getElem_mem hlt
    rw [getD_at hlt]
    have := (h.ok.one _ hm).vers
    exact ⟨by simp only; omega, h.vers _ hm⟩
theorem few_none : PrFew 0 [] := ⟨⟨by simp, by simp, List.Pairwise.nil⟩, by simp, by simp⟩
theorem rPair_sub {w w' : World} {v : Value} {l : List PairD} {B : Nat} (h : SlR 3 rPair w v l (fun b => B < b)) (hg : w.grownBy w' (some B)) : SlR 3 rPair w' v l (fun b => B < b) :=
  h.move rPair_ok (by decide) fun b hb hlt => ⟨hg.block b hlt (by intro e; cases e; exact Nat.lt_irrefl _ hb), hb⟩
end Go.Tk
namespace Go.Proofs.YtphkkkmjkagkbaaDoor
open Go.RowKit Go.Tk
theorem Tryd.zeroStr (w : World) : (zeroValue 9).run Tryd.prog w = .ok (.string ⟨#[]⟩) w := by kernel_rfl

theorem Tryd.opField (w : World) (k n : Int) (a b : ByteArray) : (Instr.field 26 (.agg #[.int .i64 k, .string a, .string b, .int .i64 n]) 2).run Tryd.prog w = .ok (.string b) w := by kernel_rfl

set_option linter.unusedSimpArgs false in
set_option maxRecDepth 100000 in
set_option maxHeartbeats 3200000 in
theorem pairsBack_calls (w : World) (l : List RawD) (v : Value) (S : Nat → Prop) (h : SlR 4 rRaw w v l S) (hr : ∀ x ∈ l, RawOk x) (m : Int) (hm1 : -9223372036854775808 ≤ m) (hm2 : m ≤ 9223372036854775807) :
    Calls Tryd.prog 4 #[v, .int .i64 m] w fun e w' => e = .returned (.bool true) ∧ Below w.heap.size w w' := by
  obtain ⟨a, cap, hv, hl, hm, -, -⟩ := id h
  subst hv
  unfold maxLen at hm
  have HH := Lib.hid h
  have HRR := Lib.hid hr
  clear h hr
  have hmm := @run_makeMap Tryd.prog
  go_enter Tryd.func4, Tryd.ntmps4
  go_wp2
  go_loopw [5, 7, 8, 9, 10, 11, 12, 13] (fun v i _ _ _ _ _ _ wr => ∃ (n : Nat) (all : List PairD), n ≤ l.length ∧ n ≤ 30 ∧ i = .int .i64 n ∧ Hid (PrFew n all) ∧ Hid (SlR 3 rPair wr v all (fun b => w.heap.size < b)) ∧ Hid (MapP Tryd.prog 9 wr w.heap.size n all) ∧ Hid (Below w.heap.size w wr))
    (fun _ i _ _ _ _ _ _ _ => l.length - (intOf i).toNat)
  case atStart => exact ⟨0, [], by omega, by omega, rfl, few_none, SlR.nil _ _, MapP.made _ _ _, below_alloc w _⟩
  case round =>
    obtain ⟨n, all, hn, hn30, rfl, hfw, hsl, hmp, hb⟩ := hrel
    by_cases hgo : n < l.length ∧ n < 30
    case neg =>
      have hend : n = l.length ∨ (n < l.length ∧ n = 30) := by omega
      obtain ⟨a5, c5, e5, h5l, h5c, -, -⟩ := id hsl.out
      subst e5
      unfold maxLen at h5c
      have HFW := Lib.hid hfw.out
      clear hfw
      rcases hend with hend | hend
      all_goals
        go_wp2_with (at_range; refine wpList_rangeP rfl _ _ rfl Tryd.underlying37 Tryd.underlying9 rfl hmp.out ?_; intro w0 cnt0 hrg0 hg0 hs0)
        have HS0 := Lib.hid (show SlR 3 rPair w0 (.slice a5 all.length c5) all (fun b => b < wr.heap.size) from hsl.out.move rPair_ok (by decide) fun b hb hlt => ⟨hg0.block b hlt (by simp), hlt⟩)
        have hRR : w.heap.size ≤ wr.heap.size := hb.out.size
        have HB0 := Lib.hid (hb.out.grown hg0 hb.out.size fun k hk => by cases hk)
        have HR0 := Lib.hid hrg0
        clear hsl hmp hb hg0 hs0 hrg0 hend hmm
        generalize wr.heap.size = R at *
        clear wr
        go_frame
        go_loopw [14, 15, 16, 17] (fun _ _ _ _ wr => ∃ cnt : Nat, Hid (RangeP Tryd.prog 9 wr w.heap.size R n all cnt) ∧ Hid (SlR 3 rPair wr (.slice a5 all.length c5) all (fun b => b < R)) ∧ Hid (Below w.heap.size w wr))
          (fun _ _ _ _ wr => wr.rangeLeft w.heap.size R)
        case atStart => exact ⟨_, HR0, HS0, HB0⟩
        case round =>
          obtain ⟨cnt, hrg, hsl2, hb2⟩ := hrel
          go_wp2_with (at_next; refine wpList_nextP rfl _ rfl Tryd.underlying9 rfl hrg.out ?_ ?_)
          · go_wp2_with fail
            refine (prGet_calls all [122, 122] _ _ wr hsl2.out HFW.out.ok).mono ?_
            rw [get_none HFW.out.ok (fun x hx e => by have := HFW.out.name x hx; rw [e] at this; revert this; decide)]
            rintro e w7 ⟨rfl, hb7⟩
            have hba := below_alloc w7 (.cells #[.int .i64 6, .int .i64 0, .string ⟨#[]⟩] 42)
            have hml := ((hrg.out.owns.below hb7).below hba).len (t := 37) Tryd.underlying37 3
            have HBF := Lib.hid (below_step (below_step hb2.out hb7) hba)
            clear hb7 hba
            go_wp2
            go_ret
            exact ⟨rfl, HBF.out⟩
          · intro p w1 cnt1 hp hrg1 hltc hg1 hs1 hen
            have HSX := Lib.hid (show SlR 3 rPair w1 (.slice a5 all.length c5) all (fun b => b < R) from hsl2.out.move rPair_ok (by decide) fun b hb hlt => ⟨hg1.block b hlt (by intro e; cases e; exact Nat.lt_irrefl _ hb), hb⟩)
            have HBX := Lib.hid (hb2.out.grown hg1 hb2.out.size fun k hk => by cases hk; exact hRR)
            have HRX := Lib.hid hrg1
            have HCX := Lib.hid (show wr.rangeLeft w.heap.size R = cnt from hrg.out.left_eq)
            clear hrg1 hg1 hs1 hsl2 hb2 hrg
            go_wp2_with fail
            refine (prGet_calls all p.name _ _ w1 HSX.out HFW.out.ok).mono ?_
            rw [get_mem HFW.out.ok hp]
            rintro e w7 ⟨rfl, hb7⟩
            have hba := below_alloc w7 (.cells #[.int .i64 0, .int .i64 p.version, .string ⟨p.value.toArray⟩] 42)
            have HS8 := Lib.hid ((HSX.out.below rPair_ok (by decide) hb7).below rPair_ok (by decide) hba)
            have HB8 := Lib.hid (below_step (below_step HBX.out hb7) hba)
            have HR8 := Lib.hid ((HRX.out.below hb7).below hba)
            clear hb7 hba HSX HBX HRX
            go_wp2
            go_roundw
            case rel => exact ⟨cnt1, HR8, HS8, HB8⟩
            case measure => rw [HR8.out.left_eq, HCX.out]; exact hltc
    obtain ⟨hlt, hlt30⟩ := hgo
    obtain ⟨b, off, cap', row, hv, hSb, hrow, hcells⟩ := (HH.out.below rRaw_ok (by decide) hb.out).row n hlt
    simp only [Value.slice.injEq] at hv
    obtain ⟨rfl, _, rfl⟩ := hv
    have hro := HRR.out l[n] (List.getElem_mem hlt)
    generalize l[n] = x at *
    obtain rfl := hrow
    have q1 := hcells 1 _ rfl
    have q2 := hcells 2 _ rfl
    have hql := World.block_lt_of_cell? wr _ q1
    clear hcells
    obtain ⟨-, ⟨ra1, ra2⟩, ⟨rb1, rb2⟩, -⟩ := id hro
    have HKM := Lib.hid (kname_mem x.a)
    generalize hk : kname x.a = k at HKM
    have HK := Lib.hid hk
    have hvl := vtext_len x.b
    generalize hvt : vtext x.b = t at hvl
    have HV := Lib.hid ((op_six x.b).trans hvt)
    obtain ⟨y, r, s1, s2, s3, s4, s5, s6, s7, s8⟩ := set_few hfw.out (by omega) (by omega) HKM.out (show t.length ≤ 12 by omega)
    obtain ⟨g0, g1⟩ := get_small (k := k) hfw.out (by omega)
    have S1 := Lib.hid s1
    have S2 := Lib.hid s2
    have S5 := Lib.hid s5
    have S6 := Lib.hid s6
    have S7 := Lib.hid s7
    have S8 := Lib.hid s8
    obtain ⟨og, hog⟩ : ∃ og, prGet all k = (og, 0) := ⟨(prGet all k).1, by rw [← s4]⟩
    rw [hog] at s3 g0 g1
    have HOG := Lib.hid hog
    clear hk hvt hro s1 s2 s4 s5 s6 s7 s8 hog
    obtain ⟨y', hy'⟩ : ∃ y', opOf ⟨6, 0, x.b, 0⟩ = y' := ⟨_, rfl⟩
    have HOP := Lib.hid hy'
    have HYB := Lib.hid (show y'.b = t by rw [← hy']; exact HV.out)
    clear hy' HV
    go_wp2_with fail
    refine (op_calls ⟨6, 0, x.b, 0⟩ (by refine ⟨⟨?_, ?_⟩, ⟨?_, ?_⟩, ⟨rb1, rb2⟩, ⟨?_, ?_⟩⟩ <;> simp) _).mono ?_
    rw [HOP.out, valOp, HYB.out]; rintro e w2 ⟨rfl, hb2⟩
    have p1 := (hb2.cell (p := ⟨b, off + n * 4 + 1, none⟩) hql).trans q1
    have hql2 := Nat.lt_of_lt_of_le hql hb2.size
    have HB2 := Lib.hid (below_step hb.out hb2)
    have HS2 := Lib.hid (hsl.out.below rPair_ok (by decide) hb2)
    have HM2 := Lib.hid (hmp.out.below hb2)
    have hone2 := hsl.out.oneCell
    clear q1 q2 hb2 hb hsl hmp
    have hfld := Tryd.opField w2 y'.kind y'.n ⟨y'.a.toArray⟩ ⟨t.toArray⟩
    go_wp2_with fail
    refine (kname_calls x.a ra1 ra2 _).mono ?_
    rw [HK.out]; rintro e w3 ⟨rfl, hb3⟩
    have p3 := (hb3.cell (p := ⟨b, off + n * 4 + 1, none⟩) hql2).trans p1
    have hql3 := Nat.lt_of_lt_of_le hql2 hb3.size
    have HB3 := Lib.hid (below_step HB2.out hb3)
    have HS3 := Lib.hid (HS2.out.below rPair_ok (by decide) hb3)
    have HM3 := Lib.hid (HM2.out.below hb3)
    clear p1 hb3 HB2 HS2 HM2 hql hql2
    go_wp2_with fail
    refine (prSet_calls all k t u5 _ w3 HS3.out hfw.out.ok (kset_ok k HKM.out) (by omega)).mono ?_
    rw [S1.out]; rintro e w4 ⟨v4, rfl, hs4, hb4⟩
    have hone4 := hs4.oneCell
    have p4 := (hb4.cell (p := ⟨b, off + n * 4 + 1, none⟩) hql3).trans p3
    have hql4 := Nat.lt_of_lt_of_le hql3 hb4.size
    have hbig : w.heap.size < w3.heap.size := HM3.out.lt
    have HB4 := Lib.hid (below_step HB3.out hb4)
    have HS4 := Lib.hid (HS3.out.below rPair_ok (by decide) hb4)
    have HM4 := Lib.hid (HM3.out.below hb4)
    have HN4 := Lib.hid (hs4.sub (S' := fun b => w.heap.size < b) rPair_ok (by decide) fun b hb _ => Nat.lt_of_lt_of_le hbig hb)
    clear p3 hb4 hs4 HB3 HS3 HM3 hql3 hbig
    go_wp2_with fail
    have HX5 := Lib.hid (BoxAt.new (w := w4) (cs := [.int .i64 r.code, .int .i64 (og.n + 1), .string ⟨r.text.toArray⟩]) (E := 42))
    have hba := below_alloc w4 (.cells #[.int .i64 r.code, .int .i64 (og.n + 1), .string ⟨r.text.toArray⟩] 42)
    have p5 := (hba.cell (p := ⟨b, off + n * 4 + 1, none⟩) hql4).trans p4
    have hql5 := Nat.lt_of_lt_of_le hql4 hba.size
    have HB5 := Lib.hid (below_step HB4.out hba)
    have HS5 := Lib.hid (HS4.out.below rPair_ok (by decide) hba)
    have HM5 := Lib.hid (HM4.out.below hba)
    have HN5 := Lib.hid (HN4.out.below rPair_ok (by decide) hba)
    clear p4 hba HB4 HS4 HM4 HN4 hql4
    generalize w4.alloc (.cells #[.int .i64 r.code, .int .i64 (og.n + 1), .string ⟨r.text.toArray⟩] 42) = w5 at *
    generalize w4.heap.size = B10 at *
    refine (kname_calls x.a ra1 ra2 _).mono ?_
    rw [HK.out]; rintro e w6 ⟨rfl, hb6⟩
    have p6 := (hb6.cell (p := ⟨b, off + n * 4 + 1, none⟩) hql5).trans p5
    have hql6 := Nat.lt_of_lt_of_le hql5 hb6.size
    have HX6 := Lib.hid (HX5.out.below hb6)
    have HB6 := Lib.hid (below_step HB5.out hb6)
    have HS6 := Lib.hid (HS5.out.below rPair_ok (by decide) hb6)
    have HM6 := Lib.hid (HM5.out.below hb6)
    have HN6 := Lib.hid (HN5.out.below rPair_ok (by decide) hb6)
    clear p5 hb6 HB5 HS5 HM5 HN5 HX5 hql5
    go_wp2_with fail
    refine (prGet_calls all k u5 _ w6 HS6.out hfw.out.ok).mono ?_
    rw [HOG.out]; rintro e w7 ⟨rfl, hb7⟩
    have p7 := (hb7.cell (p := ⟨b, off + n * 4 + 1, none⟩) hql6).trans p6
    have hql7 := Nat.lt_of_lt_of_le hql6 hb7.size
    have hx7 := HX6.out.below hb7
    have x0 := hx7.cell 0 _ rfl
    have x1 := hx7.cell 1 _ rfl
    have hxl := hx7.lt
    have hba := below_alloc w7 (.cells #[.int .i64 og.code, .int .i64 og.n, .string ⟨og.text.toArray⟩] 42)
    have HB7 := Lib.hid (below_step (below_step HB6.out hb7) hba)
    have HM7 := Lib.hid ((HM6.out.below hb7).below hba)
    have HN7 := Lib.hid ((HN6.out.below rPair_ok (by decide) hb7).below rPair_ok (by decide) hba)
    clear p6 hb7 HB6 HS6 HM6 HN6 HX6 hql6 hba hx7
    have e1 : IntKind.i64.wrap (og.n + 1) = og.n + 1 := IntWalk.i64_in _ (by omega)
    have s2b := S2.out
    go_wp2_with fail
    refine (kname_calls x.a ra1 ra2 _).mono ?_
    rw [HK.out]; rintro e w8 ⟨rfl, hb8⟩
    have HB8 := Lib.hid (below_step HB7.out hb8)
    have HM8 := Lib.hid (HM7.out.below hb8)
    have HN8 := Lib.hid (HN7.out.below rPair_ok (by decide) hb8)
    clear x0 x1 p7
    obtain ⟨v0, st, wm, wn, hme, hes, hmp9, hg9⟩ := HM8.out.store (t := 37) (x := y) (k := k) (v := t) Tryd.underlying37 Tryd.underlying9 Tryd.zeroStr (by omega) (by rw [← HK.out]; have := (lkName_len (kname_ok x.a)).2; omega) (by omega) hfw.out.ok S5.out.ok S6.out S7.out S8.out
    go_wp2
    go_roundw
    case rel => exact ⟨n + 1, y, by omega, by omega, by go_num, Lib.hid (by rw [show ((n + 1 : Nat) : Int) = (n : Int) + 1 by omega]; exact S5.out), Lib.hid (rPair_sub HN8.out hg9), Lib.hid hmp9, Lib.hid (HB8.out.grown hg9 HB8.out.size fun k hk => by cases hk; exact Nat.le_refl _)⟩
    case measure => simp [intOf]; omega
end Go.Proofs.YtphkkkmjkagkbaaDoor
