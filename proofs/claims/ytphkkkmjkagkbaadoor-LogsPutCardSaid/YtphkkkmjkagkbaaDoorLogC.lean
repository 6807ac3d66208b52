/- log.At. -/
import Derived.Test.YtphkkkmjkagkbaaDoorLogA
namespace Go.Proofs.YtphkkkmjkagkbaaDoor
open Go.RowKit Go.Tk

set_option maxRecDepth 100000 in
set_option maxHeartbeats 1600000 in
theorem logAt_calls (l : LogD) (v : Value) (S : Nat → Prop) (w : World) (h : SlR 1 rStr w v l.entries S) (hok : LogOk l) (hs : ∀ s ∈ l.entries, s.length ≤ 1000000) (x : Int) (hx : -9223372036854775808 ≤ x ∧ x ≤ 9223372036854775807) :
    Calls Tryd.prog 20 #[.agg #[.int .i64 l.base, v], .int .i64 x] w fun e w' => e = .returned (.tuple #[.string ⟨(logAt l x).1.toArray⟩, .int .i64 (logAt l x).2]) ∧ Below w.heap.size w w' := by
  have HC := Lib.hid (logCheck_ok.2 hok)
  obtain ⟨hb0, hb1⟩ := hok.base
  have hlen := hok.len
  obtain ⟨hx0, hx1⟩ := hx
  have HV := Lib.hid (show logAt l x = if x ≤ l.base ∨ logLast l < x then ([], 6) else (l.entries.getD (x - l.base - 1).toNat [], 0) by rw [logAt, if_neg (by rw [HC.out]; simp)])
  obtain ⟨la, hla⟩ : ∃ la, logLast l = la := ⟨_, rfl⟩
  have hlv : la = l.base + l.entries.length := hla.symm
  have HLA := Lib.hid hla
  rw [hla] at HV
  clear hla hok
  obtain ⟨a, cap, hv, hl, hm, -, -⟩ := id h
  subst hv
  unfold maxLen at hm
  have HS := Lib.hid h
  have HZ := Lib.hid hs
  clear h hs
  go_enter Tryd.func20, Tryd.ntmps20
  go_wp2_with fail
  refine (logCheck_calls l _ S _ (HS.out.below rStr_ok (by decide) (below_alloc w _)) HZ.out).mono ?_
  rw [HC.out]; rintro e w1 ⟨rfl, hb⟩
  rw [World.size_alloc] at hb
  obtain ⟨hz, -, hzs⟩ := Tk.fresh hb
  have z0 := hz 0; have z1 := hz 1
  clear hz
  have HB := Lib.hid ((below_alloc w _).trans (hb.mono (by omega)))
  clear hb
  by_cases h1 : x ≤ l.base
  · have HF := Lib.hid (show logAt l x = ([], 6) by rw [HV.out, if_pos (.inl h1)])
    go_wp2
    go_ret2
    exact ⟨by rw [HF.out]; rfl, HB.out⟩
  go_wp2_with fail
  refine (logLast_calls l _ S _ (HS.out.below rStr_ok (by decide) HB.out) (by omega) (by omega)).mono ?_
  rw [HLA.out]; rintro e w2 ⟨rfl, hb2⟩
  have y0 := (hb2.cell (p := ⟨w.heap.size, 0, none⟩) hzs).trans z0
  have y1 := (hb2.cell (p := ⟨w.heap.size, 1, none⟩) hzs).trans z1
  have HB2 := Lib.hid (below_step HB.out hb2)
  clear z0 z1 hb2
  by_cases h2 : la < x
  · have HF := Lib.hid (show logAt l x = ([], 6) by rw [HV.out, if_pos (.inr h2)])
    go_wp2
    go_ret2
    exact ⟨by rw [HF.out]; rfl, HB2.out⟩
  obtain ⟨i, hxi⟩ : ∃ i : Nat, x - l.base - 1 = i := ⟨(x - l.base - 1).toNat, by omega⟩
  have hi : i < l.entries.length := by omega
  have HF := Lib.hid (show logAt l x = (l.entries[i], 0) by rw [HV.out, if_neg (by omega), hxi, Int.toNat_natCast, List.getD, List.getElem?_eq_getElem hi]; rfl)
  obtain ⟨b, off, cap', row, hv, hSb, hrow, hcells⟩ := (HS.out.below rStr_ok (by decide) HB2.out).row _ hi
  simp only [Value.slice.injEq] at hv
  obtain ⟨rfl, _, rfl⟩ := hv
  obtain rfl := hrow
  have q0 := hcells 0 _ rfl
  simp only [Nat.add_zero, Nat.mul_one] at q0
  clear hcells
  have e1 : IntKind.i64.wrap (x - l.base) = (i : Int) + 1 := (IntWalk.i64_in _ (by omega)).trans (by omega)
  have e2 : IntKind.i64.wrap ((i : Int) + 1 - 1) = (i : Int) := (IntWalk.i64_in _ (by omega)).trans (by omega)
  generalize l.entries[i] = s at *
  go_wp2
  go_ret2
  exact ⟨by rw [HF.out]; rfl, HB2.out⟩
end Go.Proofs.YtphkkkmjkagkbaaDoor
