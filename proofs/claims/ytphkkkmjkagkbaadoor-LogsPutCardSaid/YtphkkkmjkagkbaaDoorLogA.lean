/- log.Check, log.Last. -/
import Derived.Test.YtphkkkmjkagkbaaDoorLogQ
import Derived.Test.YtphkkkmjkagkbaaDoorCmdD
import Derived.Test.YtphkkkmjkagkbaaDoorDeep
namespace Go.Tk
open Go Go.RowKit
theorem logCheck_mid {l : LogD} (h1 : ¬ (l.base < 0 ∨ 1073741424 < l.base)) (h2 : ¬ 400 < l.entries.length) : logCheck l = firstErr (logErr l.entries) l.entries.length := by
  rw [logCheck, if_neg h1, if_neg h2]
end Go.Tk
namespace Go.Proofs.YtphkkkmjkagkbaaDoor
open Go.RowKit Go.Tk

set_option maxRecDepth 100000 in
set_option maxHeartbeats 1600000 in
theorem logCheck_calls (l : LogD) (v : Value) (S : Nat → Prop) (w : World) (h : SlR 1 rStr w v l.entries S) (hs : ∀ s ∈ l.entries, s.length ≤ 1000000) :
    Calls Tryd.prog 39 #[.agg #[.int .i64 l.base, v]] w fun e w' => e = .returned (.int .i64 (logCheck l)) ∧ Below w.heap.size w w' := by
  obtain ⟨a, cap, hv, hl, hm, -, -⟩ := id h
  subst hv
  unfold maxLen at hm
  have HS := Lib.hid h
  have HL := Lib.hid hs
  clear h hs
  by_cases h1 : l.base < 0 ∨ 1073741424 < l.base
  · have HV := Lib.hid (show logCheck l = 2 by rw [logCheck, if_pos h1])
    rcases (show l.base < 0 ∨ (0 ≤ l.base ∧ 1073741424 < l.base) by omega) with h1 | h1
    all_goals
      go_enter Tryd.func39, Tryd.ntmps39
      go_wp2
      go_ret
      exact ⟨by rw [HV.out]; rfl, below_alloc w _⟩
  by_cases h2 : 400 < l.entries.length
  · have HV := Lib.hid (show logCheck l = 1 by rw [logCheck, if_neg h1, if_pos h2])
    have h10 : 0 ≤ l.base ∧ l.base ≤ 1073741424 := by omega
    clear h1
    go_enter Tryd.func39, Tryd.ntmps39
    go_wp2
    go_ret
    exact ⟨by rw [HV.out]; rfl, below_alloc w _⟩
  have HV := Lib.hid (logCheck_mid h1 h2)
  have h10 : 0 ≤ l.base ∧ l.base ≤ 1073741424 := by omega
  clear h1
  go_enter Tryd.func39, Tryd.ntmps39
  go_wp2
  go_loopw [4, 5, 6, 22] (fun _ _ _ i wr => ∃ n : Nat, n ≤ l.entries.length ∧ i = .int .i64 n ∧ Hid (firstErr (logErr l.entries) n = 0) ∧ Hid (Below w.heap.size w wr))
    (fun _ _ _ i _ => l.entries.length - (intOf i).toNat)
  case atStart => exact ⟨0, by omega, rfl, rfl, below_alloc w _⟩
  case round =>
    obtain ⟨n, hn, rfl, hf, hb⟩ := hrel
    by_cases hlt : n < l.entries.length
    case neg =>
      have HF := Lib.hid (show logCheck l = 0 by rw [HV.out, ← hf.out]; congr 1; omega)
      go_wp2
      go_ret
      exact ⟨by rw [HF.out]; rfl, hb.out⟩
    obtain ⟨b, off, cap', row, hv, hSb, hrow, hcells⟩ := (HS.out.below rStr_ok (by decide) hb.out).row n hlt
    simp only [Value.slice.injEq] at hv
    obtain ⟨rfl, _, rfl⟩ := hv
    obtain rfl := hrow
    have q0 := hcells 0 _ rfl
    simp only [Nat.add_zero, Nat.mul_one] at q0
    clear hcells
    have hsz := HL.out l.entries[n] (List.getElem_mem hlt)
    have hle : logErr l.entries n = decErr l.entries[n] := by rw [logErr]; congr 1; simp [List.getD, hlt]
    have HB : Hid (decErr l.entries[n] ≠ 0 → logCheck l = decErr l.entries[n]) := fun hbad => by
      rw [HV.out, ← hle]; exact firstErr_eq hf.out (by rw [hle]; exact hbad) _ hlt
    have HG : Hid (decErr l.entries[n] = 0 → firstErr (logErr l.entries) (n + 1) = 0) := fun hok => firstErr_succ hf.out (by rw [hle]; exact hok)
    clear hle hf
    generalize l.entries[n] = s at *
    go_wp2_with fail
    refine (decode_calls s _ hsz).mono ?_
    rintro e w2 ⟨rfl, hb2⟩
    have HB2 := Lib.hid (below_step hb.out hb2)
    rw [decErr] at HB HG
    generalize cmdDecode s = d at *
    obtain ⟨d, e⟩ := d
    rw [valCommand]
    by_cases he : e = 0
    · subst he
      have HG2 := Lib.hid (HG.out rfl)
      go_wp2
      go_roundw
      case rel => exact ⟨n + 1, by omega, by go_num, HG2, Lib.hid (below_step HB2.out (below_alloc w2 _))⟩
      case measure => simp [intOf]; omega
    · have HG2 := Lib.hid (HB.out he)
      have heb : (e != 0) = true := by simpa using he
      go_wp2
      go_ret
      exact ⟨by rw [HG2.out]; rfl, below_step HB2.out (below_alloc w2 _)⟩

set_option maxRecDepth 100000 in
theorem logLast_calls (l : LogD) (v : Value) (S : Nat → Prop) (w : World) (h : SlR 1 rStr w v l.entries S) (hb : 0 ≤ l.base ∧ l.base ≤ 1000000000000) (hn : l.entries.length ≤ 1000000) :
    Calls Tryd.prog 19 #[.agg #[.int .i64 l.base, v]] w fun e w' => e = .returned (.int .i64 (logLast l)) ∧ Below w.heap.size w w' := by
  obtain ⟨a, cap, hv, hl, hm, -, -⟩ := id h
  subst hv
  unfold maxLen at hm
  clear h
  go_enter Tryd.func19, Tryd.ntmps19
  go_wp2
  go_ret
  exact ⟨rfl, below_alloc w _⟩
end Go.Proofs.YtphkkkmjkagkbaaDoor
