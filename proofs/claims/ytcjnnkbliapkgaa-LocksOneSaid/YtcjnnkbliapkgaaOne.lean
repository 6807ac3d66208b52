/- LocksOne: who is given a lock is the only one that has it, till it gives it up; each time its fence is higher; no condition. -/
import Derived.Test.YtcjnnkbliapkgaaOneQ
import Derived.Test.YtcjnnkbliapkgaaRawT
import Derived.ProofKit
import Derived.OpenShut
namespace Go.Proofs.Ytcjnnkbliapkgaa
open Go.RowKit Go.Tk
open Go.ChangeShapes Go.WideShapes Go.ChangeAt
open Go.WideMaps Go.WideElems
open Go.ChangeMaps (setBlock shut_map_nil open_string shut_string keptBut_setBlock frozen?_setBlock heap_setBlock_same)

set_option maxRecDepth 100000 in
set_option maxHeartbeats 1600000 in
theorem locksOne_calls (l : List RawD) (v : Value) (S : Nat → Prop) (w : World) (h : SlR 4 rRaw w v l S) (hr : ∀ x ∈ l, RawOk x) (n : Int) (hn : -9223372036854775808 ≤ n) (hn2 : n ≤ 9223372036854775807) (m : Int) (hm : -9223372036854775808 ≤ m) (hm2 : m ≤ 9223372036854775807) :
    Calls Try.prog 9 #[v, .int .i64 n, .int .i64 m] w fun e w' => e = .returned (.bool true) ∧ Below w.heap.size w w' := by
  obtain ⟨p, hp, hp0, hp1⟩ : ∃ p, picked m 5 = p ∧ 0 ≤ p ∧ p < 5 := ⟨_, rfl, picked_range _ _ (by decide)⟩
  have HP := Lib.hid hp
  have HH := Lib.hid h
  have HRR := Lib.hid hr
  clear hp h hr
  obtain ⟨a, ha⟩ : ∃ a, 1 + p = a := ⟨_, rfl⟩
  have hw1 : IntKind.i64.wrap (1 + p) = a := (IntWalk.i64_in _ (by omega)).trans ha
  have ha1 : 1 ≤ a ∧ a ≤ 5 := by omega
  clear ha
  have HL := Lib.hid (locksP_ok l)
  have HS := Lib.hid (locksP_small l)
  generalize hLL : locksP l = L at HL HS
  have HLL := Lib.hid hLL
  clear hLL
  have HKO := Lib.hid (kname_ok n)
  have HKM := Lib.hid (kname_mem n)
  generalize hkk : kname n = k at HKO HKM
  have HKK := Lib.hid hkk
  clear hkk
  have HA := Lib.hid ha1
  go_enter Try.func9, Try.ntmps9
  go_wp2_with fail
  refine (locks_calls l v S _ HH.out HRR.out).mono ?_; rw [HLL.out]; rintro e w1 ⟨v1, rfl, hl1, hb1⟩
  have hone1 := hl1.oneCell
  go_wp2_with fail
  refine (picked_calls m _ (by omega) (by omega) hm hm2 _).mono ?_
  rw [HP.out]; rintro e w' ⟨rfl, rfl⟩
  go_wp2_with fail
  refine (kname_calls n hn hn2 _).mono ?_; rw [HKK.out]; rintro e wk ⟨rfl, hbk⟩
  go_wp2_with fail
  refine (lWho_calls L k v1 _ _ (hl1.below rLock_ok (by decide) hbk) HL.out.inner).mono ?_
  rcases locks_one HL.out HS.out HKM.out HKO.out HA.out with ⟨b, f, hb0, hba, hw, ht⟩ | ⟨was, fence, N, x, i, hw, hwa, ht, hxo, hi, hxn, hxh, hxf, hiff, hle⟩
  · rw [hw]
    have HT := Lib.hid ht
    have e0 : (b != 0) = true := by rw [bne_iff_ne]; exact hb0
    have e1 : (b != a) = true := by rw [bne_iff_ne]; exact hba
    clear hw ht hb0 hba
    rintro e w2 ⟨rfl, hb2⟩
    go_wp2_with fail
    refine (take_calls L k a false v1 _ _ (hl1.below rLock_ok (by decide) (below_step hbk hb2)) HL.out.inner).mono ?_
    rw [HT.out]; rintro e w3 ⟨v3, rfl, hl3, hb3⟩
    have hone3 := hl3.oneCell
    have hb13 := below_step hbk (below_step hb2 hb3)
    have HM := Lib.hid (hl1.below rLock_ok (by decide) (below_step hb13 (below_alloc w3 (.cells #[.int .i64 10, .int .i64 b, .string ⟨#[]⟩] 35))))
    have HB3 := Lib.hid (below_step hb1 hb13)
    clear hl1 hl3 hb1 hbk hb2 hb3 hb13
    go_wp2_with fail
    refine (lkCheck_calls L _ _ _ HM.out HL.out.inner).mono ?_; rw [lkCheck_ok.2 HL.out]; rintro e w4 ⟨rfl, hb4⟩
    have hb4' := hb4
    rw [World.size_alloc] at hb4'
    obtain ⟨hz, -, hzs⟩ := Tk.fresh hb4'
    have z0 := hz 0; have z1 := hz 1
    have HBF := Lib.hid (below_step HB3.out (below_step (below_alloc w3 _) hb4))
    clear hz hb4 hb4' HM
    go_wp2
    go_ret
    exact ⟨rfl, HBF.out⟩
  · rw [hw]
    have HT := Lib.hid ht
    obtain ⟨t1, t2, t3, t4, ⟨f', t5⟩, t6⟩ := one_three hxo HKO.out hi hxn hxh HA.out
    rw [hxf] at t1
    generalize x.set i (passP x[i]) = x2 at t3 t4 t5
    generalize (passP x[i]).holder = c at t3 t5 t6
    have T1 := Lib.hid t1
    have T2 := Lib.hid t2
    have T3 := Lib.hid t3
    have T4 := Lib.hid t4
    have T5 := Lib.hid t5
    have HXO := Lib.hid hxo
    have e6 : (c != a) = true := by rw [bne_iff_ne]; exact t6
    have hcs : ((was != 0 && was != a) = false) ∧ ((was == a) = (N == fence)) := by
      constructor
      · rcases hwa with h | h <;> simp [h]
      · rw [Bool.eq_iff_iff, beq_iff_eq, beq_iff_eq]; exact hiff
    have hcases : (was = 0 ∧ (N == fence) = false ∧ ((0 : Int) == a) = false) ∨ ((was != 0) = true ∧ (was != a) = false ∧ (was == a) = true ∧ (N == fence) = true) := by
      rcases hwa with h | h
      · left; refine ⟨h, ?_, ?_⟩
        · rw [← hcs.2, h, beq_eq_false_iff_ne]; omega
        · rw [beq_eq_false_iff_ne]; omega
      · right; refine ⟨by rw [bne_iff_ne]; omega, by simp [h], by simp [h], by rw [← hcs.2]; simp [h]⟩
    have HCS := Lib.hid hcases
    clear hw ht t1 t2 t3 t4 t5 t6 hxo hi hxn hxh hxf hiff hwa hcs hcases
    rintro e w2 ⟨rfl, hb2⟩
    go_wp2_with fail
    refine (take_calls L k a false v1 _ _ (hl1.below rLock_ok (by decide) (below_step hbk hb2)) HL.out.inner).mono ?_
    rw [HT.out]; rintro e w3 ⟨v3, rfl, hl3, hb3⟩
    have hone3 := hl3.oneCell
    have hb13 := below_step hbk (below_step hb2 hb3)
    have HM := Lib.hid (hl1.below rLock_ok (by decide) (below_step hb13 (below_alloc w3 (.cells #[.int .i64 0, .int .i64 N, .string ⟨#[]⟩] 35))))
    have HX := Lib.hid (hl3.below rLock_ok (by decide) (below_alloc w3 (.cells #[.int .i64 0, .int .i64 N, .string ⟨#[]⟩] 35)))
    have HB3 := Lib.hid (below_step hb1 hb13)
    clear hl1 hl3 hb1 hbk hb2 hb3 hb13
    go_wp2_with fail
    refine (lkCheck_calls L _ _ _ HM.out HL.out.inner).mono ?_; rw [lkCheck_ok.2 HL.out]; rintro e w4 ⟨rfl, hb4⟩
    have hb4' := hb4
    rw [World.size_alloc] at hb4'
    obtain ⟨hz, -, hzs⟩ := Tk.fresh hb4'
    have z0 := hz 0
    have HB4 := Lib.hid (below_step HB3.out (below_step (below_alloc w3 _) hb4))
    have HX4 := Lib.hid (HX.out.below rLock_ok (by decide) hb4)
    have HZ4 := Lib.hid hb4'
    clear hz hb4 hb4' HM HX HB3
    rcases HCS.out with ⟨rfl, c1, c2⟩ | ⟨c1, c2, c3, c4⟩
    all_goals
      clear HCS
      go_wp2_with fail
      refine (lWho_calls x k _ _ _ HX4.out HXO.out.inner).mono ?_; rw [T1.out]; rintro e w5 ⟨rfl, hb5⟩
      clear z0
      go_wp2_with fail
      refine (take_calls x k 9 false _ _ _ (HX4.out.below rLock_ok (by decide) hb5) HXO.out.inner).mono ?_
      rw [T2.out]; rintro e w6 ⟨v6, rfl, hl6, hb6⟩
      have hone6 := hl6.oneCell
      have hb46 := below_step hb5 hb6
      clear hl6
      go_wp2_with fail
      refine (free_calls x k a _ _ _ (HX4.out.below rLock_ok (by decide) (below_step hb46 (below_alloc w6 _))) HXO.out.inner).mono ?_
      rw [T3.out]; rintro e w7 ⟨v7, rfl, hl7, hb7⟩
      have hone7 := hl7.oneCell
      have HL7 := Lib.hid (hl7.below rLock_ok (by decide) (below_alloc w7 (.cells #[.int .i64 0, .int .i64 c, .string ⟨#[]⟩] 35)))
      clear hl7
      go_wp2_with fail
      refine (lWho_calls x2 k v7 _ _ HL7.out T4.out.inner).mono ?_; rw [T5.out]; rintro e w8 ⟨rfl, hb8⟩
      have hb78 := below_step (below_alloc w7 _) hb8
      have hb48 := below_step hb46 (below_step (below_step (below_alloc w6 _) hb7) hb78)
      have hs4 := HZ4.out.size
      rw [World.size_alloc] at hs4
      have hs46 := hb46.size
      have hs67 := hb7.size
      have hs78 := hb78.size
      rw [World.size_alloc] at hs67
      have hq3 := HZ4.out.trans (hb48.mono (by omega))
      rw [World.size_alloc] at hb7 hb8
      have hq6 := hb7.trans (hb78.mono (by omega))
      obtain ⟨ha, -, hs38⟩ := Tk.fresh hq3
      obtain ⟨hbb, -, hs68⟩ := Tk.fresh hq6
      obtain ⟨hcc, -, hs78'⟩ := Tk.fresh hb8
      have a1 := ha 1
      have b0 := hbb 0
      have d0 := hcc 0; have d1 := hcc 1
      have HBF := Lib.hid (below_step HB4.out hb48)
      clear ha hbb hcc hq3 hq6 hb7 hb8 hb78 hb48 hb46 hb5 hb6 HL7 HX4
      go_wp2
      go_ret
      exact ⟨rfl, HBF.out⟩
end Go.Proofs.Ytcjnnkbliapkgaa
