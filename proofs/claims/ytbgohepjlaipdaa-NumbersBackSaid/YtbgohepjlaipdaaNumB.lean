/- NumbersBack: a number, and a text, is read as it was written, and what stands behind it is left; cut short it is not; no condition. -/
import Derived.Test.YtbgohepjlaipdaaCodec
import Derived.Test.YtbgohepjlaipdaaNumP
import Derived.ProofKit
import Derived.OpenShut
namespace Go.Proofs.Ytbgohepjlaipdaa
open Go.RowKit Go.Tk
open Go.ChangeShapes Go.WideShapes Go.ChangeAt
open Go.WideMaps Go.WideElems
open Go.ChangeMaps (setBlock shut_map_nil open_string shut_string keptBut_setBlock frozen?_setBlock heap_setBlock_same)

set_option maxRecDepth 100000 in
set_option maxHeartbeats 400000 in
theorem numbersBack_calls (n : Int) (s : List UInt8) (hn : -9223372036854775808 ≤ n) (hn2 : n ≤ 9223372036854775807) (hs : s.length ≤ 140737488351232) (w : World) :
    Calls Try.prog 4 #[.int .i64 n, .string ⟨s.toArray⟩] w fun e w' => e = .returned (.bool true) ∧ Below w.heap.size w w' := by
  obtain ⟨m, hm, hm2⟩ : ∃ m : Nat, picked n 1099511627776 = m ∧ m ≤ 1099511627776 := by
    refine ⟨(picked n 1099511627776).toNat, ?_, ?_⟩ <;> unfold picked <;> split <;> omega
  have hnum : number m = (digs 6 m, 0) := by rw [number, if_neg (by omega)]; rfl
  have hdl := digs_len 6 m
  have htl : (s.take 300).length ≤ 300 := by simp; omega
  have htn := number_len (s.take 300).length
  have htx : text (s.take 300) = ((text (s.take 300)).1, 0) := by rw [text, if_neg (by omega)]
  have htxl : (text (s.take 300)).1.length ≤ 307 := by rw [text, if_neg (by omega)]; simp only [List.length_append]; omega
  have P1 := Lib.hid hm
  have P2 := Lib.hid hnum
  have P3 := Lib.hid htx
  have P4 := Lib.hid (readNumber_back m hm2 s)
  have P5 := Lib.hid (readText_back (s.take 300) [120] (by omega))
  have P6 := Lib.hid (readNumber_short m hm2)
  generalize hT : (text (s.take 300)).1 = T at *
  generalize hD : digs 6 m = D at *
  clear hm hnum htx htn
  have hd1 : 1 ≤ D.length := by rw [← hD]; cases h : digs 6 m with | nil => (by_cases h1 : m < 128 <;> simp [digs, h1] at h) | cons a l => simp
  have P7 : Hid (D.take (D.length - 1) = D.dropLast) := List.dropLast_eq_take.symm
  clear hD hT
  by_cases h3 : s.length ≤ 300
  case' pos =>
    have ht : s.take 300 = s := List.take_of_length_le h3
    rw [ht] at P3 P5 htl
    clear ht
  all_goals
    go_enter Try.func4, Try.ntmps4
    go_wp2_with fail
    refine (picked_calls n _ (by omega) (by omega) hn hn2 _).mono ?_
    rw [P1.out]; rintro e w' ⟨rfl, rfl⟩
    go_wp2_with fail
    refine (number_calls _ _).mono ?_
    rw [P2.out]; rintro e w1 ⟨rfl, hb1⟩
    go_wp2_with fail
    refine (readNumber_calls (D ++ s) (by simp; omega) _).mono ?_
    rw [P4.out]; rintro e w2 ⟨rfl, q2, rfl⟩
    go_wp2_with fail
    refine (text_calls _ (by omega) _).mono ?_
    rw [P3.out]; rintro e w3 ⟨rfl, hb3⟩
    go_wp2_with fail
    refine (readText_calls (T ++ [120]) (by simp; omega) _).mono ?_
    rw [P5.out]; rintro e w4 ⟨rfl, q4, rfl⟩
    go_wp2_with fail
    refine (readNumber_calls (D.take (D.length - 1)) (by simp; omega) _).mono ?_
    rw [P7.out, P6.out]; rintro e w5 ⟨rfl, q5, rfl⟩
    go_wp2
    go_ret
    exact ⟨rfl, (below_drewN hb1 _).trans (below_drewN (hb3.mono (by simpa using hb1.size)) _)⟩

theorem Try.own2 : ownKnob Try.prog.godebug = none := by kernel_rfl
theorem Try.laidOut2 : laidOutB Try.prog = true := by kernel_rfl

set_option maxRecDepth 100000 in
theorem numbersBack_lifted (os : Os) (started : os.Started) (H : Type) (enc : TypeId × Value → H) :
    ReturnsInHanded {} Try.checked os 4 .any (Rows.numbersBackSpec.pre6 enc Try.prog Try.f4 Rows.numbersBackRow.domain false) (Rows.numbersBackSpec.post enc Try.prog Try.f4 false true false false) := by
  refine returnsInHanded_of_change_sized (C := Try.checked) Try.own2 started (by kernel_rfl) Try.func4
    (ChangeSpec.witness6 (enc := enc) (C := Try.checked) false ⟨#[], #[.int .i64 0, .string ⟨#[]⟩], []⟩ 8 (by kernel_rfl) (by kernel_rfl) (by kernel_rfl) (by kernel_rfl)) ?_
  intro W base args ds gs before hval0 hW _ hsz0 _
  have hsz : (DataW.weightsEach Try.prog (Try.f4.params.toList ++ Rows.numbersBackSpec.plain.varTypes Try.prog) (ds ++ gs)).all (· ≤ reachBytes) = true := hsz0
  clear hsz0
  have hval : ∀ (j : Nat) t v, Try.f4.params[j]? = some t → args[j]? = some v → Value.okWide Try.prog W .any base t v := hval0
  have hW' := hW
  obtain ⟨p, q, hA0, hV, rfl, hfz, hnd⟩ := hW
  have hA : DataW.TrodAll enc Try.prog W 0 (fun _ => true) true Try.f4.params.toList args.toList ds p := hA0
  rw [Try.params4] at hA hval hsz
  obtain ⟨v0, v1, d0, d1, p0, p1, rfl, rfl, rfl, h0, h1⟩ := trodAll_two hA
  obtain ⟨rfl, rfl⟩ := trodVars_none hV
  obtain ⟨n, rfl, rfl, rfl, wn⟩ := open_int Try.underlying3 (hval 0 3 v0 rfl rfl) h0
  have h1k := h1
  obtain ⟨s, rfl, rfl, rfl, hs⟩ := open_string Try.underlying9 (hval 1 9 v1 rfl rfl) h1
  clear hA0 hval0
  have hlt : ∀ x ∈ ([] : List MemPlace), x.block < W.heap.size := fun x hx => by simp at hx
  have hr := sized_string hsz (j := 1) (t := 9) rfl rfl
  simp only [reachBytes] at hr
  have hwn := bounds_i64 wn
  refine (numbersBack_calls n s.data.toList hwn.1 hwn.2 (by omega) W).mono fun e W' ⟨he, hb⟩ => ?_
  subst he
  simp only [List.append_nil] at hW'
  exact ⟨_, rfl, _, _, _, [], [], [], hW', trodAll_mk1 (shut_bool Try.underlying4 true),
    trodAll_mk2 (shut_int Try.underlying3 wn) (Below.trod Try.laidOut2 (by kernel_rfl) (of_decide_eq_true (by kernel_rfl)) h1k hb hlt), rfl, hb.frame _, fun h => by cases h⟩

theorem numbersBack_holds : Rows.NumbersBackSaid :=
  OpenClaim.holds_of_wide 4 Try.f4 rfl rfl rfl rfl rfl rfl rfl ⟨rfl, rfl, rfl, rfl, rfl⟩ rfl rfl rfl rfl rfl (by kernel_rfl) Try.func4 (by kernel_rfl)
    (of_decide_eq_true (by kernel_rfl)) (by unfold Func.isWrapper; rw [if_neg (of_decide_eq_false (by kernel_rfl))]; exact ⟨rfl, rfl⟩)
    (fun os started H enc _ => numbersBack_lifted os started H enc)
end Go.Proofs.Ytbgohepjlaipdaa
