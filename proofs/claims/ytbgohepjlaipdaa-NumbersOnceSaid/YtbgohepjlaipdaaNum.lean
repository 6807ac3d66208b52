/- NumbersOnce: no number has two forms: whatever bytes come, what ReadNumber reads Number writes again; no condition. -/
import Derived.Test.YtbgohepjlaipdaaCodec
import Derived.Test.YtbgohepjlaipdaaNumP
import Derived.ProofKit
namespace Go.Proofs.Ytbgohepjlaipdaa
open Go.RowKit Go.Tk
open Go.ChangeShapes Go.WideShapes Go.ChangeAt
open Go.WideMaps Go.WideElems
open Go.ChangeMaps (setBlock shut_map_nil open_string shut_string keptBut_setBlock frozen?_setBlock heap_setBlock_same)

theorem numbersOnce_calls (s : List UInt8) (hs : s.length ≤ 140737488351232) (w : World) :
    Calls Try.prog 3 #[.string ⟨s.toArray⟩] w fun e w' => e = .returned (.bool true) ∧ Below w.heap.size w w' := by
  by_cases h : (readNumber s).2.2 = 0
  · obtain ⟨q, h1, h2, h3⟩ := readNumber_once s h
    have hn : number q = (digs 6 q, 0) := by rw [number, if_neg (by omega)]; rfl
    have hl := digs_len 6 q
    have h0 : ((readNumber s).2.2 != 0) = false := by simp [h]
    have e1 : (readNumber s).1 = q := h1
    have hs2 : digs 6 q ++ (readNumber s).2.1 = s := h2.symm
    have hl2 : (readNumber s).2.1.length ≤ s.length := by have := congrArg List.length h2; rw [List.length_append] at this; omega
    have H1 : ((digs 6 q ++ (readNumber s).2.1) == s) = true := by simp [hs2]
    have H2 := Lib.hid hn
    clear h2 hs2 hn h h1
    go_enter Try.func3, Try.ntmps3
    go_wp2_with (first | (go_at_call 10; refine (readNumber_calls s (by omega) _).mono ?_; rintro e w' ⟨rfl, q, rfl⟩) | (go_at_call 11; refine (number_calls _ _).mono ?_; rw [H2.out]; rintro e w' ⟨rfl, hb⟩))
    go_ret
    exact ⟨rfl, (below_drewN (Below.refl _ _) _).trans hb⟩
  · obtain ⟨h1, h2⟩ := rdGo_zero s 6 0 0 h
    have e1 : (readNumber s).1 = 0 := h1
    have e2 : (readNumber s).2.1 = [] := h2
    have h0 : ((readNumber s).2.2 != 0) = true := by simp [h]
    clear h h1 h2
    go_enter Try.func3, Try.ntmps3
    go_wp2_with (go_at_call 10; refine (readNumber_calls s (by omega) _).mono ?_; rintro e w' ⟨rfl, q, rfl⟩)
    go_ret
    exact ⟨rfl, below_drewN (Below.refl _ _) _⟩

theorem Try.own : ownKnob Try.prog.godebug = none := by kernel_rfl
theorem Try.laidOut : laidOutB Try.prog = true := by kernel_rfl

set_option maxRecDepth 100000 in
theorem numbersOnce_lifted (os : Os) (started : os.Started) (H : Type) (enc : TypeId × Value → H) :
    ReturnsInHanded {} Try.checked os 3 .any (Rows.numbersOnceSpec.pre6 enc Try.prog Try.f3 Rows.numbersOnceRow.domain false) (Rows.numbersOnceSpec.post enc Try.prog Try.f3 false true false false) := by
  refine returnsInHanded_of_change_sized (C := Try.checked) Try.own started (by kernel_rfl) Try.func3
    (ChangeSpec.witness6 (enc := enc) (C := Try.checked) false ⟨#[], #[.string ⟨#[]⟩], []⟩ 8 (by kernel_rfl) (by kernel_rfl) (by kernel_rfl) (by kernel_rfl)) ?_
  intro W base args ds gs before hval0 hW _ hsz0 _
  have hsz : (DataW.weightsEach Try.prog (Try.f3.params.toList ++ Rows.numbersOnceSpec.plain.varTypes Try.prog) (ds ++ gs)).all (· ≤ reachBytes) = true := hsz0
  clear hsz0
  have hval : ∀ (j : Nat) t v, Try.f3.params[j]? = some t → args[j]? = some v → Value.okWide Try.prog W .any base t v := hval0
  have hW' := hW
  obtain ⟨p, q, hA0, hV, rfl, hfz, hnd⟩ := hW
  have hA : DataW.TrodAll enc Try.prog W 0 (fun _ => true) true Try.f3.params.toList args.toList ds p := hA0
  rw [Try.params3] at hA hval hsz
  obtain ⟨v0, d0, rfl, rfl, h0⟩ := trodAll_one hA
  obtain ⟨rfl, rfl⟩ := trodVars_none hV
  have h0k := h0
  obtain ⟨s, rfl, rfl, rfl, hs⟩ := open_string Try.underlying9 (hval 0 9 v0 rfl rfl) h0
  clear hA0 hval0
  have hlt : ∀ x ∈ ([] : List MemPlace), x.block < W.heap.size := fun x hx => by simp at hx
  have hr := sized_string hsz (j := 0) (t := 9) rfl rfl
  simp only [reachBytes] at hr
  refine (numbersOnce_calls s.data.toList (by omega) W).mono fun e W' ⟨he, hb⟩ => ?_
  subst he
  exact ⟨_, rfl, _, _, _, [], _, [], hW', trodAll_mk1 (shut_bool Try.underlying4 true),
    trodAll_mk1 (Below.trod Try.laidOut (by kernel_rfl) (of_decide_eq_true (by kernel_rfl)) h0k hb hlt), rfl, hb.frame _, fun h => by cases h⟩

theorem numbersOnce_holds : Rows.NumbersOnceSaid :=
  OpenClaim.holds_of_wide 3 Try.f3 rfl rfl rfl rfl rfl rfl rfl ⟨rfl, rfl, rfl, rfl, rfl⟩ rfl rfl rfl rfl rfl (by kernel_rfl) Try.func3 (by kernel_rfl)
    (of_decide_eq_true (by kernel_rfl)) (by unfold Func.isWrapper; rw [if_neg (of_decide_eq_false (by kernel_rfl))]; exact ⟨rfl, rfl⟩)
    (fun os started H enc _ => numbersOnce_lifted os started H enc)
end Go.Proofs.Ytbgohepjlaipdaa
