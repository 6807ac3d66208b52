/- A part of the proof, laid together from: Itoa, Names, CmdsP. -/
import Derived.Test.YtkefgapnghnjjaaGreatDoorPa09
import Derived.Lib.ItoaNum
import Derived.Lib.Strings
import Derived.Lib.ItoaWalk
import Derived.Test.YtkefgapnghnjjaaGreatDoorPa03
import Derived.Test.YtkefgapnghnjjaaGreatDoorPa07
import Derived.Test.YtkefgapnghnjjaaGreatDoorPa04
set_option linter.unusedSimpArgs false
set_option linter.unusedVariables false
/- strconv.Itoa, below a hundred. -/
namespace Go.Tk
theorem small_ba (x : ByteArray) (l : List UInt8) (h : x.data.toList = l) : x = ⟨l.toArray⟩ := by
  subst h; cases x; simp
end Go.Tk
namespace Go.Proofs.YtkefgapnghnjjaaGreatDoor
open Go.RowKit Go.Tk

set_option maxHeartbeats 2000000 in
set_option maxRecDepth 100000 in
theorem small_calls (i : Nat) (h : i < 100) (w : World) : Calls Tryz.prog 173 #[.int .i64 i] w fun e w' => e = .returned (.string ⟨(Lib.decDigits i).toArray⟩) ∧ w = w' := by
  go_enter Tryz.func173, Tryz.ntmps173
  go_name_bytes_deep 45 SM hSM
  have eSM : SM = Lib.smalls := by rw [← hSM]; decide +kernel
  subst eSM
  clear hSM
  go_name_bytes_deep 30 DG hDG
  have eDG : DG = Lib.digits36 := by rw [← hDG]; decide +kernel
  subst eDG
  clear hDG
  by_cases h10 : i < 10
  · have hsl : ∀ w, (Instr.slice 9 (.string Lib.digits36) (some (.int .i64 (i : Int))) (some (.int .i64 ((i : Int) + 1))) none).run Tryz.prog w = .ok (.string (Lib.digits36.extract i (i + 1))) w := fun w => by
      rw [run_slice_string w 9 Lib.digits36 .i64 .i64 _ _ Tryz.underlying9 (by omega) (by omega) (by rw [Lib.digits36_size]; omega), show ((i : Int)).toNat = i by omega, show ((i : Int) + 1).toNat = i + 1 by omega]
    go_wp2
    go_ret
    refine ⟨?_, rfl⟩
    show Ending.returned (Value.string (Lib.digits36.extract i (i + 1))) = _
    rw [small_ba (Lib.digits36.extract i (i + 1)) (Lib.decDigits i) (by rw [Lib.extract_data]; exact Lib.digits36_piece h10)]
  · have hsl : ∀ w, (Instr.slice 9 (.string Lib.smalls) (some (.int .i64 ((i : Int) * 2))) (some (.int .i64 ((i : Int) * 2 + 2))) none).run Tryz.prog w = .ok (.string (Lib.smalls.extract (i * 2) (i * 2 + 2))) w := fun w => by
      rw [run_slice_string w 9 Lib.smalls .i64 .i64 _ _ Tryz.underlying9 (by omega) (by omega) (by rw [Lib.smalls_size]; omega), show ((i : Int) * 2).toNat = i * 2 by omega, show ((i : Int) * 2 + 2).toNat = i * 2 + 2 by omega]
    go_wp2
    go_ret
    refine ⟨?_, rfl⟩
    show Ending.returned (Value.string (Lib.smalls.extract (i * 2) (i * 2 + 2))) = _
    rw [small_ba (Lib.smalls.extract (i * 2) (i * 2 + 2)) (Lib.decDigits i) (by rw [Lib.extract_data]; exact Lib.smalls_piece h10 h)]

set_option maxRecDepth 100000 in
theorem formatInt_calls (i : Nat) (h : i < 100) (w : World) : Calls Tryz.prog 163 #[.int .i64 i, .int .i64 10] w fun e w' => e = .returned (.string ⟨(Lib.decDigits i).toArray⟩) ∧ w = w' := by
  go_enter Tryz.func163, Tryz.ntmps163
  go_wp2_with fail
  refine (small_calls i h _).mono ?_; rintro e w' ⟨rfl, rfl⟩
  go_wp2
  go_ret
  exact ⟨rfl, rfl⟩
theorem itoaI_calls (i : Nat) (h : i < 100) (w : World) : Calls Tryz.prog 139 #[.int .i64 i] w fun e w' => e = .returned (.string ⟨(Lib.decDigits i).toArray⟩) ∧ w = w' := by
  go_enter Tryz.func139, Tryz.ntmps139
  go_wp2_with fail
  refine (formatInt_calls i h _).mono ?_; rintro e w' ⟨rfl, rfl⟩
  go_wp2
  go_ret
  exact ⟨rfl, rfl⟩
theorem itoa_calls (i : Nat) (h : i < 100) (w : World) : Calls Tryz.prog 105 #[.int .i64 i] w fun e w' => e = .returned (.string ⟨(Lib.decDigits i).toArray⟩) ∧ w = w' := by
  go_enter Tryz.func105, Tryz.ntmps105
  go_wp2_with fail
  refine (itoaI_calls i h _).mono ?_; rintro e w' ⟨rfl, rfl⟩
  go_wp2
  go_ret
  exact ⟨rfl, rfl⟩
end Go.Proofs.YtkefgapnghnjjaaGreatDoor

/- tackroomkeep.name. -/
namespace Go.Proofs.YtkefgapnghnjjaaGreatDoor
open Go.RowKit Go.Tk

set_option maxRecDepth 100000 in
theorem kname_calls (n : Int) (hn : -9223372036854775808 ≤ n) (hn2 : n ≤ 9223372036854775807) (w : World) :
    Calls Tryz.prog 104 #[.int .i64 n] w fun e w' => e = .returned (.string ⟨(kname n).toArray⟩) ∧ Below w.heap.size w w' := by
  obtain ⟨p, hp, hp0, hp1⟩ : ∃ p, picked n 3 = p ∧ 0 ≤ p ∧ p < 3 := ⟨_, rfl, by unfold picked; split <;> omega, by unfold picked; split <;> omega⟩
  have HP := Lib.hid hp
  have HK := Lib.hid (show kname n = if picked n 3 = 0 then [97] else if picked n 3 = 1 then [98] else [107, 101, 121] from rfl)
  clear hp
  rcases (show p = 0 ∨ p = 1 ∨ p = 2 by omega) with rfl | rfl | rfl
  all_goals
    clear hp0 hp1
    go_enter Tryz.func104, Tryz.ntmps104
    go_wp2_with fail
    refine (picked_calls n _ (by omega) (by omega) hn hn2 _).mono ?_
    rw [HP.out]; rintro e w' ⟨rfl, rfl⟩
    go_wp2
    go_ret
    exact ⟨by rw [HK.out, HP.out]; rfl, below_alloc w _⟩
end Go.Proofs.YtkefgapnghnjjaaGreatDoor

/- Commands of raw things are such that may be. No program in sight. -/
namespace Go.Tk
open Go Go.RowKit

theorem picked_in (n m : Int) (hm : 0 < m) : 0 ≤ picked n m ∧ picked n m < m := by
  unfold picked
  split
  · exact ⟨Int.emod_nonneg _ (by omega), Int.emod_lt_of_pos _ hm⟩
  · exact ⟨Int.emod_nonneg _ (by omega), Int.emod_lt_of_pos _ hm⟩
def kinds : List Int := [1, 2, 2, 3, 3, 4, 5, 5, 6]
def kindOf (r : RawD) : Int := kinds.getD (picked r.kind 9).toNat 0
def vtext (n : Int) : List UInt8 := 118 :: Lib.decDigits (picked n 90).toNat
def opOf (r : RawD) : OpD := if kindOf r = 5 then ⟨5, kname r.a, vtext r.b, 1 + picked r.c 4⟩ else ⟨kindOf r, kname r.a, [], 0⟩
theorem kinds_all : ∀ i : Fin 9, 1 ≤ kinds.getD i.val 0 ∧ kinds.getD i.val 0 ≤ 6 := by decide
theorem kindOf_in (r : RawD) : 1 ≤ kindOf r ∧ kindOf r ≤ 6 := by
  have h := picked_in r.kind 9 (by decide)
  exact kinds_all ⟨(picked r.kind 9).toNat, by omega⟩
theorem decDigits_len (n : Nat) (h : n < 100) : (Lib.decDigits n).length ≤ 2 := by
  rw [Lib.decDigits]
  split
  · simp
  · rw [Lib.decDigits, dif_pos (by omega)]; simp
theorem vtext_len (n : Int) : (vtext n).length ≤ 3 := by
  have h := picked_in n 90 (by decide)
  have := decDigits_len (picked n 90).toNat (by omega)
  simp [vtext]; omega
theorem opOf_ok (r : RawD) : OpOk (opOf r) := by
  have hk := kindOf_in r
  have hv := vtext_len r.b
  have hp := picked_in r.c 4 (by decide)
  unfold opOf
  split
  · exact ⟨⟨by simp, by simp⟩, kname_ok _, by simp, by show (vtext r.b).length ≤ 12; omega, ⟨fun _ => ⟨by show (1 : Int) ≤ 1 + picked r.c 4; omega, by show 1 + picked r.c 4 ≤ (1073741824 : Int); omega⟩, by simp⟩⟩
  · rename_i h
    exact ⟨hk, kname_ok _, fun _ => rfl, by simp, ⟨fun h' => absurd h' h, fun _ => rfl⟩⟩

/-- What is made so far; the number of each client's next call; its session. -/
structure GenD where
  out : List CommandD
  next : Int → Int
  ses : Int → Int
def upd (f : Int → Int) (c v : Int) : Int → Int := fun x => if x = c then v else f x
theorem upd_same (f : Int → Int) (c v : Int) : upd f c v c = v := by simp [upd]
theorem upd_other (f : Int → Int) {c x : Int} (v : Int) (h : x ≠ c) : upd f c v x = f x := by simp [upd, h]
def gWho (r : RawD) : Int := 1 + picked r.c 4
def gWhat (r : RawD) : Int := picked (r.kind.tdiv 9) 16
def gJoin (c : Int) : CommandD := ⟨1, c, 0, 0, 0, noOp⟩
def gLeave (c : Int) : CommandD := ⟨3, c, 0, 0, 0, noOp⟩
def gOld (n : Int) (r : RawD) : Int := max 1 (n - 1 - picked r.b 3)
def gAgain (c s n : Int) (r : RawD) : CommandD := ⟨2, c, s, gOld n r, max 0 (gOld n r - 2), opOf r⟩
def gCall (c s n : Int) (r : RawD) : CommandD := ⟨2, c, s, n, max 0 (n - 1 - picked r.a 3), opOf r⟩
def gStep (g : GenD) (r : RawD) : GenD :=
  if g.ses (gWho r) = 0 then ⟨g.out ++ [gJoin (gWho r)], upd g.next (gWho r) 1, upd g.ses (gWho r) (g.out.length + 1 : Nat)⟩
  else if gWhat r = 0 then ⟨g.out ++ [gJoin (gWho r)], g.next, g.ses⟩
  else if gWhat r = 1 then ⟨g.out ++ [gLeave (gWho r)], g.next, upd g.ses (gWho r) 0⟩
  else if gWhat r < 5 ∧ 1 < g.next (gWho r) then ⟨g.out ++ [gAgain (gWho r) (g.ses (gWho r)) (g.next (gWho r)) r], g.next, g.ses⟩
  else ⟨g.out ++ [gCall (gWho r) (g.ses (gWho r)) (g.next (gWho r)) r], upd g.next (gWho r) (g.next (gWho r) + 1), g.ses⟩
def gNone : GenD := ⟨[], fun _ => 0, fun _ => 0⟩
def gRun (l : List RawD) : GenD := l.foldl gStep gNone
def commandsP (l : List RawD) (most : Nat) : List CommandD := (gRun (l.take most)).out
structure GenOk (n : Nat) (g : GenD) : Prop where
  len : g.out.length = n
  all : ∀ c ∈ g.out, CmdOk c
  ses : ∀ c, g.ses c ≠ 0 → (1 ≤ g.ses c ∧ g.ses c ≤ n) ∧ 1 ≤ g.next c
  pos : ∀ c, 0 ≤ g.ses c ∧ g.ses c ≤ n ∧ 0 ≤ g.next c ∧ g.next c ≤ n
theorem gWho_in (r : RawD) : 1 ≤ gWho r ∧ gWho r ≤ 4 := by
  have := picked_in r.c 4 (by decide)
  unfold gWho; omega
theorem upd_cases {f : Int → Int} {c v x : Int} {Q : Int → Prop} (h1 : x = c → Q v) (h2 : x ≠ c → Q (f x)) : Q (upd f c v x) := by
  by_cases h : x = c
  · subst h; rw [upd_same]; exact h1 rfl
  · rw [upd_other _ _ h]; exact h2 h
theorem GenOk.step {n : Nat} {g : GenD} (h : GenOk n g) (hn : n ≤ 1000) (r : RawD) : GenOk (n + 1) (gStep g r) := by
  have hw := gWho_in r
  have hs := h.pos (gWho r)
  have hb := picked_in r.b 3 (by decide)
  have ha := picked_in r.a 3 (by decide)
  have hop := opOf_ok r
  have hl := h.len
  have hall : ∀ x, CmdOk x → ∀ c ∈ g.out ++ [x], CmdOk c := fun x hx c hc => by
    rcases List.mem_append.1 hc with hc | hc
    · exact h.all c hc
    · rw [List.mem_singleton.1 hc]; exact hx
  have hkeep : ∀ c, g.ses c ≠ 0 → (1 ≤ g.ses c ∧ g.ses c ≤ (n + 1 : Nat)) ∧ 1 ≤ g.next c := fun c hc => by have := h.ses c hc; omega
  have hpos : ∀ c, 0 ≤ g.ses c ∧ g.ses c ≤ (n + 1 : Nat) ∧ 0 ≤ g.next c ∧ g.next c ≤ (n + 1 : Nat) := fun c => by have := h.pos c; omega
  generalize hc : gWho r = c at *
  unfold gStep
  rw [hc]
  split
  · rename_i h0
    refine ⟨by simp [hl], hall _ (.plain (by simp [gJoin]) (by simp only [gJoin]; omega) rfl rfl rfl rfl), fun x => ?_, fun x => ?_⟩
    · by_cases hx : x = c
      · subst hx; simp only [upd_same]; intro _; omega
      · simp only [upd_other _ _ hx]; exact hkeep x
    · by_cases hx : x = c
      · subst hx; simp only [upd_same]; omega
      · simp only [upd_other _ _ hx]; exact hpos x
  · rename_i h0
    have h1 := h.ses c h0
    split
    · exact ⟨by simp [hl], hall _ (.plain (by simp [gJoin]) (by simp only [gJoin]; omega) rfl rfl rfl rfl), hkeep, hpos⟩
    · split
      · refine ⟨by simp [hl], hall _ (.plain (by simp [gLeave]) (by simp only [gLeave]; omega) rfl rfl rfl rfl), fun x => ?_, fun x => ?_⟩
        · by_cases hx : x = c
          · subst hx; simp only [upd_same]; simp
          · simp only [upd_other _ _ hx]; exact hkeep x
        · by_cases hx : x = c
          · subst hx; simp only [upd_same]; have := hpos x; omega
          · simp only [upd_other _ _ hx]; exact hpos x
      · split
        · rename_i h2
          refine ⟨by simp [hl], hall _ (.call rfl ⟨by simp only [gAgain]; omega, by simp only [gAgain]; omega⟩ ⟨by simp only [gAgain]; omega, by simp only [gAgain]; omega⟩ ⟨by simp only [gAgain, gOld]; omega, by simp only [gAgain, gOld]; omega⟩ ⟨by simp only [gAgain, gOld]; omega, by simp only [gAgain, gOld]; omega⟩ hop), hkeep, hpos⟩
        · refine ⟨by simp [hl], hall _ (.call rfl ⟨by simp only [gCall]; omega, by simp only [gCall]; omega⟩ ⟨by simp only [gCall]; omega, by simp only [gCall]; omega⟩ ⟨by simp only [gCall]; omega, by simp only [gCall]; omega⟩ ⟨by simp only [gCall]; omega, by simp only [gCall]; omega⟩ hop), fun x => ?_, fun x => ?_⟩
          · by_cases hx : x = c
            · subst hx; simp only [upd_same]; intro hx'; have := hkeep x hx'; omega
            · simp only [upd_other _ _ hx]; exact hkeep x
          · by_cases hx : x = c
            · subst hx; simp only [upd_same]; have := hpos x; omega
            · simp only [upd_other _ _ hx]; exact hpos x
theorem GenOk.run : ∀ (l : List RawD) (n : Nat) (g : GenD), GenOk n g → n + l.length ≤ 1000 → GenOk (n + l.length) (l.foldl gStep g)
  | [], n, g, h, _ => h
  | r :: l, n, g, h, hn => by
    have := GenOk.run l (n + 1) (gStep g r) (h.step (by simp at hn; omega) r) (by simp at hn ⊢; omega)
    rw [List.foldl_cons, List.length_cons, show n + (l.length + 1) = n + 1 + l.length by omega]
    exact this
theorem gNone_ok : GenOk 0 gNone := ⟨rfl, by simp [gNone], by simp [gNone], by simp [gNone]⟩
theorem gRun_ok (l : List RawD) (h : l.length ≤ 1000) : GenOk l.length (gRun l) := by
  have := GenOk.run l 0 gNone gNone_ok (by omega)
  rwa [Nat.zero_add] at this
theorem commandsP_ok (l : List RawD) (most : Nat) (h : most ≤ 1000) : ∀ c ∈ commandsP l most, CmdOk c := (gRun_ok (l.take most) (by simp; omega)).all
theorem commandsP_len (l : List RawD) (most : Nat) (h : most ≤ 1000) : (commandsP l most).length = min most l.length := by
  have := (gRun_ok (l.take most) (by simp; omega)).len
  rw [commandsP, this, List.length_take]
end Go.Tk
