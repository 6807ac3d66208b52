/- A part of the proof, laid together from: MachF, Raw, RawT. -/
import Derived.Test.YtcmmenmjclgjmaaGreatDoorPa33
import Derived.Deep.RegionLaw
import Derived.Test.YtcmmenmjclgjmaaGreatDoorPa01
import Derived.Test.YtcmmenmjclgjmaaGreatDoorPa04
import Derived.Deep.Slices
import Derived.Deep.Fields
import Derived.ChangeSame
import Derived.OpenShut
import Derived.Test.YtcmmenmjclgjmaaGreatDoorRows
import Derived.KernelRfl
set_option linter.unusedSimpArgs false
set_option linter.unusedVariables false
/- MachinesGood: whatever comes a state stays one that may be; who has a lock has a session; no condition. -/
namespace Go.Tk
open Go Go.RowKit
theorem line_at (k : LockD) (j : Nat) (h : j < k.line.length + 1) : inLock k ((k.line ++ [k.holder])[j]'(by simp; omega)) := by
  rcases List.mem_append.1 (List.getElem_mem (l := k.line ++ [k.holder]) (n := j) (by simp; omega)) with h1 | h1
  · exact .inr h1
  · exact .inl (List.mem_singleton.1 h1).symm
theorem rInt_any (w : World) (cs : List Value) (x : Int) (S S' : Nat → Prop) (h : rInt w cs x S) : rInt w cs x S' := h
/-- Append of one, where it stands in a region that draws its order: the element in any block. -/
theorem step_app {P : Program} {ops : Array Oper} {o : Oper} {a : Act} {w : World} {K : Act → World → Prop} {Q : Exit → Act → World → Prop} {G : Prop}
    (hg : o.guard = none) (s x : Operand) {T E k bytes : Nat} (hop : o.op = Op.call { callee := Callee.builtin Builtin.append, args := #[s, x], argTypes := #[T, T] }) (hT : SliceTy P T E k bytes)
    {α : Type} {R : Rel α} (hR : RelOk R k) {v : Value} {l : List α} {S : Nat → Prop} (y : α) {n0 c : Nat} {cs : List Value} (hs : a.eval s = v) (hx : a.eval x = .slice (some ⟨n0, 0, none⟩) 1 c)
    (hn : ∀ (j : Nat) (u : Value), cs[j]? = some u → w.cell? ⟨n0, j, none⟩ = some u) (hown : OwR E k R w v l S) (hy : R w cs y (fun b => S b ∧ some b ≠ v.ownBlock)) (hlen : (l.length + 1) * (bytes + 1) ≤ 140737488355328)
    (hK : ∀ v' w', OwR E k R w' v' (l ++ [y]) S → w.grownBy w' v.ownBlock → (v'.ownBlock = v.ownBlock ∨ ∃ g, v'.ownBlock = some g ∧ w.heap.size ≤ g) → K (a.put o.dst v') w') :
    if Region.wanted o (yielded ops a.tmps) = true then Oper.wp P o a w K Q else G := by
  have hw : Region.wanted o (yielded ops a.tmps) = true := by simp [Region.wanted, hg]
  rw [if_pos hw]
  obtain ⟨rows, h1, h2, h3⟩ := hown
  have hcs : cs.length = 1 * k := by rw [hR.len hy]; omega
  obtain ⟨v', w', hr, g1, g2, g3⟩ := run_append_tk (P := P) (ty := o.type) w hT v l.length rows.flatten h2 ⟨n0, 0, none⟩ 1 c cs hcs
    (fun j u hu => by rw [Addr.add_lit]; simp only [Nat.zero_add]; exact hn j u hu) (hR.one hy) hlen
  have hS : ∀ b, S b ∧ some b ≠ v.ownBlock → b < w.heap.size → w'.heap[b]? = w.heap[b]? ∧ S b ∧ some b ≠ v'.ownBlock := by
    rintro b ⟨hs, hne⟩ hl
    refine ⟨g2.block b hl hne, hs, ?_⟩
    rcases g3 with e | ⟨g, e, hge⟩
    · rw [e]; exact hne
    · rw [e]; intro hbg; cases hbg; omega
  unfold Oper.wp execOp
  simp only [hop, resolve, invoke, builtin, Sem.run_bind, Sem.run_pure, Result.andThen_ok, List.map_toArray, List.map_cons, List.map_nil, hs, hx, hr]
  refine hK _ _ ⟨rows ++ [cs], by simp [h1], by simpa using g1, ?_⟩ g2 g3
  intro i r y' hr' hy'
  rcases Nat.lt_or_ge i l.length with hi | hi
  · rw [List.getElem?_append_left (by omega)] at hr'
    rw [List.getElem?_append_left hi] at hy'
    exact hR.move (h3 i r y' hr' hy') hS
  · rw [List.getElem?_append_right (by omega)] at hr'
    rw [List.getElem?_append_right hi] at hy'
    rcases Nat.eq_zero_or_pos (i - l.length) with h0 | h0
    · rw [show i - rows.length = 0 by omega] at hr'
      rw [h0] at hy'
      cases hr'; cases hy'
      exact hR.move hy hS
    · simp [List.getElem?_cons, show i - l.length ≠ 0 by omega] at hy'
end Go.Tk
namespace Go.Proofs.YtcmmenmjclgjmaaGreatDoor
open Go.RowKit Go.Tk

theorem mg1_calls (w : World) (y : SessionD) (rv : Value) (hrv : rv.oneCell' = true) (B : Nat) (c : Int) (hc : w.cell? ⟨B, 0, none⟩ = some (.int .i64 c)) :
    Calls Tryz.prog 12 #[.agg #[.int .i64 y.client, .int .i64 y.id, .int .i64 y.acked, .int .i64 y.last, rv], .pointer (some ⟨B, 0, none⟩)] w fun e w' => e = .returned (.bool (y.client == c)) ∧ Below w.heap.size w w' := by
  have hB := World.block_lt_of_cell? w _ hc
  go_enter Tryz.func12, Tryz.ntmps12
  go_wp2
  go_ret
  exact ⟨rfl, below_alloc w _⟩

set_option linter.unusedSimpArgs false in
set_option maxRecDepth 100000 in
set_option maxHeartbeats 6400000 in
theorem machinesGood_calls (w : World) (l : List RawD) (v : Value) (S : Nat → Prop) (h : SlR 4 rRaw w v l S) (hr : ∀ x ∈ l, RawOk x) :
    Calls Tryz.prog 3 #[v] w fun e w' => e = .returned (.bool true) ∧ Below w.heap.size w w' := by
  obtain ⟨a0, cap0, hv, -, hm0, -, -⟩ := id h
  subst hv
  unfold maxLen at hm0
  have HH := Lib.hid h
  have HRR := Lib.hid hr
  clear h hr
  go_enter Tryz.func3, Tryz.ntmps3
  go_wp2_with fail
  refine (commands_calls l 80 (by omega) _ S _ HH.out HRR.out).mono ?_
  rintro e w1 ⟨v1, rfl, hs1, hb1⟩
  have hone1 := hs1.oneCell
  have HCL := Lib.hid (commandsP_len l 80 (by omega))
  have HAL := Lib.hid (commandsP_ok l 80 (by omega))
  have HB1 := Lib.hid hb1
  have HS1 := Lib.hid hs1
  clear hs1 hb1 HH HRR
  generalize commandsP l 80 = cs at *
  go_wp2_with fail
  refine (entries_calls cs HAL.out (by have := HCL.out; omega) v1 _ _ HS1.out).mono ?_
  rintro e w2 ⟨v2, rfl, hs2, hb2⟩
  have hone2 := hs2.oneCell
  have HDE := Lib.hid (entries_ok HAL.out)
  have HAA := Lib.hid (show (entriesP cs).length = min 80 l.length by rw [entriesP_len]; exact HCL.out)
  generalize entriesP cs = A at *
  have HB2 := Lib.hid (below_step HB1.out hb2)
  obtain ⟨t, ht, hok, hix, hheld⟩ := applied_ok (l := A) HDE.out (by have := HAA.out; omega)
  rw [HAA.out] at hix
  have HAP := Lib.hid (applied_calls A v2 _ w2 hs2 HDE.out (by have := HAA.out; omega))
  clear HB1 HS1 HCL HAL hs2 hb2 HDE HAA
  go_wp2_with fail
  refine HAP.out.mono ?_
  rintro e w3 ⟨t', vl, vp, vs, ht', rfl, hst, hb3⟩
  rw [ht] at ht'
  obtain rfl : t = t' := (Prod.mk.inj ht').1
  obtain ⟨al, cl, rfl, -, hml, -, -⟩ := id hst.lock; obtain ⟨ap, cp, rfl, -, -, -, -⟩ := id hst.pair; obtain ⟨az, cz, rfl, -, -, -, -⟩ := id hst.sess
  unfold maxLen at hml
  have HIX := Lib.hid hix
  have HOK := Lib.hid hok
  have HHE := Lib.hid hheld
  have HB3 := Lib.hid (below_step HB2.out hb3)
  have HX := Lib.hid (BoxAt.new (w := w3) (cs := [.int .i64 t.index, .slice al t.locks.length cl, .slice ap t.pairs.length cp, .slice az t.sessions.length cz]) (E := 27))
  have hba := below_alloc w3 (.cells #[.int .i64 t.index, .slice al t.locks.length cl, .slice ap t.pairs.length cp, .slice az t.sessions.length cz] 27)
  have HS := Lib.hid (hst.below hba)
  replace HB3 := Lib.hid (below_step HB3.out hba)
  have hsz := hok.sess.len
  have hll := hok.lock.len
  clear ht ht' hix hok hheld HB2 hst hba hb3 HAP
  go_upto_region 2 with (fail)
  generalize w3.alloc (.cells #[.int .i64 t.index, .slice al t.locks.length cl, .slice ap t.pairs.length cp, .slice az t.sessions.length cz] 27) = w4 at *
  generalize w3.heap.size = B at *
  have b1 := HX.out.cell 1 _ rfl
  go_wp2
  clear b1
  go_loopw [19] (fun i wr => ∃ n : Nat, n ≤ t.locks.length ∧ i = .int .i64 n ∧ Hid (Below w4.heap.size w4 wr))
    (fun i _ => t.locks.length - (intOf i).toNat)
  case atStart => exact ⟨0, by omega, rfl, Lib.hid (Below.refl _ _)⟩
  case round =>
    obtain ⟨n, hn, rfl, hbl⟩ := hrel
    by_cases hlt : n < t.locks.length
    case neg =>
      have HX5 := Lib.hid (HX.out.below hbl.out)
      have HS5 := Lib.hid (HS.out.below hbl.out)
      have b0 := HX5.out.cell 0 _ rfl; have b1 := HX5.out.cell 1 _ rfl; have b2 := HX5.out.cell 2 _ rfl; have b3 := HX5.out.cell 3 _ rfl
      go_wp2_with fail
      refine (maCheck_calls t _ _ _ _ wr HS5.out HOK.out.fits).mono ?_
      rw [maCheck_ok.2 HOK.out]
      rintro e w5 ⟨rfl, hb5⟩
      clear b0 b1 b2 b3
      replace HX5 := Lib.hid (HX5.out.below hb5)
      replace HS5 := Lib.hid (HS5.out.below hb5)
      have HB5 := Lib.hid (below_step hbl.out hb5)
      clear hb5 hbl
      have b0 := HX5.out.cell 0 _ rfl; have b1 := HX5.out.cell 1 _ rfl; have b2 := HX5.out.cell 2 _ rfl; have b3 := HX5.out.cell 3 _ rfl
      go_wp2_with fail
      refine (maCopy_calls t _ _ _ _ w5 HS5.out HOK.out.fits).mono ?_
      rintro e w6 ⟨vl6, vp6, vs6, rfl, hst6, hb6⟩
      obtain ⟨al6, cl6, rfl, -, -, -, -⟩ := id hst6.lock; obtain ⟨ap6, cp6, rfl, -, -, -, -⟩ := id hst6.pair; obtain ⟨az6, cz6, rfl, -, -, -, -⟩ := id hst6.sess
      clear b0 b1 b2 b3
      replace HX5 := Lib.hid (HX5.out.below hb6)
      have HS6 := Lib.hid hst6
      replace HB5 := Lib.hid (below_step HB5.out hb6)
      clear hst6 hb6
      go_wp2_with fail
      refine (maCheck_calls t _ _ _ _ w6 HS6.out HOK.out.fits).mono ?_
      rw [maCheck_ok.2 HOK.out]
      rintro e w7 ⟨rfl, hb7⟩
      replace HX5 := Lib.hid (HX5.out.below hb7)
      replace HB5 := Lib.hid (below_step HB5.out hb7)
      clear hb7
      have b0 := HX5.out.cell 0 _ rfl
      have hI := HIX.out
      go_wp2
      all_goals
        go_ret
        exact ⟨congrArg (fun b => Ending.returned (.bool b)) (by simp; omega), below_step HB3.out HB5.out⟩
    obtain ⟨b, off, cap', row, hv, hSb, hrow, hcells⟩ := (HS.out.lock.below rLock_ok (by decide) hbl.out).row n hlt
    simp only [Value.slice.injEq] at hv
    obtain ⟨rfl, _, rfl⟩ := hv
    have HHK := Lib.hid (HHE.out t.locks[n] (List.getElem_mem hlt))
    have hln := (HOK.out.lock.line _ (List.getElem_mem hlt)).len
    generalize t.locks[n] = k at *
    obtain ⟨rv, rfl, hrv⟩ := hrow
    obtain ⟨ra, rc, rfl, -, hrm, -, -⟩ := id hrv
    have q0 := hcells 0 _ rfl; have q1 := hcells 1 _ rfl; have q2 := hcells 2 _ rfl; have q3 := hcells 3 _ rfl
    simp only [Nat.add_zero] at q0
    clear hcells
    have HK := Lib.hid (BoxAt.new (w := wr) (cs := [.string ⟨k.name.toArray⟩, .int .i64 k.holder, .int .i64 k.fence, .slice ra k.line.length rc]) (E := 36))
    have hba := below_alloc wr (.cells #[.string ⟨k.name.toArray⟩, .int .i64 k.holder, .int .i64 k.fence, .slice ra k.line.length rc] 36)
    have HL5 := Lib.hid (hrv.below rInt_ok (by decide) hba)
    have hb5 := below_step hbl.out hba
    go_upto_region 5 with (fail)
    generalize wr.alloc (.cells #[.string ⟨k.name.toArray⟩, .int .i64 k.holder, .int .i64 k.fence, .slice ra k.line.length rc] 36) = w5 at *
    generalize wr.heap.size = B5 at *
    have HB5 := Lib.hid hb5
    clear q0 q1 q2 q3 hrv hbl hb5 hba
    go_cut [29, 30, 31] from 23 to 31 (fun a len i wx => i = .int .i64 0 ∧ (∃ (m : Nat) (aa : Option Addr) (ac : Nat), m = k.line.length + 1 ∧ len = .int .i64 m ∧ a = .slice aa m ac) ∧ Hid (SlR 1 rInt wx a (k.line ++ [k.holder]) (fun _ => True)) ∧ Hid (Below w5.heap.size w5 wx))
    case first =>
      have HC0 := Lib.hid (cloneInt_calls rInt_ok w5.drew _ k.line _ (HL5.out.below rInt_ok (by decide) (Below.drew (Below.refl _ _))) (by omega))
      have HC1 := Lib.hid (cloneInt_calls rInt_ok (w5.alloc (.cells #[.int .i64 k.holder] 3)).drew _ k.line _ ((HL5.out.below rInt_ok (by decide) (below_alloc w5 (.cells #[.int .i64 k.holder] 3))).below rInt_ok (by decide) (Below.drew (Below.refl _ _))) (by omega))
      have k1 := HK.out.cell 1 _ rfl; have k3 := HK.out.cell 3 _ rfl; have kB := HK.out.lt
      have k3a := (HK.out.below (below_alloc w5 (.cells #[.int .i64 k.holder] 3))).cell 3 _ rfl
      go_region_law (first
        | (go_simp; go_at_call 10; first
            | (refine HC0.out.mono ?_; rintro e w6 ⟨v6, rfl, ho6, hb6, hv6⟩; have k6 := (HK.out.below (undraw hb6)).cell 1 _ rfl; have ha6 := ho6.below rInt_ok (below_alloc w6 (.cells #[.int .i64 k.holder] 3)); have hx6 := BoxAt.new (w := w6) (cs := [.int .i64 k.holder]) (E := 3); have hb7 := below_step (undraw hb6) (below_alloc w6 (.cells #[.int .i64 k.holder] 3)))
            | (refine HC1.out.mono ?_; rintro e w6 ⟨v6, rfl, ho6, hb6, hv6⟩; have ha6 := ho6; have hx6 := (BoxAt.new (w := w5) (cs := [.int .i64 k.holder]) (E := 3)).below (undraw hb6); have hb7 := below_step (below_alloc w5 (.cells #[.int .i64 k.holder] 3)) (undraw hb6)))
        | (refine step_app rfl (.tmp 25) (.tmp 28) rfl Tryz.tycInt rInt_ok k.holder rfl rfl hx6.cell ha6 rfl (by omega) ?_; intro v8 w8 ho8 hg8 hv8; obtain ⟨a8, c8, e8⟩ : ∃ a c, v8 = .slice a (k.line.length + 1) c := (by obtain ⟨a, c, e⟩ := ho8.shape; exact ⟨a, c, by rw [e]; congr 1; simp⟩); subst e8))
      all_goals
        have hw6 : ∀ g, v6.ownBlock = some g → w5.heap.size ≤ g := fun g hg => by have := hv6 g hg; simp at this; omega
        have hb9 := hb7.grown hg8 hb7.size hw6
        have hs9 := (ho8.forget (S' := fun _ => True) rInt_any).read rInt_ok (by decide) fun _ _ => trivial
        clear hb6 hv6 ho6 ha6 hx6 hb7 hg8 hv8 ho8 hw6
        go_wp2
        go_meet
        exact ⟨rfl, ⟨k.line.length + 1, _, _, rfl, by simp, rfl⟩, Lib.hid hs9, Lib.hid hb9⟩
    case rest =>
      obtain ⟨rfl, ⟨m, aa, ac, hm, rfl, rfl⟩, HSL, HB6⟩ := hcut
      rename World => w6
      have HM := Lib.hid hm
      have hm6 : m ≤ 1000000 := by omega
      clear HL5 HK hm
      go_wp2
      go_loopw [31] (fun i wq => ∃ j : Nat, j ≤ m ∧ i = .int .i64 j ∧ Hid (Below w6.heap.size w6 wq))
        (fun i _ => m - (intOf i).toNat)
      case atStart => exact ⟨0, by omega, rfl, Lib.hid (Below.refl _ _)⟩
      case round =>
        obtain ⟨j, hj, rfl, hbq⟩ := hrel
        rename World => wq
        by_cases hlt2 : j < m
        case neg =>
          go_wp2
          go_roundw
          case rel => exact ⟨n + 1, by omega, by go_num, Lib.hid (below_step HB5.out (below_step HB6.out hbq.out))⟩
          case measure => simp [intOf]; omega
        obtain ⟨b2, off2, cap2, row2, hv2, -, hrow2, hcells2⟩ := (HSL.out.below rInt_ok (by decide) hbq.out).row j (by have := HM.out; simp; omega)
        simp only [Value.slice.injEq] at hv2
        obtain ⟨rfl, -, rfl⟩ := hv2
        have HIN := Lib.hid (line_at k j (by have := HM.out; omega))
        generalize (k.line ++ [k.holder])[j]'(by have := HM.out; simp; omega) = c at *
        obtain rfl := hrow2
        have q0 := hcells2 0 _ rfl
        simp only [Nat.mul_one, Nat.add_zero] at q0
        clear hcells2
        have HC8 := Lib.hid (BoxAt.new (w := wq) (cs := [.int .i64 c]) (E := 3))
        have HB8 := Lib.hid (below_step HB5.out (below_step HB6.out (below_step hbq.out (below_alloc wq (.cells #[.int .i64 c] 3)))))
        have HB9 := Lib.hid (below_step hbq.out (below_alloc wq (.cells #[.int .i64 c] 3)))
        go_upto_region 8 with (fail)
        generalize wq.alloc (.cells #[.int .i64 c] 3) = w8 at *
        generalize wq.heap.size = B8 at *
        clear q0 hbq
        have c0 := HC8.out.cell 0 _ rfl
        by_cases hc0 : c = 0
        · have hcb : (c != 0) = false := by simpa using hc0
          clear hc0
          go_wp2
          go_roundw
          case rel => exact ⟨j + 1, by omega, by go_num, HB9⟩
          case measure => simp [intOf]; omega
        · have hcb : (c != 0) = true := by simpa using hc0
          have HT := Lib.hid (HHK.out c hc0 HIN.out)
          have x3 := (HX.out.below HB8.out).cell 3 _ rfl
          have HS8 := Lib.hid (HS.out.sess.below rSession_ok (by decide) HB8.out)
          have hin := fun args w => MuLone.run_callFunc_enter Tryz.func12 (by kernel_rfl) rfl args w
          have hp : TellsSess w8 none (fun b => w2.heap.size ≤ b) 12 (.pointer (some ⟨B8, 0, none⟩)) (fun y => y.client == c) := fun w' y rv' hg hr =>
            mg1_calls w' y rv' (by obtain ⟨v, e, a, c, hv, _⟩ := hr; cases e; rw [hv]; rfl) B8 c ((World.cell?_of_block (hg.block _ HC8.out.lt (by simp))).trans (HC8.out.cell 0 _ rfl))
          have HCO := Lib.hid (containsSess_calls w8 _ t.sessions _ HS8.out (by omega) 12 (.pointer (some ⟨B8, 0, none⟩)) rfl (fun y => y.client == c) none hin hp)
          clear hp hin hc0
          go_wp2_with fail
          refine HCO.out.mono ?_
          rw [show (t.sessions.any fun y => y.client == c) = true from HT.out]
          rintro e w9 ⟨rfl, hb9⟩
          clear HCO x3 c0
          have HBF := Lib.hid (below_step HB9.out hb9)
          go_wp2
          go_roundw
          case rel => exact ⟨j + 1, by omega, by go_num, HBF⟩
          case measure => simp [intOf]; omega
end Go.Proofs.YtcmmenmjclgjmaaGreatDoor

/- An argument that is a slice of raw things. No program in sight. -/
namespace Go.Tk
open Go Go.RowKit Go.ChangeShapes Go.WideShapes Go.Deep

variable {H : Type} {enc : TypeId × Value → H} {P : Program} {w : World} {base : Nat} {spare : Nat → Bool} {held : Bool}
/-- One element's fields. -/
theorem raw_one {e ti : TypeId} {fs : Array Field} {fuel : Nat} {cs : List Value} {x : DataW H × List MemPlace} (he : P.underlying e = some (.struct fs)) (hone : oneCellFields P fs = true) (h4 : fs.size = 4)
    (hall : (fs.toList.all fun f => f.type == ti) = true) (hti : P.underlying ti = some (.int .i64)) (hlen : cs.length = 4) (h : DataW.trod enc P w base spare held fuel e cs = some x) :
    ∃ r : RawD, cs = [.int .i64 r.kind, .int .i64 r.a, .int .i64 r.b, .int .i64 r.c] ∧ RawOk r := by
  have hty : ∀ (j : Nat) (f : Field), fs[j]? = some f → f.type = ti := fun j f hj => by
    have hm : f ∈ fs.toList := by
      obtain ⟨hj', rfl⟩ := Array.getElem?_eq_some_iff.1 hj
      exact Array.mem_toList_iff.2 (Array.getElem_mem hj')
    simpa using List.all_eq_true.1 hall f hm
  obtain ⟨ys, n, _, _, _, hyl, hf⟩ := DataW.trod_struct he h
  match cs, hlen with
  | [c0, c1, c2, c3], _ =>
    have key : ∀ (j : Nat) (c : Value), [c0, c1, c2, c3][j]? = some c → ∃ z, c = .int .i64 z ∧ I64 z := by
      intro j c hc
      have hj : j < 4 := by
        rcases Nat.lt_or_ge j 4 with h | h
        · exact h
        · rw [List.getElem?_eq_none (by simp; omega)] at hc; cases hc
      have hfj : fs[j]? = some (fs[j]'(by omega)) := Array.getElem?_eq_getElem _
      obtain ⟨ho, hk⟩ := hone_of hone j _ hfj
      have h1 := hf j _ hfj
      rw [ho, hk, hty j _ hfj] at h1
      have h2 : (([c0, c1, c2, c3] : List Value).drop j).take 1 = [c] := by
        rcases (show j = 0 ∨ j = 1 ∨ j = 2 ∨ j = 3 by omega) with rfl | rfl | rfl | rfl <;> simp at hc <;> subst hc <;> rfl
      rw [h2, List.getElem?_eq_getElem (by omega)] at h1
      obtain ⟨z, hz, _, hw⟩ := DataW.trod_int hti h1
      simp only [List.cons.injEq, and_true] at hz
      exact ⟨z, hz, bounds_i64 hw⟩
    obtain ⟨z0, rfl, g0⟩ := key 0 c0 rfl
    obtain ⟨z1, rfl, g1⟩ := key 1 c1 rfl
    obtain ⟨z2, rfl, g2⟩ := key 2 c2 rfl
    obtain ⟨z3, rfl, g3⟩ := key 3 c3 rfl
    exact ⟨⟨z0, z1, z2, z3⟩, rfl, g0, g1, g2, g3⟩
theorem raws_open {t e ti : TypeId} {fs : Array Field} {r : Reach} {b0 : Nat} {v : Value} {d : DataW H} {p : List MemPlace} (ht : P.underlying t = some (.slice e)) (he : P.underlying e = some (.struct fs)) (hone : oneCellFields P fs = true) (hC : P.cellsOf e = 4) (h4 : fs.size = 4)
    (hall : (fs.toList.all fun f => f.type == ti) = true) (hti : P.underlying ti = some (.int .i64)) (hv : Value.okWide P w r b0 t v) (h : DataW.Trod enc P w base spare held t v d p) :
    ∃ l : List RawD, SlR 4 rRaw w v l (fun _ => True) ∧ ∀ x ∈ l, RawOk x := by
  obtain ⟨a, len, cap, rfl⟩ := okWide_slice ht hv
  obtain ⟨fuel, hf⟩ := h
  rcases open_slice ht hf with ⟨h0, _⟩ | ⟨a', len', cap', m, n, D, Pl, hcs, hb, hl, hm, hmm, _, hi⟩
  · simp [Value.cells] at h0
    obtain ⟨rfl, rfl, rfl⟩ := h0
    exact ⟨[], SlR.nil w _, by simp⟩
  · simp [Value.cells] at hcs
    obtain ⟨rfl, rfl, rfl⟩ := hcs
    have hmlen : len ≤ m := by rw [hmm]; split <;> omega
    have hx : ∀ i : Nat, ∃ x : RawD, i < len → RawOk x ∧ w.cells? base (a'.add (i * 4)) 4 = some [.int .i64 x.kind, .int .i64 x.a, .int .i64 x.b, .int .i64 x.c] := by
      intro i
      by_cases hil : i < len
      · obtain ⟨cs', hc, ht'⟩ := hi i (by omega)
        rw [hC] at hc
        obtain ⟨_, hcl, _⟩ := World.cells?_some hc
        obtain ⟨r, rfl, hr⟩ := raw_one he hone h4 hall hti hcl ht'
        exact ⟨r, fun _ => ⟨hr, hc⟩⟩
      · exact ⟨⟨0, 0, 0, 0⟩, fun h => absurd h hil⟩
    obtain ⟨f, hf⟩ := Classical.axiomOfChoice hx
    refine ⟨(List.range len).map f, ⟨some a', cap, by simp, by simpa using hl, hm, (fun h => by cases h), fun i x hix => ?_⟩, fun x hx => ?_⟩
    · have hil : i < len := by
        rcases Nat.lt_or_ge i len with h | h
        · exact h
        · rw [List.getElem?_eq_none (by simpa using h)] at hix; cases hix
      have hxe : x = f i := by
        rw [List.getElem?_map, List.getElem?_range hil] at hix
        simpa using hix.symm
      subst hxe
      have h0 := (hf 0 (by omega)).2
      obtain ⟨_, _, hat0⟩ := World.cells?_some h0
      have hc0 := hat0 (i := 0) (by decide)
      have hspot : a'.spot = none := by
        rw [Nat.zero_mul] at hc0
        have := World.cell?_spot hc0
        simpa [Addr.add] using this
      obtain ⟨_, hcl, hat⟩ := World.cells?_some (hf i hil).2
      obtain ⟨b, off, sp⟩ := a'
      simp only at hspot
      subst hspot
      refine ⟨b, off, [.int .i64 (f i).kind, .int .i64 (f i).a, .int .i64 (f i).b, .int .i64 (f i).c], rfl, trivial, rfl, fun j u hu => ?_⟩
      have hj : j < 4 := by
        rcases Nat.lt_or_ge j 4 with h | h
        · exact h
        · rw [List.getElem?_eq_none (by simp; omega)] at hu; cases hu
      have := hat (i := j) hj
      rw [Addr.add_lit, Addr.add_lit, hu] at this
      exact this
    · obtain ⟨i, hi', rfl⟩ := List.mem_map.1 hx
      exact (hf i (List.mem_range.1 hi')).1
end Go.Tk

/- Raw things, as the program's types say. -/
namespace Go.Proofs.YtcmmenmjclgjmaaGreatDoor
open Go.RowKit Go.Tk
set_option maxRecDepth 100000 in
theorem Tryz.rawTypes {H : Type} {enc : TypeId × Value → H} {w : World} {r : Reach} {b0 base : Nat} {spare : Nat → Bool} {held : Bool} {v : Value} {d : DataW H} {p : List MemPlace}
    (hv : Value.okWide Tryz.prog w r b0 22 v) (h : DataW.Trod enc Tryz.prog w base spare held 22 v d p) : ∃ l : List RawD, SlR 4 rRaw w v l (fun _ => True) ∧ ∀ x ∈ l, RawOk x :=
  raws_open Tryz.underlying22 Tryz.underlying93 (by kernel_rfl) (by kernel_rfl) (by kernel_rfl) (by kernel_rfl) Tryz.underlying3 hv h
end Go.Proofs.YtcmmenmjclgjmaaGreatDoor
