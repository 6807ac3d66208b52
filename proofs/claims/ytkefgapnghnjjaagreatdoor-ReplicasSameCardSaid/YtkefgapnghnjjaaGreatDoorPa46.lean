/- A part of the proof, laid together from: Raw, RawT. -/
import Derived.Test.YtkefgapnghnjjaaGreatDoorPa01
import Derived.Test.YtkefgapnghnjjaaGreatDoorPa03
import Derived.Deep.Slices
import Derived.Deep.Fields
import Derived.ChangeSame
import Derived.OpenShut
import Derived.Test.YtkefgapnghnjjaaGreatDoorRows
import Derived.KernelRfl
set_option linter.unusedSimpArgs false
set_option linter.unusedVariables false
namespace Go.Tk
open Go Go.RowKit Go.ChangeShapes Go.WideShapes Go.Deep
variable {H : Type} {enc : TypeId × Value → H} {P : Program} {w : World} {base : Nat} {spare : Nat → Bool} {held : Bool}
theorem raw_one {e ti : TypeId} {fs : Array Field} {fuel : Nat} {cs : List Value} {x : DataW H × List MemPlace} (he : P.underlying e = some (.struct fs)) (hone : oneCellFields P fs = true) (h4 : fs.size = 4)
    (hall : (fs.toList.all fun f => f.type == ti) = true) (hti : P.underlying ti = some (.int .i64)) (hlen : cs.length = 4) (h : DataW.trod enc P w base spare held fuel e cs = some x) :
    ∃ r : RawD, cs = [.int .i64 r.kind, .int .i64 r.a, .int .i64 r.b, .int .i64 r.c] ∧ RawOk r := by
  have hty : ∀ (j : Nat) (f : Field), fs[j]? = some f → f.type = ti := fun j f hj => by
    have hm : f ∈ fs.toList := by
      obtain ⟨hj', rfl⟩ := Array.getElem?_eq_some_iff.1 hj
      exact Array.mem_toList_iff.2 (Array.getElem_mem hj')
    simpa using List.all_eq_true.1 hall f hm
  obtain ⟨ys, n, _, _, _, hyl, hf⟩ := DataW.trod_struct he h
  match cs, hlen with
  | [c0, c1, c2, c3], _ =>
    have key : ∀ (j : Nat) (c : Value), [c0, c1, c2, c3][j]? = some c → ∃ z, c = .int .i64 z ∧ I64 z := by
      intro j c hc
      have hj : j < 4 := by
        rcases Nat.lt_or_ge j 4 with h | h
        · exact h
        · rw [List.getElem?_eq_none (by simp; omega)] at hc; cases hc
      have hfj : fs[j]? = some (fs[j]'(by omega)) := Array.getElem?_eq_getElem _
      obtain ⟨ho, hk⟩ := hone_of hone j _ hfj
      have h1 := hf j _ hfj
      rw [ho, hk, hty j _ hfj] at h1
      have h2 : (([c0, c1, c2, c3] : List Value).drop j).take 1 = [c] := by
        rcases (show j = 0 ∨ j = 1 ∨ j = 2 ∨ j = 3 by omega) with rfl | rfl | rfl | rfl <;> simp at hc <;> subst hc <;> rfl
      rw [h2, List.getElem?_eq_getElem (by omega)] at h1
      obtain ⟨z, hz, _, hw⟩ := DataW.trod_int hti h1
      simp only [List.cons.injEq, and_true] at hz
      exact ⟨z, hz, bounds_i64 hw⟩
    obtain ⟨z0, rfl, g0⟩ := key 0 c0 rfl
    obtain ⟨z1, rfl, g1⟩ := key 1 c1 rfl
    obtain ⟨z2, rfl, g2⟩ := key 2 c2 rfl
    obtain ⟨z3, rfl, g3⟩ := key 3 c3 rfl
    exact ⟨⟨z0, z1, z2, z3⟩, rfl, g0, g1, g2, g3⟩
theorem raws_open {t e ti : TypeId} {fs : Array Field} {r : Reach} {b0 : Nat} {v : Value} {d : DataW H} {p : List MemPlace} (ht : P.underlying t = some (.slice e)) (he : P.underlying e = some (.struct fs)) (hone : oneCellFields P fs = true) (hC : P.cellsOf e = 4) (h4 : fs.size = 4)
    (hall : (fs.toList.all fun f => f.type == ti) = true) (hti : P.underlying ti = some (.int .i64)) (hv : Value.okWide P w r b0 t v) (h : DataW.Trod enc P w base spare held t v d p) :
    ∃ l : List RawD, SlR 4 rRaw w v l (fun _ => True) ∧ ∀ x ∈ l, RawOk x := by
  obtain ⟨a, len, cap, rfl⟩ := okWide_slice ht hv
  obtain ⟨fuel, hf⟩ := h
  rcases open_slice ht hf with ⟨h0, _⟩ | ⟨a', len', cap', m, n, D, Pl, hcs, hb, hl, hm, hmm, _, hi⟩
  · simp [Value.cells] at h0
    obtain ⟨rfl, rfl, rfl⟩ := h0
    exact ⟨[], SlR.nil w _, by simp⟩
  · simp [Value.cells] at hcs
    obtain ⟨rfl, rfl, rfl⟩ := hcs
    have hmlen : len ≤ m := by rw [hmm]; split <;> omega
    have hx : ∀ i : Nat, ∃ x : RawD, i < len → RawOk x ∧ w.cells? base (a'.add (i * 4)) 4 = some [.int .i64 x.kind, .int .i64 x.a, .int .i64 x.b, .int .i64 x.c] := by
      intro i
      by_cases hil : i < len
      · obtain ⟨cs', hc, ht'⟩ := hi i (by omega)
        rw [hC] at hc
        obtain ⟨_, hcl, _⟩ := World.cells?_some hc
        obtain ⟨r, rfl, hr⟩ := raw_one he hone h4 hall hti hcl ht'
        exact ⟨r, fun _ => ⟨hr, hc⟩⟩
      · exact ⟨⟨0, 0, 0, 0⟩, fun h => absurd h hil⟩
    obtain ⟨f, hf⟩ := Classical.axiomOfChoice hx
    refine ⟨(List.range len).map f, ⟨some a', cap, by simp, by simpa using hl, hm, (fun h => by cases h), fun i x hix => ?_⟩, fun x hx => ?_⟩
    · have hil : i < len := by
        rcases Nat.lt_or_ge i len with h | h
        · exact h
        · rw [List.getElem?_eq_none (by simpa using h)] at hix; cases hix
      have hxe : x = f i := by
        rw [List.getElem?_map, List.getElem?_range hil] at hix
        simpa using hix.symm
      subst hxe
      have h0 := (hf 0 (by omega)).2
      obtain ⟨_, _, hat0⟩ := World.cells?_some h0
      have hc0 := hat0 (i := 0) (by decide)
      have hspot : a'.spot = none := by
        rw [Nat.zero_mul] at hc0
        have := World.cell?_spot hc0
        simpa [Addr.add] using this
      obtain ⟨_, hcl, hat⟩ := World.cells?_some (hf i hil).2
      obtain ⟨b, off, sp⟩ := a'
      simp only at hspot
      subst hspot
      refine ⟨b, off, [.int .i64 (f i).kind, .int .i64 (f i).a, .int .i64 (f i).b, .int .i64 (f i).c], rfl, trivial, rfl, fun j u hu => ?_⟩
      have hj : j < 4 := by
        rcases Nat.lt_or_ge j 4 with h | h
        · exact h
        · rw [List.getElem?_eq_none (by simp; omega)] at hu; cases hu
      have := hat (i := j) hj
      rw [Addr.add_lit, Addr.add_lit, hu] at this
      exact this
    · obtain ⟨i, hi', rfl⟩ := List.mem_map.1 hx
      exact (hf i (List.mem_range.1 hi')).1
end Go.Tk

namespace Go.Proofs.YtkefgapnghnjjaaGreatDoor
open Go.RowKit Go.Tk
set_option maxRecDepth 100000 in
theorem Tryz.rawTypes {H : Type} {enc : TypeId × Value → H} {w : World} {r : Reach} {b0 base : Nat} {spare : Nat → Bool} {held : Bool} {v : Value} {d : DataW H} {p : List MemPlace}
    (hv : Value.okWide Tryz.prog w r b0 22 v) (h : DataW.Trod enc Tryz.prog w base spare held 22 v d p) : ∃ l : List RawD, SlR 4 rRaw w v l (fun _ => True) ∧ ∀ x ∈ l, RawOk x :=
  raws_open Tryz.underlying22 Tryz.underlying125 (by kernel_rfl) (by kernel_rfl) (by kernel_rfl) (by kernel_rfl) Tryz.underlying3 hv h
end Go.Proofs.YtkefgapnghnjjaaGreatDoor
