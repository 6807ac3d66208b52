/- slices.Clone: the same elements in memory of the call's own. -/
import Derived.Test.YtphkkkmjkagkbaaDoorRows
import Derived.Test.YtphkkkmjkagkbaaDoorSlice
import Derived.Test.YtphkkkmjkagkbaaDoorData
import Derived.WalkLawsBesides
import Derived.KernelRfl
namespace Go.Proofs.YtphkkkmjkagkbaaDoor
open Go.RowKit Go.Tk

theorem Tryd.tycWait : SliceTy Tryd.prog 61 97 5 56 := ⟨Tryd.underlying61, by kernel_rfl, by decide⟩

set_option maxRecDepth 100000 in
set_option maxHeartbeats 400000 in
theorem cloneWait_calls {α : Type} {R : Rel α} (hR : RelOk R 5) (w : World) (v : Value) (l : List α) (S : Nat → Prop) (h : SlR 5 R w v l S) (hn : l.length ≤ 1000000) :
    Calls Tryd.prog 58 #[v] w fun e w' => ∃ v', e = .returned v' ∧ OwR 97 5 R w' v' l S ∧ Below w.heap.size w w' ∧ (∀ g, v'.ownBlock = some g → w.heap.size ≤ g) := by
  obtain ⟨a, cap, hv, hl, hm, hnil, hr⟩ := id h
  subst hv
  have hm' := hm
  unfold maxLen at hm'
  cases a with
  | none =>
    have h0 := hnil rfl
    subst h0
    have hl0 : l = [] := List.eq_nil_of_length_eq_zero (by omega)
    subst hl0
    have he := Lib.run_eql_slice_nil (P := Tryd.prog) (t := 61)
    go_enter Tryd.func58, Tryd.ntmps58
    go_wp2
    go_ret
    exact ⟨_, rfl, OwR.nil w S, Below.refl _ _, by simp [Value.ownBlock]⟩
  | some a =>
    obtain ⟨a', cap', rows, hv, -, -, hrl, hrel, hcells⟩ := h.rows hR (by decide)
    simp only [Value.slice.injEq] at hv
    obtain ⟨rfl, -, rfl⟩ := hv
    have hlen := OwR.rowsLen (E := 97) (v := .slice (some a) l.length cap) hR hrl hrel
    have hone := OwR.cellsOne (E := 97) hR hrl hrel
    have hfl : rows.flatten.length = l.length * 5 := by
      have : ∀ (rs : List (List Value)), (∀ r ∈ rs, r.length = 5) → rs.flatten.length = rs.length * 5 := by
        intro rs
        induction rs with
        | nil => intro _; rfl
        | cons r rs ih => intro hk; rw [List.flatten_cons, List.length_append, hk r (by simp), ih (fun r hr => hk r (by simp [hr]))]; simp; omega
      rw [this rows hlen, hrl]
    have hown0 : (w.alloc (.cells #[] 97)).ownsRow 0 97 5 (.slice (some ⟨w.heap.size, 0, none⟩) 0 0) 0 [] :=
      ⟨rfl, .inr ⟨w.heap.size, 0, #[], rfl, Nat.zero_le _, heap_alloc_new w _, Nat.le_refl _, by decide, rfl, rfl⟩⟩
    obtain ⟨v', w', hrun, g1, g2, g3⟩ := run_append_tk (P := Tryd.prog) (ty := 61) (w.alloc (.cells #[] 97)) Tryd.tycWait _ 0 [] hown0 a l.length cap rows.flatten hfl (fun j u hu => by
      obtain ⟨b, off, ha, _, hc⟩ := hcells j u hu
      simp only [Option.some.injEq] at ha
      subst ha
      have hlt := World.block_lt_of_cell? w _ hc
      rw [Addr.add_lit, World.cell?_alloc_past _ _ _ hlt]; exact hc) hone (by omega)
    have hvb : ∀ g, v'.ownBlock = some g → w.heap.size ≤ g := by
      intro g hg
      rcases g3 with e | ⟨g', e, h⟩
      · rw [e] at hg; cases hg; exact Nat.le_refl _
      · rw [e] at hg; cases hg; simp at h; omega
    have hb : Below w.heap.size w w' := ((Below.refl _ _).alloc (Nat.le_refl _) _).grown g2 (by simp) (fun k hk => by cases hk; exact Nat.le_refl _)
    have hfin : OwR 97 5 R w' v' l S := by
      refine ⟨rows, hrl, by simpa using g1, fun i r x hr hx => hR.move (hrel i r x hr hx) fun b hs hlt => ⟨hb.block b hlt, hs, ?_⟩⟩
      intro hbg
      have := hvb b hbg.symm
      omega
    have HF := Lib.hid hfin
    have HV := Lib.hid hvb
    have he := Lib.run_eql_slice_nil (P := Tryd.prog) (t := 61)
    clear hfin hvb g1 g2 g3 hcells hrel hlen hone hfl hown0 hr h hrl
    go_enter Tryd.func58, Tryd.ntmps58
    go_wp2_with (at_builtin; refine wpList_append_run rfl _ _ _ _ rfl _ _ rfl rfl hrun ?_)
    go_ret
    exact ⟨v', rfl, HF.out, hb, HV.out⟩
end Go.Proofs.YtphkkkmjkagkbaaDoor
