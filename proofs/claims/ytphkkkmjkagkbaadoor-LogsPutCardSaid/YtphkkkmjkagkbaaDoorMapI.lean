/- A map from numbers to numbers that a call makes, as a function. No program in sight. -/
import Derived.Test.YtphkkkmjkagkbaaDoorCmdsP
import Derived.Test.YtphkkkmjkagkbaaDoorChg
import Derived.Maps.Own
import Derived.Maps.OwnOps
import Derived.Maps.Views
namespace Go.Tk
open Go Go.RowKit Go.Maps

/-- Block b is a map of at most n entries; at each number it holds what f says. -/
def MapF (P : Program) (e : TypeId) (w : World) (b n : Nat) (f : Int → Int) : Prop :=
  ∃ D : DataW Unit, w.ownsMap P e (plainElem P e) b n D ∧ ∀ c, I64 c → D.atKey (.int .i64 c) (.lit (.int .i64 0)) = .lit (.int .i64 (f c))
theorem wf_of {c : Int} (h : I64 c) : (Lit.int .i64 c).wf = true := WalkArith.wf_i64 (by unfold I64 at h; omega)
theorem MapF.made (P : Program) (e : TypeId) (w : World) : MapF P e (w.alloc (.map #[] 0)) w.heap.size 0 (fun _ => 0) := ⟨_, World.ownsMap_made _ _ _ _, fun _ _ => rfl⟩
theorem MapF.lt {P : Program} {e : TypeId} {w : World} {b n : Nat} {f : Int → Int} (h : MapF P e w b n f) : b < w.heap.size := by
  obtain ⟨D, h, _⟩ := h; exact h.lt
theorem MapF.kept {P : Program} {e : TypeId} {w w' : World} {b n : Nat} {f : Int → Int} {r : Option Nat} (h : MapF P e w b n f) (hg : w.grownBy w' r) (hne : some b ≠ r) : MapF P e w' b n f := by
  obtain ⟨D, h, h2⟩ := h; exact ⟨D, h.kept hg hne, h2⟩
theorem MapF.below {P : Program} {e : TypeId} {w w' : World} {b n : Nat} {f : Int → Int} (h : MapF P e w b n f) (hb : Below w.heap.size w w') : MapF P e w' b n f :=
  h.kept (r := none) (grownBy_any hb none) (by simp)
theorem MapF.mono {P : Program} {e : TypeId} {w : World} {b n n' : Nat} {f : Int → Int} (h : MapF P e w b n f) (hn : n ≤ n') : MapF P e w b n' f := by
  obtain ⟨D, h, h2⟩ := h; exact ⟨D, h.mono hn, h2⟩
theorem MapF.look {P : Program} {t e : TypeId} {w : World} {b n : Nat} {f : Int → Int} (h : MapF P e w b n f) (ht : P.underlying t = some (.map e e)) (he : P.underlying e = some (.int .i64)) (hz : (zeroValue e).run P w = .ok (.int .i64 0) w)
    {c : Int} (hc : I64 c) : (Instr.lookup t (.map (some b)) (.int .i64 c) false).run P w = .ok (.int .i64 (f c)) w := by
  obtain ⟨D, h, h2⟩ := h
  obtain ⟨x, hrun, hat, _⟩ := h.lookup_int (int_keyed he) ht he hz (keyOf_int_mk he (wf_of hc))
  rw [h2 c hc] at hat
  simp only [DataW.lit.injEq, Lit.int.injEq, true_and] at hat
  rw [hat]; exact hrun
theorem MapF.store {P : Program} {t e : TypeId} {w : World} {b n : Nat} {f : Int → Int} (h : MapF P e w b n f) (ht : P.underlying t = some (.map e e)) (he : P.underlying e = some (.int .i64)) (hn : n ≤ 1000000) {c v : Int} (hc : I64 c) (hv : I64 v) :
    ∃ w', (Instr.mapUpdate t (.map (some b)) (.int .i64 c) (.int .i64 v)).run P w = .ok () w' ∧ MapF P e w' b (n + 1) (upd f c v) ∧ w.grownBy w' (some b) := by
  obtain ⟨D, h, h2⟩ := h
  obtain ⟨w', hrun, hown, hg⟩ := h.update (int_keyed he) ht (by unfold maxLen; omega) (keyOf_int_mk he (wf_of hc)) (plainElem_int he (wf_of hv))
  refine ⟨w', hrun, ⟨_, hown, fun x hx => ?_⟩, hg⟩
  by_cases hxc : x = c
  · subst hxc
    rw [upd_same, atKey_put_same (World.ownsMap.isMap h) (by simp [WideAt.IsKeyLit])]
  · rw [upd_other _ _ hxc, atKey_put_other (by simpa using hxc), h2 x hx]
theorem wpList_mapF {P : Program} {w : World} {ops : Array Oper} {rest : List Oper} {o : Oper} {a : Act} {Q : Exit → Act → World → Prop} (hg : o.guard = none) (m x v : Operand) {t : TypeId} (hop : o.op = Op.mapUpdate t m x v)
    {e : TypeId} {b n : Nat} {f : Int → Int} (h : MapF P e w b n f) (ht : P.underlying t = some (.map e e)) (he : P.underlying e = some (.int .i64)) (hn : n ≤ 1000000) {c i : Int} (hm : a.eval m = .map (some b)) (hx : a.eval x = .int .i64 c) (hv : a.eval v = .int .i64 i)
    (hc : I64 c) (hi : I64 i) (hK : ∀ w', MapF P e w' b (n + 1) (upd f c i) → w.grownBy w' (some b) → wpList P ops Q rest (a.put o.dst undef) w') : wpList P ops Q (o :: rest) a w := by
  obtain ⟨w', hrun, h1, h2⟩ := h.store ht he hn hc hi
  refine wpList_plain hg fun K hK' => ?_
  unfold Oper.wp execOp
  simp only [hop, hm, hx, hv, Sem.run_bind, hrun, Result.andThen_ok, Sem.run_pure]
  exact hK' _ _ (hK w' h1 h2)
end Go.Tk
