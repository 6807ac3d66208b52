/- A part of the proof, laid together from: Slice, Chg. -/
import Derived.Test.YtkefgapnghnjjaaGreatDoorPa01
import Derived.Laws.CopyOwn
import Derived.Lib.Overlaps
import Derived.Deep.Draws
import Derived.Laws.IdiomCopy
set_option linter.unusedSimpArgs false
set_option linter.unusedVariables false
namespace Go.Tk
open Go Go.RowKit
theorem splice_take {β : Type} (cur : List β) (a : Nat) (cs : List β) (h : a + cs.length ≤ cur.length) : (splice cur a cs).take (a + cs.length) = cur.take a ++ cs := by
  have hl : (cur.take a ++ cs).length = a + cs.length := by simp; omega
  rw [splice, ← List.append_assoc, ← hl, List.take_left]
theorem splice_two {β : Type} (cur : List β) (a : Nat) (cs ys : List β) (h : a + cs.length + ys.length ≤ cur.length) :
    (splice (splice cur a cs) (a + cs.length) ys).take (a + cs.length + ys.length) = cur.take a ++ cs ++ ys := by
  rw [splice_take _ _ _ (by rw [length_splice _ _ _ (by omega)]; omega), splice_take _ _ _ (by omega)]
theorem splice_back {β : Type} (cur : List β) (a : Nat) (cs ys : List β) (h : a + cs.length + ys.length ≤ cur.length) :
    (splice (splice cur (a + cs.length) ys) a cs).take (a + cs.length + ys.length) = cur.take a ++ cs ++ ys := by
  have e1 : (splice cur (a + cs.length) ys).take a = cur.take a := by
    rw [splice, List.take_append_of_le_length (by simp; omega), List.take_take, Nat.min_eq_left (by omega)]
  have e2 : (splice cur (a + cs.length) ys).drop (a + cs.length) = ys ++ cur.drop (a + cs.length + ys.length) := by
    rw [splice, List.drop_append, List.drop_of_length_le (by simp; omega)]
    simp only [List.length_take, List.nil_append]
    rw [Nat.min_eq_left (by omega), Nat.sub_self, List.drop_zero]
  have hl : (cur.take a ++ cs ++ ys).length = a + cs.length + ys.length := by simp; omega
  rw [splice, e1, e2, ← List.append_assoc, ← List.append_assoc, ← hl, List.take_left]
section
variable {P : Program}
theorem grownBy_setRow (w : World) (g : Nat) (cs : Array Value) : w.grownBy (w.setRow g cs) (some g) :=
  ⟨rfl, rfl, rfl, by simp, fun k _ hk => setRow_other w g k _ (fun e => hk (by simp [e]))⟩
theorem grownBy_refl (w : World) (r : Option Nat) : w.grownBy w r := ⟨rfl, rfl, rfl, Nat.le_refl _, fun _ _ _ => rfl⟩
theorem grownBy_trans {a b c : World} {r : Option Nat} (h : a.grownBy b r) (k : b.grownBy c r) : a.grownBy c r :=
  ⟨k.os.trans h.os, k.tape.trans h.tape, k.output.trans h.output, Nat.le_trans h.size k.size, fun i hi hne => (k.block i (Nat.lt_of_lt_of_le hi h.size) hne).trans (h.block i hi hne)⟩
theorem grownBy_drew {a b : World} {r : Option Nat} (h : a.grownBy b r) : a.grownBy b.drew r := ⟨h.os, h.tape, h.output, h.size, h.block⟩
theorem run_copy_tk (w : World) {T E k bytes ty : Nat} (hT : SliceTy P T E k bytes) (g o dLen dCap : Nat) (sp : Option Addr) (sLen sCap : Nat) (cur : Array Value) (cs : List Value)
    (hg : w.heap[g]? = some (.cells cur E (0, 0))) (hn : cs.length = Nat.min sLen dLen * k)
    (hsrc : 0 < cs.length → ∃ a, sp = some a ∧ ∀ j v, cs[j]? = some v → w.cell? (a.add j) = some v) (hfit : o + cs.length ≤ cur.size) (h1 : ∀ v ∈ cs, v.oneCell' = true) :
    (Builtin.copy_ #[T, T] ty #[.slice (some ⟨g, o, none⟩) dLen dCap, .slice sp sLen sCap]).run P w =
      .ok (goInt (Nat.min sLen dLen)) (w.setRow g (splice cur.toList o cs).toArray) := by
  obtain ⟨i, z, hi, hz, hs, hby, hzs⟩ := hT.parts
  have hst := run_storeCells_at P g o E cs 0 cur w hg (by simpa using hfit) h1
  have hload : (Builtin.firstCells i.size (Nat.min sLen dLen) (.slice sp sLen sCap)).run P w = .ok cs.toArray w := by
    rcases Nat.eq_zero_or_pos cs.length with h0 | h0
    · have : cs = [] := List.eq_nil_of_length_eq_zero h0
      subst this
      have hm : Nat.min sLen dLen = 0 := by
        rw [List.length_nil] at hn
        rcases Nat.mul_eq_zero.1 hn.symm with h | h
        · exact h
        · have := hT.pos; omega
      rw [hm]
      cases sp with
      | none => exact run_firstCells_none w _ _ _ _
      | some a => exact run_firstCells_some w i.size 0 a sLen sCap [] (by simp) (by simp)
    · obtain ⟨a, rfl, hc⟩ := hsrc h0
      exact run_firstCells_some w i.size _ a sLen sCap cs (by rw [hn, hs]) hc
  simp [Builtin.copy_, run_underlying hT.under, Builtin.lenOf, sizeOf, typeInfo, hi, hload, hst, splice]
theorem run_clear_tk (w : World) {T E k bytes ty : Nat} (hT : SliceTy P T E k bytes) (g o n c : Nat) (cur : Array Value)
    (hg : w.heap[g]? = some (.cells cur E (0, 0))) (hfit : o + n * k ≤ cur.size) (hz1 : ∀ i z, P.info? E = some i → i.zero = some z → ∀ v ∈ z.cells.toList, v.oneCell' = true) :
    ∃ zs : List Value, zs.length = n * k ∧ (Builtin.clear_ #[T] ty #[.slice (some ⟨g, o, none⟩) n c]).run P w = .ok (.tuple #[]) (w.setRow g (splice cur.toList o zs).toArray) := by
  obtain ⟨i, z, hi, hz, hs, hby, hzs⟩ := hT.parts
  refine ⟨(Builtin.zeroCells z.cells n).toList, by simp [Builtin.zeroCells, hzs], ?_⟩
  have hl : (Builtin.zeroCells z.cells n).toList.length = n * k := by simp [Builtin.zeroCells, hzs]
  have h1 : ∀ v ∈ (Builtin.zeroCells z.cells n).toList, v.oneCell' = true := by
    intro v hv
    simp [Builtin.zeroCells] at hv
    obtain ⟨q, hq, rfl⟩ := hv
    have hp := hT.pos
    have hlt : q % z.cells.size < z.cells.size := Nat.mod_lt _ (by omega)
    exact hz1 i z hi hz _ (by rw [getElem!_pos z.cells _ hlt]; simp)
  have hst := run_storeCells_at P g o E (Builtin.zeroCells z.cells n).toList 0 cur w hg (by rw [hl]; simpa using hfit) h1
  cases n with
  | zero =>
    have e : (Builtin.zeroCells z.cells 0).toList = [] := List.eq_nil_of_length_eq_zero (by rw [hl]; simp)
    rw [e]
    have : (splice cur.toList o []).toArray = cur := by simp [splice]
    rw [this, setRow_self w g cur E (0, 0) hg]
    simp [Builtin.clear_, run_underlying hT.under]
  | succ n =>
    simp [Builtin.clear_, run_underlying hT.under, zeroValue, typeInfo, hi, hz]
    rw [hst]
    simp [splice]
set_option maxRecDepth 4000 in
theorem run_append_zeros_tk (w : World) {T E k bytes ty I : Nat} (hT : SliceTy P T E k bytes) (hI : P.underlying I = some (.int .i64)) (g i c m : Nat) (xs : List Value) (hl : xs.length = i * k)
    (hcells : ∀ j v, xs[j]? = some v → w.cell? ((⟨g, 0, none⟩ : Addr).add j) = some v) (hgr : c < i + m) (hbytes : (i + m) * (bytes + 1) ≤ 140737488355328) (hb0 : 0 < bytes) :
    ∃ w' cur nc, (Builtin.append_ #[T, I] ty #[.slice (some ⟨g, 0, none⟩) i c, .int .i64 (m : Int)]).run P w = .ok (.slice (some ⟨w.heap.size, 0, none⟩) (i + m) nc) w' ∧
      w'.heap[w.heap.size]? = some (.cells cur E (0, 0)) ∧ cur.size = nc * k ∧ cur.toList.take (i * k) = xs ∧ w.grownBy w' none ∧ i + m ≤ nc ∧ nc ≤ maxLen := by
  obtain ⟨inf, z, hi, hz, hs, hby, hzs⟩ := hT.parts
  have h63 : i + m ≤ maxLen := by
    have := Nat.mul_le_mul_left (i + m) (show 1 ≤ bytes + 1 by omega)
    unfold maxLen; omega
  have hb' : (i + m) * bytes ≤ 140737488355328 := Nat.le_trans (Nat.mul_le_mul_left _ (by omega)) hbytes
  have hmb : m * bytes ≤ 281474976710656 := by
    have := Nat.mul_le_mul_right bytes (show m ≤ i + m by omega)
    omega
  have hfit := growslice_fits hgr hb'
  rw [← hby] at hfit hmb
  subst hs
  have hnr : ¬ (i + m ≤ c) := by omega
  have hm63 : (m : Int) ≤ 9223372036854775807 := by unfold maxLen at h63; omega
  have hwrap : IntKind.i64.wrap (m : Int) = m := IntWalk.i64_in _ (by omega)
  have h63' : ¬ (9223372036854775807 < ((i : Int) + (m : Int))) := by unfold maxLen at h63; omega
  have h48' : ¬ (281474976710656 < Builtin.nextslicecap (i + m) c * inf.bytes) := by omega
  have hmb' : ¬ ((281474976710656 : Int) < (m : Int) * (inf.bytes : Int)) := by
    have h3 := Int.ofNat_le.2 hmb
    rw [Int.natCast_mul] at h3
    exact Int.not_lt.2 h3
  have hfo := run_firstCells_some (P := P) w.drew inf.size i ⟨g, 0, none⟩ i c xs hl (by simpa using hcells)
  have hnm : ¬ ((m : Int) < 0) := by omega
  have hge := grownCap_ge w (i + m) c E
  have hzl : ∀ n, (Builtin.zeroCells z.cells n).size = n * inf.size := fun n => by rw [size_zeroCells, hzs]
  refine ⟨w.drew.alloc (.cells (xs.toArray ++ (if m = 0 then #[] else Builtin.zeroCells z.cells m) ++ Builtin.zeroCells z.cells (grownCap w (i + m) c E - (i + m))) E), _, grownCap w (i + m) c E, ?_, heap_alloc_new w.drew _, ?_, ?_,
    ⟨rfl, rfl, rfl, by simp, fun k hk _ => heap_alloc_old w.drew _ hk⟩, hge, grownCap_le_maxLen w (i + m) c E h63⟩
  · have hpos := hT.pos
    have hiff : (m * inf.size = 0) = (m = 0) := by
      apply propext; constructor
      · intro h; rcases Nat.mul_eq_zero.1 h with h | h <;> omega
      · intro h; rw [h]; simp
    simp [Builtin.append_, run_underlying hT.under, run_underlying hI, sizeOf, typeInfo, zeroValue, hi, hz, hwrap, hnm, hnr, h63', h48', hmb', Question.forced, hfo, newRow, grownCap, asInt, asIntOf, hiff]
    split
    · simp
    · rfl
  · split
    · rename_i hm0
      subst hm0
      simp only [Array.size_append, List.size_toArray, hl, hzl, List.length_nil, ← Nat.add_mul, Nat.add_zero]
      congr 1; simp at hge; omega
    · simp only [Array.size_append, List.size_toArray, hl, hzl, ← Nat.add_mul]
      congr 1; omega
  · rw [← hl]; simp
theorem flatten_take {β : Type} {k : Nat} : ∀ (rows : List (List β)) (_ : ∀ r ∈ rows, r.length = k) (i : Nat), (rows.take i).flatten = rows.flatten.take (i * k)
  | [], _, i => by simp
  | r :: rows, hk, 0 => by simp
  | r :: rows, hk, i + 1 => by
    have h0 : r.length = k := hk r (by simp)
    rw [List.take_succ_cons, List.flatten_cons, List.flatten_cons, flatten_take rows (fun r hr => hk r (by simp [hr])) i, List.take_append, h0, List.take_of_length_le (l := r) (by rw [h0, Nat.add_mul]; omega)]
    congr 2; rw [Nat.add_mul]; omega
theorem flatten_drop {β : Type} {k : Nat} : ∀ (rows : List (List β)) (_ : ∀ r ∈ rows, r.length = k) (i : Nat), (rows.drop i).flatten = rows.flatten.drop (i * k)
  | [], _, i => by simp
  | r :: rows, hk, 0 => by simp
  | r :: rows, hk, i + 1 => by
    have h0 : r.length = k := hk r (by simp)
    rw [List.drop_succ_cons, List.flatten_cons, flatten_drop rows (fun r hr => hk r (by simp [hr])) i, List.drop_append, h0, List.drop_of_length_le (l := r) (by rw [h0, Nat.add_mul]; omega), List.nil_append]
    congr 1; rw [Nat.add_mul]; omega
theorem OwR.cellsOne {α : Type} {E k : Nat} {R : Rel α} (h : RelOk R k) {w : World} {l : List α} {S : Nat → Prop} {rows : List (List Value)} (h1 : rows.length = l.length)
    (h3 : ∀ (i : Nat) (r : List Value) (x : α), rows[i]? = some r → l[i]? = some x → R w r x S) : ∀ u ∈ rows.flatten, u.oneCell' = true := by
  intro u hu
  obtain ⟨r, hr, hur⟩ := List.mem_flatten.1 hu
  obtain ⟨i, hi, rfl⟩ := List.getElem_of_mem hr
  exact h.one (h3 i rows[i] (l[i]'(by omega)) (List.getElem?_eq_getElem hi) (List.getElem?_eq_getElem (by omega))) u hur
theorem flatten_at {β : Type} {k : Nat} (hk : 0 < k) : ∀ (rows : List (List β)) (_ : ∀ r ∈ rows, r.length = k) (j : Nat) (u : β), rows.flatten[j]? = some u → ∃ r, rows[j / k]? = some r ∧ r[j % k]? = some u
  | [], _, j, u, h => by simp at h
  | r :: rows, hr, j, u, h => by
    have h0 : r.length = k := hr r (by simp)
    rw [List.flatten_cons] at h
    rcases Nat.lt_or_ge j k with hj | hj
    · rw [List.getElem?_append_left (by omega)] at h
      exact ⟨r, by rw [Nat.div_eq_of_lt hj]; rfl, by rw [Nat.mod_eq_of_lt hj]; exact h⟩
    · rw [List.getElem?_append_right (by omega), h0] at h
      obtain ⟨r', h1, h2⟩ := flatten_at hk rows (fun r hr' => hr r (by simp [hr'])) (j - k) u h
      refine ⟨r', ?_, ?_⟩
      · rw [show j / k = (j - k) / k + 1 by rw [Nat.div_eq j k, if_pos ⟨hk, hj⟩]]; exact h1
      · rw [← Nat.mod_eq_sub_mod hj] at h2; exact h2
theorem choose_list {β γ : Type} {Q : Nat → γ → β → Prop} : ∀ (l : List γ) (m : Nat), (∀ (i : Nat) (x : γ), l[i]? = some x → ∃ b, Q (m + i) x b) → ∃ bs : List β, bs.length = l.length ∧ ∀ (i : Nat) (b : β) (x : γ), bs[i]? = some b → l[i]? = some x → Q (m + i) x b
  | [], m, _ => ⟨[], rfl, fun i b x h => by simp at h⟩
  | y :: l, m, h => by
    obtain ⟨b0, hb0⟩ := h 0 y rfl
    obtain ⟨bs, h1, h2⟩ := choose_list l (m + 1) (fun i x hx => by
      obtain ⟨b, hb⟩ := h (i + 1) x hx
      exact ⟨b, by rw [show m + 1 + i = m + (i + 1) by omega]; exact hb⟩)
    refine ⟨b0 :: bs, by simp [h1], fun i b x hb hx => ?_⟩
    cases i with
    | zero => simp at hb hx; subst hb hx; exact hb0
    | succ i => rw [show m + (i + 1) = m + 1 + i by omega]; exact h2 i b x hb hx
theorem SlR.rows {α : Type} {k : Nat} {R : Rel α} (hR : RelOk R k) (hk : 0 < k) {w : World} {v : Value} {l : List α} {S : Nat → Prop} (h : SlR k R w v l S) :
    ∃ a cap, ∃ rows : List (List Value), v = .slice a l.length cap ∧ l.length ≤ cap ∧ cap ≤ maxLen ∧ rows.length = l.length ∧ (∀ (i : Nat) (r : List Value) (x : α), rows[i]? = some r → l[i]? = some x → R w r x S) ∧
      ∀ (j : Nat) (u : Value), rows.flatten[j]? = some u → ∃ b off, a = some ⟨b, off, none⟩ ∧ S b ∧ w.cell? ⟨b, off + j, none⟩ = some u := by
  obtain ⟨a, cap, hv, h1, h2, _, h3⟩ := h
  obtain ⟨rows, hl, hq⟩ := choose_list (β := List Value) (Q := fun i x row => ∃ b off, a = some ⟨b, off, none⟩ ∧ S b ∧ R w row x S ∧ ∀ (j : Nat) (u : Value), row[j]? = some u → w.cell? ⟨b, off + i * k + j, none⟩ = some u) l 0
    (fun i x hx => by
      obtain ⟨b, off, row, ha, hs, hr, hc⟩ := h3 i x hx
      exact ⟨row, b, off, ha, hs, hr, by rw [Nat.zero_add]; exact hc⟩)
  have hrel : ∀ (i : Nat) (r : List Value) (x : α), rows[i]? = some r → l[i]? = some x → R w r x S := fun i r x hr hx => (hq i r x hr hx).elim fun b h => h.elim fun off h => h.2.2.1
  refine ⟨a, cap, rows, hv, h1, h2, hl, hrel, fun j u hu => ?_⟩
  have hlen := OwR.rowsLen (E := 0) (v := v) hR hl hrel
  obtain ⟨r, hr, hru⟩ := flatten_at hk rows hlen j u hu
  have hi : j / k < l.length := by
    rcases Nat.lt_or_ge (j / k) rows.length with h | h
    · omega
    · rw [List.getElem?_eq_none h] at hr; cases hr
  obtain ⟨b, off, ha, hs, _, hc⟩ := hq (j / k) r _ hr (List.getElem?_eq_getElem hi)
  refine ⟨b, off, ha, hs, ?_⟩
  have := hc (j % k) u hru
  rw [Nat.zero_add, Nat.add_assoc, Nat.mul_comm, Nat.div_add_mod] at this
  exact this
theorem OwR.insert {α : Type} {E k : Nat} {R : Rel α} (hR : RelOk R k) {w w' : World} {v v' : Value} {l : List α} {S : Nat → Prop} {rows : List (List Value)} {i : Nat} (_hi : i ≤ l.length) {x : α} {cs : List Value}
    (h1 : rows.length = l.length) (hv : ∀ g, v.ownBlock = some g → g < w.heap.size) (h3 : ∀ (i : Nat) (r : List Value) (x : α), rows[i]? = some r → l[i]? = some x → R w r x (fun b => S b ∧ some b ≠ v.ownBlock))
    (hx : R w cs x (fun b => S b ∧ some b ≠ v.ownBlock))
    (g1 : w'.ownsRow 0 E k v' (l.length + 1) (rows.flatten.take (i * k) ++ cs ++ rows.flatten.drop (i * k))) (g2 : w.grownBy w' v.ownBlock) (g3 : v'.ownBlock = v.ownBlock ∨ ∃ g, v'.ownBlock = some g ∧ w.heap.size ≤ g) :
    OwR E k R w' v' (l.take i ++ x :: l.drop i) S := by
  have hlen := OwR.rowsLen (E := E) (v := v) hR h1 h3
  have hS : ∀ b, S b ∧ some b ≠ v.ownBlock → b < w.heap.size → w'.heap[b]? = w.heap[b]? ∧ S b ∧ some b ≠ v'.ownBlock := by
    rintro b ⟨hs, hne⟩ hl
    refine ⟨g2.block b hl hne, hs, ?_⟩
    rcases g3 with e | ⟨g, e, hge⟩
    · rw [e]; exact hne
    · rw [e]; intro hbg; cases hbg; omega
  refine ⟨rows.take i ++ cs :: rows.drop i, by simp; omega, ?_, ?_⟩
  · rw [List.flatten_append, List.flatten_cons, flatten_take rows hlen, flatten_drop rows hlen, ← List.append_assoc]
    have : (l.take i ++ x :: l.drop i).length = l.length + 1 := by simp; omega
    rw [this]; exact g1
  · intro j r y hr hy
    rcases Nat.lt_trichotomy j i with hj | hj | hj
    · rw [List.getElem?_append_left (by simp; omega), List.getElem?_take_of_lt hj] at hr hy
      exact hR.move (h3 j r y hr hy) hS
    · subst hj
      rw [List.getElem?_append_right (by simp; omega)] at hr hy
      have e1 : j - (rows.take j).length = 0 := by simp; omega
      have e2 : j - (l.take j).length = 0 := by simp; omega
      rw [e1] at hr; rw [e2] at hy
      simp at hr hy; subst hr hy
      exact hR.move hx hS
    · rw [List.getElem?_append_right (by simp; omega)] at hr hy
      have e1 : j - (rows.take i).length = (j - i - 1) + 1 := by simp; omega
      have e2 : j - (l.take i).length = (j - i - 1) + 1 := by simp; omega
      rw [e1, List.getElem?_cons_succ, List.getElem?_drop] at hr
      rw [e2, List.getElem?_cons_succ, List.getElem?_drop] at hy
      exact hR.move (h3 _ r y hr hy) hS
theorem wpList_append_run {w : World} {ops : Array Oper} {rest : List Oper} {o : Oper} {a : Act} {Q : Exit → Act → World → Prop} (hgd : o.guard = none) (d s : Operand) (t t' : TypeId)
    (ho : o.op = .call { callee := .builtin .append, args := #[d, s], argTypes := #[t, t'] }) (v u : Value) (hd : a.eval d = v) (hs : a.eval s = u) {v' : Value} {w' : World}
    (hr : (Builtin.append_ #[t, t'] o.type #[v, u]).run P w = .ok v' w') (h : wpList P ops Q rest (a.put o.dst v') w') : wpList P ops Q (o :: rest) a w := by
  refine wpList_plain hgd fun K hK => ?_
  unfold Oper.wp execOp
  simp only [ho, resolve, invoke, builtin, Sem.run_bind, Sem.run_pure, Result.andThen_ok, List.map_toArray, List.map_cons, List.map_nil, hd, hs, hr]
  exact hK _ _ h
theorem wpList_clear_run {w : World} {ops : Array Oper} {rest : List Oper} {o : Oper} {a : Act} {Q : Exit → Act → World → Prop} (hgd : o.guard = none) (d : Operand) (t : TypeId)
    (ho : o.op = .call { callee := .builtin .clear, args := #[d], argTypes := #[t] }) (v : Value) (hd : a.eval d = v) {v' : Value} {w' : World}
    (hr : (Builtin.clear_ #[t] o.type #[v]).run P w = .ok v' w') (h : wpList P ops Q rest (a.put o.dst v') w') : wpList P ops Q (o :: rest) a w := by
  refine wpList_plain hgd fun K hK => ?_
  unfold Oper.wp execOp
  simp only [ho, resolve, invoke, builtin, Sem.run_bind, Sem.run_pure, Result.andThen_ok, List.map_toArray, List.map_cons, List.map_nil, hd, hr]
  exact hK _ _ h
theorem step_copy_run {ops : Array Oper} {o : Oper} {a : Act} {w : World} {K : Act → World → Prop} {Q : Exit → Act → World → Prop} {E : Prop}
    (hg : o.guard = none) (d x : Operand) (dT sT : TypeId) (hop : o.op = Op.call { callee := Callee.builtin Builtin.copy, args := #[d, x], argTypes := #[dT, sT] })
    (v u : Value) (hd : a.eval d = v) (hx : a.eval x = u) {v' : Value} {w' : World} (hr : (Builtin.copy_ #[dT, sT] o.type #[v, u]).run P w = .ok v' w') (hK : K (a.put o.dst v') w') :
    if Region.wanted o (yielded ops a.tmps) = true then Oper.wp P o a w K Q else E := by
  have hw : Region.wanted o (yielded ops a.tmps) = true := by simp [Region.wanted, hg]
  rw [if_pos hw]
  unfold Oper.wp
  simp [execOp, hop, resolve, invoke, builtin, hd, hx, hr, Result.andThen]
  exact hK
theorem step_append_run {ops : Array Oper} {o : Oper} {a : Act} {w : World} {K : Act → World → Prop} {Q : Exit → Act → World → Prop} {E : Prop}
    (hg : o.guard = none) (d x : Operand) (dT sT : TypeId) (hop : o.op = Op.call { callee := Callee.builtin Builtin.append, args := #[d, x], argTypes := #[dT, sT] })
    (v u : Value) (hd : a.eval d = v) (hx : a.eval x = u) {v' : Value} {w' : World} (hr : (Builtin.append_ #[dT, sT] o.type #[v, u]).run P w = .ok v' w') (hK : K (a.put o.dst v') w') :
    if Region.wanted o (yielded ops a.tmps) = true then Oper.wp P o a w K Q else E := by
  have hw : Region.wanted o (yielded ops a.tmps) = true := by simp [Region.wanted, hg]
  rw [if_pos hw]
  unfold Oper.wp
  simp [execOp, hop, resolve, invoke, builtin, hd, hx, hr, Result.andThen]
  exact hK
end
end Go.Tk

namespace Go.Tk
open Go Go.RowKit
def KeepsRow (g : Nat) (w w' : World) : Prop := ∀ cur E fz, w.heap[g]? = some (.cells cur E fz) → ∃ cur', w'.heap[g]? = some (.cells cur' E fz) ∧ cur'.size = cur.size
theorem KeepsRow.refl (g : Nat) (w : World) : KeepsRow g w w := fun cur _ _ h => ⟨cur, h, rfl⟩
theorem KeepsRow.trans {g : Nat} {a b c : World} (h : KeepsRow g a b) (k : KeepsRow g b c) : KeepsRow g a c := fun cur E fz hc => by
  obtain ⟨c1, h1, h2⟩ := h cur E fz hc
  obtain ⟨c2, h3, h4⟩ := k c1 E fz h1
  exact ⟨c2, h3, h4.trans h2⟩
theorem KeepsRow.same {g : Nat} {w w' : World} (h : w'.heap[g]? = w.heap[g]?) : KeepsRow g w w' := fun cur _ _ hc => ⟨cur, h.trans hc, rfl⟩
theorem KeepsRow.set {g : Nat} {a w : World} (h : KeepsRow g a w) (b o : Nat) (u : Value) : KeepsRow g a (w.setCell ⟨b, o, none⟩ u) := h.trans fun cur E fz hc => by
  by_cases hb : g = b
  · subst hb
    simp only [World.setCell, Array.getElem?_modify, ↓reduceIte, hc, Option.map_some]
    exact ⟨_, rfl, by simp⟩
  · exact ⟨cur, (heap_far hb).trans hc, rfl⟩
theorem KeepsRow.drew {g : Nat} {a w : World} (h : KeepsRow g a w) : KeepsRow g a w.drew := h
theorem KeepsRow.alloc {g : Nat} {a w : World} (h : KeepsRow g a w) (hg : g < w.heap.size) (o : Obj) : KeepsRow g a (w.alloc o) := h.trans (.same (Below.heap_alloc w o g hg))
theorem cells_take {w : World} {g : Nat} {cur : Array Value} {E : TypeId} {fz : Nat × Nat} (h : w.heap[g]? = some (.cells cur E fz)) (j : Nat) : w.cell? ⟨g, j, none⟩ = cur[j]? := by
  simp [World.cell?, h]
theorem OwR.set {α : Type} {E k : Nat} {R : Rel α} (hR : RelOk R k) {w w' : World} {g cap n : Nat} {l : List α} {S : Nat → Prop} (h : OwR E k R w (.slice (some ⟨g, 0, none⟩) n cap) l S) {i : Nat} (hi : i < l.length) {x : α} {cs : List Value}
    (hx : R w cs x (fun b => S b ∧ b ≠ g)) (hrow : KeepsRow g w w') (hout : ∀ j, j < i * k ∨ i * k + k ≤ j → w'.cell? ⟨g, j, none⟩ = w.cell? ⟨g, j, none⟩) (hin : ∀ (j : Nat) (u : Value), cs[j]? = some u → w'.cell? ⟨g, i * k + j, none⟩ = some u)
    (hblk : ∀ b, S b → b ≠ g → b < w.heap.size → w'.heap[b]? = w.heap[b]?) : OwR E k R w' (.slice (some ⟨g, 0, none⟩) n cap) (l.set i x) S := by
  obtain ⟨rows, h1, h2, h3⟩ := h
  have hcs := hR.len hx
  have hlen := OwR.rowsLen (E := E) (v := .slice (some ⟨g, 0, none⟩) n cap) hR h1 h3
  have hx' : R w' cs x (fun b => S b ∧ b ≠ g) := hR.move hx fun b hb hl => ⟨hblk b hb.1 hb.2 hl, hb⟩
  rcases h2.2 with ⟨h, _⟩ | ⟨g', cap', cur, hv, hb0, hg, hc, hm, hsz, htk⟩
  · simp at h
  simp only [Value.slice.injEq, Option.some.injEq, Addr.mk.injEq, and_true] at hv
  obtain ⟨rfl, rfl, rfl⟩ := hv
  obtain ⟨cur', hg', hs'⟩ := hrow cur E _ hg
  have hlen' : ∀ r ∈ rows.set i cs, r.length = k := by
    intro r hr
    rcases List.mem_or_eq_of_mem_set hr with h | h
    · exact hlen r h
    · rw [h]; exact hcs
  have hfl : (rows.set i cs).flatten.length = l.length * k := by
    have : ∀ (rs : List (List Value)), (∀ r ∈ rs, r.length = k) → rs.flatten.length = rs.length * k := by
      intro rs; induction rs with
      | nil => intro _; simp
      | cons r rs ih => intro hh; simp only [List.flatten_cons, List.length_append, List.length_cons]; rw [ih fun r hr => hh r (by simp [hr]), hh r (by simp), Nat.add_mul]; omega
    rw [this _ hlen', List.length_set, h1]
  refine ⟨rows.set i cs, by simp [h1], ⟨by rw [hfl, List.length_set], .inr ⟨g, cap, cur', ?_, hb0, hg', ?_, hm, by rw [hs']; exact hsz, ?_⟩⟩, fun q r y hr hy => ?_⟩
  · rw [List.length_set]
  · rw [List.length_set]; exact hc
  · rw [List.length_set]
    refine List.ext_getElem? fun j => ?_
    rcases Nat.lt_or_ge j (l.length * k) with hj | hj
    · rw [List.getElem?_take_of_lt hj]
      have hkp : 0 < k := by rcases Nat.eq_zero_or_pos k with h | h; (subst h; omega); exact h
      obtain ⟨u, hu⟩ : ∃ u, (rows.set i cs).flatten[j]? = some u := ⟨_, List.getElem?_eq_getElem (by rw [hfl]; exact hj)⟩
      rw [hu]
      obtain ⟨r, hr, hru⟩ := flatten_at hkp _ hlen' j u hu
      have hjj : j / k * k + j % k = j := by rw [Nat.mul_comm]; exact Nat.div_add_mod j k
      have hmod := Nat.mod_lt j hkp
      rw [Array.getElem?_toList, ← cells_take hg' j]
      by_cases hq : j / k = i
      · rw [hq, List.getElem?_set_self (by omega)] at hr
        cases hr
        have := hin (j % k) u hru
        rw [hq] at hjj
        rwa [hjj] at this
      · rw [List.getElem?_set_ne (Ne.symm hq)] at hr
        rw [hout j ?_, cells_take hg j, ← Array.getElem?_toList]
        · have := flatten_getElem? rows hlen (j / k) (j % k) r u hr hru
          rw [hjj, ← htk, List.getElem?_take_of_lt hj] at this
          exact this
        · rcases Nat.lt_or_ge (j / k) i with h | h
          · left
            have := Nat.mul_le_mul_right k (show j / k + 1 ≤ i by omega)
            rw [Nat.add_mul] at this; omega
          · right
            have := Nat.mul_le_mul_right k (show i + 1 ≤ j / k by omega)
            rw [Nat.add_mul] at this; omega
    · rw [List.getElem?_eq_none (by rw [List.length_take]; omega), List.getElem?_eq_none (by rw [hfl]; exact hj)]
  · have hS : ∀ b, S b ∧ some b ≠ (Value.slice (some ⟨g, 0, none⟩) l.length cap).ownBlock → b < w.heap.size → w'.heap[b]? = w.heap[b]? ∧ S b ∧ some b ≠ (Value.slice (some ⟨g, 0, none⟩) l.length cap).ownBlock := fun b hb hl =>
      ⟨hblk b hb.1 (fun e => hb.2 (by rw [e]; rfl)) hl, hb⟩
    by_cases hq : q = i
    · subst hq
      rw [List.getElem?_set_self (by omega)] at hr
      rw [List.getElem?_set_self hi] at hy
      cases hr; cases hy
      exact hR.sub hx' fun b hb _ => ⟨hb.1, fun e => hb.2 (by simpa [Value.ownBlock] using e)⟩
    · rw [List.getElem?_set_ne (Ne.symm hq)] at hr hy
      exact hR.move (h3 q r y hr hy) hS
theorem OwR.at {α : Type} {E k : Nat} {R : Rel α} (hR : RelOk R k) {w : World} {g cap n : Nat} {l : List α} {S : Nat → Prop} (h : OwR E k R w (.slice (some ⟨g, 0, none⟩) n cap) l S) {i : Nat} (hi : i < l.length) :
    ∃ row, R w row l[i] (fun b => S b ∧ b ≠ g) ∧ ∀ (j : Nat) (u : Value), row[j]? = some u → w.cell? ⟨g, i * k + j, none⟩ = some u := by
  obtain ⟨rows, h1, h2, h3⟩ := h
  have hlen := OwR.rowsLen (E := E) (v := .slice (some ⟨g, 0, none⟩) n cap) hR h1 h3
  have hr : rows[i]? = some (rows[i]'(by omega)) := List.getElem?_eq_getElem (by omega)
  refine ⟨_, hR.sub (h3 i _ _ hr (List.getElem?_eq_getElem hi)) fun b hb _ => ⟨hb.1, fun e => hb.2 (by rw [e]; rfl)⟩, fun j u hu => ?_⟩
  have := h2.cells (g := g) rfl (i * k + j) u (flatten_getElem? rows hlen i j _ u hr hu)
  rwa [Addr.add_lit, Nat.zero_add] at this
theorem OwR.cut {α : Type} {E k : Nat} {R : Rel α} (hR : RelOk R k) {w w' : World} {g cap n : Nat} {l : List α} {S : Nat → Prop} (h : OwR E k R w (.slice (some ⟨g, 0, none⟩) n cap) l S) {i : Nat} (hi : i ≤ l.length) (hrow : KeepsRow g w w')
    (hout : ∀ j, j < i * k → w'.cell? ⟨g, j, none⟩ = w.cell? ⟨g, j, none⟩) (hblk : ∀ b, S b → b ≠ g → b < w.heap.size → w'.heap[b]? = w.heap[b]?) : OwR E k R w' (.slice (some ⟨g, 0, none⟩) i cap) (l.take i) S := by
  obtain ⟨rows, h1, h2, h3⟩ := h
  have hlen := OwR.rowsLen (E := E) (v := .slice (some ⟨g, 0, none⟩) n cap) hR h1 h3
  rcases h2.2 with ⟨h, _⟩ | ⟨g', cap', cur, hv, hb0, hg, hc, hm, hsz, htk⟩
  · simp at h
  simp only [Value.slice.injEq, Option.some.injEq, Addr.mk.injEq, and_true] at hv
  obtain ⟨rfl, rfl, rfl⟩ := hv
  obtain ⟨cur', hg', hs'⟩ := hrow cur E _ hg
  have hil : (l.take i).length = i := by rw [List.length_take]; omega
  have hik := Nat.mul_le_mul_right k hi
  have hck := Nat.mul_le_mul_right k hc
  have hcl : cur.toList.length = cap * k := by simpa using hsz
  have hfl : rows.flatten.length = l.length * k := h2.1
  refine ⟨rows.take i, by simp [h1], ⟨by rw [flatten_take rows hlen, hil, List.length_take, hfl]; omega, .inr ⟨g, cap, cur', by rw [hil], hb0, hg', by rw [hil]; omega, hm, by rw [hs']; exact hsz, ?_⟩⟩, fun q r y hr hy => ?_⟩
  · rw [hil, flatten_take rows hlen, ← htk, List.take_take, Nat.min_eq_left hik]
    refine List.ext_getElem? fun j => ?_
    rcases Nat.lt_or_ge j (i * k) with hj | hj
    · rw [List.getElem?_take_of_lt hj, List.getElem?_take_of_lt hj, Array.getElem?_toList, Array.getElem?_toList, ← cells_take hg' j, ← cells_take hg j]
      exact hout j hj
    · rw [List.getElem?_eq_none (by rw [List.length_take]; omega), List.getElem?_eq_none (by rw [List.length_take]; omega)]
  · have hqi : q < i := by
      rcases Nat.lt_or_ge q i with h | h
      · exact h
      · rw [List.getElem?_eq_none (by rw [hil]; exact h)] at hy; cases hy
    rw [List.getElem?_take_of_lt hqi] at hr hy
    exact hR.move (h3 q r y hr hy) fun b hb hl => ⟨hblk b hb.1 (fun e => hb.2 (by rw [e]; rfl)) hl, hb.1, fun e => hb.2 e⟩
theorem grownBy_set {a w : World} {r : Option Nat} (h : a.grownBy w r) {b : Nat} (hb : r = some b ∨ a.heap.size ≤ b) (o : Nat) (u : Value) : a.grownBy (w.setCell ⟨b, o, none⟩ u) r :=
  ⟨h.os, h.tape, h.output, by simpa [World.setCell] using h.size, fun k hk hr => (heap_far (by rcases hb with e | e; (intro e'; exact hr (by rw [e, e'])); omega)).trans (h.block k hk hr)⟩
theorem grownBy_set1 {a w : World} {g : Nat} (h : a.grownBy w (some g)) (o : Nat) (u : Value) : a.grownBy (w.setCell ⟨g, o, none⟩ u) (some g) := grownBy_set h (.inl rfl) o u
theorem grownBy_alloc {a w : World} {r : Option Nat} (h : a.grownBy w r) (o : Obj) : a.grownBy (w.alloc o) r :=
  ⟨h.os, h.tape, h.output, by have := h.size; simp; omega, fun k hk hr => (Below.heap_alloc w o k (Nat.lt_of_lt_of_le hk h.size)).trans (h.block k hk hr)⟩
theorem grownBy_below {a w w' : World} {r : Option Nat} (h : a.grownBy w r) (hb : Below w.heap.size w w') : a.grownBy w' r :=
  ⟨hb.os.trans h.os, hb.tape.trans h.tape, hb.output.trans h.output, Nat.le_trans h.size hb.size, fun k hk hr => (hb.block k (Nat.lt_of_lt_of_le hk h.size)).trans (h.block k hk hr)⟩
theorem grownBy_any {a w : World} (h : Below a.heap.size a w) (r : Option Nat) : a.grownBy w r := grownBy_below (grownBy_refl a r) h
theorem keep_first {α : Type} {p : α → Bool} {l : List α} {n : Nat} (hn : n < l.length) (h : p l[n] = true) (hb : ∀ (j : Nat) (hj : j < l.length), j < n → p l[j] = false) : l.take n = (l.take (n + 1)).filter (fun x => !p x) := by
  rw [List.take_succ_eq_append_getElem hn, List.filter_append]
  have h1 : (l.take n).filter (fun x => !p x) = l.take n := List.filter_eq_self.2 fun x hx => by
    obtain ⟨j, hj, rfl⟩ := List.getElem_of_mem hx
    rw [List.length_take] at hj
    rw [List.getElem_take, hb j (by omega) (by omega)]; rfl
  rw [h1]; simp [h]
theorem keep_skip {α : Type} {p : α → Bool} {l m : List α} {a b : Nat} (hb : b < l.length) (h : p l[b] = true) (hm : m.take a = (l.take b).filter (fun x => !p x)) : m.take a = (l.take (b + 1)).filter (fun x => !p x) := by
  rw [List.take_succ_eq_append_getElem hb, List.filter_append, ← hm]; simp [h]
theorem keep_take {α : Type} {p : α → Bool} {l m : List α} {a b : Nat} (hb : b < l.length) (ha : a < m.length) (h : p l[b] = false) (hm : m.take a = (l.take b).filter (fun x => !p x)) : (m.set a l[b]).take (a + 1) = (l.take (b + 1)).filter (fun x => !p x) := by
  rw [List.take_succ_eq_append_getElem hb, List.filter_append, ← hm, List.take_succ_eq_append_getElem (by simpa using ha), List.take_set_of_le (Nat.le_refl _)]; simp [h]
theorem keep_drop {α : Type} {l m : List α} {a b : Nat} (hab : a < b) (x : α) (hm : m.drop b = l.drop b) : (m.set a x).drop (b + 1) = l.drop (b + 1) := by
  rw [List.drop_set_of_lt (by omega), ← List.drop_drop, hm, List.drop_drop]
theorem drop_at {α : Type} {l m : List α} {b : Nat} (hb : b < l.length) (hl : m.length = l.length) (hm : m.drop b = l.drop b) : m[b]'(by omega) = l[b] := by
  have h1 : (m.drop b)[0]'(by simp; omega) = (l.drop b)[0]'(by simp; omega) := by simp only [hm]
  simpa using h1
theorem drop_more {α : Type} {l m : List α} {b : Nat} (hm : m.drop b = l.drop b) : m.drop (b + 1) = l.drop (b + 1) := by
  rw [← List.drop_drop, hm, List.drop_drop]
theorem KeepsRow.sets {g b : Nat} : ∀ (vs : List Value) (o : Nat) {a w : World}, KeepsRow g a w → KeepsRow g a (w.setCells b o vs)
  | [], _, _, _, h => h
  | v :: r, o, _, _, h => KeepsRow.sets r (o + 1) (h.set b o v)
theorem heap_sets {b k : Nat} (h : k ≠ b) : ∀ (vs : List Value) (o : Nat) (w : World), (w.setCells b o vs).heap[k]? = w.heap[k]?
  | [], _, _ => rfl
  | v :: r, o, w => (heap_sets h r (o + 1) _).trans (heap_far h)
theorem grownBy_sets {a : World} {r : Option Nat} {b : Nat} (hb : r = some b ∨ a.heap.size ≤ b) : ∀ (vs : List Value) (o : Nat) (w : World), a.grownBy w r → a.grownBy (w.setCells b o vs) r
  | [], _, _, h => h
  | v :: vs, o, w, h => grownBy_sets hb vs (o + 1) _ (grownBy_set h hb o v)
theorem below_sets {B b : Nat} {a : World} (hb : B ≤ b) : ∀ (vs : List Value) (o : Nat) (w : World), Below B a w → Below B a (w.setCells b o vs)
  | [], _, _, h => h
  | v :: vs, o, w, h => below_sets hb vs (o + 1) _ (below_set h hb o v)
theorem OwR.setRow {α : Type} {E k : Nat} {R : Rel α} (hR : RelOk R k) {w : World} {g cap n : Nat} {l : List α} {S : Nat → Prop} (h : OwR E k R w (.slice (some ⟨g, 0, none⟩) n cap) l S) {i : Nat} (hi : i < l.length) {x : α} {cs : List Value}
    (hx : R w cs x (fun b => S b ∧ b ≠ g)) : OwR E k R (w.setCells g (i * k) cs) (.slice (some ⟨g, 0, none⟩) n cap) (l.set i x) S := by
  have hlen := hR.len hx
  refine h.set hR hi hx (KeepsRow.sets _ _ (KeepsRow.refl _ _)) (fun j hj => ?_) (fun j u hu => ?_) (fun b _ hb _ => heap_sets hb _ _ _)
  · refine World.cell?_setCells_out _ _ _ _ _ fun _ _ => ?_
    show j < _ ∨ _ ≤ j; omega
  · obtain ⟨row, hrow, hc⟩ := h.at hR hi
    have hrl := hR.len hrow
    have hj : j < cs.length := by
      rcases Nat.lt_or_ge j cs.length with h | h
      · exact h
      · rw [List.getElem?_eq_none h] at hu; cases hu
    rw [World.cell?_setCells_in g cs (i * k) w (fun q hq => ?_) j hj]
    · rw [List.getElem?_eq_getElem hj] at hu; exact hu
    · have := hc q _ (List.getElem?_eq_getElem (by omega))
      rw [this]; rfl
end Go.Tk
