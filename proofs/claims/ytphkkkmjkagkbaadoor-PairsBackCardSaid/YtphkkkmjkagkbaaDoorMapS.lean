/- A map from strings to strings that a call makes, beside pairs: it holds each pair's value at its name. No program in sight. -/
import Derived.Test.YtphkkkmjkagkbaaDoorPairQ
import Derived.Test.YtphkkkmjkagkbaaDoorChg
import Derived.Maps.Own
import Derived.Maps.OwnOps
import Derived.Maps.OwnSet
import Derived.Maps.Views
import Derived.Maps.RangeWalk
import Derived.WideKeyEntry
namespace Go.Tk
open Go Go.RowKit Go.Maps

def strKey (x : List UInt8) : Lit := .string x
/-- A datum holds each pair's value at its name, and no more. -/
structure HoldsP (D : DataW Unit) (all : List PairD) : Prop where
  tidy : Tidy D
  val : ∀ p ∈ all, ∀ zd, D.atKey (.string p.name) zd = .lit (.string p.value)
  no : ∀ x : List UInt8, (∀ p ∈ all, p.name ≠ x) → has D (.string x) = false
  size : Maps.size D = all.length
def MapP (P : Program) (e : TypeId) (w : World) (b n : Nat) (all : List PairD) : Prop := ∃ D : DataW Unit, w.ownsMap P e (plainElem P e) b n D ∧ HoldsP D all
theorem MapP.made (P : Program) (e : TypeId) (w : World) : MapP P e (w.alloc (.map #[] 0)) w.heap.size 0 [] :=
  ⟨_, World.ownsMap_made _ _ _ _, tidy_empty, fun p hp => by simp at hp, fun _ _ => rfl, rfl⟩
theorem MapP.lt {P : Program} {e : TypeId} {w : World} {b n : Nat} {all : List PairD} (h : MapP P e w b n all) : b < w.heap.size := by
  obtain ⟨D, h, _⟩ := h; exact h.lt
theorem MapP.below {P : Program} {e : TypeId} {w w' : World} {b n : Nat} {all : List PairD} (h : MapP P e w b n all) (hb : Below w.heap.size w w') : MapP P e w' b n all := by
  obtain ⟨D, h, h2⟩ := h; exact ⟨D, h.kept (grownBy_any hb none) (by simp), h2⟩
theorem HoldsP.has {D : DataW Unit} {all : List PairD} (h : HoldsP D all) {p : PairD} (hp : p ∈ all) : Maps.has D (.string p.name) = true := has_true_of_atKey fun zd => h.val p hp zd
theorem HoldsP.mem {D : DataW Unit} {all : List PairD} (h : HoldsP D all) {x : List UInt8} (hx : Maps.has D (.string x) = true) : ∃ p ∈ all, p.name = x := by
  rcases Classical.em (∃ p ∈ all, p.name = x) with h1 | h1
  · exact h1
  · rw [h.no x fun p hp e => h1 ⟨p, hp, e⟩] at hx; cases hx
theorem HoldsP.put {D : DataW Unit} {l x : List PairD} {k v : List UInt8} (h : HoldsP D l) (hl : PrOk l) (hx : PrOk x) (hin : ∃ m, (⟨k, v, m⟩ : PairD) ∈ x) (hoth : ∀ y : PairD, y.name ≠ k → (y ∈ x ↔ y ∈ l)) (hlen : x.length = l.length + (if pThere l k = true then 0 else 1)) :
    HoldsP (D.put (.string k) (.lit (.string v))) x := by
  obtain ⟨m, hm⟩ := hin
  refine ⟨h.tidy.put (show WideAt.IsKeyLit (.string k) from trivial) _, fun p hp zd => ?_, fun y hy => ?_, ?_⟩
  · by_cases hpk : p.name = k
    · have : p = ⟨k, v, m⟩ := hx.uniq hp hm hpk
      subst this
      exact atKey_put_same h.tidy.isMap (show WideAt.IsKeyLit (.string _) from trivial) _ _
    · rw [atKey_put_other (by intro e; exact hpk (by cases e; rfl))]
      exact h.val p ((hoth p hpk).1 hp) zd
  · have hyk : y ≠ k := fun e => hy _ hm e.symm
    rw [has_put_other (by intro e; exact hyk (by cases e; rfl))]
    refine h.no y fun p hp e => ?_
    have hpk : p.name ≠ k := by rw [e]; exact hyk
    exact hy p ((hoth p hpk).2 hp) e
  · rw [size_put h.tidy, h.size, hlen]
    by_cases ht : pThere l k = true
    · obtain ⟨p, hp, hpn⟩ := (pThere_iff hl).1 ht
      have hh := h.has hp
      rw [hpn] at hh
      rw [if_pos hh, if_pos ht]; rfl
    · have hf : Maps.has D (.string k) = false := h.no k (pThere_no hl (by simpa using ht))
      rw [if_neg (by rw [hf]; decide), if_neg ht]
theorem setBlock_twice (w : World) (b : Nat) (o o' : Obj) : ChangeMaps.setBlock (ChangeMaps.setBlock w b o) b o' = ChangeMaps.setBlock w b o' := by
  simp [ChangeMaps.setBlock]
theorem MapP.store {P : Program} {t e : TypeId} {w : World} {b n : Nat} {l x : List PairD} {k v : List UInt8} (h : MapP P e w b n l) (ht : P.underlying t = some (.map e e)) (he : P.underlying e = some .string) (hz : ∀ u : World, (zeroValue e).run P u = .ok (.string ⟨#[]⟩) u) (hn : n ≤ 1000000)
    (hk : k.length ≤ 1000000) (hv : v.length ≤ 1000000) (hl : PrOk l) (hx : PrOk x) (hin : ∃ m, (⟨k, v, m⟩ : PairD) ∈ x) (hoth : ∀ y : PairD, y.name ≠ k → (y ∈ x ↔ y ∈ l)) (hlen : x.length = l.length + (if pThere l k = true then 0 else 1)) :
    ∃ (v0 : Value) (st : Nat) (w1 w2 : World), (Instr.mapEntry t (.map (some b)) (.string ⟨k.toArray⟩)).run P w = .ok (.tuple #[v0, .int .i64 st]) w1 ∧ (Instr.entryStore t (.map (some b)) (.int .i64 st) (.string ⟨v.toArray⟩)).run P w1 = .ok () w2 ∧
      MapP P e w2 b (n + 1) x ∧ w.grownBy w2 (some b) := by
  obtain ⟨D, h, h2⟩ := h
  have hkey : keyOf P e (.string ⟨k.toArray⟩) = some (.string k) := by
    have := WideMaps.keyOf_string_mk (P := P) (k := e) he (s := ⟨k.toArray⟩) (by simp [ByteArray.size, maxLen]; omega)
    simpa using this
  have hel : plainElem (H := Unit) P e (.string ⟨v.toArray⟩) = some (.lit (.string v), []) := by
    have := plainElem_string (H := Unit) (P := P) (e := e) he (s := ⟨v.toArray⟩) (by simp [ByteArray.size, maxLen]; omega)
    simpa using this
  obtain ⟨w', hrun, hown, hg⟩ := h.update (string_keyed he) ht (by unfold maxLen; omega) hkey hel
  obtain ⟨es, clock, hb, F, -, -⟩ := id h
  obtain ⟨v0, st, es1, clock1, hme, -, hst⟩ := WideElems.entry_then_store (WideMaps.string_law he) ht hz hb F hkey
  have hb1 : (ChangeMaps.setBlock w b (.map es1 clock1)).heap[b]? = some (.map es1 clock1) := ChangeMaps.heap_setBlock_same hb _
  obtain ⟨es', clock', hes, hup⟩ := hst _ (.string ⟨v.toArray⟩) hb1
  rw [setBlock_twice] at hes
  rw [hup] at hrun
  simp only [Result.ok.injEq, true_and] at hrun
  subst hrun
  exact ⟨v0, st, _, _, hme, hes, ⟨_, hown, h2.put hl hx hin hoth hlen⟩, hg⟩
theorem MapP.len {P : Program} {t e : TypeId} {w : World} {b n : Nat} {all : List PairD} (h : MapP P e w b n all) (ht : P.underlying t = some (.map e e)) (ty : TypeId) : (Builtin.len_ #[t] ty #[.map (some b)]).run P w = .ok (.int .i64 all.length) w := by
  obtain ⟨D, h, h2⟩ := h
  rw [h.len ht ty, h2.size]
/-- The loop over such a map is under way: what comes is in it. -/
def RangeP (P : Program) (e : TypeId) (w : World) (b r n : Nat) (all : List PairD) (cnt : Nat) : Prop :=
  ∃ (D : DataW Unit) (left : Lit → Bool), w.ranges P e (plainElem P e) b r n D left cnt ∧ HoldsP D all ∧ ∀ z, left z = true → Maps.has D z = true
theorem RangeP.below {P : Program} {e : TypeId} {w w' : World} {b r n cnt : Nat} {all : List PairD} (h : RangeP P e w b r n all cnt) (hb : Below w.heap.size w w') : RangeP P e w' b r n all cnt := by
  obtain ⟨D, left, h, h2, h3⟩ := h; exact ⟨D, left, h.kept (grownBy_any hb none) (by simp) (by simp), h2, h3⟩
theorem RangeP.left_eq {P : Program} {e : TypeId} {w : World} {b r n cnt : Nat} {all : List PairD} (h : RangeP P e w b r n all cnt) : w.rangeLeft b r = cnt := by
  obtain ⟨D, left, h, h2, h3⟩ := h; exact h.left_eq
theorem RangeP.owns {P : Program} {e : TypeId} {w : World} {b r n cnt : Nat} {all : List PairD} (h : RangeP P e w b r n all cnt) : MapP P e w b n all := by
  obtain ⟨D, left, h, h2, h3⟩ := h; exact ⟨D, h.owns, h2⟩
section
variable {P : Program} {w : World} {ops : Array Oper} {rest : List Oper} {o : Oper} {a : Act} {Q : Exit → Act → World → Prop}
theorem wpList_rangeP (hg : o.guard = none) (m : Operand) (t : TypeId) (hop : o.op = Op.range t m) {e : TypeId} {b n : Nat} {all : List PairD} (ht : P.underlying t = some (.map e e)) (he : P.underlying e = some .string) (hm : a.eval m = .map (some b)) (h : MapP P e w b n all)
    (hK : ∀ w' cnt, RangeP P e w' b w.heap.size n all cnt → w.grownBy w' none → w'.heap.size = w.heap.size + 1 → wpList P ops Q rest (a.put o.dst (.pointer (some ⟨w.heap.size, 0, none⟩))) w') : wpList P ops Q (o :: rest) a w := by
  obtain ⟨D, h, h2⟩ := h
  exact wpList_range_own w hg m t hop e e (string_keyed he) ht _ b n D hm h fun w' r1 r2 r3 => hK w' _ ⟨D, _, r1, h2, fun _ hz => hz⟩ r2 r3
theorem wpList_nextP (hg : o.guard = none) (it : Operand) (hop : o.op = Op.next it false) {e : TypeId} {b r n cnt : Nat} {all : List PairD} (he : P.underlying e = some .string) (hit : a.eval it = .pointer (some ⟨r, 0, none⟩)) (h : RangeP P e w b r n all cnt)
    (hDone : wpList P ops Q rest (a.put o.dst (.tuple #[.bool false])) w)
    (hMore : ∀ (p : PairD) (w' : World) (cnt' : Nat), p ∈ all → RangeP P e w' b r n all cnt' → cnt' < cnt → w.grownBy w' (some r) → w'.heap.size = w.heap.size →
      (Instr.entry (.pointer (some ⟨r, 0, none⟩))).run P w' = .ok (.tuple #[.string ⟨p.name.toArray⟩, .string ⟨p.value.toArray⟩]) w' → wpList P ops Q rest (a.put o.dst (.tuple #[.bool true, .string ⟨p.name.toArray⟩, .string ⟨p.value.toArray⟩])) w') :
    wpList P ops Q (o :: rest) a w := by
  obtain ⟨D, left, h, h2, h3⟩ := h
  refine wpList_next_ranges w hg it hop e (string_keyed he) (plainElem P e) (fun x : ByteArray => .string x) (fun x : ByteArray => .string x) (fun key kl hkey => ?_) (fun v y hv => ?_) b r n D left cnt hit h (fun _ _ => hDone) ?_
  · obtain ⟨s, h1, -⟩ := WideMaps.string_of_keyOf he hkey
    exact ⟨s, h1⟩
  · unfold plainElem at hv
    rw [he] at hv
    cases v <;> simp at hv
    exact ⟨_, rfl⟩
  · intro x c kl y w' cnt' hkey hlk hv hat hrg hlt hgr hsz hen
    have hkl : kl = .string x.data.toList := by
      rw [keyOf, he] at hkey
      simp [mapKey, he] at hkey
      exact hkey.2.symm
    have hy : y.1 = .lit (.string c.data.toList) := by
      unfold plainElem at hv
      rw [he] at hv
      simp at hv
      rw [← hv.2]
    subst hkl
    obtain ⟨p, hp, hpn⟩ := h2.mem (h3 _ hlk)
    have hpv : p.value = c.data.toList := by
      have e1 := h2.val p hp .nil
      rw [hpn, hat .nil, hy] at e1
      simpa using e1.symm
    have ex : x = ⟨p.name.toArray⟩ := by rw [hpn]
    have ec : c = ⟨p.value.toArray⟩ := by rw [hpv]
    subst ex ec
    exact hMore p w' cnt' hp ⟨D, _, hrg, h2, fun z hz => h3 z (by simp at hz; exact hz.1)⟩ hlt hgr hsz hen
theorem wpList_lenP (hg : o.guard = none) (m : Operand) (t : TypeId) (hop : o.op = Op.call { callee := Callee.builtin Builtin.len, args := #[m], argTypes := #[t] }) {e : TypeId} {b n : Nat} {all : List PairD} (ht : P.underlying t = some (.map e e)) (hm : a.eval m = .map (some b)) (h : MapP P e w b n all)
    (hK : wpList P ops Q rest (a.put o.dst (.int .i64 all.length)) w) : wpList P ops Q (o :: rest) a w := by
  obtain ⟨D, h, h2⟩ := h
  exact wpList_len_own w hg m t hop e e ht _ b n D hm h (by rw [h2.size]; exact hK)
end
end Go.Tk
