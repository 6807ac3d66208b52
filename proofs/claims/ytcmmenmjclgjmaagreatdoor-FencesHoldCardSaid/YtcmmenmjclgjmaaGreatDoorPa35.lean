/- A part of the proof, laid together from: PlanD, PlanS. -/
import Derived.Test.YtcmmenmjclgjmaaGreatDoorPa14
import Derived.Test.YtcmmenmjclgjmaaGreatDoorPa11
set_option linter.unusedSimpArgs false
set_option linter.unusedVariables false
/- A region that draws its order, shown operation by operation, where what is known of one may name the others' values, and each operation may do to the world what is its own. After XPlan. No program in sight. -/
namespace Go.Tk
open Go

/-- What is known of an operation's value, of the others' values and of the world. -/
abbrev VD := (Nat → Value) → Value → World → Prop
def VDAt (V : List VD) (i : Nat) : VD := V.getD i (fun _ _ _ => True)
def planNeedsD (n : Nat) (V : List VD) (vs : Nat → Value) (w : World) : List Edge → Prop
  | [] => True
  | e :: r => (Region.binds .any e = true → e.on < n → VDAt V e.on vs (vs e.on) w) ∧ planNeedsD n V vs w r
def planOblD (P : Program) (ops : Array Oper) (J : World → Prop) (S : Nat → World → World → Prop) (n : Nat) (V : List VD) (F : (Nat → Value) → Act) (i : Nat) (o : Oper) : Prop :=
  ∀ (vs : Nat → Value) (w : World), J w → planNeedsD n V vs w o.after.toList → ∀ K : Exit → Act → World → Prop, (∀ v w', S i w w' → VDAt V i vs v w' → K .normal ((F vs).put o.dst v) w') → wpList P ops K [o] (F vs) w
def planOblsD (P : Program) (ops : Array Oper) (J : World → Prop) (S : Nat → World → World → Prop) (n : Nat) (V : List VD) (F : (Nat → Value) → Act) : Nat → List Oper → Prop
  | _, [] => True
  | i, o :: r => planOblD P ops J S n V F i o ∧ planOblsD P ops J S n V F (i + 1) r
def planHaveD (vs : Nat → Value) (w : World) : Nat → List VD → Prop
  | _, [] => True
  | i, V :: r => V vs (vs i) w ∧ planHaveD vs w (i + 1) r
theorem planNeedsD_of {n : Nat} {V : List VD} {vs : Nat → Value} {w : World} : ∀ (l : List Edge), (∀ e ∈ l, Region.binds .any e = true → e.on < n → VDAt V e.on vs (vs e.on) w) → planNeedsD n V vs w l
  | [], _ => trivial
  | e :: r, h => ⟨h e (by simp), planNeedsD_of r fun e he => h e (by simp [he])⟩
theorem planHaveD_of {vs : Nat → Value} {w : World} : ∀ (V : List VD) (k : Nat), (∀ i, i < V.length → VDAt V i vs (vs (k + i)) w) → planHaveD vs w k V
  | [], _, _ => trivial
  | V :: r, k, h => ⟨h 0 (by simp), planHaveD_of r (k + 1) fun i hi => by
      have := h (i + 1) (by simp; omega)
      rw [show k + (i + 1) = k + 1 + i by omega] at this
      exact this⟩
theorem planOblsD_at {P : Program} {ops : Array Oper} {J : World → Prop} {S : Nat → World → World → Prop} {n : Nat} {V : List VD} {F : (Nat → Value) → Act} : ∀ (l : List Oper) (k i : Nat) (o : Oper), planOblsD P ops J S n V F k l → l[i]? = some o → planOblD P ops J S n V F (k + i) o
  | [], _, _, _, _, h => by simp at h
  | o' :: r, k, 0, o, h, ho => by simp only [List.getElem?_cons_zero, Option.some.injEq] at ho; subst ho; exact h.1
  | o' :: r, k, i + 1, o, h, ho => by
    have := planOblsD_at r (k + 1) i o h.2 (by simpa using ho)
    rwa [show k + 1 + i = k + (i + 1) by omega] at this

theorem wpAny_planD {P : Program} {l : List Oper} {n : Nat} {Q : Exit → Act → World → Prop} {a0 : Act} {J : World → Prop} {S : Nat → World → World → Prop} {V : List VD} (hB : planB l n = true) (_hV : V.length = n)
    (hJS : ∀ i w w', i < n → J w → S i w w' → J w') (hst : ∀ i j vs x w w', i < n → j < n → i ≠ j → Region.waitsFor .any l.toArray j i = false → J w → S i w w' → VDAt V j vs (vs j) w → VDAt V j (upd1 vs i x) (vs j) w')
    (hVself : ∀ i vs v w, i < n → VDAt V i vs v w → VDAt V i (upd1 vs i v) v w)
    (hobl : planOblsD P l.toArray J S n V (fun vs => planPut vs 0 (l.take n) a0) 0 (l.take n))
    (hend : ∀ vs w, J w → (∀ i, i < n → VDAt V i vs (vs i) w) → wpList P l.toArray Q (l.drop n) (planPut vs 0 (l.take n) a0) w) :
    ∀ (f : Nat) (listed : Array Bool) (vs : Nat → Value) (w : World), HeadInv .any l.toArray n listed → todo n listed = f → J w → (∀ i, i < n → listed.getD i false = true → VDAt V i vs (vs i) w) →
      wpAny P .any l.toArray Q (f + (l.length - n)) listed (planPut vs 0 (l.take n) a0) w := by
  simp only [planB, Bool.and_eq_true, decide_eq_true_eq, Bool.or_eq_true] at hB
  obtain ⟨⟨⟨⟨hn, hnd⟩, hord⟩, htl⟩, hseq⟩ := hB
  have htk : (l.take n).length = n := by simp; omega
  intro f
  induction f with
  | zero =>
    intro listed vs w inv ht hJ hv
    have hall : ∀ i, i < n → listed.getD i false = true := fun i hi => by
      have := List.countP_eq_zero.1 ht i (List.mem_range.2 hi)
      simpa using this
    have hle : listed = (Array.replicate n true) ++ Array.replicate (l.length - n) false := by
      have hsz : listed.size = l.length := by rw [inv.size]; simp
      apply Array.ext
      · simp; omega
      · intro j h1 h2
        by_cases hj : j < n
        · have := hall j hj
          simp [h1] at this
          rw [this, Array.getElem_append_left (by simpa using hj)]
          simp
        · have := inv.tail j (by omega) (by simpa [hsz] using h1)
          simp [h1] at this
          rw [this, Array.getElem_append_right (by simpa using hj)]
          simp
    have hdl : (l.drop n).length = l.length - n := by simp
    have := wpAny_of_seq (md := .any) (Q' := Q) (l.drop n) n listed (planPut vs 0 (l.take n) a0) w (fun j => by simp [List.getElem?_drop]) (by rw [hdl, hle]; exact hseq) (hend vs w hJ fun i hi => hv i hi (hall i hi))
    rw [hdl] at this
    rw [Nat.zero_add]; exact this
  | succ f ih =>
    intro listed vs w inv ht hJ hv
    have hsz : listed.size = l.length := by rw [inv.size]; simp
    obtain ⟨i0, hi0, hun0, hmin⟩ : ∃ i, i < n ∧ listed.getD i true = false ∧ ∀ j, j < i → listed.getD j false = true := by
      have hex : ∃ i, i < n ∧ listed.getD i false = false := by
        have hpos : 0 < (List.range n).countP fun i => !listed.getD i false := by rw [todo] at ht; omega
        obtain ⟨i, hi, hp⟩ := List.countP_pos_iff.1 hpos
        exact ⟨i, List.mem_range.1 hi, by simpa using hp⟩
      have key : ∀ m i, i < n → listed.getD i false = false → i ≤ m → ∃ i, i < n ∧ listed.getD i false = false ∧ ∀ j, j < i → listed.getD j false = true := by
        intro m
        induction m with
        | zero => intro i hi hf hm; exact ⟨i, hi, hf, fun j hj => by omega⟩
        | succ m ihm =>
          intro i hi hf hm
          by_cases hsm : ∃ j, j < i ∧ listed.getD j false = false
          · obtain ⟨j, hj, hjf⟩ := hsm
            exact ihm j (by omega) hjf (by omega)
          · refine ⟨i, hi, hf, fun j hj => ?_⟩
            cases hc : listed.getD j false with
            | true => rfl
            | false => exact absurd ⟨j, hj, hc⟩ hsm
      obtain ⟨i, hi, hf⟩ := hex
      obtain ⟨i, hi, hf, hmin⟩ := key i i hi hf (Nat.le_refl _)
      exact ⟨i, hi, getD_in (by omega) hf, hmin⟩
    have hlow : ∀ t, n ≤ t → t ∉ Region.ready .any l.toArray listed := fun t ht' hr => by
      rcases htl with htl | htl
      · obtain ⟨_, o, ho, _⟩ := mem_ready.1 hr
        have := (Array.getElem?_eq_some_iff.1 ho).1
        simp at this; omega
      · by_cases hnl : n < l.length
        · exact tail_waits htl.1 htl.2 (by simpa using hnl) inv _ i0 rfl hi0 hun0 t ht' hr
        · obtain ⟨_, o, ho, _⟩ := mem_ready.1 hr
          have := (Array.getElem?_eq_some_iff.1 ho).1
          simp at this; omega
    have hready : i0 ∈ Region.ready .any l.toArray listed := by
      have hlt : i0 < l.length := by omega
      refine mem_ready.2 ⟨hun0, l[i0], by simp, fun e he hb => ?_⟩
      have h1 := List.all_eq_true.1 hord i0 (List.mem_range.2 hi0)
      rw [List.getElem?_eq_getElem hlt] at h1
      simp only [Option.map_some, Option.getD_some] at h1
      have h2 := Array.all_eq_true'.1 h1 e he
      simp only [Bool.or_eq_true, Bool.not_eq_eq_eq_not, Bool.not_true, decide_eq_true_eq] at h2
      rcases h2 with h2 | h2
      · rw [hb] at h2; cases h2
      · exact hmin _ h2
    rw [show f + 1 + (l.length - n) = (f + (l.length - n)) + 1 by omega]
    refine ⟨fun h => (by rw [h] at hready; cases hready), fun i hi => ?_⟩
    have hin : i < n := by
      rcases Nat.lt_or_ge i n with h | h
      · exact h
      · exact absurd hi (hlow i h)
    obtain ⟨hun, o, ho, hdep⟩ := mem_ready.1 hi
    have hlo : l[i]? = some o := by simpa using ho
    have hto : (l.take n)[i]? = some o := by rw [List.getElem?_take_of_lt hin]; exact hlo
    have hb := planOblsD_at (l.take n) 0 i o hobl hto
    rw [Nat.zero_add] at hb
    have hneed : planNeedsD n V vs w o.after.toList := planNeedsD_of _ fun e he hbd hlt => hv e.on hlt (hdep e (by simpa using he) hbd)
    have hgo : ∀ v w', S i w w' → VDAt V i vs v w' → wpAny P .any l.toArray Q (f + (l.length - n)) (listed.setIfInBounds i true) ((planPut vs 0 (l.take n) a0).put o.dst v) w' := fun v w' hS hV => by
      have e := planPut_put vs v (l.take n) 0 i a0 o hto hnd
      rw [Nat.zero_add] at e
      rw [← e]
      refine ih _ (upd1 vs i v) w' (inv.set hi hin) ?_ (hJS i w w' hin hJ hS) fun j hj hl => ?_
      · have := todo_set (listed := listed) hin (by omega) (getD_both hun); omega
      · by_cases hji : j = i
        · subst hji
          have hself : VDAt V j (upd1 vs j v) v w' := hVself j vs v w' hin hV
          simpa [upd1] using hself
        · rw [getD_set_ne false (Ne.symm hji)] at hl
          have hwf : Region.waitsFor .any l.toArray j i = false := by
            cases hc : Region.waitsFor .any l.toArray j i
            · rfl
            · obtain ⟨oj, hoj, e, he, hbe, heo⟩ := Region.waitsFor_spec hc
              have h1 := inv.closed j oj hoj hl e he hbe
              rw [heo] at h1
              rw [getD_both hun] at h1
              cases h1
          have := hst i j vs v w w' hin hj (Ne.symm hji) hwf hJ hS (hv j hj hl)
          simpa [upd1, hji] using this
    have hw := hb vs w hJ hneed (fun x a' w' => match x with | .normal => wpAny P .any l.toArray Q (f + (l.length - n)) (listed.setIfInBounds i true) a' w' | e => Q e a' w') hgo
    simp only [wpOp, ho]
    simp only [wpList] at hw
    split
    · rename_i hwt
      rw [if_pos hwt] at hw
      have hL : LetsOut (fun (x : Exit) a' w' => match x with | .normal => wpAny P .any l.toArray Q (f + (l.length - n)) (listed.setIfInBounds i true) a' w' | e => Q e a' w') → LetsOut Q := fun ⟨a, w, h⟩ => ⟨a, w, h⟩
      rcases hw with hw | ⟨hw, hlo'⟩
      · exact .inl (upon_imp (fun _ _ h => h) (fun _ _ _ h => h) hL _ hw)
      · exact .inr ⟨hw, hL hlo'⟩
    · rename_i hwt
      rw [if_neg hwt] at hw
      exact hw

/-- **A REGION THAT DRAWS ITS ORDER, EACH OPERATION SHOWN ALONE.** J: what holds of the world throughout; S: what one operation may do to it; V: what is known of each value. The last operations, from n on, come in the text's order. -/
theorem wp_region_planD {P : Program} {id : Nat} {Q : Exit → Act → World → Prop} {a : Act} {w : World} {l : List Oper} (n : Nat) (J : World → Prop) (S : Nat → World → World → Prop) (V : List VD) (hm : P.follows .mixedOrders = true) (hB : planB l n = true) (hV : V.length = n)
    (hJ : J { w with drawn := w.drawn + 1 }) (hJS : ∀ i w w', i < n → J w → S i w w' → J w') (hst : ∀ i j vs x w w', i < n → j < n → i ≠ j → Region.waitsFor .any l.toArray j i = false → J w → S i w w' → VDAt V j vs (vs j) w → VDAt V j (upd1 vs i x) (vs j) w')
    (hVself : ∀ i vs v w, i < n → VDAt V i vs v w → VDAt V i (upd1 vs i v) v w)
    (hobl : planOblsD P l.toArray J S n V (fun vs => planPut vs 0 (l.take n) a) 0 (l.take n))
    (hend : ∀ vs w, J w → planHaveD vs w 0 V → wpList P l.toArray Q (l.drop n) (planPut vs 0 (l.take n) a) w) : (Code.region id l.toArray true).wp P Q a w := by
  refine wp_region_any hm ?_
  have hB' := hB
  simp only [planB, Bool.and_eq_true, decide_eq_true_eq, Bool.or_eq_true] at hB
  obtain ⟨⟨⟨⟨hn, hnd⟩, hord⟩, htl⟩, hseq⟩ := hB
  obtain ⟨vs0, hsame⟩ : ∃ vs0, planPut vs0 0 (l.take n) a = a := ⟨fun i => match (l[i]?).bind (·.dst) with | some t => a.tmps.getD t undef | none => undef, planPut_same a _ _ _ fun j o t hj ht => by
    have hjn : j < n := by
      rcases Nat.lt_or_ge j (l.take n).length with h | h
      · simp at h; omega
      · rw [List.getElem?_eq_none h] at hj; cases hj
    rw [List.getElem?_take_of_lt hjn] at hj
    rw [Nat.zero_add, hj]; simp [ht]⟩
  have inv0 : HeadInv .any l.toArray n (Array.replicate l.toArray.size false) :=
    ⟨by simp, fun j oj _ hl => (by rw [getD_replicate_false] at hl; cases hl), fun t _ ht => getD_in (by simpa using ht) (getD_replicate_false _ _)⟩
  have ht0 : todo n (Array.replicate l.toArray.size false) = n := by
    rw [todo, List.countP_eq_length.2 fun i _ => by rw [getD_replicate_false]; rfl, List.length_range]
  have := wpAny_planD (Q := Q) (a0 := a) hB' hV hJS hst hVself hobl (fun vs w hJ h => hend vs w hJ (planHaveD_of V 0 fun i hi => by rw [Nat.zero_add]; exact h i (by omega))) n _ vs0 _ inv0 ht0 hJ (fun i _ hl => by rw [getD_replicate_false] at hl; cases hl)
  rw [hsame] at this
  have hfu : n + (l.length - n) = l.toArray.size := by simp; omega
  rw [hfu] at this
  exact this
/-- The value is this one. -/
def eqD (c : Value) : VD := fun _ v _ => v = c
end Go.Tk

/- A box that is made and stored into within a region that draws its order. No program in sight. -/
namespace Go.Tk
open Go Go.RowKit
/-- What the store of k cells into a box made behind L may do. -/
def StoreB (L k : Nat) (wx wy : World) : Prop := ∃ (b : Nat) (us : List Value), us.length = k ∧ L ≤ b ∧ wy = wx.setCells b 0 us
theorem StoreB.below {L k : Nat} {w0 wx wy : World} (h : StoreB L k wx wy) (hb : Below L w0 wx) : Below L w0 wy := by
  obtain ⟨b, us, -, hL, rfl⟩ := h
  exact below_sets hL us 0 _ hb
theorem BoxAt.sets {b c : Nat} : ∀ (us : List Value) (o : Nat) {w : World} {cs : List Value}, BoxAt w b cs → o + us.length ≤ cs.length → ∃ cs', cs'.length = cs.length ∧ BoxAt (w.setCells c o us) b cs'
  | [], _, _, cs, h, _ => ⟨cs, rfl, h⟩
  | u :: us, o, w, cs, h, hl => by
    rw [List.length_cons] at hl
    by_cases hbc : b = c
    · subst hbc
      obtain ⟨cs', h1, h2⟩ := BoxAt.sets (b := b) (c := b) us (o + 1) (h.set o (by omega) u) (by rw [List.length_set]; omega)
      exact ⟨cs', by rw [h1, List.length_set], h2⟩
    · exact BoxAt.sets us (o + 1) (h.far hbc o u) (by omega)
/-- A box of k cells made behind L. -/
def BoxN (L k : Nat) (v : Value) (w : World) : Prop := ∃ (b : Nat) (cs : List Value), cs.length = k ∧ v = .pointer (some ⟨b, 0, none⟩) ∧ L ≤ b ∧ BoxAt w b cs
theorem BoxN.below {L k : Nat} {v : Value} {wx wy : World} (h : BoxN L k v wx) (hb : Below wx.heap.size wx wy) : BoxN L k v wy := by
  obtain ⟨b, cs, hk, e, hL, hx⟩ := h
  exact ⟨b, cs, hk, e, hL, hx.below hb⟩
theorem BoxN.store {L k : Nat} {v : Value} {wx wy : World} (h : BoxN L k v wx) (hs : StoreB L k wx wy) : BoxN L k v wy := by
  obtain ⟨b, cs, hk, e, hL, hx⟩ := h
  obtain ⟨c, us, hu, -, rfl⟩ := hs
  obtain ⟨cs', h1, h2⟩ := hx.sets (c := c) us 0 (by omega)
  exact ⟨b, cs', by omega, e, hL, h2⟩
theorem BoxN.new (L : Nat) {w : World} (cs : List Value) (E : Nat) (hL : L ≤ w.heap.size) : BoxN L cs.length (.pointer (some ⟨w.heap.size, 0, none⟩)) (w.alloc (.cells cs.toArray E)) := ⟨_, cs, rfl, rfl, hL, BoxAt.new⟩
/-- The box that operation i made holds these cells. -/
def BoxIs (L i : Nat) (cs : List Value) (vs : Nat → Value) (w : World) : Prop := ∃ b : Nat, vs i = .pointer (some ⟨b, 0, none⟩) ∧ L ≤ b ∧ BoxAt w b cs
theorem BoxIs.below {L i : Nat} {cs : List Value} {vs : Nat → Value} {wx wy : World} (h : BoxIs L i cs vs wx) (hb : Below wx.heap.size wx wy) {k : Nat} (hk : i ≠ k) (x : Value) : BoxIs L i cs (upd1 vs k x) wy := by
  obtain ⟨b, e, hL, hx⟩ := h
  exact ⟨b, by simp only [upd1, if_neg hk]; exact e, hL, hx.below hb⟩
end Go.Tk
