/- A part of the proof, laid together from: Plan, Deep, Box. -/
import Derived.Test.YtcmmenmjclgjmaaGreatDoorPa01
import Derived.StillTail
import Derived.WalkKit
import Derived.Test.YtcmmenmjclgjmaaGreatDoorPa11
import Derived.Deep.Draws
set_option linter.unusedSimpArgs false
set_option linter.unusedVariables false
/- A region that draws its order, walked once: each operation is shown alone, in whatever world the others have led to. No program in sight. -/
namespace Go.Tk
open Go

/-- What is known of an operation's value, from the moment that it stands. -/
abbrev VP := Value → World → Prop
def VAt (V : List VP) (i : Nat) : VP := V.getD i (fun _ _ => True)
/-- The frame once the operations' values are these. -/
def planPut (vs : Nat → Value) : Nat → List Oper → Act → Act
  | _, [], a => a
  | i, o :: r, a => planPut vs (i + 1) r (a.put o.dst (vs i))
/-- What an operation may lean on: what is known of those that it waits for. -/
def planNeeds (n : Nat) (V : List VP) (vs : Nat → Value) (w : World) : List Edge → Prop
  | [] => True
  | e :: r => (Region.binds .any e = true → e.on < n → VAt V e.on (vs e.on) w) ∧ planNeeds n V vs w r
/-- One operation, alone. -/
def planObl (P : Program) (ops : Array Oper) (J : World → Prop) (S : World → World → Prop) (n : Nat) (V : List VP) (F : (Nat → Value) → Act) (i : Nat) (o : Oper) : Prop :=
  ∀ (vs : Nat → Value) (w : World), J w → planNeeds n V vs w o.after.toList → ∀ K : Exit → Act → World → Prop, (∀ v w', S w w' → VAt V i v w' → K .normal ((F vs).put o.dst v) w') → wpList P ops K [o] (F vs) w
def planObls (P : Program) (ops : Array Oper) (J : World → Prop) (S : World → World → Prop) (n : Nat) (V : List VP) (F : (Nat → Value) → Act) : Nat → List Oper → Prop
  | _, [] => True
  | i, o :: r => planObl P ops J S n V F i o ∧ planObls P ops J S n V F (i + 1) r
/-- What is known in the end. -/
def planHave (vs : Nat → Value) (w : World) : Nat → List VP → Prop
  | _, [] => True
  | i, V :: r => V (vs i) w ∧ planHave vs w (i + 1) r

theorem put_put (a : Act) (d : Option Tmp) (u v : Value) : (a.put d u).put d v = a.put d v := by
  cases d <;> simp [Act.put]
theorem put_self (a : Act) (t : Tmp) : a.put (some t) (a.tmps.getD t undef) = a := by
  obtain ⟨x, df⟩ := a
  simp only [Act.put]
  congr 1
  apply Array.ext
  · simp
  · intro j h1 h2
    by_cases hj : t = j
    · subst hj; simp [h2]
    · rw [Array.getElem_setIfInBounds_ne h2 hj]
theorem planPut_congr : ∀ (r : List Oper) (k : Nat) (a : Act) (vs vs' : Nat → Value), (∀ j, k ≤ j → vs j = vs' j) → planPut vs k r a = planPut vs' k r a
  | [], _, _, _, _, _ => rfl
  | o :: r, k, a, vs, vs', h => by
    rw [planPut, planPut, h k (Nat.le_refl _)]
    exact planPut_congr r (k + 1) _ vs vs' fun j hj => h j (by omega)
theorem planPut_fresh (vs : Nat → Value) (d : Option Tmp) (v : Value) : ∀ (r : List Oper) (k : Nat) (b : Act), (∀ o ∈ r, ∀ t, d = some t → o.dst ≠ some t) → (planPut vs k r b).put d v = planPut vs k r (b.put d v)
  | [], _, _, _ => rfl
  | o :: r, k, b, h => by
    rw [planPut, planPut, planPut_fresh vs d v r (k + 1) _ fun o' ho' => h o' (by simp [ho']), Act.put_comm b v (vs k) fun t ht => h o (by simp) t ht]
def upd1 (vs : Nat → Value) (i : Nat) (v : Value) : Nat → Value := fun j => if j = i then v else vs j
theorem planPut_put (vs : Nat → Value) (v : Value) : ∀ (l : List Oper) (k i : Nat) (a : Act) (o : Oper), l[i]? = some o → (l.filterMap (·.dst)).Nodup → planPut (upd1 vs (k + i) v) k l a = (planPut vs k l a).put o.dst v
  | [], _, _, _, _, h, _ => by simp at h
  | o' :: r, k, 0, a, o, h, hn => by
    simp only [List.getElem?_cons_zero, Option.some.injEq] at h
    subst h
    have hfr : ∀ o ∈ r, ∀ t, o'.dst = some t → o.dst ≠ some t := fun o ho t ht he => by
      rw [List.filterMap_cons, ht] at hn
      exact (List.nodup_cons.1 hn).1 (List.mem_filterMap.2 ⟨o, ho, he⟩)
    rw [planPut, planPut, planPut_fresh vs o'.dst v r (k + 1) _ hfr, put_put]
    rw [show upd1 vs (k + 0) v k = v by simp [upd1]]
    exact planPut_congr r (k + 1) _ _ _ fun j hj => by simp only [upd1]; rw [if_neg (by omega)]
  | o' :: r, k, i + 1, a, o, h, hn => by
    simp only [List.getElem?_cons_succ] at h
    have hn' : (r.filterMap (·.dst)).Nodup := by
      rw [List.filterMap_cons] at hn
      split at hn
      · exact hn
      · exact (List.nodup_cons.1 hn).2
    rw [planPut, planPut]
    have := planPut_put vs v r (k + 1) i (a.put o'.dst (vs k)) o h hn'
    rw [show k + (i + 1) = k + 1 + i by omega, show upd1 vs (k + 1 + i) v k = vs k by simp only [upd1]; rw [if_neg (by omega)]]
    exact this
theorem planPut_same (a : Act) : ∀ (l : List Oper) (k : Nat) (vs : Nat → Value), (∀ j o t, l[j]? = some o → o.dst = some t → vs (k + j) = a.tmps.getD t undef) → planPut vs k l a = a
  | [], _, _, _ => rfl
  | o :: r, k, vs, h => by
    rw [planPut]
    have e : a.put o.dst (vs k) = a := by
      cases hd : o.dst with
      | none => rfl
      | some t => rw [show vs k = a.tmps.getD t undef from h 0 o t rfl hd]; exact put_self a t
    rw [e]
    exact planPut_same a r (k + 1) vs fun j o t hj ht => by rw [show k + 1 + j = k + (j + 1) by omega]; exact h (j + 1) o t hj ht
theorem planNeeds_of {n : Nat} {V : List VP} {vs : Nat → Value} {w : World} : ∀ (l : List Edge), (∀ e ∈ l, Region.binds .any e = true → e.on < n → VAt V e.on (vs e.on) w) → planNeeds n V vs w l
  | [], _ => trivial
  | e :: r, h => ⟨h e (by simp), planNeeds_of r fun e he => h e (by simp [he])⟩
theorem planHave_of {vs : Nat → Value} {w : World} : ∀ (V : List VP) (k : Nat), (∀ i, i < V.length → VAt V i (vs (k + i)) w) → planHave vs w k V
  | [], _, _ => trivial
  | V :: r, k, h => ⟨h 0 (by simp), planHave_of r (k + 1) fun i hi => by
      have := h (i + 1) (by simp; omega)
      rw [show k + (i + 1) = k + 1 + i by omega] at this
      exact this⟩
theorem planObls_at {P : Program} {ops : Array Oper} {J : World → Prop} {S : World → World → Prop} {n : Nat} {V : List VP} {F : (Nat → Value) → Act} : ∀ (l : List Oper) (k i : Nat) (o : Oper), planObls P ops J S n V F k l → l[i]? = some o → planObl P ops J S n V F (k + i) o
  | [], _, _, _, _, h => by simp at h
  | o' :: r, k, 0, o, h, ho => by simp only [List.getElem?_cons_zero, Option.some.injEq] at ho; subst ho; exact h.1
  | o' :: r, k, i + 1, o, h, ho => by
    have := planObls_at r (k + 1) i o h.2 (by simpa using ho)
    rwa [show k + 1 + i = k + (i + 1) by omega] at this

/-- An operation's run, under another post. -/
theorem upon_imp {P : Program} {o : Oper} {a : Act} {K K' : Act → World → Prop} {Q Q' : Exit → Act → World → Prop} (hK : ∀ a w, K a w → K' a w) (hQ : ∀ c a w, Q (.panic c) a w → Q' (.panic c) a w) (hL : LetsOut Q → LetsOut Q') :
    ∀ r, o.upon P a K Q r → o.upon P a K' Q' r := by
  intro r hh
  cases r with
  | ok n w' =>
    cases n <;> simp only [Oper.upon] at hh ⊢ <;>
      first
        | exact hK _ _ hh
        | exact Calls.mono hh (fun e w'' he => by cases e <;> first | exact hK _ _ he | exact hQ _ _ _ he | exact hL he)
        | exact Rows.mono hh (fun _ _ he => hK _ _ he)
  | halt x w' => cases x <;> simp only [Oper.upon] at hh ⊢ <;> first | exact hQ _ _ _ hh | exact hh

/-- How many of the first n have not come up. -/
def todo (n : Nat) (listed : Array Bool) : Nat := (List.range n).countP fun i => !listed.getD i false
theorem count_one {p p' : Nat → Bool} {i : Nat} (hp : p i = true) (hp' : p' i = false) (ho : ∀ j, j ≠ i → p' j = p j) : ∀ (l : List Nat), l.Nodup → i ∈ l → l.countP p' + 1 = l.countP p
  | [], _, h => by simp at h
  | x :: l, hn, h => by
    have hn' := List.nodup_cons.1 hn
    by_cases hx : x = i
    · subst hx
      have e : l.countP p' = l.countP p := List.countP_congr fun j hj => by
        rw [ho j (by rintro rfl; exact hn'.1 hj)]
      rw [List.countP_cons, List.countP_cons, hp, hp', e]; simp
    · have hi : i ∈ l := by
        rcases List.mem_cons.1 h with h | h
        · exact absurd h.symm hx
        · exact h
      have := count_one hp hp' ho l hn'.2 hi
      rw [List.countP_cons, List.countP_cons, ho x hx]; omega
theorem todo_set {n i : Nat} {listed : Array Bool} (hi : i < n) (hs : i < listed.size) (h : listed.getD i false = false) : todo n (listed.setIfInBounds i true) + 1 = todo n listed := by
  refine count_one (i := i) (by simp [h]) (by simp [hs]) (fun j hj => ?_) _ List.nodup_range (List.mem_range.2 hi)
  rw [getD_set_ne false (Ne.symm hj)]
/-- What the kernel looks at. -/
def planB (l : List Oper) (n : Nat) : Bool :=
  decide (n ≤ l.length) && decide (((l.take n).filterMap (·.dst)).Nodup) && (List.range n).all (fun i => ((l[i]?).map fun o => o.after.all fun e => !Region.binds .any e || decide (e.on < i)).getD true) &&
    (decide (n = l.length) || (Region.sinkB .any l.toArray n && Region.chainB .any l.toArray n)) && Region.seqB .any l.toArray (l.length - n) n ((Array.replicate n true) ++ Array.replicate (l.length - n) false)

theorem wpAny_plan {P : Program} {l : List Oper} {n : Nat} {Q : Exit → Act → World → Prop} {a0 : Act} {J : World → Prop} {S : World → World → Prop} {V : List VP} (hB : planB l n = true) (_hV : V.length = n)
    (hJS : ∀ w w', J w → S w w' → J w') (hst : ∀ i v w w', J w → S w w' → VAt V i v w → VAt V i v w')
    (hobl : planObls P l.toArray J S n V (fun vs => planPut vs 0 (l.take n) a0) 0 (l.take n))
    (hend : ∀ vs w, J w → (∀ i, i < n → VAt V i (vs i) w) → wpList P l.toArray Q (l.drop n) (planPut vs 0 (l.take n) a0) w) :
    ∀ (f : Nat) (listed : Array Bool) (vs : Nat → Value) (w : World), HeadInv .any l.toArray n listed → todo n listed = f → J w → (∀ i, i < n → listed.getD i false = true → VAt V i (vs i) w) →
      wpAny P .any l.toArray Q (f + (l.length - n)) listed (planPut vs 0 (l.take n) a0) w := by
  simp only [planB, Bool.and_eq_true, decide_eq_true_eq, Bool.or_eq_true] at hB
  obtain ⟨⟨⟨⟨hn, hnd⟩, hord⟩, htl⟩, hseq⟩ := hB
  have htk : (l.take n).length = n := by simp; omega
  intro f
  induction f with
  | zero =>
    intro listed vs w inv ht hJ hv
    have hall : ∀ i, i < n → listed.getD i false = true := fun i hi => by
      have := List.countP_eq_zero.1 ht i (List.mem_range.2 hi)
      simpa using this
    have hle : listed = (Array.replicate n true) ++ Array.replicate (l.length - n) false := by
      have hsz : listed.size = l.length := by rw [inv.size]; simp
      apply Array.ext
      · simp; omega
      · intro j h1 h2
        by_cases hj : j < n
        · have := hall j hj
          simp [h1] at this
          rw [this, Array.getElem_append_left (by simpa using hj)]
          simp
        · have := inv.tail j (by omega) (by simpa [hsz] using h1)
          simp [h1] at this
          rw [this, Array.getElem_append_right (by simpa using hj)]
          simp
    have hdl : (l.drop n).length = l.length - n := by simp
    have := wpAny_of_seq (md := .any) (Q' := Q) (l.drop n) n listed (planPut vs 0 (l.take n) a0) w (fun j => by simp [List.getElem?_drop]) (by rw [hdl, hle]; exact hseq) (hend vs w hJ fun i hi => hv i hi (hall i hi))
    rw [hdl] at this
    rw [Nat.zero_add]; exact this
  | succ f ih =>
    intro listed vs w inv ht hJ hv
    have hsz : listed.size = l.length := by rw [inv.size]; simp
    obtain ⟨i0, hi0, hun0, hmin⟩ : ∃ i, i < n ∧ listed.getD i true = false ∧ ∀ j, j < i → listed.getD j false = true := by
      have hex : ∃ i, i < n ∧ listed.getD i false = false := by
        have hpos : 0 < (List.range n).countP fun i => !listed.getD i false := by rw [todo] at ht; omega
        obtain ⟨i, hi, hp⟩ := List.countP_pos_iff.1 hpos
        exact ⟨i, List.mem_range.1 hi, by simpa using hp⟩
      have key : ∀ m i, i < n → listed.getD i false = false → i ≤ m → ∃ i, i < n ∧ listed.getD i false = false ∧ ∀ j, j < i → listed.getD j false = true := by
        intro m
        induction m with
        | zero => intro i hi hf hm; exact ⟨i, hi, hf, fun j hj => by omega⟩
        | succ m ihm =>
          intro i hi hf hm
          by_cases hsm : ∃ j, j < i ∧ listed.getD j false = false
          · obtain ⟨j, hj, hjf⟩ := hsm
            exact ihm j (by omega) hjf (by omega)
          · refine ⟨i, hi, hf, fun j hj => ?_⟩
            cases hc : listed.getD j false with
            | true => rfl
            | false => exact absurd ⟨j, hj, hc⟩ hsm
      obtain ⟨i, hi, hf⟩ := hex
      obtain ⟨i, hi, hf, hmin⟩ := key i i hi hf (Nat.le_refl _)
      exact ⟨i, hi, getD_in (by omega) hf, hmin⟩
    have hlow : ∀ t, n ≤ t → t ∉ Region.ready .any l.toArray listed := fun t ht' hr => by
      rcases htl with htl | htl
      · obtain ⟨_, o, ho, _⟩ := mem_ready.1 hr
        have := (Array.getElem?_eq_some_iff.1 ho).1
        simp at this; omega
      · by_cases hnl : n < l.length
        · exact tail_waits htl.1 htl.2 (by simpa using hnl) inv _ i0 rfl hi0 hun0 t ht' hr
        · obtain ⟨_, o, ho, _⟩ := mem_ready.1 hr
          have := (Array.getElem?_eq_some_iff.1 ho).1
          simp at this; omega
    have hready : i0 ∈ Region.ready .any l.toArray listed := by
      have hlt : i0 < l.length := by omega
      refine mem_ready.2 ⟨hun0, l[i0], by simp, fun e he hb => ?_⟩
      have h1 := List.all_eq_true.1 hord i0 (List.mem_range.2 hi0)
      rw [List.getElem?_eq_getElem hlt] at h1
      simp only [Option.map_some, Option.getD_some] at h1
      have h2 := Array.all_eq_true'.1 h1 e he
      simp only [Bool.or_eq_true, Bool.not_eq_eq_eq_not, Bool.not_true, decide_eq_true_eq] at h2
      rcases h2 with h2 | h2
      · rw [hb] at h2; cases h2
      · exact hmin _ h2
    rw [show f + 1 + (l.length - n) = (f + (l.length - n)) + 1 by omega]
    refine ⟨fun h => (by rw [h] at hready; cases hready), fun i hi => ?_⟩
    have hin : i < n := by
      rcases Nat.lt_or_ge i n with h | h
      · exact h
      · exact absurd hi (hlow i h)
    obtain ⟨hun, o, ho, hdep⟩ := mem_ready.1 hi
    have hlo : l[i]? = some o := by simpa using ho
    have hto : (l.take n)[i]? = some o := by rw [List.getElem?_take_of_lt hin]; exact hlo
    have hb := planObls_at (l.take n) 0 i o hobl hto
    rw [Nat.zero_add] at hb
    have hneed : planNeeds n V vs w o.after.toList := planNeeds_of _ fun e he hbd hlt => hv e.on hlt (hdep e (by simpa using he) hbd)
    have hgo : ∀ v w', S w w' → VAt V i v w' → wpAny P .any l.toArray Q (f + (l.length - n)) (listed.setIfInBounds i true) ((planPut vs 0 (l.take n) a0).put o.dst v) w' := fun v w' hS hV => by
      have e := planPut_put vs v (l.take n) 0 i a0 o hto hnd
      rw [Nat.zero_add] at e
      rw [← e]
      refine ih _ (upd1 vs i v) w' (inv.set hi hin) ?_ (hJS w w' hJ hS) fun j hj hl => ?_
      · have := todo_set (listed := listed) hin (by omega) (getD_both hun); omega
      · by_cases hji : j = i
        · subst hji; simpa [upd1] using hV
        · rw [getD_set_ne false (Ne.symm hji)] at hl
          have := hst j (vs j) w w' hJ hS (hv j hj hl)
          simpa [upd1, hji] using this
    have hw := hb vs w hJ hneed (fun x a' w' => match x with | .normal => wpAny P .any l.toArray Q (f + (l.length - n)) (listed.setIfInBounds i true) a' w' | e => Q e a' w') hgo
    simp only [wpOp, ho]
    simp only [wpList] at hw
    split
    · rename_i hwt
      rw [if_pos hwt] at hw
      have hL : LetsOut (fun (x : Exit) a' w' => match x with | .normal => wpAny P .any l.toArray Q (f + (l.length - n)) (listed.setIfInBounds i true) a' w' | e => Q e a' w') → LetsOut Q := fun ⟨a, w, h⟩ => ⟨a, w, h⟩
      rcases hw with hw | ⟨hw, hlo'⟩
      · exact .inl (upon_imp (fun _ _ h => h) (fun _ _ _ h => h) hL _ hw)
      · exact .inr ⟨hw, hL hlo'⟩
    · rename_i hwt
      rw [if_neg hwt] at hw
      exact hw

/-- **A REGION THAT DRAWS ITS ORDER, EACH OPERATION SHOWN ALONE.** J: what holds of the world throughout; S: what one operation may do to it; V: what is known of each value. The last operations, from n on, come in the text's order. -/
theorem wp_region_plan {P : Program} {id : Nat} {Q : Exit → Act → World → Prop} {a : Act} {w : World} {l : List Oper} (n : Nat) (J : World → Prop) (S : World → World → Prop) (V : List VP) (hm : P.follows .mixedOrders = true) (hB : planB l n = true) (hV : V.length = n)
    (hJ : J { w with drawn := w.drawn + 1 }) (hJS : ∀ w w', J w → S w w' → J w') (hst : ∀ i v w w', J w → S w w' → VAt V i v w → VAt V i v w')
    (hobl : planObls P l.toArray J S n V (fun vs => planPut vs 0 (l.take n) a) 0 (l.take n))
    (hend : ∀ vs w, J w → planHave vs w 0 V → wpList P l.toArray Q (l.drop n) (planPut vs 0 (l.take n) a) w) : (Code.region id l.toArray true).wp P Q a w := by
  refine wp_region_any hm ?_
  have hB' := hB
  simp only [planB, Bool.and_eq_true, decide_eq_true_eq, Bool.or_eq_true] at hB
  obtain ⟨⟨⟨⟨hn, hnd⟩, hord⟩, htl⟩, hseq⟩ := hB
  obtain ⟨vs0, hsame⟩ : ∃ vs0, planPut vs0 0 (l.take n) a = a := ⟨fun i => match (l[i]?).bind (·.dst) with | some t => a.tmps.getD t undef | none => undef, planPut_same a _ _ _ fun j o t hj ht => by
    have hjn : j < n := by
      rcases Nat.lt_or_ge j (l.take n).length with h | h
      · simp at h; omega
      · rw [List.getElem?_eq_none h] at hj; cases hj
    rw [List.getElem?_take_of_lt hjn] at hj
    rw [Nat.zero_add, hj]; simp [ht]⟩
  have inv0 : HeadInv .any l.toArray n (Array.replicate l.toArray.size false) :=
    ⟨by simp, fun j oj _ hl => (by rw [getD_replicate_false] at hl; cases hl), fun t _ ht => getD_in (by simpa using ht) (getD_replicate_false _ _)⟩
  have ht0 : todo n (Array.replicate l.toArray.size false) = n := by
    rw [todo, List.countP_eq_length.2 fun i _ => by rw [getD_replicate_false]; rfl, List.length_range]
  have := wpAny_plan (Q := Q) (a0 := a) hB' hV hJS hst hobl (fun vs w hJ h => hend vs w hJ (planHave_of V 0 fun i hi => by rw [Nat.zero_add]; exact h i (by omega))) n _ vs0 _ inv0 ht0 hJ (fun i _ hl => by rw [getD_replicate_false] at hl; cases hl)
  rw [hsame] at this
  have hfu : n + (l.length - n) = l.toArray.size := by simp; omega
  rw [hfu] at this
  exact this
/-- The value is this one. -/
def eqV (c : Value) : VP := fun v _ => v = c
theorem eqV_stab {J : World → Prop} {S : World → World → Prop} (c : Value) : ∀ v w w', J w → S w w' → eqV c v w → eqV c v w' := fun _ _ _ _ _ h => h
/-- What is known stays, where each part of it does. -/
def planStab (J : World → Prop) (S : World → World → Prop) : List VP → Prop
  | [] => True
  | V :: r => (∀ v w w', J w → S w w' → V v w → V v w') ∧ planStab J S r
theorem planStab_at {J : World → Prop} {S : World → World → Prop} : ∀ (V : List VP), planStab J S V → ∀ i v w w', J w → S w w' → VAt V i v w → VAt V i v w'
  | [], _, i, _, _, _, _, _, h => by simp [VAt]
  | V :: r, hs, 0, v, w, w', hJ, hS, h => hs.1 v w w' hJ hS h
  | V :: r, hs, i + 1, v, w, w', hJ, hS, h => by
    have := planStab_at r hs.2 i v w w' hJ hS (by simpa [VAt] using h)
    simpa [VAt] using this
end Go.Tk

/- One element of a slice of a call's own, with the memory that it leads to, is another one. No program in sight. -/
namespace Go.Tk
open Go Go.RowKit

theorem OwR.put {α : Type} {E k : Nat} {R : Rel α} (hR : RelOk R k) {w w' : World} {g cap n : Nat} {l : List α} {S S' : Nat → Prop} (h : OwR E k R w (.slice (some ⟨g, 0, none⟩) n cap) l S) {i : Nat} (hi : i < l.length) {x : α} {cs : List Value}
    (hx' : R w' cs x (fun b => S' b ∧ b ≠ g)) (hrow : KeepsRow g w w') (hout : ∀ j, j < i * k ∨ i * k + k ≤ j → w'.cell? ⟨g, j, none⟩ = w.cell? ⟨g, j, none⟩) (hin : ∀ (j : Nat) (u : Value), cs[j]? = some u → w'.cell? ⟨g, i * k + j, none⟩ = some u)
    (hoth : ∀ (q : Nat) (r : List Value) (y : α), q ≠ i → l[q]? = some y → R w r y (fun b => S b ∧ b ≠ g) → R w' r y (fun b => S' b ∧ b ≠ g)) : OwR E k R w' (.slice (some ⟨g, 0, none⟩) n cap) (l.set i x) S' := by
  obtain ⟨rows, h1, h2, h3⟩ := h
  have hcs := hR.len hx'
  have hlen := OwR.rowsLen (E := E) (v := .slice (some ⟨g, 0, none⟩) n cap) hR h1 h3
  rcases h2.2 with ⟨h, _⟩ | ⟨g', cap', cur, hv, hb0, hg, hc, hm, hsz, htk⟩
  · simp at h
  simp only [Value.slice.injEq, Option.some.injEq, Addr.mk.injEq, and_true] at hv
  obtain ⟨rfl, rfl, rfl⟩ := hv
  obtain ⟨cur', hg', hs'⟩ := hrow cur E _ hg
  have hlen' : ∀ r ∈ rows.set i cs, r.length = k := by
    intro r hr
    rcases List.mem_or_eq_of_mem_set hr with h | h
    · exact hlen r h
    · rw [h]; exact hcs
  have hfl : (rows.set i cs).flatten.length = l.length * k := by
    have : ∀ (rs : List (List Value)), (∀ r ∈ rs, r.length = k) → rs.flatten.length = rs.length * k := by
      intro rs; induction rs with
      | nil => intro _; simp
      | cons r rs ih => intro hh; simp only [List.flatten_cons, List.length_append, List.length_cons]; rw [ih fun r hr => hh r (by simp [hr]), hh r (by simp), Nat.add_mul]; omega
    rw [this _ hlen', List.length_set, h1]
  refine ⟨rows.set i cs, by simp [h1], ⟨by rw [hfl, List.length_set], .inr ⟨g, cap, cur', ?_, hb0, hg', ?_, hm, by rw [hs']; exact hsz, ?_⟩⟩, fun q r y hr hy => ?_⟩
  · rw [List.length_set]
  · rw [List.length_set]; exact hc
  · rw [List.length_set]
    refine List.ext_getElem? fun j => ?_
    rcases Nat.lt_or_ge j (l.length * k) with hj | hj
    · rw [List.getElem?_take_of_lt hj]
      have hkp : 0 < k := by rcases Nat.eq_zero_or_pos k with h | h; (subst h; omega); exact h
      obtain ⟨u, hu⟩ : ∃ u, (rows.set i cs).flatten[j]? = some u := ⟨_, List.getElem?_eq_getElem (by rw [hfl]; exact hj)⟩
      rw [hu]
      obtain ⟨r, hr, hru⟩ := flatten_at hkp _ hlen' j u hu
      have hjj : j / k * k + j % k = j := by rw [Nat.mul_comm]; exact Nat.div_add_mod j k
      have hmod := Nat.mod_lt j hkp
      rw [Array.getElem?_toList, ← cells_take hg' j]
      by_cases hq : j / k = i
      · rw [hq, List.getElem?_set_self (by omega)] at hr
        cases hr
        have := hin (j % k) u hru
        rw [hq] at hjj
        rwa [hjj] at this
      · rw [List.getElem?_set_ne (Ne.symm hq)] at hr
        rw [hout j ?_, cells_take hg j, ← Array.getElem?_toList]
        · have := flatten_getElem? rows hlen (j / k) (j % k) r u hr hru
          rw [hjj, ← htk, List.getElem?_take_of_lt hj] at this
          exact this
        · rcases Nat.lt_or_ge (j / k) i with h | h
          · left
            have := Nat.mul_le_mul_right k (show j / k + 1 ≤ i by omega)
            rw [Nat.add_mul] at this; omega
          · right
            have := Nat.mul_le_mul_right k (show i + 1 ≤ j / k by omega)
            rw [Nat.add_mul] at this; omega
    · rw [List.getElem?_eq_none (by rw [List.length_take]; omega), List.getElem?_eq_none (by rw [hfl]; exact hj)]
  · have hS : ∀ b, S b ∧ some b ≠ (Value.slice (some ⟨g, 0, none⟩) l.length cap).ownBlock → b < w.heap.size → S b ∧ b ≠ g := fun b hb _ => ⟨hb.1, fun e => hb.2 (by rw [e]; rfl)⟩
    have hS' : ∀ b, S' b ∧ b ≠ g → b < w'.heap.size → S' b ∧ some b ≠ (Value.slice (some ⟨g, 0, none⟩) (l.set i x).length cap).ownBlock := fun b hb _ => ⟨hb.1, fun e => hb.2 (by simpa [Value.ownBlock] using e)⟩
    by_cases hq : q = i
    · subst hq
      rw [List.getElem?_set_self (by omega)] at hr
      rw [List.getElem?_set_self hi] at hy
      cases hr; cases hy
      exact hR.sub hx' fun b hb _ => ⟨hb.1, fun e => hb.2 (by simpa [Value.ownBlock] using e)⟩
    · rw [List.getElem?_set_ne (Ne.symm hq)] at hr hy
      exact hR.sub (hoth q r y hq hy (hR.sub (h3 q r y hr hy) hS)) fun b hb _ => ⟨hb.1, fun e => hb.2 (by simpa [Value.ownBlock] using e)⟩

theorem lt_of_heap_eq {w w' : World} {b : Nat} (h : w'.heap[b]? = w.heap[b]?) (hb : b < w.heap.size) : b < w'.heap.size := by
  have h3 : w.heap[b]? = some (w.heap[b]'hb) := Array.getElem?_eq_getElem _
  rw [h3] at h
  exact (Array.getElem?_eq_some_iff.1 h).1

/-- One element with the blocks that it leads to: what it is, and how it may be changed. -/
theorem OwD.upd {α : Type} {E k : Nat} {R : Rel α} (hR : RelOk R k) {w : World} {g cap n : Nat} {l : List α} {S : Nat → Prop} (h : OwD E k R w (.slice (some ⟨g, 0, none⟩) n cap) l S) (i : Nat) (hi : i < l.length) :
    ∃ row G, R w row l[i] G ∧ (∀ b, G b → S b ∧ b ≠ g ∧ b < w.heap.size) ∧ (∀ (j : Nat) (u : Value), row[j]? = some u → w.cell? ⟨g, i * k + j, none⟩ = some u) ∧
      ∀ (w' : World) (S' G' : Nat → Prop) (row' : List Value) (x' : α), KeepsRow g w w' →
        (∀ j, j < i * k ∨ i * k + k ≤ j → w'.cell? ⟨g, j, none⟩ = w.cell? ⟨g, j, none⟩) → (∀ (j : Nat) (u : Value), row'[j]? = some u → w'.cell? ⟨g, i * k + j, none⟩ = some u) →
        (∀ b, S b → b ≠ g → ¬ G b → b < w.heap.size → w'.heap[b]? = w.heap[b]?) → (∀ b, S b → S' b) → (∀ b, G' b → (G b ∨ w.heap.size ≤ b) ∧ S' b ∧ b ≠ g ∧ b < w'.heap.size) → R w' row' x' G' →
        OwD E k R w' (.slice (some ⟨g, 0, none⟩) n cap) (l.set i x') S' := by
  obtain ⟨l2, hm, hap, ho⟩ := h
  have hl2 : l2.length = l.length := by rw [← hm, List.length_map]
  have hx2 : l2[i]? = some (l2[i]'(by omega)) := List.getElem?_eq_getElem (by omega)
  obtain ⟨row, hrow, hcells⟩ := ho.at (rG_ok hR) (show i < l2.length by omega)
  have hli : (l2[i]'(by omega)).1 = l[i] := by
    have : (l2.map (·.1))[i]? = l[i]? := by rw [hm]
    rw [List.getElem?_map, hx2, List.getElem?_eq_getElem hi] at this
    simpa using this
  refine ⟨row, (l2[i]'(by omega)).2, hli ▸ hrow.1, fun b hb => ⟨(hrow.2 b hb).1.1, (hrow.2 b hb).1.2, (hrow.2 b hb).2⟩, hcells, ?_⟩
  intro w' S' G' row' x' hkr hout hin hblk hSS hG' hx'
  have hgl : ∀ (q : Nat) (y : α × (Nat → Prop)), l2[q]? = some y → ∀ b, y.2 b → b < w.heap.size := fun q y hy b hb => ho.gLt y (List.mem_of_getElem? hy) b hb
  refine ⟨l2.set i (x', G'), ?_, ?_, ?_⟩
  · rw [List.map_set, hm]
  · have key : ∀ (q : Nat) (y : α × (Nat → Prop)), (l2.set i (x', G'))[q]? = some y → (q = i ∧ y = (x', G')) ∨ (q ≠ i ∧ l2[q]? = some y) := by
      intro q y hy
      by_cases hq : q = i
      · subst hq
        rw [List.getElem?_set_self (by omega)] at hy
        exact .inl ⟨rfl, by simpa using hy.symm⟩
      · rw [List.getElem?_set_ne (Ne.symm hq)] at hy
        exact .inr ⟨hq, hy⟩
    intro p q x y b hp hq hxb hyb
    rcases key p x hp with ⟨h1, rfl⟩ | ⟨h1, h1'⟩ <;> rcases key q y hq with ⟨h2, rfl⟩ | ⟨h2, h2'⟩
    · omega
    · rcases (hG' b hxb).1 with h | h
      · exact absurd (hap q i y _ b h2' hx2 hyb h) h2
      · have := hgl q y h2' b hyb; omega
    · rcases (hG' b hyb).1 with h | h
      · exact absurd (hap p i x _ b h1' hx2 hxb h) h1
      · have := hgl p x h1' b hxb; omega
    · exact hap p q x y b h1' h2' hxb hyb
  · refine ho.put (rG_ok hR) (by omega) (cs := row') ⟨hx', fun b hb => ⟨⟨(hG' b hb).2.1, (hG' b hb).2.2.1⟩, (hG' b hb).2.2.2⟩⟩ hkr hout hin ?_
    intro q r y hq hy hr
    have hne : ∀ b, y.2 b → ¬ (l2[i]'(by omega)).2 b := fun b hb hG => hq (hap q i y _ b hy hx2 hb hG)
    refine ⟨hR.move hr.1 fun b hb hl => ⟨hblk b (hr.2 b hb).1.1 (hr.2 b hb).1.2 (hne b hb) hl, hb⟩, fun b hb => ?_⟩
    have h4 := hr.2 b hb
    exact ⟨⟨hSS b h4.1.1, h4.1.2⟩, lt_of_heap_eq (hblk b h4.1.1 h4.1.2 (hne b hb) h4.2) h4.2⟩
theorem OwR.sub {α : Type} {E k : Nat} {R : Rel α} (h : RelOk R k) {w : World} {v : Value} {l : List α} {S S' : Nat → Prop} (ho : OwR E k R w v l S) (hs : ∀ b, S b → b < w.heap.size → S' b) : OwR E k R w v l S' :=
  ho.move h (fun _ _ => rfl) fun b hb _ hl => ⟨rfl, hs b hb hl⟩
theorem OwD.sub {α : Type} {E k : Nat} {R : Rel α} (hR : RelOk R k) {w : World} {v : Value} {l : List α} {S S' : Nat → Prop} (h : OwD E k R w v l S) (hs : ∀ b, S b → b < w.heap.size → S' b) : OwD E k R w v l S' := by
  obtain ⟨l2, hm, ha, ho⟩ := h
  exact ⟨l2, hm, ha, ho.sub (rG_ok hR) hs⟩
theorem OwD.thaw {α : Type} {E k : Nat} {R : Rel α} {w : World} {g n cap : Nat} {l : List α} {S : Nat → Prop} (h : OwD E k R w (.slice (some ⟨g, 0, none⟩) n cap) l S) (hl : 0 < l.length) (j : Nat) : w.frozen? ⟨g, j, none⟩ = false := by
  obtain ⟨g', cap', e, _, _, _, hf⟩ := h.shapePos hl
  simp only [Value.slice.injEq, Option.some.injEq, Addr.mk.injEq, and_true] at e
  rw [e.1]; exact hf j
/-- What is known of the world here, and no more. -/
theorem wp_abs {P : Program} {c : Code} {K : Exit → Act → World → Prop} {a : Act} {w : World} (F : World → Prop) (h : F w) (k : ∀ w', F w' → Code.wp P c K a w') : Code.wp P c K a w := k w h
theorem then_abs {K : Act → World → Prop} {Q : Exit → Act → World → Prop} {a : Act} {w : World} (F : World → Prop) (h : F w) (k : ∀ w', F w' → Exit.then K Q Exit.normal a w') : Exit.then K Q Exit.normal a w := k w h
theorem heap_drewN (w : World) (q b : Nat) : (w.drewN q).heap[b]? = w.heap[b]? := rfl
theorem below_alloc2 (w : World) (o o' : Obj) : Below w.heap.size w ((w.alloc o).alloc o') := (below_alloc w o).alloc (by rw [World.size_alloc]; omega) o'
theorem size_alloc2 (w : World) (o o' : Obj) : ((w.alloc o).alloc o').heap.size = w.heap.size + 2 := by rw [World.size_alloc, World.size_alloc]
/-- Two boxes that the call laid first, later on. -/
theorem fresh2 {w w' : World} {c d : Array Value} {t t' : TypeId} (h : Below (w.heap.size + 2) ((w.alloc (.cells c t)).alloc (.cells d t')) w') :
    (∀ i, w'.cell? ⟨w.heap.size, i, none⟩ = c[i]?) ∧ (∀ i, w'.frozen? ⟨w.heap.size, i, none⟩ = false) ∧ (∀ i, w'.cell? ⟨w.heap.size + 1, i, none⟩ = d[i]?) ∧ (∀ i, w'.frozen? ⟨w.heap.size + 1, i, none⟩ = false) ∧ w.heap.size + 1 < w'.heap.size := by
  have h1 : (w.alloc (.cells c t)).heap.size = w.heap.size + 1 := World.size_alloc _ _
  have hb : Below (w.heap.size + 1) (w.alloc (.cells c t)) w' := ((h1 ▸ below_alloc (w.alloc (.cells c t)) (.cells d t')) : Below (w.heap.size + 1) _ _).trans (h.mono (by omega))
  obtain ⟨a1, a2, a3⟩ := fresh hb
  have hb2 : Below ((w.alloc (.cells c t)).heap.size + 1) ((w.alloc (.cells c t)).alloc (.cells d t')) w' := by rw [h1]; exact h
  obtain ⟨b1, b2, b3⟩ := fresh hb2
  rw [h1] at b1 b2 b3
  exact ⟨a1, a2, b1, b2, b3⟩
end Go.Tk

/- A box: cells of a block that may be written. No program in sight. -/
namespace Go.Tk
open Go Go.RowKit
/-- These cells lie in a block, and may be written. -/
structure BoxAt (w : World) (b : Nat) (cs : List Value) : Prop where
  cell : ∀ (j : Nat) (u : Value), cs[j]? = some u → w.cell? ⟨b, j, none⟩ = some u
  thaw : ∀ j, w.frozen? ⟨b, j, none⟩ = false
  lt : b < w.heap.size
theorem BoxAt.keep {w w' : World} {b : Nat} {cs : List Value} (h : BoxAt w b cs) (hb : w'.heap[b]? = w.heap[b]?) : BoxAt w' b cs :=
  ⟨fun j u hu => cell_keep (h.cell j u hu) hb, fun j => (World.frozen?_of_block (a := ⟨b, j, none⟩) hb).trans (h.thaw j), by
    have hs : w.heap[b]? = some (w.heap[b]'h.lt) := Array.getElem?_eq_getElem h.lt
    rw [← hb] at hs
    exact (Array.getElem?_eq_some_iff.1 hs).1⟩
theorem BoxAt.below {w w' : World} {b : Nat} {cs : List Value} (h : BoxAt w b cs) (hb : Below w.heap.size w w') : BoxAt w' b cs := h.keep (hb.block b h.lt)
theorem BoxAt.set {w : World} {b : Nat} {cs : List Value} (h : BoxAt w b cs) (i : Nat) (hi : i < cs.length) (u : Value) : BoxAt (w.setCell ⟨b, i, none⟩ u) b (cs.set i u) := by
  refine ⟨fun j v hv => ?_, fun j => (World.frozen?_setCell _ _ _ _).trans (h.thaw j), by rw [World.size_setCell]; exact h.lt⟩
  by_cases hij : i = j
  · subst hij
    rw [List.getElem?_set_self hi] at hv
    cases hv
    exact World.cell?_setCell_same w ⟨b, i, none⟩ u (h.cell i _ (List.getElem?_eq_getElem hi))
  · rw [List.getElem?_set_ne hij] at hv
    exact (cell_near hij).trans (h.cell j v hv)
theorem BoxAt.new {w : World} {cs : List Value} {E : Nat} : BoxAt (w.alloc (.cells cs.toArray E)) w.heap.size cs :=
  ⟨fun j u hu => (World.cell?_alloc_at _ _ _ _ rfl).trans (by simpa using hu), fun j => World.frozen?_alloc_at _ _ _ _ rfl, by rw [World.size_alloc]; omega⟩
theorem BoxAt.grown {w w' : World} {b : Nat} {cs : List Value} {r : Option Nat} (h : BoxAt w b cs) (hg : w.grownBy w' r) (hne : some b ≠ r) : BoxAt w' b cs := h.keep (hg.block b h.lt hne)
theorem BoxAt.far {w : World} {b c : Nat} {cs : List Value} (h : BoxAt w b cs) (hne : b ≠ c) (o : Nat) (u : Value) : BoxAt (w.setCell ⟨c, o, none⟩ u) b cs := h.keep (heap_far hne)
theorem BoxAt.drew {w : World} {b : Nat} {cs : List Value} (h : BoxAt w b cs) : BoxAt w.drew b cs := h.keep rfl
/-- A slice of the call's own that has elements lies in a block. -/
theorem OwR.inBlock {α : Type} {E k : Nat} {R : Rel α} {w : World} {a : Option Addr} {n cap : Nat} {l : List α} {S : Nat → Prop} (h : OwR E k R w (.slice a n cap) l S) (hl : 0 < l.length) : ∃ g, a = some ⟨g, 0, none⟩ := by
  obtain ⟨rows, h1, h2, h3⟩ := h
  rcases h2.2 with ⟨hv, h0⟩ | ⟨g, cap', cur, hv, _⟩
  · simp only [Value.slice.injEq] at hv; omega
  · simp only [Value.slice.injEq] at hv
    exact ⟨g, hv.1⟩
theorem OwR.nones {α : Type} {E k : Nat} {R : Rel α} {w : World} {n cap : Nat} {l : List α} {S : Nat → Prop} (h : OwR E k R w (.slice none n cap) l S) : l = [] ∧ n = 0 ∧ cap = 0 := by
  obtain ⟨rows, h1, h2, h3⟩ := h
  rcases h2.2 with ⟨hv, h0⟩ | ⟨g, cap', cur, hv, _⟩
  · simp only [Value.slice.injEq, true_and] at hv
    exact ⟨List.eq_nil_of_length_eq_zero (by omega), hv.1, hv.2⟩
  · simp at hv
theorem OwR.shape2 {α : Type} {E k : Nat} {R : Rel α} {w : World} {v : Value} {l : List α} {S : Nat → Prop} (h : OwR E k R w v l S) : (v = .slice none 0 0 ∧ l = []) ∨ ∃ g cap, v = .slice (some ⟨g, 0, none⟩) l.length cap := by
  obtain ⟨rows, h1, h2, h3⟩ := h
  rcases h2.2 with ⟨hv, h0⟩ | ⟨g, cap', cur, hv, _⟩
  · exact .inl ⟨hv, List.eq_nil_of_length_eq_zero (by omega)⟩
  · exact .inr ⟨g, cap', hv⟩
theorem own_next {v v' : Value} {B : Nat} {w : World} (h : ∀ g, v.ownBlock = some g → B < g) (hB : B < w.heap.size) (hv : v'.ownBlock = v.ownBlock ∨ ∃ x, v'.ownBlock = some x ∧ w.heap.size ≤ x) : ∀ g, v'.ownBlock = some g → B < g := fun g hg => by
  rcases hv with e | ⟨y, e, hy⟩
  · exact h g (by rw [← e]; exact hg)
  · rw [e] at hg; cases hg; omega
theorem OwR.room {α : Type} {E k : Nat} {R : Rel α} {w : World} {a : Option Addr} {n cap : Nat} {l : List α} {S : Nat → Prop} (h : OwR E k R w (.slice a n cap) l S) : l.length ≤ cap ∧ cap ≤ maxLen := by
  obtain ⟨rows, h1, h2, h3⟩ := h
  rcases h2.2 with ⟨hv, h0⟩ | ⟨g, cap', cur, hv, -, -, h4, h5, -⟩
  · simp only [Value.slice.injEq] at hv
    exact ⟨by omega, by unfold maxLen; omega⟩
  · simp only [Value.slice.injEq] at hv
    obtain ⟨-, -, rfl⟩ := hv
    exact ⟨h4, h5⟩
end Go.Tk
