/- A part of the proof, laid together from: Plan, SnapD. -/
import Derived.Test.YtkefgapnghnjjaaGreatDoorPa01
import Derived.StillTail
import Derived.WalkKit
import Derived.Test.YtkefgapnghnjjaaGreatDoorPa08
set_option linter.unusedSimpArgs false
set_option linter.unusedVariables false
namespace Go.Tk
open Go
abbrev VP := Value → World → Prop
def VAt (V : List VP) (i : Nat) : VP := V.getD i (fun _ _ => True)
def planPut (vs : Nat → Value) : Nat → List Oper → Act → Act
  | _, [], a => a
  | i, o :: r, a => planPut vs (i + 1) r (a.put o.dst (vs i))
def planNeeds (n : Nat) (V : List VP) (vs : Nat → Value) (w : World) : List Edge → Prop
  | [] => True
  | e :: r => (Region.binds .any e = true → e.on < n → VAt V e.on (vs e.on) w) ∧ planNeeds n V vs w r
def planObl (P : Program) (ops : Array Oper) (J : World → Prop) (S : World → World → Prop) (n : Nat) (V : List VP) (F : (Nat → Value) → Act) (i : Nat) (o : Oper) : Prop :=
  ∀ (vs : Nat → Value) (w : World), J w → planNeeds n V vs w o.after.toList → ∀ K : Exit → Act → World → Prop, (∀ v w', S w w' → VAt V i v w' → K .normal ((F vs).put o.dst v) w') → wpList P ops K [o] (F vs) w
def planObls (P : Program) (ops : Array Oper) (J : World → Prop) (S : World → World → Prop) (n : Nat) (V : List VP) (F : (Nat → Value) → Act) : Nat → List Oper → Prop
  | _, [] => True
  | i, o :: r => planObl P ops J S n V F i o ∧ planObls P ops J S n V F (i + 1) r
def planHave (vs : Nat → Value) (w : World) : Nat → List VP → Prop
  | _, [] => True
  | i, V :: r => V (vs i) w ∧ planHave vs w (i + 1) r
theorem put_put (a : Act) (d : Option Tmp) (u v : Value) : (a.put d u).put d v = a.put d v := by
  cases d <;> simp [Act.put]
theorem put_self (a : Act) (t : Tmp) : a.put (some t) (a.tmps.getD t undef) = a := by
  obtain ⟨x, df⟩ := a
  simp only [Act.put]
  congr 1
  apply Array.ext
  · simp
  · intro j h1 h2
    by_cases hj : t = j
    · subst hj; simp [h2]
    · rw [Array.getElem_setIfInBounds_ne h2 hj]
theorem planPut_congr : ∀ (r : List Oper) (k : Nat) (a : Act) (vs vs' : Nat → Value), (∀ j, k ≤ j → vs j = vs' j) → planPut vs k r a = planPut vs' k r a
  | [], _, _, _, _, _ => rfl
  | o :: r, k, a, vs, vs', h => by
    rw [planPut, planPut, h k (Nat.le_refl _)]
    exact planPut_congr r (k + 1) _ vs vs' fun j hj => h j (by omega)
theorem planPut_fresh (vs : Nat → Value) (d : Option Tmp) (v : Value) : ∀ (r : List Oper) (k : Nat) (b : Act), (∀ o ∈ r, ∀ t, d = some t → o.dst ≠ some t) → (planPut vs k r b).put d v = planPut vs k r (b.put d v)
  | [], _, _, _ => rfl
  | o :: r, k, b, h => by
    rw [planPut, planPut, planPut_fresh vs d v r (k + 1) _ fun o' ho' => h o' (by simp [ho']), Act.put_comm b v (vs k) fun t ht => h o (by simp) t ht]
def upd1 (vs : Nat → Value) (i : Nat) (v : Value) : Nat → Value := fun j => if j = i then v else vs j
theorem planPut_put (vs : Nat → Value) (v : Value) : ∀ (l : List Oper) (k i : Nat) (a : Act) (o : Oper), l[i]? = some o → (l.filterMap (·.dst)).Nodup → planPut (upd1 vs (k + i) v) k l a = (planPut vs k l a).put o.dst v
  | [], _, _, _, _, h, _ => by simp at h
  | o' :: r, k, 0, a, o, h, hn => by
    simp only [List.getElem?_cons_zero, Option.some.injEq] at h
    subst h
    have hfr : ∀ o ∈ r, ∀ t, o'.dst = some t → o.dst ≠ some t := fun o ho t ht he => by
      rw [List.filterMap_cons, ht] at hn
      exact (List.nodup_cons.1 hn).1 (List.mem_filterMap.2 ⟨o, ho, he⟩)
    rw [planPut, planPut, planPut_fresh vs o'.dst v r (k + 1) _ hfr, put_put]
    rw [show upd1 vs (k + 0) v k = v by simp [upd1]]
    exact planPut_congr r (k + 1) _ _ _ fun j hj => by simp only [upd1]; rw [if_neg (by omega)]
  | o' :: r, k, i + 1, a, o, h, hn => by
    simp only [List.getElem?_cons_succ] at h
    have hn' : (r.filterMap (·.dst)).Nodup := by
      rw [List.filterMap_cons] at hn
      split at hn
      · exact hn
      · exact (List.nodup_cons.1 hn).2
    rw [planPut, planPut]
    have := planPut_put vs v r (k + 1) i (a.put o'.dst (vs k)) o h hn'
    rw [show k + (i + 1) = k + 1 + i by omega, show upd1 vs (k + 1 + i) v k = vs k by simp only [upd1]; rw [if_neg (by omega)]]
    exact this
theorem planPut_same (a : Act) : ∀ (l : List Oper) (k : Nat) (vs : Nat → Value), (∀ j o t, l[j]? = some o → o.dst = some t → vs (k + j) = a.tmps.getD t undef) → planPut vs k l a = a
  | [], _, _, _ => rfl
  | o :: r, k, vs, h => by
    rw [planPut]
    have e : a.put o.dst (vs k) = a := by
      cases hd : o.dst with
      | none => rfl
      | some t => rw [show vs k = a.tmps.getD t undef from h 0 o t rfl hd]; exact put_self a t
    rw [e]
    exact planPut_same a r (k + 1) vs fun j o t hj ht => by rw [show k + 1 + j = k + (j + 1) by omega]; exact h (j + 1) o t hj ht
theorem planNeeds_of {n : Nat} {V : List VP} {vs : Nat → Value} {w : World} : ∀ (l : List Edge), (∀ e ∈ l, Region.binds .any e = true → e.on < n → VAt V e.on (vs e.on) w) → planNeeds n V vs w l
  | [], _ => trivial
  | e :: r, h => ⟨h e (by simp), planNeeds_of r fun e he => h e (by simp [he])⟩
theorem planHave_of {vs : Nat → Value} {w : World} : ∀ (V : List VP) (k : Nat), (∀ i, i < V.length → VAt V i (vs (k + i)) w) → planHave vs w k V
  | [], _, _ => trivial
  | V :: r, k, h => ⟨h 0 (by simp), planHave_of r (k + 1) fun i hi => by
      have := h (i + 1) (by simp; omega)
      rw [show k + (i + 1) = k + 1 + i by omega] at this
      exact this⟩
theorem planObls_at {P : Program} {ops : Array Oper} {J : World → Prop} {S : World → World → Prop} {n : Nat} {V : List VP} {F : (Nat → Value) → Act} : ∀ (l : List Oper) (k i : Nat) (o : Oper), planObls P ops J S n V F k l → l[i]? = some o → planObl P ops J S n V F (k + i) o
  | [], _, _, _, _, h => by simp at h
  | o' :: r, k, 0, o, h, ho => by simp only [List.getElem?_cons_zero, Option.some.injEq] at ho; subst ho; exact h.1
  | o' :: r, k, i + 1, o, h, ho => by
    have := planObls_at r (k + 1) i o h.2 (by simpa using ho)
    rwa [show k + 1 + i = k + (i + 1) by omega] at this
theorem upon_imp {P : Program} {o : Oper} {a : Act} {K K' : Act → World → Prop} {Q Q' : Exit → Act → World → Prop} (hK : ∀ a w, K a w → K' a w) (hQ : ∀ c a w, Q (.panic c) a w → Q' (.panic c) a w) (hL : LetsOut Q → LetsOut Q') :
    ∀ r, o.upon P a K Q r → o.upon P a K' Q' r := by
  intro r hh
  cases r with
  | ok n w' =>
    cases n <;> simp only [Oper.upon] at hh ⊢ <;>
      first
        | exact hK _ _ hh
        | exact Calls.mono hh (fun e w'' he => by cases e <;> first | exact hK _ _ he | exact hQ _ _ _ he | exact hL he)
        | exact Rows.mono hh (fun _ _ he => hK _ _ he)
  | halt x w' => cases x <;> simp only [Oper.upon] at hh ⊢ <;> first | exact hQ _ _ _ hh | exact hh
def todo (n : Nat) (listed : Array Bool) : Nat := (List.range n).countP fun i => !listed.getD i false
theorem count_one {p p' : Nat → Bool} {i : Nat} (hp : p i = true) (hp' : p' i = false) (ho : ∀ j, j ≠ i → p' j = p j) : ∀ (l : List Nat), l.Nodup → i ∈ l → l.countP p' + 1 = l.countP p
  | [], _, h => by simp at h
  | x :: l, hn, h => by
    have hn' := List.nodup_cons.1 hn
    by_cases hx : x = i
    · subst hx
      have e : l.countP p' = l.countP p := List.countP_congr fun j hj => by
        rw [ho j (by rintro rfl; exact hn'.1 hj)]
      rw [List.countP_cons, List.countP_cons, hp, hp', e]; simp
    · have hi : i ∈ l := by
        rcases List.mem_cons.1 h with h | h
        · exact absurd h.symm hx
        · exact h
      have := count_one hp hp' ho l hn'.2 hi
      rw [List.countP_cons, List.countP_cons, ho x hx]; omega
theorem todo_set {n i : Nat} {listed : Array Bool} (hi : i < n) (hs : i < listed.size) (h : listed.getD i false = false) : todo n (listed.setIfInBounds i true) + 1 = todo n listed := by
  refine count_one (i := i) (by simp [h]) (by simp [hs]) (fun j hj => ?_) _ List.nodup_range (List.mem_range.2 hi)
  rw [getD_set_ne false (Ne.symm hj)]
def planB (l : List Oper) (n : Nat) : Bool :=
  decide (n ≤ l.length) && decide (((l.take n).filterMap (·.dst)).Nodup) && (List.range n).all (fun i => ((l[i]?).map fun o => o.after.all fun e => !Region.binds .any e || decide (e.on < i)).getD true) &&
    (decide (n = l.length) || (Region.sinkB .any l.toArray n && Region.chainB .any l.toArray n)) && Region.seqB .any l.toArray (l.length - n) n ((Array.replicate n true) ++ Array.replicate (l.length - n) false)
theorem wpAny_plan {P : Program} {l : List Oper} {n : Nat} {Q : Exit → Act → World → Prop} {a0 : Act} {J : World → Prop} {S : World → World → Prop} {V : List VP} (hB : planB l n = true) (_hV : V.length = n)
    (hJS : ∀ w w', J w → S w w' → J w') (hst : ∀ i v w w', J w → S w w' → VAt V i v w → VAt V i v w')
    (hobl : planObls P l.toArray J S n V (fun vs => planPut vs 0 (l.take n) a0) 0 (l.take n))
    (hend : ∀ vs w, J w → (∀ i, i < n → VAt V i (vs i) w) → wpList P l.toArray Q (l.drop n) (planPut vs 0 (l.take n) a0) w) :
    ∀ (f : Nat) (listed : Array Bool) (vs : Nat → Value) (w : World), HeadInv .any l.toArray n listed → todo n listed = f → J w → (∀ i, i < n → listed.getD i false = true → VAt V i (vs i) w) →
      wpAny P .any l.toArray Q (f + (l.length - n)) listed (planPut vs 0 (l.take n) a0) w := by
  simp only [planB, Bool.and_eq_true, decide_eq_true_eq, Bool.or_eq_true] at hB
  obtain ⟨⟨⟨⟨hn, hnd⟩, hord⟩, htl⟩, hseq⟩ := hB
  have htk : (l.take n).length = n := by simp; omega
  intro f
  induction f with
  | zero =>
    intro listed vs w inv ht hJ hv
    have hall : ∀ i, i < n → listed.getD i false = true := fun i hi => by
      have := List.countP_eq_zero.1 ht i (List.mem_range.2 hi)
      simpa using this
    have hle : listed = (Array.replicate n true) ++ Array.replicate (l.length - n) false := by
      have hsz : listed.size = l.length := by rw [inv.size]; simp
      apply Array.ext
      · simp; omega
      · intro j h1 h2
        by_cases hj : j < n
        · have := hall j hj
          simp [h1] at this
          rw [this, Array.getElem_append_left (by simpa using hj)]
          simp
        · have := inv.tail j (by omega) (by simpa [hsz] using h1)
          simp [h1] at this
          rw [this, Array.getElem_append_right (by simpa using hj)]
          simp
    have hdl : (l.drop n).length = l.length - n := by simp
    have := wpAny_of_seq (md := .any) (Q' := Q) (l.drop n) n listed (planPut vs 0 (l.take n) a0) w (fun j => by simp [List.getElem?_drop]) (by rw [hdl, hle]; exact hseq) (hend vs w hJ fun i hi => hv i hi (hall i hi))
    rw [hdl] at this
    rw [Nat.zero_add]; exact this
  | succ f ih =>
    intro listed vs w inv ht hJ hv
    have hsz : listed.size = l.length := by rw [inv.size]; simp
    obtain ⟨i0, hi0, hun0, hmin⟩ : ∃ i, i < n ∧ listed.getD i true = false ∧ ∀ j, j < i → listed.getD j false = true := by
      have hex : ∃ i, i < n ∧ listed.getD i false = false := by
        have hpos : 0 < (List.range n).countP fun i => !listed.getD i false := by rw [todo] at ht; omega
        obtain ⟨i, hi, hp⟩ := List.countP_pos_iff.1 hpos
        exact ⟨i, List.mem_range.1 hi, by simpa using hp⟩
      have key : ∀ m i, i < n → listed.getD i false = false → i ≤ m → ∃ i, i < n ∧ listed.getD i false = false ∧ ∀ j, j < i → listed.getD j false = true := by
        intro m
        induction m with
        | zero => intro i hi hf hm; exact ⟨i, hi, hf, fun j hj => by omega⟩
        | succ m ihm =>
          intro i hi hf hm
          by_cases hsm : ∃ j, j < i ∧ listed.getD j false = false
          · obtain ⟨j, hj, hjf⟩ := hsm
            exact ihm j (by omega) hjf (by omega)
          · refine ⟨i, hi, hf, fun j hj => ?_⟩
            cases hc : listed.getD j false with
            | true => rfl
            | false => exact absurd ⟨j, hj, hc⟩ hsm
      obtain ⟨i, hi, hf⟩ := hex
      obtain ⟨i, hi, hf, hmin⟩ := key i i hi hf (Nat.le_refl _)
      exact ⟨i, hi, getD_in (by omega) hf, hmin⟩
    have hlow : ∀ t, n ≤ t → t ∉ Region.ready .any l.toArray listed := fun t ht' hr => by
      rcases htl with htl | htl
      · obtain ⟨_, o, ho, _⟩ := mem_ready.1 hr
        have := (Array.getElem?_eq_some_iff.1 ho).1
        simp at this; omega
      · by_cases hnl : n < l.length
        · exact tail_waits htl.1 htl.2 (by simpa using hnl) inv _ i0 rfl hi0 hun0 t ht' hr
        · obtain ⟨_, o, ho, _⟩ := mem_ready.1 hr
          have := (Array.getElem?_eq_some_iff.1 ho).1
          simp at this; omega
    have hready : i0 ∈ Region.ready .any l.toArray listed := by
      have hlt : i0 < l.length := by omega
      refine mem_ready.2 ⟨hun0, l[i0], by simp, fun e he hb => ?_⟩
      have h1 := List.all_eq_true.1 hord i0 (List.mem_range.2 hi0)
      rw [List.getElem?_eq_getElem hlt] at h1
      simp only [Option.map_some, Option.getD_some] at h1
      have h2 := Array.all_eq_true'.1 h1 e he
      simp only [Bool.or_eq_true, Bool.not_eq_eq_eq_not, Bool.not_true, decide_eq_true_eq] at h2
      rcases h2 with h2 | h2
      · rw [hb] at h2; cases h2
      · exact hmin _ h2
    rw [show f + 1 + (l.length - n) = (f + (l.length - n)) + 1 by omega]
    refine ⟨fun h => (by rw [h] at hready; cases hready), fun i hi => ?_⟩
    have hin : i < n := by
      rcases Nat.lt_or_ge i n with h | h
      · exact h
      · exact absurd hi (hlow i h)
    obtain ⟨hun, o, ho, hdep⟩ := mem_ready.1 hi
    have hlo : l[i]? = some o := by simpa using ho
    have hto : (l.take n)[i]? = some o := by rw [List.getElem?_take_of_lt hin]; exact hlo
    have hb := planObls_at (l.take n) 0 i o hobl hto
    rw [Nat.zero_add] at hb
    have hneed : planNeeds n V vs w o.after.toList := planNeeds_of _ fun e he hbd hlt => hv e.on hlt (hdep e (by simpa using he) hbd)
    have hgo : ∀ v w', S w w' → VAt V i v w' → wpAny P .any l.toArray Q (f + (l.length - n)) (listed.setIfInBounds i true) ((planPut vs 0 (l.take n) a0).put o.dst v) w' := fun v w' hS hV => by
      have e := planPut_put vs v (l.take n) 0 i a0 o hto hnd
      rw [Nat.zero_add] at e
      rw [← e]
      refine ih _ (upd1 vs i v) w' (inv.set hi hin) ?_ (hJS w w' hJ hS) fun j hj hl => ?_
      · have := todo_set (listed := listed) hin (by omega) (getD_both hun); omega
      · by_cases hji : j = i
        · subst hji; simpa [upd1] using hV
        · rw [getD_set_ne false (Ne.symm hji)] at hl
          have := hst j (vs j) w w' hJ hS (hv j hj hl)
          simpa [upd1, hji] using this
    have hw := hb vs w hJ hneed (fun x a' w' => match x with | .normal => wpAny P .any l.toArray Q (f + (l.length - n)) (listed.setIfInBounds i true) a' w' | e => Q e a' w') hgo
    simp only [wpOp, ho]
    simp only [wpList] at hw
    split
    · rename_i hwt
      rw [if_pos hwt] at hw
      have hL : LetsOut (fun (x : Exit) a' w' => match x with | .normal => wpAny P .any l.toArray Q (f + (l.length - n)) (listed.setIfInBounds i true) a' w' | e => Q e a' w') → LetsOut Q := fun ⟨a, w, h⟩ => ⟨a, w, h⟩
      rcases hw with hw | ⟨hw, hlo'⟩
      · exact .inl (upon_imp (fun _ _ h => h) (fun _ _ _ h => h) hL _ hw)
      · exact .inr ⟨hw, hL hlo'⟩
    · rename_i hwt
      rw [if_neg hwt] at hw
      exact hw
theorem wp_region_plan {P : Program} {id : Nat} {Q : Exit → Act → World → Prop} {a : Act} {w : World} {l : List Oper} (n : Nat) (J : World → Prop) (S : World → World → Prop) (V : List VP) (hm : P.follows .mixedOrders = true) (hB : planB l n = true) (hV : V.length = n)
    (hJ : J { w with drawn := w.drawn + 1 }) (hJS : ∀ w w', J w → S w w' → J w') (hst : ∀ i v w w', J w → S w w' → VAt V i v w → VAt V i v w')
    (hobl : planObls P l.toArray J S n V (fun vs => planPut vs 0 (l.take n) a) 0 (l.take n))
    (hend : ∀ vs w, J w → planHave vs w 0 V → wpList P l.toArray Q (l.drop n) (planPut vs 0 (l.take n) a) w) : (Code.region id l.toArray true).wp P Q a w := by
  refine wp_region_any hm ?_
  have hB' := hB
  simp only [planB, Bool.and_eq_true, decide_eq_true_eq, Bool.or_eq_true] at hB
  obtain ⟨⟨⟨⟨hn, hnd⟩, hord⟩, htl⟩, hseq⟩ := hB
  obtain ⟨vs0, hsame⟩ : ∃ vs0, planPut vs0 0 (l.take n) a = a := ⟨fun i => match (l[i]?).bind (·.dst) with | some t => a.tmps.getD t undef | none => undef, planPut_same a _ _ _ fun j o t hj ht => by
    have hjn : j < n := by
      rcases Nat.lt_or_ge j (l.take n).length with h | h
      · simp at h; omega
      · rw [List.getElem?_eq_none h] at hj; cases hj
    rw [List.getElem?_take_of_lt hjn] at hj
    rw [Nat.zero_add, hj]; simp [ht]⟩
  have inv0 : HeadInv .any l.toArray n (Array.replicate l.toArray.size false) :=
    ⟨by simp, fun j oj _ hl => (by rw [getD_replicate_false] at hl; cases hl), fun t _ ht => getD_in (by simpa using ht) (getD_replicate_false _ _)⟩
  have ht0 : todo n (Array.replicate l.toArray.size false) = n := by
    rw [todo, List.countP_eq_length.2 fun i _ => by rw [getD_replicate_false]; rfl, List.length_range]
  have := wpAny_plan (Q := Q) (a0 := a) hB' hV hJS hst hobl (fun vs w hJ h => hend vs w hJ (planHave_of V 0 fun i hi => by rw [Nat.zero_add]; exact h i (by omega))) n _ vs0 _ inv0 ht0 hJ (fun i _ hl => by rw [getD_replicate_false] at hl; cases hl)
  rw [hsame] at this
  have hfu : n + (l.length - n) = l.toArray.size := by simp; omega
  rw [hfu] at this
  exact this
def eqV (c : Value) : VP := fun v _ => v = c
theorem eqV_stab {J : World → Prop} {S : World → World → Prop} (c : Value) : ∀ v w w', J w → S w w' → eqV c v w → eqV c v w' := fun _ _ _ _ _ h => h
def planStab (J : World → Prop) (S : World → World → Prop) : List VP → Prop
  | [] => True
  | V :: r => (∀ v w w', J w → S w w' → V v w → V v w') ∧ planStab J S r
theorem planStab_at {J : World → Prop} {S : World → World → Prop} : ∀ (V : List VP), planStab J S V → ∀ i v w w', J w → S w w' → VAt V i v w → VAt V i v w'
  | [], _, i, _, _, _, _, _, h => by simp [VAt]
  | V :: r, hs, 0, v, w, w', hJ, hS, h => hs.1 v w w' hJ hS h
  | V :: r, hs, i + 1, v, w, w', hJ, hS, h => by
    have := planStab_at r hs.2 i v w w' hJ hS (by simpa [VAt] using h)
    simpa [VAt] using this
end Go.Tk

namespace Go.Tk
open Go Go.RowKit
theorem readNum_back {n : Int} (h0 : 0 ≤ n) (hn : n ≤ 1099511627776) (t : Bytes) : readNumber (numB n ++ t) = (n, t, 0) := by
  have h := rdNum_back h0 hn t
  rw [rdNum, if_neg (by simp)] at h
  simp only [Prod.mk.injEq, Rd.mk.injEq] at h
  exact Prod.ext h.1 (Prod.ext h.2.1 h.2.2)
theorem readText_back' {s : Bytes} (h : s.length ≤ 5000) (t : Bytes) : readText (textB s ++ t) = (s, t, 0) := by
  have h := rdText_back h t
  rw [rdText, if_neg (by simp)] at h
  simp only [Prod.mk.injEq, Rd.mk.injEq] at h
  exact Prod.ext h.1 (Prod.ext h.2.1 h.2.2)
theorem grownBy_more {a b c : World} {R : Nat} {r : Option Nat} (h : a.grownBy b (some R)) (hg : b.grownBy c r) (hr : ∀ k, r = some k → a.heap.size ≤ k) : a.grownBy c (some R) :=
  ⟨hg.os.trans h.os, hg.tape.trans h.tape, hg.output.trans h.output, Nat.le_trans h.size hg.size, fun i hi hne => (hg.block i (Nat.lt_of_lt_of_le hi h.size) (fun e => by have := hr i e.symm; omega)).trans (h.block i hi hne)⟩
theorem drewN_below {w : World} (q : Nat) : Below w.heap.size w (w.drewN q) := ⟨rfl, rfl, rfl, Nat.le_refl _, fun _ _ => rfl⟩
end Go.Tk
namespace Go.Proofs.YtkefgapnghnjjaaGreatDoor
open Go.RowKit Go.Tk
set_option linter.unusedSimpArgs false in
set_option maxRecDepth 100000 in
set_option maxHeartbeats 1600000 in
theorem rnum_calls (n : Int) (t : List UInt8) (B : Nat) (w : World) (hx : BoxAt w B [.string ⟨(numB n ++ t).toArray⟩, .int .i64 0]) (h0 : 0 ≤ n) (hn : n ≤ 1099511627776) (hl : (numB n ++ t).length ≤ 1000000) :
    Calls Tryz.prog 113 #[.pointer (some ⟨B, 0, none⟩)] w fun e w' => e = .returned (.int .i64 n) ∧ BoxAt w' B [.string ⟨t.toArray⟩, .int .i64 0] ∧ w.grownBy w' (some B) := by
  have HX := Lib.hid hx
  have HR := Lib.hid (readNum_back h0 hn t)
  have HC := Lib.hid (readNumber_calls (numB n ++ t) (by omega) w)
  rw [HR.out] at HC
  clear hx HR hl
  generalize numB n ++ t = str at *
  have c0 := HX.out.cell 0 _ rfl; have c1 := HX.out.cell 1 _ rfl
  go_enter Tryz.func113, Tryz.ntmps113
  go_wp2_with fail
  refine HC.out.mono ?_
  rintro e w2 ⟨rfl, q, rfl⟩
  have hbx := HX.out.below (drewN_below q)
  have hg := grownBy_any (drewN_below (w := w) q) (some B)
  clear c0 c1 HC
  generalize w.drewN q = w2 at *
  have c0 := hbx.cell 0 _ rfl; have c1 := hbx.cell 1 _ rfl; have t0 := hbx.thaw 0; have t1 := hbx.thaw 1
  go_wp2
  go_ret
  exact ⟨rfl, (hbx.set 0 (by simp) _).set 1 (by simp) _, grownBy_set1 (grownBy_set1 hg _ _) _ _⟩
set_option linter.unusedSimpArgs false in
set_option maxRecDepth 100000 in
set_option maxHeartbeats 1600000 in
theorem rtext_calls (s : List UInt8) (t : List UInt8) (B : Nat) (w : World) (hx : BoxAt w B [.string ⟨(textB s ++ t).toArray⟩, .int .i64 0]) (hs : s.length ≤ 5000) (hl : (textB s ++ t).length ≤ 1000000) :
    Calls Tryz.prog 116 #[.pointer (some ⟨B, 0, none⟩)] w fun e w' => e = .returned (.string ⟨s.toArray⟩) ∧ BoxAt w' B [.string ⟨t.toArray⟩, .int .i64 0] ∧ w.grownBy w' (some B) := by
  have HX := Lib.hid hx
  have HR := Lib.hid (readText_back' hs t)
  have HC := Lib.hid (readText_calls (textB s ++ t) (by omega) w)
  rw [HR.out] at HC
  clear hx HR hl
  generalize textB s ++ t = str at *
  have c0 := HX.out.cell 0 _ rfl; have c1 := HX.out.cell 1 _ rfl
  go_enter Tryz.func116, Tryz.ntmps116
  go_wp2_with fail
  refine HC.out.mono ?_
  rintro e w2 ⟨rfl, q, rfl⟩
  have hbx := HX.out.below (drewN_below q)
  have hg := grownBy_any (drewN_below (w := w) q) (some B)
  clear c0 c1 HC
  generalize w.drewN q = w2 at *
  have c0 := hbx.cell 0 _ rfl; have c1 := hbx.cell 1 _ rfl; have t0 := hbx.thaw 0; have t1 := hbx.thaw 1
  go_wp2
  go_ret
  exact ⟨rfl, (hbx.set 0 (by simp) _).set 1 (by simp) _, grownBy_set1 (grownBy_set1 hg _ _) _ _⟩
set_option linter.unusedSimpArgs false in
set_option maxRecDepth 100000 in
set_option maxHeartbeats 1600000 in
theorem rcount_calls (n : Nat) (most : Int) (t : List UInt8) (B : Nat) (w : World) (hx : BoxAt w B [.string ⟨(numB n ++ t).toArray⟩, .int .i64 0]) (hn : (n : Int) ≤ most) (hm : most ≤ 1099511627776) (hl : (numB n ++ t).length ≤ 1000000) :
    Calls Tryz.prog 114 #[.pointer (some ⟨B, 0, none⟩), .int .i64 most] w fun e w' => e = .returned (.int .i64 n) ∧ BoxAt w' B [.string ⟨t.toArray⟩, .int .i64 0] ∧ w.grownBy w' (some B) := by
  have HC := Lib.hid (rnum_calls (n : Int) t B w hx (by omega) (by omega) hl)
  clear hx
  go_enter Tryz.func114, Tryz.ntmps114
  go_wp2_with fail
  refine HC.out.mono ?_
  rintro e w2 ⟨rfl, hx2, hg2⟩
  have c1 := hx2.cell 1 _ rfl
  clear HC
  go_wp2
  go_ret
  exact ⟨rfl, hx2, hg2⟩
end Go.Proofs.YtkefgapnghnjjaaGreatDoor
