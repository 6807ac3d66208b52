/- A part of the proof, laid together from: RepL, PlanD, PlanE, PlanS, Itoa, Names. -/
import Derived.Test.YtkefgapnghnjjaaGreatDoorPa18
import Derived.Test.YtkefgapnghnjjaaGreatDoorPa09
import Derived.Test.YtkefgapnghnjjaaGreatDoorPa08
import Derived.Test.YtkefgapnghnjjaaGreatDoorPa07
import Derived.Test.YtkefgapnghnjjaaGreatDoorPa06
import Derived.Lib.ItoaNum
import Derived.Lib.Strings
import Derived.Lib.ItoaWalk
import Derived.Test.YtkefgapnghnjjaaGreatDoorPa02
set_option linter.unusedSimpArgs false
set_option linter.unusedVariables false
namespace Go.Tk
open Go Go.RowKit
def rsR (A : List Bytes) (k : Nat) : ReplicaD := ⟨⟨0, A⟩, [], stK A k⟩
def rsC (A : List Bytes) (k i : Nat) : ReplicaD := ⟨⟨(k : Int), A.drop k⟩, snapB (stK A k), stK A i⟩
def rsT (A : List Bytes) (k : Nat) : ReplicaD := ⟨⟨(k : Int), []⟩, snapB (stK A k), stK A k⟩
theorem noReplica_fine : RepFine noReplica noState := ⟨noLog_ok, noState_ok, by simp [noReplica, noLog, noState, logLast], .inl ⟨rfl, rfl, rfl⟩⟩
section
variable {A : List Bytes} (h : KOk A)
include h
theorem rsR_fine {k : Nat} (hk : k ≤ A.length) : RepFine (rsR A k) noState := by
  obtain ⟨h1, h2⟩ := stK_ok h hk
  have hl := h.len
  refine ⟨⟨by simp [rsR], by simp only [rsR]; omega, h.dec⟩, h1, ?_, .inl ⟨rfl, rfl, rfl⟩⟩
  simp only [rsR, logLast, h2]; omega
theorem rsR_index {k : Nat} (hk : k ≤ A.length) : (rsR A k).state.index = k := (stK_ok h hk).2
theorem rsC_fine {k i : Nat} (h0 : 0 < k) (hk : k ≤ i) (hi : i ≤ A.length) : RepFine (rsC A k i) (stK A k) := by
  obtain ⟨h1, h2⟩ := stK_ok h hi
  obtain ⟨h3, h4⟩ := stK_ok h (Nat.le_trans hk hi)
  have hl := h.len
  refine ⟨⟨by simp only [rsC]; omega, by simp only [rsC, List.length_drop]; omega, fun s hs => h.dec s (List.mem_of_mem_drop hs)⟩, h1, ?_, .inr ⟨by simp only [rsC]; omega, h3, h4, rfl⟩⟩
  simp only [rsC, logLast, h2, List.length_drop]; omega
theorem rsT_fine {k : Nat} (h0 : 0 < k) (hk : k ≤ A.length) : RepFine (rsT A k) (stK A k) := by
  obtain ⟨h3, h4⟩ := stK_ok h hk
  have hl := h.len
  refine ⟨⟨by simp only [rsT]; omega, by simp [rsT], fun s hs => by cases hs⟩, h3, ?_, .inr ⟨by simp only [rsT]; omega, h3, h4, rfl⟩⟩
  simp only [rsT, logLast, h4, List.length_nil]; omega
theorem rs_compact {k : Nat} (hk : k ≤ A.length) : (⟨⟨(rsR A k).state.index, (rsR A k).log.entries.drop ((rsR A k).state.index - (rsR A k).log.base).toNat⟩, snapB (rsR A k).state, (rsR A k).state⟩ : ReplicaD) = rsC A k k := by
  have h2 := (stK_ok h hk).2
  simp only [rsR, rsC, h2, Int.sub_zero, Int.toNat_natCast]
theorem rs_install {k : Nat} (h0 : 0 < k) (hk : k ≤ A.length) : (⟨⟨(stK A k).index, if (stK A k).index ≤ logLast noReplica.log then noReplica.log.entries.drop ((stK A k).index - noReplica.log.base).toNat else []⟩, snapB (stK A k), stK A k⟩ : ReplicaD) = rsT A k := by
  have h2 := (stK_ok h hk).2
  rw [h2, if_neg (by simp [noReplica, noLog, logLast]; omega)]; rfl
end
theorem rs_first (A : List Bytes) : (⟨⟨noReplica.log.base, A⟩, noReplica.snap, noReplica.state⟩ : ReplicaD) = rsR A 0 := rfl
theorem rs_apply (A : List Bytes) (j k : Nat) : (⟨(rsR A j).log, (rsR A j).snap, stK A k⟩ : ReplicaD) = rsR A k := rfl
theorem rs_applyC (A : List Bytes) (k j i : Nat) : (⟨(rsC A k j).log, (rsC A k j).snap, stK A i⟩ : ReplicaD) = rsC A k i := rfl
theorem rs_hear (A : List Bytes) (k : Nat) : (⟨⟨(rsT A k).log.base, A.drop k⟩, (rsT A k).snap, (rsT A k).state⟩ : ReplicaD) = rsC A k k := rfl
theorem putGo_nil : ∀ (b : List Bytes) (out : List Bytes), (∀ s ∈ b, decErr s = 0) → putGo b out.length out = (out ++ b, 0)
  | [], out, _ => by simp [putGo]
  | s :: r, out, h => by
    have hs := h s (by simp)
    rw [putGo, if_neg (by simp [hs]), if_neg (by simp)]
    have := putGo_nil r (out ++ [s]) (fun x hx => h x (by simp [hx]))
    rw [List.take_of_length_le (Nat.le_refl _), show out.length + 1 = (out ++ [s]).length by simp, this]; simp
theorem put_last {b : Int} {es more : List Bytes} {f : Int} (hl : LogOk ⟨b, es⟩) (hm : ∀ s ∈ more, decErr s = 0) (hf : f = b + es.length) (hlen : es.length + more.length ≤ 400) : logPut ⟨b, es⟩ f more = (⟨b, es ++ more⟩, 0) := by
  have hb := hl.base
  rw [put_eq hl (by simp only; omega) (by simp only [logLast]; omega) (by omega)]
  have e : (f - b).toNat = es.length := by omega
  simp only [e]
  rw [putGo_nil more es hm, if_neg (by simp), if_neg (by simp; omega)]
end Go.Tk

namespace Go.Tk
open Go
end Go.Tk

namespace Go.Tk
open Go
abbrev VE := (Nat → Bool) → (Nat → Value) → Value → World → Prop
def VEAt (V : List VE) (i : Nat) : VE := V.getD i (fun _ _ _ _ => True)
def doneAt (done : Nat → Bool) (i : Nat) : Nat → Bool := fun j => if j = i then true else done j
abbrev SE := Nat → (Nat → Value) → Value → World → World → Prop
def planOblE (P : Program) (ops : Array Oper) (J : World → Prop) (S : SE) (n : Nat) (V : List VE) (F : (Nat → Value) → Act) (i : Nat) (o : Oper) : Prop :=
  ∀ (done : Nat → Bool) (vs : Nat → Value) (w : World), J w → done i = false → (∀ j, j < n → done j = true → VEAt V j done vs (vs j) w) → (∀ e ∈ o.after.toList, Region.binds .any e = true → e.on < n → done e.on = true) →
    ∀ K : Exit → Act → World → Prop, (∀ v w', S i vs v w w' → VEAt V i done vs v w' → K .normal ((F vs).put o.dst v) w') → wpList P ops K [o] (F vs) w
def planOblsE (P : Program) (ops : Array Oper) (J : World → Prop) (S : SE) (n : Nat) (V : List VE) (F : (Nat → Value) → Act) : Nat → List Oper → Prop
  | _, [] => True
  | i, o :: r => planOblE P ops J S n V F i o ∧ planOblsE P ops J S n V F (i + 1) r
theorem planOblsE_at {P : Program} {ops : Array Oper} {J : World → Prop} {S : SE} {n : Nat} {V : List VE} {F : (Nat → Value) → Act} : ∀ (l : List Oper) (k i : Nat) (o : Oper), planOblsE P ops J S n V F k l → l[i]? = some o → planOblE P ops J S n V F (k + i) o
  | [], _, _, _, _, h => by simp at h
  | o' :: r, k, 0, o, h, ho => by simp only [List.getElem?_cons_zero, Option.some.injEq] at ho; subst ho; exact h.1
  | o' :: r, k, i + 1, o, h, ho => by
    have := planOblsE_at r (k + 1) i o h.2 (by simpa using ho)
    rwa [show k + 1 + i = k + (i + 1) by omega] at this
def planHaveE (done : Nat → Bool) (vs : Nat → Value) (w : World) : Nat → List VE → Prop
  | _, [] => True
  | i, V :: r => V done vs (vs i) w ∧ planHaveE done vs w (i + 1) r
theorem planHaveE_of {done : Nat → Bool} {vs : Nat → Value} {w : World} : ∀ (V : List VE) (k : Nat), (∀ i, i < V.length → VEAt V i done vs (vs (k + i)) w) → planHaveE done vs w k V
  | [], _, _ => trivial
  | V :: r, k, h => ⟨h 0 (by simp), planHaveE_of r (k + 1) fun i hi => by
      have := h (i + 1) (by simp; omega)
      rw [show k + (i + 1) = k + 1 + i by omega] at this
      exact this⟩
theorem wpAny_planE {P : Program} {l : List Oper} {n : Nat} {Q : Exit → Act → World → Prop} {a0 : Act} {J : World → Prop} {S : SE} {V : List VE} (hB : planB l n = true) (_hV : V.length = n)
    (hJS : ∀ i vs x w w', i < n → J w → S i vs x w w' → J w') (hst : ∀ i j done vs x w w', i < n → j < n → i ≠ j → done i = false → done j = true → Region.waitsFor .any l.toArray j i = false → J w → S i vs x w w' → VEAt V i done vs x w' → VEAt V j done vs (vs j) w → VEAt V j (doneAt done i) (upd1 vs i x) (vs j) w')
    (hVself : ∀ i done vs v w, i < n → VEAt V i done vs v w → VEAt V i (doneAt done i) (upd1 vs i v) v w)
    (hobl : planOblsE P l.toArray J S n V (fun vs => planPut vs 0 (l.take n) a0) 0 (l.take n))
    (hend : ∀ done vs w, J w → (∀ i, i < n → done i = true) → (∀ i, i < n → VEAt V i done vs (vs i) w) → wpList P l.toArray Q (l.drop n) (planPut vs 0 (l.take n) a0) w) :
    ∀ (f : Nat) (listed : Array Bool) (vs : Nat → Value) (w : World), HeadInv .any l.toArray n listed → todo n listed = f → J w → (∀ i, i < n → listed.getD i false = true → VEAt V i (fun j => listed.getD j false) vs (vs i) w) →
      wpAny P .any l.toArray Q (f + (l.length - n)) listed (planPut vs 0 (l.take n) a0) w := by
  simp only [planB, Bool.and_eq_true, decide_eq_true_eq, Bool.or_eq_true] at hB
  obtain ⟨⟨⟨⟨hn, hnd⟩, hord⟩, htl⟩, hseq⟩ := hB
  have htk : (l.take n).length = n := by simp; omega
  intro f
  induction f with
  | zero =>
    intro listed vs w inv ht hJ hv
    have hall : ∀ i, i < n → listed.getD i false = true := fun i hi => by
      have := List.countP_eq_zero.1 ht i (List.mem_range.2 hi)
      simpa using this
    have hle : listed = (Array.replicate n true) ++ Array.replicate (l.length - n) false := by
      have hsz : listed.size = l.length := by rw [inv.size]; simp
      apply Array.ext
      · simp; omega
      · intro j h1 h2
        by_cases hj : j < n
        · have := hall j hj
          simp [h1] at this
          rw [this, Array.getElem_append_left (by simpa using hj)]
          simp
        · have := inv.tail j (by omega) (by simpa [hsz] using h1)
          simp [h1] at this
          rw [this, Array.getElem_append_right (by simpa using hj)]
          simp
    have hdl : (l.drop n).length = l.length - n := by simp
    have := wpAny_of_seq (md := .any) (Q' := Q) (l.drop n) n listed (planPut vs 0 (l.take n) a0) w (fun j => by simp [List.getElem?_drop]) (by rw [hdl, hle]; exact hseq) (hend (fun j => listed.getD j false) vs w hJ hall fun i hi => hv i hi (hall i hi))
    rw [hdl] at this
    rw [Nat.zero_add]; exact this
  | succ f ih =>
    intro listed vs w inv ht hJ hv
    have hsz : listed.size = l.length := by rw [inv.size]; simp
    obtain ⟨i0, hi0, hun0, hmin⟩ : ∃ i, i < n ∧ listed.getD i true = false ∧ ∀ j, j < i → listed.getD j false = true := by
      have hex : ∃ i, i < n ∧ listed.getD i false = false := by
        have hpos : 0 < (List.range n).countP fun i => !listed.getD i false := by rw [todo] at ht; omega
        obtain ⟨i, hi, hp⟩ := List.countP_pos_iff.1 hpos
        exact ⟨i, List.mem_range.1 hi, by simpa using hp⟩
      have key : ∀ m i, i < n → listed.getD i false = false → i ≤ m → ∃ i, i < n ∧ listed.getD i false = false ∧ ∀ j, j < i → listed.getD j false = true := by
        intro m
        induction m with
        | zero => intro i hi hf hm; exact ⟨i, hi, hf, fun j hj => by omega⟩
        | succ m ihm =>
          intro i hi hf hm
          by_cases hsm : ∃ j, j < i ∧ listed.getD j false = false
          · obtain ⟨j, hj, hjf⟩ := hsm
            exact ihm j (by omega) hjf (by omega)
          · refine ⟨i, hi, hf, fun j hj => ?_⟩
            cases hc : listed.getD j false with
            | true => rfl
            | false => exact absurd ⟨j, hj, hc⟩ hsm
      obtain ⟨i, hi, hf⟩ := hex
      obtain ⟨i, hi, hf, hmin⟩ := key i i hi hf (Nat.le_refl _)
      exact ⟨i, hi, getD_in (by omega) hf, hmin⟩
    have hlow : ∀ t, n ≤ t → t ∉ Region.ready .any l.toArray listed := fun t ht' hr => by
      rcases htl with htl | htl
      · obtain ⟨_, o, ho, _⟩ := mem_ready.1 hr
        have := (Array.getElem?_eq_some_iff.1 ho).1
        simp at this; omega
      · by_cases hnl : n < l.length
        · exact tail_waits htl.1 htl.2 (by simpa using hnl) inv _ i0 rfl hi0 hun0 t ht' hr
        · obtain ⟨_, o, ho, _⟩ := mem_ready.1 hr
          have := (Array.getElem?_eq_some_iff.1 ho).1
          simp at this; omega
    have hready : i0 ∈ Region.ready .any l.toArray listed := by
      have hlt : i0 < l.length := by omega
      refine mem_ready.2 ⟨hun0, l[i0], by simp, fun e he hb => ?_⟩
      have h1 := List.all_eq_true.1 hord i0 (List.mem_range.2 hi0)
      rw [List.getElem?_eq_getElem hlt] at h1
      simp only [Option.map_some, Option.getD_some] at h1
      have h2 := Array.all_eq_true'.1 h1 e he
      simp only [Bool.or_eq_true, Bool.not_eq_eq_eq_not, Bool.not_true, decide_eq_true_eq] at h2
      rcases h2 with h2 | h2
      · rw [hb] at h2; cases h2
      · exact hmin _ h2
    rw [show f + 1 + (l.length - n) = (f + (l.length - n)) + 1 by omega]
    refine ⟨fun h => (by rw [h] at hready; cases hready), fun i hi => ?_⟩
    have hin : i < n := by
      rcases Nat.lt_or_ge i n with h | h
      · exact h
      · exact absurd hi (hlow i h)
    obtain ⟨hun, o, ho, hdep⟩ := mem_ready.1 hi
    have hlo : l[i]? = some o := by simpa using ho
    have hto : (l.take n)[i]? = some o := by rw [List.getElem?_take_of_lt hin]; exact hlo
    have hb := planOblsE_at (l.take n) 0 i o hobl hto
    rw [Nat.zero_add] at hb
    have hdn : (fun j => (listed.setIfInBounds i true).getD j false) = doneAt (fun j => listed.getD j false) i := funext fun j => by
      by_cases hji : j = i
      · subst hji
        simp only [doneAt, if_pos]
        rw [Array.getD_eq_getD_getElem?, Array.getElem?_setIfInBounds_self_of_lt (by omega)]; rfl
      · rw [getD_set_ne false (Ne.symm hji)]; simp [doneAt, hji]
    have hneed : ∀ e ∈ o.after.toList, Region.binds .any e = true → e.on < n → listed.getD e.on false = true := fun e he hbd _ => hdep e (by simpa using he) hbd
    have hgo : ∀ v w', S i vs v w w' → VEAt V i (fun j => listed.getD j false) vs v w' → wpAny P .any l.toArray Q (f + (l.length - n)) (listed.setIfInBounds i true) ((planPut vs 0 (l.take n) a0).put o.dst v) w' := fun v w' hS hV => by
      have e := planPut_put vs v (l.take n) 0 i a0 o hto hnd
      rw [Nat.zero_add] at e
      rw [← e]
      refine ih _ (upd1 vs i v) w' (inv.set hi hin) ?_ (hJS i vs v w w' hin hJ hS) fun j hj hl => ?_
      · have := todo_set (listed := listed) hin (by omega) (getD_both hun); omega
      · rw [hdn]
        by_cases hji : j = i
        · subst hji
          have hself : VEAt V j (doneAt (fun j => listed.getD j false) j) (upd1 vs j v) v w' := hVself j _ vs v w' hin hV
          simpa [upd1] using hself
        · rw [getD_set_ne false (Ne.symm hji)] at hl
          have hwf : Region.waitsFor .any l.toArray j i = false := by
            cases hc : Region.waitsFor .any l.toArray j i
            · rfl
            · obtain ⟨oj, hoj, e, he, hbe, heo⟩ := Region.waitsFor_spec hc
              have h1 := inv.closed j oj hoj hl e he hbe
              rw [heo] at h1
              rw [getD_both hun] at h1
              cases h1
          have := hst i j (fun j => listed.getD j false) vs v w w' hin hj (Ne.symm hji) (getD_both hun) hl hwf hJ hS hV (hv j hj hl)
          simpa [upd1, hji] using this
    have hw := hb (fun j => listed.getD j false) vs w hJ (getD_both hun) hv hneed (fun x a' w' => match x with | .normal => wpAny P .any l.toArray Q (f + (l.length - n)) (listed.setIfInBounds i true) a' w' | e => Q e a' w') hgo
    simp only [wpOp, ho]
    simp only [wpList] at hw
    split
    · rename_i hwt
      rw [if_pos hwt] at hw
      have hL : LetsOut (fun (x : Exit) a' w' => match x with | .normal => wpAny P .any l.toArray Q (f + (l.length - n)) (listed.setIfInBounds i true) a' w' | e => Q e a' w') → LetsOut Q := fun ⟨a, w, h⟩ => ⟨a, w, h⟩
      rcases hw with hw | ⟨hw, hlo'⟩
      · exact .inl (upon_imp (fun _ _ h => h) (fun _ _ _ h => h) hL _ hw)
      · exact .inr ⟨hw, hL hlo'⟩
    · rename_i hwt
      rw [if_neg hwt] at hw
      exact hw
theorem wp_region_planE {P : Program} {id : Nat} {Q : Exit → Act → World → Prop} {a : Act} {w : World} {l : List Oper} (n : Nat) (J : World → Prop) (S : SE) (V : List VE) (hm : P.follows .mixedOrders = true) (hB : planB l n = true) (hV : V.length = n)
    (hJ : J { w with drawn := w.drawn + 1 }) (hJS : ∀ i vs x w w', i < n → J w → S i vs x w w' → J w') (hst : ∀ i j done vs x w w', i < n → j < n → i ≠ j → done i = false → done j = true → Region.waitsFor .any l.toArray j i = false → J w → S i vs x w w' → VEAt V i done vs x w' → VEAt V j done vs (vs j) w → VEAt V j (doneAt done i) (upd1 vs i x) (vs j) w')
    (hVself : ∀ i done vs v w, i < n → VEAt V i done vs v w → VEAt V i (doneAt done i) (upd1 vs i v) v w)
    (hobl : planOblsE P l.toArray J S n V (fun vs => planPut vs 0 (l.take n) a) 0 (l.take n))
    (hend : ∀ done vs w, J w → (∀ i, i < n → done i = true) → planHaveE done vs w 0 V → wpList P l.toArray Q (l.drop n) (planPut vs 0 (l.take n) a) w) : (Code.region id l.toArray true).wp P Q a w := by
  refine wp_region_any hm ?_
  have hB' := hB
  simp only [planB, Bool.and_eq_true, decide_eq_true_eq, Bool.or_eq_true] at hB
  obtain ⟨⟨⟨⟨hn, hnd⟩, hord⟩, htl⟩, hseq⟩ := hB
  obtain ⟨vs0, hsame⟩ : ∃ vs0, planPut vs0 0 (l.take n) a = a := ⟨fun i => match (l[i]?).bind (·.dst) with | some t => a.tmps.getD t undef | none => undef, planPut_same a _ _ _ fun j o t hj ht => by
    have hjn : j < n := by
      rcases Nat.lt_or_ge j (l.take n).length with h | h
      · simp at h; omega
      · rw [List.getElem?_eq_none h] at hj; cases hj
    rw [List.getElem?_take_of_lt hjn] at hj
    rw [Nat.zero_add, hj]; simp [ht]⟩
  have inv0 : HeadInv .any l.toArray n (Array.replicate l.toArray.size false) :=
    ⟨by simp, fun j oj _ hl => (by rw [getD_replicate_false] at hl; cases hl), fun t _ ht => getD_in (by simpa using ht) (getD_replicate_false _ _)⟩
  have ht0 : todo n (Array.replicate l.toArray.size false) = n := by
    rw [todo, List.countP_eq_length.2 fun i _ => by rw [getD_replicate_false]; rfl, List.length_range]
  have := wpAny_planE (Q := Q) (a0 := a) hB' hV hJS hst hVself hobl (fun done vs w hJ hd h => hend done vs w hJ hd (planHaveE_of V 0 fun i hi => by rw [Nat.zero_add]; exact h i (by omega))) n _ vs0 _ inv0 ht0 hJ (fun i _ hl => by rw [getD_replicate_false] at hl; cases hl)
  rw [hsame] at this
  have hfu : n + (l.length - n) = l.toArray.size := by simp; omega
  rw [hfu] at this
  exact this
def eqE (c : Value) : VE := fun _ _ v _ => v = c
end Go.Tk

namespace Go.Tk
open Go Go.RowKit
def StoreB (L k : Nat) (wx wy : World) : Prop := ∃ (b : Nat) (us : List Value), us.length = k ∧ L ≤ b ∧ wy = wx.setCells b 0 us
theorem StoreB.below {L k : Nat} {w0 wx wy : World} (h : StoreB L k wx wy) (hb : Below L w0 wx) : Below L w0 wy := by
  obtain ⟨b, us, -, hL, rfl⟩ := h
  exact below_sets hL us 0 _ hb
theorem BoxAt.sets {b c : Nat} : ∀ (us : List Value) (o : Nat) {w : World} {cs : List Value}, BoxAt w b cs → o + us.length ≤ cs.length → ∃ cs', cs'.length = cs.length ∧ BoxAt (w.setCells c o us) b cs'
  | [], _, _, cs, h, _ => ⟨cs, rfl, h⟩
  | u :: us, o, w, cs, h, hl => by
    rw [List.length_cons] at hl
    by_cases hbc : b = c
    · subst hbc
      obtain ⟨cs', h1, h2⟩ := BoxAt.sets (b := b) (c := b) us (o + 1) (h.set o (by omega) u) (by rw [List.length_set]; omega)
      exact ⟨cs', by rw [h1, List.length_set], h2⟩
    · exact BoxAt.sets us (o + 1) (h.far hbc o u) (by omega)
def BoxN (L k : Nat) (v : Value) (w : World) : Prop := ∃ (b : Nat) (cs : List Value), cs.length = k ∧ v = .pointer (some ⟨b, 0, none⟩) ∧ L ≤ b ∧ BoxAt w b cs
theorem BoxN.below {L k : Nat} {v : Value} {wx wy : World} (h : BoxN L k v wx) (hb : Below wx.heap.size wx wy) : BoxN L k v wy := by
  obtain ⟨b, cs, hk, e, hL, hx⟩ := h
  exact ⟨b, cs, hk, e, hL, hx.below hb⟩
theorem BoxN.store {L k : Nat} {v : Value} {wx wy : World} (h : BoxN L k v wx) (hs : StoreB L k wx wy) : BoxN L k v wy := by
  obtain ⟨b, cs, hk, e, hL, hx⟩ := h
  obtain ⟨c, us, hu, -, rfl⟩ := hs
  obtain ⟨cs', h1, h2⟩ := hx.sets (c := c) us 0 (by omega)
  exact ⟨b, cs', by omega, e, hL, h2⟩
theorem BoxN.new (L : Nat) {w : World} (cs : List Value) (E : Nat) (hL : L ≤ w.heap.size) : BoxN L cs.length (.pointer (some ⟨w.heap.size, 0, none⟩)) (w.alloc (.cells cs.toArray E)) := ⟨_, cs, rfl, rfl, hL, BoxAt.new⟩
def BoxIs (L i : Nat) (cs : List Value) (vs : Nat → Value) (w : World) : Prop := ∃ b : Nat, vs i = .pointer (some ⟨b, 0, none⟩) ∧ L ≤ b ∧ BoxAt w b cs
theorem BoxIs.below {L i : Nat} {cs : List Value} {vs : Nat → Value} {wx wy : World} (h : BoxIs L i cs vs wx) (hb : Below wx.heap.size wx wy) {k : Nat} (hk : i ≠ k) (x : Value) : BoxIs L i cs (upd1 vs k x) wy := by
  obtain ⟨b, e, hL, hx⟩ := h
  exact ⟨b, by simp only [upd1, if_neg hk]; exact e, hL, hx.below hb⟩
end Go.Tk

namespace Go.Tk
theorem small_ba (x : ByteArray) (l : List UInt8) (h : x.data.toList = l) : x = ⟨l.toArray⟩ := by
  subst h; cases x; simp
end Go.Tk
namespace Go.Proofs.YtkefgapnghnjjaaGreatDoor
open Go.RowKit Go.Tk
set_option maxHeartbeats 2000000 in
set_option maxRecDepth 100000 in
theorem small_calls (i : Nat) (h : i < 100) (w : World) : Calls Tryz.prog 173 #[.int .i64 i] w fun e w' => e = .returned (.string ⟨(Lib.decDigits i).toArray⟩) ∧ w = w' := by
  go_enter Tryz.func173, Tryz.ntmps173
  go_name_bytes_deep 45 SM hSM
  have eSM : SM = Lib.smalls := by rw [← hSM]; decide +kernel
  subst eSM
  clear hSM
  go_name_bytes_deep 30 DG hDG
  have eDG : DG = Lib.digits36 := by rw [← hDG]; decide +kernel
  subst eDG
  clear hDG
  by_cases h10 : i < 10
  · have hsl : ∀ w, (Instr.slice 9 (.string Lib.digits36) (some (.int .i64 (i : Int))) (some (.int .i64 ((i : Int) + 1))) none).run Tryz.prog w = .ok (.string (Lib.digits36.extract i (i + 1))) w := fun w => by
      rw [run_slice_string w 9 Lib.digits36 .i64 .i64 _ _ Tryz.underlying9 (by omega) (by omega) (by rw [Lib.digits36_size]; omega), show ((i : Int)).toNat = i by omega, show ((i : Int) + 1).toNat = i + 1 by omega]
    go_wp2
    go_ret
    refine ⟨?_, rfl⟩
    show Ending.returned (Value.string (Lib.digits36.extract i (i + 1))) = _
    rw [small_ba (Lib.digits36.extract i (i + 1)) (Lib.decDigits i) (by rw [Lib.extract_data]; exact Lib.digits36_piece h10)]
  · have hsl : ∀ w, (Instr.slice 9 (.string Lib.smalls) (some (.int .i64 ((i : Int) * 2))) (some (.int .i64 ((i : Int) * 2 + 2))) none).run Tryz.prog w = .ok (.string (Lib.smalls.extract (i * 2) (i * 2 + 2))) w := fun w => by
      rw [run_slice_string w 9 Lib.smalls .i64 .i64 _ _ Tryz.underlying9 (by omega) (by omega) (by rw [Lib.smalls_size]; omega), show ((i : Int) * 2).toNat = i * 2 by omega, show ((i : Int) * 2 + 2).toNat = i * 2 + 2 by omega]
    go_wp2
    go_ret
    refine ⟨?_, rfl⟩
    show Ending.returned (Value.string (Lib.smalls.extract (i * 2) (i * 2 + 2))) = _
    rw [small_ba (Lib.smalls.extract (i * 2) (i * 2 + 2)) (Lib.decDigits i) (by rw [Lib.extract_data]; exact Lib.smalls_piece h10 h)]
set_option maxRecDepth 100000 in
theorem formatInt_calls (i : Nat) (h : i < 100) (w : World) : Calls Tryz.prog 163 #[.int .i64 i, .int .i64 10] w fun e w' => e = .returned (.string ⟨(Lib.decDigits i).toArray⟩) ∧ w = w' := by
  go_enter Tryz.func163, Tryz.ntmps163
  go_wp2_with fail
  refine (small_calls i h _).mono ?_; rintro e w' ⟨rfl, rfl⟩
  go_wp2
  go_ret
  exact ⟨rfl, rfl⟩
theorem itoaI_calls (i : Nat) (h : i < 100) (w : World) : Calls Tryz.prog 139 #[.int .i64 i] w fun e w' => e = .returned (.string ⟨(Lib.decDigits i).toArray⟩) ∧ w = w' := by
  go_enter Tryz.func139, Tryz.ntmps139
  go_wp2_with fail
  refine (formatInt_calls i h _).mono ?_; rintro e w' ⟨rfl, rfl⟩
  go_wp2
  go_ret
  exact ⟨rfl, rfl⟩
theorem itoa_calls (i : Nat) (h : i < 100) (w : World) : Calls Tryz.prog 105 #[.int .i64 i] w fun e w' => e = .returned (.string ⟨(Lib.decDigits i).toArray⟩) ∧ w = w' := by
  go_enter Tryz.func105, Tryz.ntmps105
  go_wp2_with fail
  refine (itoaI_calls i h _).mono ?_; rintro e w' ⟨rfl, rfl⟩
  go_wp2
  go_ret
  exact ⟨rfl, rfl⟩
end Go.Proofs.YtkefgapnghnjjaaGreatDoor

namespace Go.Proofs.YtkefgapnghnjjaaGreatDoor
open Go.RowKit Go.Tk
set_option maxRecDepth 100000 in
theorem kname_calls (n : Int) (hn : -9223372036854775808 ≤ n) (hn2 : n ≤ 9223372036854775807) (w : World) :
    Calls Tryz.prog 104 #[.int .i64 n] w fun e w' => e = .returned (.string ⟨(kname n).toArray⟩) ∧ Below w.heap.size w w' := by
  obtain ⟨p, hp, hp0, hp1⟩ : ∃ p, picked n 3 = p ∧ 0 ≤ p ∧ p < 3 := ⟨_, rfl, by unfold picked; split <;> omega, by unfold picked; split <;> omega⟩
  have HP := Lib.hid hp
  have HK := Lib.hid (show kname n = if picked n 3 = 0 then [97] else if picked n 3 = 1 then [98] else [107, 101, 121] from rfl)
  clear hp
  rcases (show p = 0 ∨ p = 1 ∨ p = 2 by omega) with rfl | rfl | rfl
  all_goals
    clear hp0 hp1
    go_enter Tryz.func104, Tryz.ntmps104
    go_wp2_with fail
    refine (picked_calls n _ (by omega) (by omega) hn hn2 _).mono ?_
    rw [HP.out]; rintro e w' ⟨rfl, rfl⟩
    go_wp2
    go_ret
    exact ⟨by rw [HK.out, HP.out]; rfl, below_alloc w _⟩
end Go.Proofs.YtkefgapnghnjjaaGreatDoor
