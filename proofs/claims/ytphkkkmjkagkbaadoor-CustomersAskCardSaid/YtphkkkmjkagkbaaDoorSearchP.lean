/- Binary search, plainly. -/
import Derived.Test.YtphkkkmjkagkbaaDoorData
namespace Go.Tk

/-- The loop: what it comes to from p to q. -/
def bsGo (f : Nat → Int) : Nat → Nat → Nat → Nat
  | 0, p, _ => p
  | n + 1, p, q => if p < q then (if f ((p + q) / 2) < 0 then bsGo f n ((p + q) / 2 + 1) q else bsGo f n p ((p + q) / 2)) else p
def bs (f : Nat → Int) (n : Nat) : Nat := bsGo f n 0 n
def bsFound (f : Nat → Int) (n : Nat) : Bool := decide (bs f n < n) && (f (bs f n) == 0)
theorem bsGo_fuel (f : Nat → Int) : ∀ (n m p q : Nat), q - p ≤ n → q - p ≤ m → bsGo f n p q = bsGo f m p q
  | 0, 0, p, q, _, _ => rfl
  | 0, m + 1, p, q, h, _ => by rw [bsGo, bsGo, if_neg (by omega)]
  | n + 1, 0, p, q, _, h => by rw [bsGo, bsGo, if_neg (by omega)]
  | n + 1, m + 1, p, q, h1, h2 => by
    rw [bsGo, bsGo]
    by_cases h : p < q
    · rw [if_pos h, if_pos h]
      rw [bsGo_fuel f n m ((p + q) / 2 + 1) q (by omega) (by omega), bsGo_fuel f n m p ((p + q) / 2) (by omega) (by omega)]
    · rw [if_neg h, if_neg h]
theorem bsGo_le (f : Nat → Int) : ∀ (n p q : Nat), p ≤ q → p ≤ bsGo f n p q ∧ bsGo f n p q ≤ q
  | 0, p, q, h => ⟨Nat.le_refl _, h⟩
  | n + 1, p, q, h => by
    rw [bsGo]
    by_cases hlt : p < q
    · rw [if_pos hlt]
      split
      · have := bsGo_le f n ((p + q) / 2 + 1) q (by omega); omega
      · have := bsGo_le f n p ((p + q) / 2) (by omega); omega
    · rw [if_neg hlt]; omega
theorem bs_le (f : Nat → Int) (n : Nat) : bs f n ≤ n := (bsGo_le f n 0 n (Nat.zero_le _)).2
theorem bsGo_less (f : Nat → Int) {p q : Nat} (h : p < q) (hf : f ((p + q) / 2) < 0) : bsGo f (q - p) p q = bsGo f (q - ((p + q) / 2 + 1)) ((p + q) / 2 + 1) q := by
  rw [show q - p = (q - p - 1) + 1 by omega, bsGo, if_pos h, if_pos hf]
  exact bsGo_fuel f _ _ _ _ (by omega) (by omega)
theorem bsGo_more (f : Nat → Int) {p q : Nat} (h : p < q) (hf : ¬ f ((p + q) / 2) < 0) : bsGo f (q - p) p q = bsGo f ((p + q) / 2 - p) p ((p + q) / 2) := by
  rw [show q - p = (q - p - 1) + 1 by omega, bsGo, if_pos h, if_neg hf]
  exact bsGo_fuel f _ _ _ _ (by omega) (by omega)
def sessCmp (x : SessionD) (t : Int) : Int := x.client - t
def keptCmp (x : KeptD) (t : Int) : Int := x.seq - t
/-- The place of the first element that is such; -1: none is. -/
def fIdx {α : Type} (p : α → Bool) (l : List α) : Int := if l.findIdx p < l.length then (l.findIdx p : Nat) else -1
theorem fIdx_at {α : Type} {p : α → Bool} {l : List α} {n : Nat} (hn : n < l.length) (h : p l[n] = true) (hb : ∀ (j : Nat) (hj : j < l.length), j < n → p l[j] = false) : fIdx p l = n := by
  have h1 : l.findIdx p = n := (List.findIdx_eq hn).2 ⟨h, fun j hj => hb j (by omega) hj⟩
  rw [fIdx, h1, if_pos hn]
theorem fIdx_none {α : Type} {p : α → Bool} {l : List α} (hb : ∀ (j : Nat) (hj : j < l.length), p l[j] = false) : fIdx p l = -1 := by
  have h1 : l.findIdx p = l.length := List.findIdx_eq_length.2 fun x hx => by
    obtain ⟨j, hj, rfl⟩ := List.getElem_of_mem hx
    exact hb j hj
  rw [fIdx, h1, if_neg (by omega)]
theorem fIdx_cases {α : Type} (p : α → Bool) (l : List α) : (fIdx p l = -1 ∧ ∀ x ∈ l, p x = false) ∨ ∃ (n : Nat) (hn : n < l.length), fIdx p l = n ∧ p l[n] = true ∧ ∀ (j : Nat) (hj : j < l.length), j < n → p l[j] = false := by
  rcases Nat.lt_or_ge (l.findIdx p) l.length with h | h
  · refine .inr ⟨l.findIdx p, h, by rw [fIdx, if_pos h], List.findIdx_getElem (w := h), fun j hj hjn => ?_⟩
    have := List.not_of_lt_findIdx hjn
    simpa using this
  · have h1 : l.findIdx p = l.length := Nat.le_antisymm List.findIdx_le_length h
    exact .inl ⟨by rw [fIdx, if_neg (by omega)], fun x hx => List.findIdx_eq_length.1 h1 x hx⟩
end Go.Tk
