/- Binary search over what is in order: what it finds. -/
import Derived.Test.YtphkkkmjkagkbaaDoorSearchP
namespace Go.Tk

theorem bsGo_spec (f : Nat → Int) (N : Nat) (mono : ∀ i j, i < j → j < N → f j < 0 → f i < 0) : ∀ (n p q : Nat), q - p ≤ n → p ≤ q → q ≤ N → (∀ i, i < p → f i < 0) → (∀ i, q ≤ i → i < N → ¬ f i < 0) →
    (∀ i, i < bsGo f n p q → f i < 0) ∧ (∀ i, bsGo f n p q ≤ i → i < N → ¬ f i < 0)
  | 0, p, q, hn, hpq, hq, h1, h2 => by
    obtain rfl : p = q := by omega
    exact ⟨h1, h2⟩
  | n + 1, p, q, hn, hpq, hq, h1, h2 => by
    rw [bsGo]
    by_cases hlt : p < q
    · rw [if_pos hlt]
      by_cases hf : f ((p + q) / 2) < 0
      · rw [if_pos hf]
        refine bsGo_spec f N mono n _ _ (by omega) (by omega) hq (fun i hi => ?_) h2
        rcases Nat.lt_or_ge i ((p + q) / 2) with h | h
        · exact mono i _ h (by omega) hf
        · rw [show i = (p + q) / 2 by omega]; exact hf
      · rw [if_neg hf]
        refine bsGo_spec f N mono n _ _ (by omega) (by omega) (by omega) h1 (fun i hi hN hfi => ?_)
        rcases Nat.lt_or_ge ((p + q) / 2) i with h | h
        · exact hf (mono _ i h hN hfi)
        · rw [show i = (p + q) / 2 by omega] at hfi; exact hf hfi
    · rw [if_neg hlt]
      obtain rfl : p = q := by omega
      exact ⟨h1, h2⟩
theorem bs_spec {f : Nat → Int} {N : Nat} (mono : ∀ i j, i < j → j < N → f j < 0 → f i < 0) : (∀ i, i < bs f N → f i < 0) ∧ (∀ i, bs f N ≤ i → i < N → ¬ f i < 0) :=
  bsGo_spec f N mono N 0 N (by omega) (by omega) (by omega) (by omega) (by omega)
theorem bs_eq {f : Nat → Int} {N i : Nat} (mono : ∀ i j, i < j → j < N → f j < 0 → f i < 0) (h1 : ∀ j, j < i → f j < 0) (h2 : i < N → ¬ f i < 0) (hi : i ≤ N) : bs f N = i := by
  obtain ⟨h3, h4⟩ := bs_spec mono
  rcases Nat.lt_trichotomy (bs f N) i with h | h | h
  · exact absurd (h1 _ h) (h4 _ (Nat.le_refl _) (by omega))
  · exact h
  · have := bs_le f N
    exact absurd (h3 i h) (h2 (by omega))
end Go.Tk
