/- The three names. No program in sight. -/
import Derived.Test.YtphkkkmjkagkbaaDoorLinesP
namespace Go.Tk
open Go Go.RowKit

def kset : List (List UInt8) := [[97], [98], [107, 101, 121]]
theorem kname_mem (n : Int) : kname n ∈ kset := by
  unfold kname kset
  split
  · simp
  · split <;> simp
theorem kset_ok : ∀ k ∈ kset, lkName k = true := by decide
theorem nodup_len {α : Type} [BEq α] [LawfulBEq α] : ∀ (l m : List α), l.Nodup → (∀ x ∈ l, x ∈ m) → l.length ≤ m.length
  | [], m, _, _ => Nat.zero_le _
  | a :: r, m, hn, hs => by
    obtain ⟨h1, h2⟩ := List.nodup_cons.1 hn
    have ham := hs a (by simp)
    have := nodup_len r (m.erase a) h2 fun x hx => (List.mem_erase_of_ne (by rintro rfl; exact h1 hx)).2 (hs x (by simp [hx]))
    rw [List.length_erase_of_mem ham] at this
    have hpos := List.length_pos_of_mem ham
    simp only [List.length_cons]; omega
end Go.Tk
