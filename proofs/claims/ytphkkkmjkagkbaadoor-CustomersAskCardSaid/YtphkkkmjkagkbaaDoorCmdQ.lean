/- A command is read as it was written; cut short, or longer, it is not. No program in sight. -/
import Derived.Test.YtphkkkmjkagkbaaDoorCmdP
namespace Go.Tk
open Go Go.RowKit

theorem CmdOk.bounds {c : CommandD} (h : CmdOk c) : (1 ≤ c.kind ∧ c.kind ≤ 3) ∧ 1 ≤ c.client ∧ c.client ≤ 9 := by
  rcases h with ⟨hk, hc, _⟩ | ⟨hk, hc, _⟩ <;> exact ⟨by omega, hc⟩
theorem toUInt8_val (n : Int) (h0 : 0 ≤ n) (h1 : n ≤ 255) : ((n.toNat.toUInt8.toNat : Nat) : Int) = n := by
  have e : n.toNat.toUInt8.toNat = n.toNat := by
    show (UInt8.ofNat n.toNat).toNat = n.toNat
    rw [UInt8.toNat_ofNat']; omega
  rw [e]; omega
/-- The bytes of a command, in form. -/
def cmdTail (c : CommandD) : List UInt8 := if c.kind = 2 then callBytes c else []
theorem encode_eq {c : CommandD} (h : CmdOk c) : cmdEncode c = (c.kind.toNat.toUInt8 :: c.client.toNat.toUInt8 :: cmdTail c, 0) := by
  rw [cmdEncode, cmdCheck_ok.2 h]; rfl
theorem tail_len {c : CommandD} (h : CmdOk c) : (cmdTail c).length ≤ 67 := by
  rw [cmdTail]
  rcases h with ⟨hk, _⟩ | ⟨hk, _, _, _, _, h4⟩
  · rw [if_neg (by omega)]; simp
  · rw [if_pos hk]; exact callBytes_len h4
theorem encode_len {c : CommandD} : (cmdEncode c).1.length ≤ 69 := by
  by_cases h : cmdCheck c = 0
  · rw [encode_eq (cmdCheck_ok.1 h)]
    have := tail_len (cmdCheck_ok.1 h)
    simp; omega
  · rw [cmdEncode, if_pos h]; simp
theorem kind_two {c : CommandD} (h : CmdOk c) : (c.kind.toNat.toUInt8 = 2) ↔ c.kind = 2 := by
  have hb := h.bounds.1
  constructor
  · intro h2
    have := toUInt8_val c.kind (by omega) (by omega)
    rw [h2] at this
    simpa using this.symm
  · intro h2; rw [h2]; rfl
theorem decode_of {c : CommandD} (h : CmdOk c) (t : List UInt8) (ht : t.length ≤ 100) : cmdDecode (c.kind.toNat.toUInt8 :: c.client.toNat.toUInt8 :: t) =
    if c.kind = 2 then (if (cmdBody ⟨c.kind, c.client, 0, 0, 0, noOp⟩ t).2.2 ≠ 0 then (noCommand, (cmdBody ⟨c.kind, c.client, 0, 0, 0, noOp⟩ t).2.2) else cmdLast (cmdBody ⟨c.kind, c.client, 0, 0, 0, noOp⟩ t).1 (cmdBody ⟨c.kind, c.client, 0, 0, 0, noOp⟩ t).2.1)
    else cmdLast ⟨c.kind, c.client, 0, 0, 0, noOp⟩ t := by
  have hb := h.bounds
  have e0 := toUInt8_val c.kind (by omega) (by omega)
  have e1 := toUInt8_val c.client (by omega) (by omega)
  rw [cmdDecode, if_neg (by simp; omega), if_neg (by simp)]
  simp only [List.getD_cons_zero, List.getD_cons_succ, List.drop_succ_cons, List.drop_zero, e0, e1, kind_two h]
theorem decode_back {c : CommandD} (h : CmdOk c) : cmdDecode (cmdEncode c).1 = (c, 0) := by
  have hl := tail_len h
  rw [encode_eq h, decode_of h _ (by omega)]
  have hc := cmdCheck_ok.2 h
  by_cases hk : c.kind = 2
  · have e := body_back h hk []
    rw [List.append_nil] at e
    rw [if_pos hk, cmdTail, if_pos hk, e]
    simp [cmdLast, hc]
  · rw [if_neg hk, cmdTail, if_neg hk]
    rcases id h with ⟨_, _, h1, h2, h3, h4⟩ | ⟨hk', _⟩
    · have e : (⟨c.kind, c.client, 0, 0, 0, noOp⟩ : CommandD) = c := by
        rcases c with ⟨a, b, d, f, g, o⟩
        simp only at h1 h2 h3 h4
        subst h1 h2 h3 h4; rfl
      rw [e]; simp [cmdLast, hc]
    · exact absurd hk' hk
theorem decode_cut {c : CommandD} (h : CmdOk c) (j : Nat) (hj : j < (cmdEncode c).1.length) : (cmdDecode ((cmdEncode c).1.take j)).2 = 5 := by
  have hl := tail_len h
  rw [encode_eq h] at hj ⊢
  by_cases h2 : j < 2
  · rw [cmdDecode, if_neg (by simp; omega), if_pos (by simp; omega)]
  · obtain ⟨i, rfl⟩ : ∃ i, j = i + 2 := ⟨j - 2, by omega⟩
    simp only [List.take_succ_cons]
    rw [decode_of h _ (by simp; omega)]
    have hi : i < (cmdTail c).length := by simpa using hj
    by_cases hk : c.kind = 2
    · rw [cmdTail, if_pos hk] at hi ⊢
      rw [if_pos hk, body_cut h hk i hi, if_pos (by decide)]
    · rw [cmdTail, if_neg hk] at hi; simp at hi
theorem decode_more {c : CommandD} (h : CmdOk c) : (cmdDecode ((cmdEncode c).1 ++ [0])).2 = 4 := by
  have hl := tail_len h
  rw [encode_eq h]
  simp only [List.cons_append]
  rw [decode_of h _ (by simp; omega)]
  by_cases hk : c.kind = 2
  · rw [cmdTail, if_pos hk, if_pos hk, body_back h hk]
    simp [cmdLast]
  · rw [if_neg hk, cmdTail, if_neg hk]
    simp [cmdLast]
theorem encode_ok {c : CommandD} (h : CmdOk c) : (cmdEncode c).2 = 0 := by rw [encode_eq h]
theorem encode_pos {c : CommandD} (h : CmdOk c) : 2 ≤ (cmdEncode c).1.length := by rw [encode_eq h]; simp
end Go.Tk
