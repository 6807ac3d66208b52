/- CustomersAsk, plainly. No program in sight. -/
import Derived.Test.YtphkkkmjkagkbaaDoorCustP
namespace Go.Tk
open Go Go.RowKit

def askC (id a : Int) (n : Nat) : CustomerD := ⟨id, 5, n + 1, askWaits a n⟩
theorem ask_check {id a : Int} (h : 1 ≤ id ∧ id ≤ 9) (n : Nat) (hn : n ≤ 4) : custCheck (askC id a n) = 0 := custCheck_ok.2 (ask_ok h n hn)
theorem ask_acked (id a : Int) (n : Nat) : custAcked (askC id a n) = 0 := by
  rw [custAcked]
  simp only [askC, askWaits_len]
  by_cases h : 0 < n
  · rw [if_pos h, askWaits_get a n 0 h]; simp
  · rw [if_neg h]; omega
theorem ask_start {id a : Int} (h : 1 ≤ id ∧ id ≤ 9) (n : Nat) (hn : n < 4) : custStart (askC id a n) (opOf ⟨a, n, 0, 0⟩) = (askC id a (n + 1), 0) := by
  have hc := ask_check (a := a) h n (by omega)
  have ho := opCheck_ok.2 (opOf_ok ⟨a, n, 0, 0⟩)
  rw [custStart, if_neg (by simp [hc]), if_neg (by simp [askC]), if_neg (by simp [ho]), ask_acked, if_neg (by simp only [askC]; omega)]
  simp only [askC, askWaits]
  norm_cast
theorem ask_full {id a : Int} (h : 1 ≤ id ∧ id ≤ 9) (r : RawD) : custStart (askC id a 4) (opOf r) = (noCustomer, 8) := by
  have hc := ask_check (a := a) h 4 (by omega)
  have ho := opCheck_ok.2 (opOf_ok r)
  rw [custStart, if_neg (by simp [hc]), if_neg (by simp [askC]), if_neg (by simp [ho]), ask_acked, if_pos (by simp only [askC]; omega)]
theorem ask_request {id a : Int} (h : 1 ≤ id ∧ id ≤ 9) (k : Int) (h0 : 0 ≤ k) (hk : k < 4) : custRequest (askC id a 4) k = cmdEncode ⟨2, id, 5, 1 + k, 0, opOf ⟨a, k, 0, 0⟩⟩ := by
  have hc := ask_check (a := a) h 4 (by omega)
  rw [custRequest, if_neg (by simp [hc]), if_neg (by simp only [askC, askWaits_len]; omega), ask_acked]
  simp only [askC]
  rw [askWaits_get a 4 k.toNat (by omega)]
  simp only [Int.toNat_of_nonneg h0]
  rw [Int.add_comm k 1]
theorem ask_cmd {id a : Int} (h : 1 ≤ id ∧ id ≤ 9) (k : Int) (h0 : 0 ≤ k) (hk : k < 4) : CmdOk ⟨2, id, 5, 1 + k, 0, opOf ⟨a, k, 0, 0⟩⟩ :=
  .call rfl h (by simp) ⟨by simp only; omega, by simp only; omega⟩ ⟨by simp, by simp only; omega⟩ (opOf_ok _)
theorem ask_away {id : Int} (h : 1 ≤ id ∧ id ≤ 9) : CustOk ⟨id, 0, 1, []⟩ := ⟨h, by simp, by simp, by simp, by simp, by simp⟩
theorem away_start {id : Int} (h : 1 ≤ id ∧ id ≤ 9) (o : OpD) : custStart ⟨id, 0, 1, []⟩ o = (noCustomer, 11) := by
  rw [custStart, if_neg (by simp [custCheck_ok.2 (ask_away h)]), if_pos rfl]
theorem hello_eq {id : Int} (h : 1 ≤ id ∧ id ≤ 9) : custHello ⟨id, 0, 1, []⟩ = cmdEncode ⟨1, id, 0, 0, 0, noOp⟩ := by
  rw [custHello, if_neg (by simp [custCheck_ok.2 (ask_away h)])]
theorem hello_cmd {id : Int} (h : 1 ≤ id ∧ id ≤ 9) : CmdOk ⟨1, id, 0, 0, 0, noOp⟩ := .plain (.inl rfl) h rfl rfl rfl rfl
theorem hear_join {id : Int} (h : 1 ≤ id ∧ id ≤ 9) (a : Int) : custHear ⟨id, 0, 1, []⟩ ⟨id, 0, ⟨0, 5, []⟩⟩ = (askC id a 0, 0) := by
  rw [custHear, if_neg (by simp [custCheck_ok.2 (ask_away h)]), if_neg (by simp), if_pos rfl, if_neg (by simp), if_neg (by simp), if_neg (by simp)]
  simp [askC, askWaits]
theorem ask_four (a : Int) : ∃ o0 o1 o2 o3, askWaits a 4 = [⟨1, o0⟩, ⟨2, o1⟩, ⟨3, o2⟩, ⟨4, o3⟩] ∧ OpOk o0 ∧ OpOk o1 ∧ OpOk o2 ∧ OpOk o3 :=
  ⟨opOf ⟨a, 0, 0, 0⟩, opOf ⟨a, 1, 0, 0⟩, opOf ⟨a, 2, 0, 0⟩, opOf ⟨a, 3, 0, 0⟩, rfl, opOf_ok _, opOf_ok _, opOf_ok _, opOf_ok _⟩
theorem ask_hear {id a : Int} (h : 1 ≤ id ∧ id ≤ 9) : ∃ d, custHear (askC id a 4) ⟨id, 1, noReply⟩ = (d, 0) ∧ d.waits.length = 3 ∧ (custHear d ⟨id, 1, noReply⟩) = (noCustomer, 12) := by
  have hc := ask_check (a := a) h 4 (by omega)
  obtain ⟨o0, o1, o2, o3, he, k0, k1, k2, k3⟩ := ask_four a
  have e1 : custHear (askC id a 4) ⟨id, 1, noReply⟩ = (⟨id, 5, 5, [⟨2, o1⟩, ⟨3, o2⟩, ⟨4, o3⟩]⟩, 0) := by
    rw [custHear, if_neg (by simp [hc])]
    simp [askC, he, waitAt, noReply, List.findIdx_cons]
  refine ⟨_, e1, rfl, ?_⟩
  have hd : CustOk ⟨id, 5, 5, [⟨2, o1⟩, ⟨3, o2⟩, ⟨4, o3⟩]⟩ := by
    refine ⟨h, by simp, by simp, by simp, by simp, fun i hi => ?_⟩
    simp only [List.length_cons, List.length_nil] at hi
    rcases (show i = 0 ∨ i = 1 ∨ i = 2 by omega) with rfl | rfl | rfl
    · exact ⟨by simp [custBad], k1⟩
    · exact ⟨by simp [custBad], k2⟩
    · exact ⟨by simp [custBad], k3⟩
  rw [custHear, if_neg (by simp [custCheck_ok.2 hd])]
  simp [waitAt, List.findIdx_cons]
theorem ask_gone {id a : Int} (h : 1 ≤ id ∧ id ≤ 9) : custHear (askC id a 4) ⟨id, 2, ⟨11, 0, []⟩⟩ = (⟨id, 0, 5, []⟩, 0) ∧ custCheck ⟨id, 0, 5, []⟩ = 0 := by
  have hc := ask_check (a := a) h 4 (by omega)
  obtain ⟨o0, o1, o2, o3, he, -⟩ := ask_four a
  refine ⟨?_, custCheck_ok.2 ⟨h, by simp, by simp, by simp, by simp, by simp⟩⟩
  rw [custHear, if_neg (by simp [hc])]
  simp [askC, he, waitAt, List.findIdx_cons]
end Go.Tk
