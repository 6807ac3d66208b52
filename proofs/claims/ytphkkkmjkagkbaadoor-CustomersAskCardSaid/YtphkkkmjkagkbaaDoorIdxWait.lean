/- slices.IndexFunc over calls that wait. -/
import Derived.Test.YtphkkkmjkagkbaaDoorRows
import Derived.Test.YtphkkkmjkagkbaaDoorSlice
import Derived.Test.YtphkkkmjkagkbaaDoorData
import Derived.Test.YtphkkkmjkagkbaaDoorCustD
import Derived.Test.YtphkkkmjkagkbaaDoorSearchP
import Derived.Test.YtphkkkmjkagkbaaDoorChg
import Derived.WalkLawsBesides
namespace Go.Proofs.YtphkkkmjkagkbaaDoor
open Go.RowKit Go.Tk

/-- What a function value of the program answers on elements, whatever the world has become. -/
def TellsWait (w : World) (r : Option Nat) (S : Nat → Prop) (c : Nat) (cap : Value) (p : WaitD → Bool) : Prop :=
  ∀ (w' : World) (x : WaitD), w.grownBy w' r → rWait w' [.int .i64 x.seq, .int .i64 x.op.kind, .string ⟨x.op.a.toArray⟩, .string ⟨x.op.b.toArray⟩, .int .i64 x.op.n] x S → Calls Tryd.prog c #[.agg #[.int .i64 x.seq, .int .i64 x.op.kind, .string ⟨x.op.a.toArray⟩, .string ⟨x.op.b.toArray⟩, .int .i64 x.op.n], cap] w' fun e w'' => e = .returned (.bool (p x)) ∧ Below w'.heap.size w' w''

set_option maxRecDepth 100000 in
set_option maxHeartbeats 400000 in
theorem indexWait_calls (w : World) (v : Value) (l : List WaitD) (S : Nat → Prop) (h : SlR 5 rWait w v l S) (hn : l.length ≤ 1000000) (c : Nat) (cap : Value) (p : WaitD → Bool) (r : Option Nat) (hin : ∀ args w, (callFunc c args).run Tryd.prog w = .ok (.enter c args) w) (hp : TellsWait w r S c cap p) :
    Calls Tryd.prog 45 #[v, .func (.func c) #[] #[cap]] w fun e w' =>
      e = .returned (.int .i64 (fIdx p l)) ∧ Below w.heap.size w w' := by
  obtain ⟨a, vc, hv, hl, hm, hnil, -⟩ := id h
  subst hv
  unfold maxLen at hm
  have hlen : (l.length : Int) ≤ 1000000 := by omega
  go_enter Tryd.func45, Tryd.ntmps45
  go_wp2
  go_loopw [8] (fun i wr => ∃ n : Nat, n ≤ l.length ∧ i = .int .i64 n ∧ Hid (∀ (j : Nat) (hj : j < l.length), j < n → p l[j] = false) ∧ Below w.heap.size w wr)
    (fun i _ => l.length - (intOf i).toNat)
  case atStart => exact ⟨0, by omega, rfl, fun j _ hj => by omega, Below.refl _ _⟩
  case round =>
    obtain ⟨n, hnl, rfl, hall, hb⟩ := hrel
    have hws := hb.size
    by_cases hlt : n < l.length
    · obtain ⟨b, off, vc', row, hv, hS, hrow, hcells⟩ := (h.below rWait_ok (by decide) hb).row n hlt
      simp only [Value.slice.injEq] at hv
      obtain ⟨rfl, _, rfl⟩ := hv
      have HY : Hid (p l[n] = true → fIdx p l = n) := fun ht => fIdx_at hlt ht hall.out
      have HN : Hid (p l[n] = false → ∀ (j : Nat) (hj : j < l.length), j < n + 1 → p l[j] = false) := fun ht j hj hj1 => by
        rcases Nat.lt_or_ge j n with h | h
        · exact hall.out j hj h
        · obtain rfl : j = n := by omega
          exact ht
      clear hall
      generalize hxx : l[n] = x at *
      clear hxx
      have hrow' := hrow
      obtain rfl := hrow
      have q0 := hcells 0 _ rfl
      have q1 := hcells 1 _ rfl
      have q2 := hcells 2 _ rfl
      have q3 := hcells 3 _ rfl
      have q4 := hcells 4 _ rfl
      simp only [Nat.add_zero] at q0
      clear hcells
      have HC := Lib.hid (hp _ _ (grownBy_any hb r) hrow')
      clear hrow' hp h
      by_cases hf : p x = true
      · have HF := Lib.hid (HY.out hf)
        go_wp2_with fail
        refine HC.out.mono ?_; rw [hf]; rintro e w2 ⟨rfl, hb2⟩
        go_wp2
        go_ret
        exact ⟨by rw [HF.out]; rfl, hb.trans (hb2.mono hws)⟩
      · have hf' : p x = false := by simpa using hf
        go_wp2_with fail
        refine HC.out.mono ?_; rw [hf']; rintro e w2 ⟨rfl, hb2⟩
        go_wp2
        go_roundw
        case rel => exact ⟨n + 1, by omega, by go_num, HN.out hf', hb.trans (hb2.mono hws)⟩
        case measure => simp [intOf]; omega
    · obtain rfl : n = l.length := by omega
      have HF : Hid (fIdx p l = -1) := fIdx_none fun j hj => hall.out j hj hj
      clear hall hp h
      go_wp2
      go_ret
      exact ⟨by rw [HF.out]; rfl, hb⟩
end Go.Proofs.YtphkkkmjkagkbaaDoor
