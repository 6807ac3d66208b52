/- session.Fresh. -/
import Derived.Test.YtcjnnkbliapkgaaSess
import Derived.Test.YtcjnnkbliapkgaaCopySess
import Derived.Test.YtcjnnkbliapkgaaDelFSess
import Derived.Conc.MuLone
namespace Go.Tk
def freshP (index : Int) (x : SessionD) : Bool := decide (40 < RowKit.wrap64 (index + 1 - x.last))
def freshL (l : List SessionD) (index : Int) : List SessionD × Int := if sessCheck l index ≠ 0 then ([], sessCheck l index) else (l.filter (fun x => !freshP index x), 0)
end Go.Tk
namespace Go.Proofs.Ytcjnnkbliapkgaa
open Go.RowKit Go.Tk

set_option maxRecDepth 100000 in
theorem fresh1_calls (w : World) (x : SessionD) (rv : Value) (hrv : rv.oneCell' = true) (B : Nat) (index : Int) (hi : 0 ≤ index ∧ index ≤ 1073741824) (hB : B < w.heap.size) (hc : w.cell? ⟨B, 0, none⟩ = some (.int .i64 index)) :
    Calls Try.prog 33 #[.agg #[.int .i64 x.client, .int .i64 x.id, .int .i64 x.acked, .int .i64 x.last, rv], .pointer (some ⟨B, 0, none⟩)] w fun e w' => e = .returned (.bool (freshP index x)) ∧ Below w.heap.size w w' := by
  have hw : IntKind.i64.wrap (index + 1) = index + 1 := IntWalk.i64_in _ (by omega)
  go_enter Try.func33, Try.ntmps33
  go_wp2
  go_ret
  exact ⟨rfl, (Below.refl _ _).alloc (Nat.le_refl _) _⟩

set_option maxRecDepth 100000 in
theorem fresh_calls (l : List SessionD) (index : Int) (v : Value) (S : Nat → Prop) (w : World) (h : SlR 5 rSession w v l S) :
    Calls Try.prog 16 #[v, .int .i64 index] w fun e w' => ∃ v', e = .returned (.tuple #[v', .int .i64 (freshL l index).2]) ∧
      SlR 5 rSession w' v' (freshL l index).1 (fun b => w.heap.size ≤ b) ∧ Below w.heap.size w w' := by
  by_cases he : sessCheck l index = 0
  case neg =>
    have HJ := Lib.hid (show freshL l index = ([], sessCheck l index) by rw [freshL, if_pos he])
    have he' : (sessCheck l index != 0) = true := by simpa using he
    clear he
    go_enter Try.func16, Try.ntmps16
    go_wp2_with fail
    refine (sessCheck_calls l index v S _ (h.below rSession_ok (by decide) (below_alloc w _))).mono ?_; rintro e w1 ⟨rfl, hb1⟩
    go_wp2
    go_ret2
    exact ⟨_, ends2 rfl (by rw [HJ.out]; rfl), by rw [HJ.out]; exact SlR.nil _ _, below_step (below_alloc w _) hb1⟩
  have HJ := Lib.hid (show freshL l index = (l.filter (fun x => !freshP index x), 0) by rw [freshL, if_neg (by simpa using he)])
  have he' : (sessCheck l index != 0) = false := by simpa using he
  have hok := sessCheck_ok.1 he
  have hin : ∀ x ∈ l, x.replies.length ≤ 1000000 := fun x hx => by have := replies_len (hok.rep x hx); omega
  have hl4 := hok.len
  have hidx := hok.idx
  have HN := Lib.hid hin
  clear he hin hok
  go_enter Try.func16, Try.ntmps16
  go_wp2_with fail
  refine (sessCheck_calls l index v S _ (h.below rSession_ok (by decide) (below_alloc w _))).mono ?_; rintro e w1 ⟨rfl, hb1⟩
  go_wp2_with fail
  refine (copySess_calls _ v l S (h.below rSession_ok (by decide) (below_step (below_alloc w _) hb1)) (by omega) HN.out).mono ?_; rintro e w2 ⟨v2, rfl, ho2, hb2, hv2⟩
  have hb2' := below_step hb1 hb2
  have hs1 := hb1.size
  rw [World.size_alloc] at hb2' hs1
  obtain ⟨hz, hzf, hzs⟩ := Tk.fresh hb2'
  have z0 := hz 0
  clear hz hzf
  have hin := fun args w => MuLone.run_callFunc_enter Try.func33 (by kernel_rfl) rfl args w
  have hp : TellsSess w2 v2.ownBlock (fun b => w1.heap.size ≤ b) 33 (.pointer (some ⟨w.heap.size, 0, none⟩)) (freshP index) := fun w' x rv hg hr => by
    have hbl : w'.heap[w.heap.size]? = w2.heap[w.heap.size]? := hg.block _ hzs (fun e => by have := hv2 _ e.symm; omega)
    exact fresh1_calls w' x rv (by obtain ⟨v, e, a, c, hv, _⟩ := hr; cases e; rw [hv]; rfl) w.heap.size index hidx (by have := hg.size; omega) ((World.cell?_of_block hbl).trans z0)
  have HD := Lib.hid (deleteFuncSess_calls w2 v2 l _ ((ho2.own (rSessO_ok _)).map fun _ _ _ _ hr => hr.read) hv2 (by omega) 33 (.pointer (some ⟨w.heap.size, 0, none⟩)) (freshP index) hin hp)
  clear hp hin z0
  go_wp2_with fail
  refine HD.out.mono ?_; rintro e w3 ⟨v3, rfl, ho3, hg3, hv3⟩
  go_wp2
  go_ret2
  have hb3 : Below w.heap.size w w3 := (below_step (below_alloc w _) (below_step hb1 hb2)).grown hg3 (by have := hb2.size; omega) (fun k hk => by have := hv2 k hk; omega)
  refine ⟨_, ends2 rfl (by rw [HJ.out]; rfl), ?_, hb3⟩
  rw [HJ.out]
  exact (ho3.read rSession_ok (by decide) (fun g hg => hv2 g (by rw [← hv3]; exact hg))).sub rSession_ok (by decide) fun b hb _ => by show _ ≤ _; omega
end Go.Proofs.Ytcjnnkbliapkgaa
