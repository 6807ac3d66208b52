/- tackroomkeep.name. -/
import Derived.Test.YtphkkkmjkagkbaaDoorCodec
import Derived.Test.YtphkkkmjkagkbaaDoorLinesP
namespace Go.Proofs.YtphkkkmjkagkbaaDoor
open Go.RowKit Go.Tk

set_option maxRecDepth 100000 in
theorem kname_calls (n : Int) (hn : -9223372036854775808 ≤ n) (hn2 : n ≤ 9223372036854775807) (w : World) :
    Calls Tryd.prog 14 #[.int .i64 n] w fun e w' => e = .returned (.string ⟨(kname n).toArray⟩) ∧ Below w.heap.size w w' := by
  obtain ⟨p, hp, hp0, hp1⟩ : ∃ p, picked n 3 = p ∧ 0 ≤ p ∧ p < 3 := ⟨_, rfl, by unfold picked; split <;> omega, by unfold picked; split <;> omega⟩
  have HP := Lib.hid hp
  have HK := Lib.hid (show kname n = if picked n 3 = 0 then [97] else if picked n 3 = 1 then [98] else [107, 101, 121] from rfl)
  clear hp
  rcases (show p = 0 ∨ p = 1 ∨ p = 2 by omega) with rfl | rfl | rfl
  all_goals
    clear hp0 hp1
    go_enter Tryd.func14, Tryd.ntmps14
    go_wp2_with fail
    refine (picked_calls n _ (by omega) (by omega) hn hn2 _).mono ?_
    rw [HP.out]; rintro e w' ⟨rfl, rfl⟩
    go_wp2
    go_ret
    exact ⟨by rw [HK.out, HP.out]; rfl, below_alloc w _⟩
end Go.Proofs.YtphkkkmjkagkbaaDoor
