/- A part of the proof, laid together from: InsLock, FldLock. -/
import Derived.Test.YtkefgapnghnjjaaGreatDoorRows
import Derived.Test.YtkefgapnghnjjaaGreatDoorPa07
import Derived.Test.YtkefgapnghnjjaaGreatDoorPa01
import Derived.WalkLawsBesides
import Derived.BigQuiet
import Derived.Deep.QuietTactic
import Derived.Deep.RegionLaw
import Derived.KernelRfl
import Derived.Test.YtkefgapnghnjjaaGreatDoorPa08
set_option linter.unusedSimpArgs false
set_option linter.unusedVariables false
namespace Go.Proofs.YtkefgapnghnjjaaGreatDoor
open Go.RowKit Go.Tk
theorem Tryz.tyLock : SliceTy Tryz.prog 32 50 4 56 := ⟨Tryz.underlying32, by kernel_rfl, by decide⟩
set_option maxRecDepth 100000 in
set_option maxHeartbeats 800000 in
theorem insertLock_end (w : World) (v : Value) (n : Nat) (xs : List Value) (cs : Array Value) (hown : w.ownsRow 0 50 4 v n xs) (hcs : cs.size = 4) (h1 : ∀ u ∈ cs.toList, u.oneCell' = true) (hn : n ≤ 1000000) :
    Calls Tryz.prog 130 #[v, .int .i64 n, .slice (some ⟨w.heap.size, 0, none⟩) 1 1] (w.alloc (.cells cs 50)) fun e w' => ∃ v', e = .returned v' ∧
      w'.ownsRow 0 50 4 v' (n + 1) (xs ++ cs.toList) ∧ w.grownBy w' v.ownBlock ∧ (v'.ownBlock = v.ownBlock ∨ ∃ g, v'.ownBlock = some g ∧ w.heap.size ≤ g) := by
  obtain ⟨v', w', hr, g1, g2, g3⟩ := run_append_tk (P := Tryz.prog) (ty := 32) (w.alloc (.cells cs 50)) Tryz.tyLock v n xs (hown.alloc _) ⟨w.heap.size, 0, none⟩ 1 1 cs.toList (by simpa using hcs)
    (fun j u hu => by rw [Addr.add_lit]; simp only [Nat.zero_add]; rw [World.cell?_alloc_new]; simpa using hu) h1 (by omega)
  have hfin : w.grownBy w' v.ownBlock ∧ (v'.ownBlock = v.ownBlock ∨ ∃ g, v'.ownBlock = some g ∧ w.heap.size ≤ g) := by
    refine ⟨grownBy_trans (World.grownBy_alloc w _ _) g2, ?_⟩
    rcases g3 with e | ⟨g, e, h⟩
    · exact .inl e
    · exact .inr ⟨g, e, by simp at h; omega⟩
  have HF := Lib.hid hfin
  have G1 := Lib.hid g1
  clear hfin g1 g2 g3
  rcases hown.2 with ⟨rfl, rfl⟩ | ⟨g, cap, cur, rfl, -, hg, hnc, hcm, hcs2, htake⟩
  · clear hown
    go_enter Tryz.func130, Tryz.ntmps130
    go_wp2_with (at_builtin; refine wpList_append_run rfl _ _ _ _ rfl _ _ rfl rfl hr ?_)
    go_ret
    exact ⟨v', rfl, G1.out, HF.out⟩
  · unfold maxLen at hcm
    clear hown htake hg hcs2
    by_cases hcap : cap = n
    · subst hcap
      go_enter Tryz.func130, Tryz.ntmps130
      go_wp2_with (at_builtin; refine wpList_append_run rfl _ _ _ _ rfl _ _ rfl rfl hr ?_)
      go_ret
      exact ⟨v', rfl, G1.out, HF.out⟩
    · go_enter Tryz.func130, Tryz.ntmps130
      go_wp2_with (at_builtin; refine wpList_append_run rfl _ _ _ _ rfl _ _ rfl rfl hr ?_)
      go_ret
      exact ⟨v', rfl, G1.out, HF.out⟩
set_option maxRecDepth 100000 in
set_option maxHeartbeats 800000 in
theorem insertLock_grow (w : World) (g n i : Nat) (xs : List Value) (cs : Array Value) (hown : w.ownsRow 0 50 4 (.slice (some ⟨g, 0, none⟩) n n) n xs) (hi : i < n) (hcs : cs.size = 4) (h1 : ∀ u ∈ cs.toList, u.oneCell' = true) (h1x : ∀ u ∈ xs, u.oneCell' = true) (hn : n ≤ 1000000) :
    Calls Tryz.prog 130 #[.slice (some ⟨g, 0, none⟩) n n, .int .i64 i, .slice (some ⟨w.heap.size, 0, none⟩) 1 1] (w.alloc (.cells cs 50)) fun e w' => ∃ v', e = .returned v' ∧
      w'.ownsRow 0 50 4 v' (n + 1) (xs.take (i * 4) ++ cs.toList ++ xs.drop (i * 4)) ∧ w.grownBy w' (some g) ∧ (v'.ownBlock = some g ∨ ∃ g, v'.ownBlock = some g ∧ w.heap.size ≤ g) := by
  have hglt : g < w.heap.size := (hown.lt g rfl).2
  have hxl : xs.length = n * 4 := hown.1
  have hcell := hown.cells (g := g) rfl
  have hcell0 : ∀ j v, xs[j]? = some v → (w.alloc (.cells cs 50)).cell? ((⟨g, 0, none⟩ : Addr).add j) = some v := fun j v hj => by
    have := hcell j v hj
    rw [Addr.add_lit] at this ⊢
    rw [World.cell?_alloc_past _ _ _ hglt]; exact this
  obtain ⟨w1, cur, nc, hr1, hg1, hc1, hc2, hgr1, hnc1, hnc2⟩ := run_append_zeros_tk (P := Tryz.prog) (ty := 32) (w.alloc (.cells cs 50)) Tryz.tyLock Tryz.underlying3 g i n (n + 1 - i) (xs.take (i * 4)) (by simp; omega)
    (fun j v hj => hcell0 j v (by rw [List.getElem?_take] at hj; split at hj; exact hj; cases hj)) (by omega) (by omega) (by decide)
  rw [show i + (n + 1 - i) = n + 1 by omega] at hr1 hnc1
  obtain ⟨b1, hb1⟩ : ∃ b1, b1 = (w.alloc (.cells cs 50)).heap.size := ⟨_, rfl⟩
  rw [← hb1] at hr1 hg1
  rw [show ((n + 1 - i : Nat) : Int) = (n : Int) + 1 - (i : Int) by omega] at hr1
  have hb1' : b1 = w.heap.size + 1 := by rw [hb1]; simp
  have hcs5 : cs.toList.length = 4 := by simpa using hcs
  have hcl : cur.toList.length = nc * 4 := by simpa using hc1
  have hw1old : ∀ b, b < w.heap.size + 1 → w1.heap[b]? = (w.alloc (.cells cs 50)).heap[b]? := fun b hb => hgr1.block b (by simpa using hb) (by simp)
  have hr2 := run_copy_tk (P := Tryz.prog) (ty := 3) w1 Tryz.tyLock b1 (i * 4) (n + 1 - i) (nc - i) (some ⟨w.heap.size, 0, none⟩) 1 1 cur cs.toList hg1 (by rw [hcs5, show Nat.min 1 (n + 1 - i) = 1 from Nat.min_eq_left (by omega)])
    (fun _ => ⟨_, rfl, fun j v hj => by
      rw [Addr.add_lit, World.cell?_of_block (w := w.alloc (.cells cs 50)) (hw1old w.heap.size (by omega))]
      simp only [Nat.zero_add]; rw [World.cell?_alloc_new]; simpa using hj⟩) (by omega) h1
  have hl2 : (splice cur.toList (i * 4) cs.toList).length = nc * 4 := by rw [length_splice _ _ _ (by omega)]; exact hcl
  obtain ⟨w2, hw2⟩ : ∃ w2, w2 = w1.setRow b1 (splice cur.toList (i * 4) cs.toList).toArray := ⟨_, rfl⟩
  rw [← hw2] at hr2
  have hg2 : w2.drew.heap[b1]? = some (.cells (splice cur.toList (i * 4) cs.toList).toArray 50 (0, 0)) := by rw [hw2]; exact setRow_heap w1 b1 _ _ _ _ hg1
  have hw2old : ∀ b, b < w.heap.size + 1 → w2.drew.heap[b]? = (w.alloc (.cells cs 50)).heap[b]? := fun b hb => by
    rw [hw2]; exact (setRow_other w1 b1 b _ (by omega)).trans (hw1old b hb)
  have hr3 := run_copy_tk (P := Tryz.prog) (ty := 3) w2.drew Tryz.tyLock b1 ((i + 1) * 4) (n + 1 - (i + 1)) (nc - (i + 1)) (some ⟨g, i * 4, none⟩) (n - i) (n - i) _ (xs.drop (i * 4)) hg2
    (by rw [List.length_drop, hxl, show Nat.min (n - i) (n + 1 - (i + 1)) = n - i by rw [show n + 1 - (i + 1) = n - i by omega]; exact Nat.min_self _, Nat.sub_mul])
    (fun _ => ⟨_, rfl, fun j v hj => by
      rw [Addr.add_lit, World.cell?_of_block (w := w.alloc (.cells cs 50)) (hw2old g (by omega))]
      have := hcell0 (i * 4 + j) v (by rwa [List.getElem?_drop] at hj)
      rwa [Addr.add_lit, Nat.zero_add] at this⟩) (by rw [List.size_toArray, hl2, List.length_drop]; omega) (fun u hu => h1x u (List.mem_of_mem_drop hu))
  obtain ⟨w3, hw3⟩ : ∃ w3, w3 = w2.drew.setRow b1 (splice (splice cur.toList (i * 4) cs.toList).toArray.toList ((i + 1) * 4) (xs.drop (i * 4))).toArray := ⟨_, rfl⟩
  rw [← hw3] at hr3
  have hg3 : w3.heap[b1]? = some (.cells (splice (splice cur.toList (i * 4) cs.toList).toArray.toList ((i + 1) * 4) (xs.drop (i * 4))).toArray 50 (0, 0)) := by rw [hw3]; exact setRow_heap w2.drew b1 _ _ _ _ hg2
  have hfin : w3.ownsRow 0 50 4 (.slice (some ⟨b1, 0, none⟩) (n + 1) nc) (n + 1) (xs.take (i * 4) ++ cs.toList ++ xs.drop (i * 4)) ∧ w.grownBy w3 (some g) := by
    have hyl : (xs.drop (i * 4)).length = (n - i) * 4 := by rw [List.length_drop, hxl, Nat.sub_mul]
    refine ⟨⟨by simp [hcs5, hxl]; omega, .inr ⟨b1, nc, _, rfl, Nat.zero_le _, hg3, hnc1, hnc2, ?_, ?_⟩⟩, ?_⟩
    · rw [List.size_toArray, length_splice _ _ _ (by simp only [hl2, hyl]; omega)]; exact hl2
    · have := splice_two cur.toList (i * 4) cs.toList (xs.drop (i * 4)) (by rw [hcs5, hyl]; omega)
      rw [hcs5, hyl, hc2, show i * 4 + 4 = (i + 1) * 4 by omega, show (i + 1) * 4 + (n - i) * 4 = (n + 1) * 4 by omega] at this
      exact this
    · have h0 : w.grownBy w1 (some g) := grownBy_trans (World.grownBy_alloc w _ _) ⟨hgr1.os, hgr1.tape, hgr1.output, hgr1.size, fun k hk _ => hgr1.block k hk (by simp)⟩
      refine ⟨by rw [hw3, hw2]; exact h0.os, by rw [hw3, hw2]; exact h0.tape, by rw [hw3, hw2]; exact h0.output, ?_, fun k hk hne => ?_⟩
      · rw [hw3, hw2]; simpa using h0.size
      · rw [hw3, hw2]
        exact (setRow_other _ b1 k _ (by omega)).trans ((setRow_other _ b1 k _ (by omega)).trans (h0.block k hk hne))
  have HF := Lib.hid hfin
  have H1 := Lib.hid hb1'
  clear hfin hg3 hg2 hw2old hw1old hcell hcell0 hl2 hcl hcs5 hg1 hc1 hc2 hgr1 h1 h1x hw2 hw3 hb1 hb1' hxl hown hcs
  go_enter Tryz.func130, Tryz.ntmps130
  go_wp2_with (at_builtin; refine wpList_append_run rfl (.tmp 34) (.tmp 39) _ _ rfl _ _ rfl rfl hr1 ?_)
  have q1 : IntKind.i64.wrap ((i : Int) + 1) = (i : Int) + 1 := IntWalk.i64_in _ (by omega)
  have q2 : (0 : Int) ≤ (i : Int) + 1 := by omega
  have q3 : ((i : Int) + 1).toNat = i + 1 := by omega
  have q4 : ¬ (nc = i + 1) := by omega
  have q5 : ¬ (n = i) := by omega
  have q6 : (i : Int) + 1 ≤ (n : Int) + 1 := by omega
  have q7 : i ≤ n := by omega
  go_region_law (refine step_copy_run rfl _ _ 32 32 rfl _ _ (by simp [Act.eval, Act.put]) (by simp [Act.eval, Act.put]) hr3 ?_)
  clear q1 q2 q3 q4 q5 q6 q7
  go_wp2
  go_ret
  exact ⟨_, rfl, HF.out.1, HF.out.2, .inr ⟨_, rfl, by show w.heap.size ≤ b1; rw [H1.out]; omega⟩⟩
set_option maxRecDepth 100000 in
set_option maxHeartbeats 800000 in
theorem insertLock_shift (w : World) (g n cap i : Nat) (xs : List Value) (cs : Array Value) (hown : w.ownsRow 0 50 4 (.slice (some ⟨g, 0, none⟩) n cap) n xs) (hi : i < n) (hcap : n + 1 ≤ cap) (hcs : cs.size = 4) (h1 : ∀ u ∈ cs.toList, u.oneCell' = true) (h1x : ∀ u ∈ xs, u.oneCell' = true) (hn : n ≤ 1000000) :
    Calls Tryz.prog 130 #[.slice (some ⟨g, 0, none⟩) n cap, .int .i64 i, .slice (some ⟨w.heap.size, 0, none⟩) 1 1] (w.alloc (.cells cs 50)) fun e w' => ∃ v', e = .returned v' ∧
      w'.ownsRow 0 50 4 v' (n + 1) (xs.take (i * 4) ++ cs.toList ++ xs.drop (i * 4)) ∧ w.grownBy w' (some g) ∧ (v'.ownBlock = some g ∨ ∃ g, v'.ownBlock = some g ∧ w.heap.size ≤ g) := by
  have hglt : g < w.heap.size := (hown.lt g rfl).2
  have hxl : xs.length = n * 4 := hown.1
  have hcell := hown.cells (g := g) rfl
  obtain ⟨_, cur, hg, hcm, hcsz, htake⟩ : ∃ u : Unit, ∃ cur : Array Value, w.heap[g]? = some (.cells cur 50 (0, 0)) ∧ cap ≤ maxLen ∧ cur.size = cap * 4 ∧ cur.toList.take (n * 4) = xs := by
    rcases hown.2 with ⟨h, _⟩ | ⟨g', cap', cur, h, _, hg, _, hm, hs, ht⟩
    · simp at h
    · simp only [Value.slice.injEq, Option.some.injEq, Addr.mk.injEq, and_true, true_and] at h
      obtain ⟨rfl, rfl⟩ := h
      exact ⟨(), cur, hg, hm, hs, ht⟩
  have hg0 : (w.alloc (.cells cs 50)).heap[g]? = some (.cells cur 50 (0, 0)) := (heap_alloc_old w _ hglt).trans hg
  have hcl : cur.toList.length = cap * 4 := by simpa using hcsz
  have hcs5 : cs.toList.length = 4 := by simpa using hcs
  have hyl : (xs.drop (i * 4)).length = (n - i) * 4 := by rw [List.length_drop, hxl, Nat.sub_mul]
  have hov : (callFunc 155 #[.slice (some ⟨w.heap.size, 0, none⟩) 1 1, .slice (some ⟨g, (i + 1) * 4, none⟩) (n - i) (cap - (i + 1))]).run Tryz.prog (w.alloc (.cells cs 50)) = .ok (.value (.bool false)) (w.alloc (.cells cs 50)) := by
    rw [run_callFunc_extern Tryz.func155 (by kernel_rfl) (by kernel_rfl) (by kernel_rfl) (e := Extern.SlicesOverlaps.overlaps #[32, 32] #[4]) (by kernel_rfl),
      Lib.run_overlaps_apart (w.alloc (.cells cs 50)) 32 4 50 Tryz.underlying32 4 (fun _ => by kernel_rfl) ⟨w.heap.size, 0, none⟩ ⟨g, (i + 1) * 4, none⟩ 1 1 _ _ (by simp; omega) 50 50 4 (cap * 4)
        (by simp only [World.shape?]; rw [heap_alloc_new]; simp [hcs]) (by simp only [World.shape?]; rw [hg0]; simp [hcsz]) (by omega) (World.frozen?_alloc_new w cs _ _) (World.frozen?_alloc_new w cs _ _)]
    rfl
  have hr1 := run_copy_tk (P := Tryz.prog) (ty := 3) (w.alloc (.cells cs 50)).drew Tryz.tyLock g ((i + 1) * 4) (n + 1 - (i + 1)) (cap - (i + 1)) (some ⟨g, i * 4, none⟩) (n + 1 - i) (cap - i) cur (xs.drop (i * 4)) hg0
    (by rw [hyl, show Nat.min (n + 1 - i) (n + 1 - (i + 1)) = n - i by rw [show n + 1 - (i + 1) = n - i by omega]; exact Nat.min_eq_right (by omega)])
    (fun _ => ⟨_, rfl, fun j v hj => by
      rw [Addr.add_lit, World.cell?_drew, World.cell?_alloc_past _ _ _ hglt]
      have := hcell (i * 4 + j) v (by rwa [List.getElem?_drop] at hj)
      rwa [Addr.add_lit, Nat.zero_add] at this⟩) (by rw [hyl, hcsz]; omega) (fun u hu => h1x u (List.mem_of_mem_drop hu))
  have hl1 : (splice cur.toList ((i + 1) * 4) (xs.drop (i * 4))).length = cap * 4 := by rw [length_splice _ _ _ (by omega)]; exact hcl
  obtain ⟨w1, hw1⟩ : ∃ w1, w1 = (w.alloc (.cells cs 50)).drew.setRow g (splice cur.toList ((i + 1) * 4) (xs.drop (i * 4))).toArray := ⟨_, rfl⟩
  rw [← hw1] at hr1
  have hg1 : w1.heap[g]? = some (.cells (splice cur.toList ((i + 1) * 4) (xs.drop (i * 4))).toArray 50 (0, 0)) := by rw [hw1]; exact setRow_heap _ g _ _ _ _ hg0
  have hr2 := run_copy_tk (P := Tryz.prog) (ty := 3) w1 Tryz.tyLock g (i * 4) (n + 1 - i) (cap - i) (some ⟨w.heap.size, 0, none⟩) 1 1 _ cs.toList hg1 (by rw [hcs5, show Nat.min 1 (n + 1 - i) = 1 from Nat.min_eq_left (by omega)])
    (fun _ => ⟨_, rfl, fun j v hj => by
      rw [Addr.add_lit, World.cell?_of_block (w := w.alloc (.cells cs 50)) (by rw [hw1]; exact setRow_other _ g _ _ (by simp; omega))]
      simp only [Nat.zero_add]; rw [World.cell?_alloc_new]; simpa using hj⟩) (by rw [List.size_toArray, hl1, hcs5]; omega) h1
  obtain ⟨w2, hw2⟩ : ∃ w2, w2 = w1.setRow g (splice (splice cur.toList ((i + 1) * 4) (xs.drop (i * 4))).toArray.toList (i * 4) cs.toList).toArray := ⟨_, rfl⟩
  rw [← hw2] at hr2
  have hg2 : w2.heap[g]? = some (.cells (splice (splice cur.toList ((i + 1) * 4) (xs.drop (i * 4))).toArray.toList (i * 4) cs.toList).toArray 50 (0, 0)) := by rw [hw2]; exact setRow_heap _ g _ _ _ _ hg1
  have hfin : w2.ownsRow 0 50 4 (.slice (some ⟨g, 0, none⟩) (n + 1) cap) (n + 1) (xs.take (i * 4) ++ cs.toList ++ xs.drop (i * 4)) ∧ w.grownBy w2 (some g) := by
    refine ⟨⟨by simp [hcs5, hxl]; omega, .inr ⟨g, cap, _, rfl, Nat.zero_le _, hg2, hcap, hcm, ?_, ?_⟩⟩, ?_⟩
    · rw [List.size_toArray, length_splice _ _ _ (by simp only [hl1, hcs5]; omega)]; exact hl1
    · have := splice_back cur.toList (i * 4) cs.toList (xs.drop (i * 4)) (by rw [hcs5, hyl, hcl]; omega)
      rw [hcs5, hyl, show i * 4 + 4 = (i + 1) * 4 by omega, show (i + 1) * 4 + (n - i) * 4 = (n + 1) * 4 by omega] at this
      rw [← htake, List.take_take, Nat.min_eq_left (by omega)]
      rw [← htake] at this
      exact this
    · rw [hw2, hw1]
      exact grownBy_trans (grownBy_trans (grownBy_drew (World.grownBy_alloc w _ _)) (grownBy_setRow _ g _)) (grownBy_setRow _ g _)
  have HF := Lib.hid hfin
  unfold maxLen at hcm
  clear hfin hg2 hg1 hl1 hw1 hw2 hyl hcs5 hcl hg0 hg htake hcsz hcell hxl h1 h1x hown hcs
  go_enter Tryz.func130, Tryz.ntmps130
  have p4 : ¬ (cap = i + 1) := by omega
  have p5 : ¬ (cap = i) := by omega
  go_wp2_with (simp only [hov])
  clear hov
  have q1 : IntKind.i64.wrap ((i : Int) + 1) = (i : Int) + 1 := IntWalk.i64_in _ (by omega)
  have q2 : (0 : Int) ≤ (i : Int) + 1 := by omega
  have q3 : ((i : Int) + 1).toNat = i + 1 := by omega
  have q6 : (i : Int) + 1 ≤ (n : Int) + 1 := by omega
  have q7 : i ≤ n := by omega
  have q8 : (i : Int) ≤ (n : Int) + 1 := by omega
  go_region_law (refine step_copy_run rfl _ _ 32 32 rfl _ _ (by simp [Act.eval, Act.put]) (by simp [Act.eval, Act.put]) hr1 ?_)
  clear q1 q2 q3 q6 q7 q8 hr1
  go_wp2
  go_ret
  exact ⟨_, rfl, HF.out.1, HF.out.2, .inl rfl⟩
theorem insertLock_calls {α : Type} {R : Rel α} (hR : RelOk R 4) (l : List α) (i : Nat) (hi : i ≤ l.length) (x : α) (cs : Array Value) (w : World) (v : Value) (S : Nat → Prop) (hown : OwR 50 4 R w v l S)
    (hx : R w cs.toList x (fun b => S b ∧ some b ≠ v.ownBlock)) (hn : l.length ≤ 1000000) :
    Calls Tryz.prog 130 #[v, .int .i64 i, .slice (some ⟨w.heap.size, 0, none⟩) 1 1] (w.alloc (.cells cs 50)) fun e w' => ∃ v', e = .returned v' ∧
      OwR 50 4 R w' v' (l.take i ++ x :: l.drop i) S ∧ w.grownBy w' v.ownBlock ∧ (v'.ownBlock = v.ownBlock ∨ ∃ g, v'.ownBlock = some g ∧ w.heap.size ≤ g) := by
  obtain ⟨rows, h1, h2, h3⟩ := hown
  have hcs : cs.size = 4 := by simpa using hR.len hx
  have hone := OwR.cellsOne (E := 50) hR h1 h3
  have hone2 := hR.one hx
  have hv : ∀ g, v.ownBlock = some g → g < w.heap.size := fun g hg => (h2.lt g hg).2
  have fin : ∀ (e : Ending) (w' : World), (∃ v', e = .returned v' ∧ w'.ownsRow 0 50 4 v' (l.length + 1) (rows.flatten.take (i * 4) ++ cs.toList ++ rows.flatten.drop (i * 4)) ∧ w.grownBy w' v.ownBlock ∧ (v'.ownBlock = v.ownBlock ∨ ∃ g, v'.ownBlock = some g ∧ w.heap.size ≤ g)) →
      ∃ v', e = .returned v' ∧ OwR 50 4 R w' v' (l.take i ++ x :: l.drop i) S ∧ w.grownBy w' v.ownBlock ∧ (v'.ownBlock = v.ownBlock ∨ ∃ g, v'.ownBlock = some g ∧ w.heap.size ≤ g) := by
    rintro e w' ⟨v', he, g1, g2, g3⟩
    exact ⟨v', he, OwR.insert hR hi h1 hv h3 hx g1 g2 g3, g2, g3⟩
  by_cases hil : i = l.length
  · subst hil
    refine (insertLock_end w v l.length rows.flatten cs h2 hcs hone2 hn).mono fun e w' h => fin e w' ?_
    have hfl : rows.flatten.length = l.length * 4 := h2.1
    rw [List.take_of_length_le (by omega), List.drop_of_length_le (by omega), List.append_nil]
    exact h
  · rcases id h2.2 with ⟨rfl, hl0⟩ | ⟨g, cap, cur, rfl, -, hg, hnc, -, -, -⟩
    · omega
    · by_cases hcap : l.length + 1 ≤ cap
      · exact (insertLock_shift w g l.length cap i rows.flatten cs h2 (by omega) hcap hcs hone2 hone hn).mono fin
      · obtain rfl : cap = l.length := by omega
        exact (insertLock_grow w g l.length i rows.flatten cs h2 (by omega) hcs hone2 hone hn).mono fin
end Go.Proofs.YtkefgapnghnjjaaGreatDoor

namespace Go.Tk
open Go Go.RowKit
def lockCells (x : LockD) : List Value := [.string ⟨x.name.toArray⟩, .int .i64 x.holder, .int .i64 x.fence]
theorem rLockO.mk {EK : Nat} {w : World} {x : LockD} {v : Value} {S : Nat → Prop} (h : OwR EK 1 rInt w v x.line (fun _ => False)) (hs : ∀ g, v.ownBlock = some g → S g) : rLockO EK w (lockCells x ++ [v]) x S := ⟨v, rfl, h, hs⟩
theorem OwD.cellsLock {E EK : Nat} {w : World} {g cap n : Nat} {l : List LockD} {S : Nat → Prop} (h : OwD E 4 (rLockO EK) w (.slice (some ⟨g, 0, none⟩) n cap) l S) (i : Nat) (hi : i < l.length) :
    ∃ v, (∀ (j : Nat) (u : Value), (lockCells l[i] ++ [v])[j]? = some u → w.cell? ⟨g, i * 4 + j, none⟩ = some u) ∧ OwR EK 1 rInt w v l[i].line (fun _ => False) ∧ ∀ b, v.ownBlock = some b → S b ∧ b ≠ g ∧ b < w.heap.size := by
  obtain ⟨row, G, ⟨v, rfl, hv, hg⟩, hG, hc, _⟩ := h.upd (rLockO_ok EK) i hi
  exact ⟨v, hc, hv, fun b hb => hG b (hg b hb)⟩
theorem OwD.setLock {E EK : Nat} {w : World} {g cap n : Nat} {l : List LockD} {S : Nat → Prop} (h : OwD E 4 (rLockO EK) w (.slice (some ⟨g, 0, none⟩) n cap) l S) {i : Nat} (hi : i < l.length) {j : Nat} (hj : j < 3) (u : Value) (x' : LockD)
    (hx : lockCells x' = (lockCells l[i]).set j u) (hr : x'.line = l[i].line) : OwD E 4 (rLockO EK) (w.setCell ⟨g, i * 4 + j, none⟩ u) (.slice (some ⟨g, 0, none⟩) n cap) (l.set i x') S := by
  obtain ⟨row, G, ⟨v, rfl, hv, hg⟩, hG, hc, hch⟩ := h.upd (rLockO_ok EK) i hi
  have hll : (lockCells l[i]).length = 3 := rfl
  have hc' : ∀ (q : Nat) (t : Value), (lockCells l[i] ++ [v])[q]? = some t → w.cell? ⟨g, i * 4 + q, none⟩ = some t := hc
  refine hch _ S G (lockCells x' ++ [v]) x' ((KeepsRow.refl g w).set _ _ _) (fun q hq => cell_near (by omega)) (fun q t ht => ?_) (fun b _ hb _ _ => heap_far hb) (fun _ hb => hb) (fun b hb => ⟨.inl hb, (hG b hb).1, (hG b hb).2.1, by simpa [World.setCell] using (hG b hb).2.2⟩) ?_
  · by_cases hq : q = j
    · subst hq
      rw [hx, List.getElem?_append_left (by rw [List.length_set, hll]; exact hj), List.getElem?_set_self (by rw [hll]; exact hj)] at ht
      cases ht
      obtain ⟨t0, ht0⟩ : ∃ t0, (lockCells l[i] ++ [v])[q]? = some t0 := ⟨(lockCells l[i] ++ [v])[q]'(by rw [List.length_append, hll]; show q < 3 + 1; omega), List.getElem?_eq_getElem _⟩
      exact World.cell?_setCell_same _ _ _ (hc' q t0 ht0)
    · refine (cell_near (by omega)).trans (hc' q t ?_)
      rcases Nat.lt_or_ge q 3 with h | h
      · rw [hx, List.getElem?_append_left (by rw [List.length_set, hll]; exact h), List.getElem?_set_ne (Ne.symm hq)] at ht
        rw [List.getElem?_append_left (by rw [hll]; exact h)]; exact ht
      · rw [List.getElem?_append_right (by rw [hx, List.length_set, hll]; exact h), hx, List.length_set] at ht
        rw [List.getElem?_append_right (by rw [hll]; exact h)]; exact ht
  · refine rLockO.mk ?_ hg
    rw [hr]
    exact hv.move rInt_ok (fun b hb => heap_far (hG b (hg b hb)).2.1) (fun b hb => hb.elim)
theorem OwD.inLock {E EK : Nat} {w w' : World} {g cap n : Nat} {l : List LockD} {S : Nat → Prop} (h : OwD E 4 (rLockO EK) w (.slice (some ⟨g, 0, none⟩) n cap) l S) {i : Nat} (hi : i < l.length) {v v' : Value} (hv : w.cell? ⟨g, i * 4 + 3, none⟩ = some v)
    {rs : List Int} (hg' : w.grownBy w' v.ownBlock) (ho : OwR EK 1 rInt w' v' rs (fun _ => False)) (hvv : v'.ownBlock = v.ownBlock ∨ v'.ownBlock = none ∨ ∃ b, v'.ownBlock = some b ∧ w.heap.size ≤ b ∧ S b) :
    OwD E 4 (rLockO EK) (w'.setCell ⟨g, i * 4 + 3, none⟩ v') (.slice (some ⟨g, 0, none⟩) n cap) (l.set i { l[i] with line := rs }) S := by
  obtain ⟨row, G, ⟨v0, rfl, hv0, hg⟩, hG, hc, hch⟩ := h.upd (rLockO_ok EK) i hi
  have hll : (lockCells l[i]).length = 3 := rfl
  have hc' : ∀ (q : Nat) (t : Value), (lockCells l[i] ++ [v0])[q]? = some t → w.cell? ⟨g, i * 4 + q, none⟩ = some t := hc
  obtain rfl : v0 = v := by
    have := hc' 3 v0 rfl
    rw [this] at hv; simpa using hv
  have hne : some g ≠ v0.ownBlock := fun e => (hG g (hg g e.symm)).2.1 rfl
  have hgl : g < w.heap.size := World.block_lt_of_cell? w _ (hc' 0 _ rfl)
  have hgg : w'.heap[g]? = w.heap[g]? := hg'.block g hgl hne
  have hsz := hg'.size
  have hv'l : ∀ b, v'.ownBlock = some b → (G b ∨ w.heap.size ≤ b) ∧ S b ∧ b ≠ g ∧ b < w'.heap.size := by
    intro b hb
    have hlt := ho.lt b hb
    rcases hvv with e | e | ⟨b', e, hb', hsb⟩
    · have hGb := hg b (e ▸ hb)
      exact ⟨.inl hGb, (hG b hGb).1, (hG b hGb).2.1, hlt⟩
    · rw [e] at hb; cases hb
    · rw [e] at hb; cases hb
      exact ⟨.inr hb', hsb, by omega, hlt⟩
  refine hch _ S (fun b => v'.ownBlock = some b) (lockCells { l[i] with line := rs } ++ [v']) _ ((KeepsRow.same hgg).set _ _ _) (fun q hq => (cell_near (by omega)).trans (World.cell?_of_block (a := ⟨g, q, none⟩) hgg)) (fun q t ht => ?_) (fun b hb hbg hbG hbl => (heap_far hbg).trans (hg'.block b hbl (fun e => hbG (hg b e.symm)))) (fun _ hb => hb) (fun b hb => ?_) ?_
  · by_cases hq : q = 3
    · subst hq
      cases ht
      exact World.cell?_setCell_same _ _ _ (cell_keep hv hgg)
    · have hql : q < 3 := by
        rcases Nat.lt_or_ge q 4 with h | h
        · omega
        · rw [List.getElem?_eq_none (by rw [List.length_append]; show 3 + 1 ≤ q; omega)] at ht; cases ht
      refine (cell_near (by omega)).trans (cell_keep (hc' q t ?_) hgg)
      rw [List.getElem?_append_left hql] at ht
      rw [List.getElem?_append_left (by rw [hll]; exact hql)]; exact ht
  · have := hv'l b hb
    exact ⟨this.1, this.2.1, this.2.2.1, by simpa [World.setCell] using this.2.2.2⟩
  · exact rLockO.mk (x := { l[i] with line := rs }) (ho.move rInt_ok (fun b hb => heap_far (hv'l b hb).2.2.1) (fun b hb => hb.elim)) (fun b hb => hb)
end Go.Tk
