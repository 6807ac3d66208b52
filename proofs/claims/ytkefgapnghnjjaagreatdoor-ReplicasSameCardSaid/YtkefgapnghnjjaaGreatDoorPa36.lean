/- A part of the proof, laid together from: IdxKept, InsKept, DelFKept. -/
import Derived.Test.YtkefgapnghnjjaaGreatDoorRows
import Derived.Test.YtkefgapnghnjjaaGreatDoorPa07
import Derived.Test.YtkefgapnghnjjaaGreatDoorPa01
import Derived.Test.YtkefgapnghnjjaaGreatDoorPa02
import Derived.WalkLawsBesides
import Derived.BigQuiet
import Derived.Deep.QuietTactic
import Derived.Deep.RegionLaw
import Derived.KernelRfl
set_option linter.unusedSimpArgs false
set_option linter.unusedVariables false
namespace Go.Proofs.YtkefgapnghnjjaaGreatDoor
open Go.RowKit Go.Tk
def TellsKept (w : World) (r : Option Nat) (S : Nat → Prop) (c : Nat) (cap : Value) (p : KeptD → Bool) : Prop :=
  ∀ (w' : World) (x : KeptD), w.grownBy w' r → rKept w' [.int .i64 x.seq, .int .i64 x.reply.code, .int .i64 x.reply.n, .string ⟨x.reply.text.toArray⟩] x S → Calls Tryz.prog c #[.agg #[.int .i64 x.seq, .int .i64 x.reply.code, .int .i64 x.reply.n, .string ⟨x.reply.text.toArray⟩], cap] w' fun e w'' => e = .returned (.bool (p x)) ∧ Below w'.heap.size w' w''
set_option maxRecDepth 100000 in
set_option maxHeartbeats 400000 in
theorem indexKept_calls (w : World) (v : Value) (l : List KeptD) (S : Nat → Prop) (h : SlR 4 rKept w v l S) (hn : l.length ≤ 1000000) (c : Nat) (cap : Value) (p : KeptD → Bool) (r : Option Nat) (hin : ∀ args w, (callFunc c args).run Tryz.prog w = .ok (.enter c args) w) (hp : TellsKept w r S c cap p) :
    Calls Tryz.prog 88 #[v, .func (.func c) #[] #[cap]] w fun e w' =>
      e = .returned (.int .i64 (fIdx p l)) ∧ Below w.heap.size w w' := by
  obtain ⟨a, vc, hv, hl, hm, hnil, -⟩ := id h
  subst hv
  unfold maxLen at hm
  have hlen : (l.length : Int) ≤ 1000000 := by omega
  go_enter Tryz.func88, Tryz.ntmps88
  go_wp2
  go_loopw [8] (fun i wr => ∃ n : Nat, n ≤ l.length ∧ i = .int .i64 n ∧ Hid (∀ (j : Nat) (hj : j < l.length), j < n → p l[j] = false) ∧ Below w.heap.size w wr)
    (fun i _ => l.length - (intOf i).toNat)
  case atStart => exact ⟨0, by omega, rfl, fun j _ hj => by omega, Below.refl _ _⟩
  case round =>
    obtain ⟨n, hnl, rfl, hall, hb⟩ := hrel
    have hws := hb.size
    by_cases hlt : n < l.length
    · obtain ⟨b, off, vc', row, hv, hS, hrow, hcells⟩ := (h.below rKept_ok (by decide) hb).row n hlt
      simp only [Value.slice.injEq] at hv
      obtain ⟨rfl, _, rfl⟩ := hv
      have HY : Hid (p l[n] = true → fIdx p l = n) := fun ht => fIdx_at hlt ht hall.out
      have HN : Hid (p l[n] = false → ∀ (j : Nat) (hj : j < l.length), j < n + 1 → p l[j] = false) := fun ht j hj hj1 => by
        rcases Nat.lt_or_ge j n with h | h
        · exact hall.out j hj h
        · obtain rfl : j = n := by omega
          exact ht
      clear hall
      generalize hxx : l[n] = x at *
      clear hxx
      have hrow' := hrow
      obtain rfl := hrow
      have q0 := hcells 0 _ rfl
      have q1 := hcells 1 _ rfl
      have q2 := hcells 2 _ rfl
      have q3 := hcells 3 _ rfl
      simp only [Nat.add_zero] at q0
      clear hcells
      have HC := Lib.hid (hp _ _ (grownBy_any hb r) hrow')
      clear hrow' hp h
      by_cases hf : p x = true
      · have HF := Lib.hid (HY.out hf)
        go_wp2_with fail
        refine HC.out.mono ?_; rw [hf]; rintro e w2 ⟨rfl, hb2⟩
        go_wp2
        go_ret
        exact ⟨by rw [HF.out]; rfl, hb.trans (hb2.mono hws)⟩
      · have hf' : p x = false := by simpa using hf
        go_wp2_with fail
        refine HC.out.mono ?_; rw [hf']; rintro e w2 ⟨rfl, hb2⟩
        go_wp2
        go_roundw
        case rel => exact ⟨n + 1, by omega, by go_num, HN.out hf', hb.trans (hb2.mono hws)⟩
        case measure => simp [intOf]; omega
    · obtain rfl : n = l.length := by omega
      have HF : Hid (fIdx p l = -1) := fIdx_none fun j hj => hall.out j hj hj
      clear hall hp h
      go_wp2
      go_ret
      exact ⟨by rw [HF.out]; rfl, hb⟩
end Go.Proofs.YtkefgapnghnjjaaGreatDoor

namespace Go.Proofs.YtkefgapnghnjjaaGreatDoor
open Go.RowKit Go.Tk
theorem Tryz.tyKept : SliceTy Tryz.prog 142 146 4 40 := ⟨Tryz.underlying142, by kernel_rfl, by decide⟩
set_option maxRecDepth 100000 in
set_option maxHeartbeats 800000 in
theorem insertKept_end (w : World) (v : Value) (n : Nat) (xs : List Value) (cs : Array Value) (hown : w.ownsRow 0 146 4 v n xs) (hcs : cs.size = 4) (h1 : ∀ u ∈ cs.toList, u.oneCell' = true) (hn : n ≤ 1000000) :
    Calls Tryz.prog 96 #[v, .int .i64 n, .slice (some ⟨w.heap.size, 0, none⟩) 1 1] (w.alloc (.cells cs 146)) fun e w' => ∃ v', e = .returned v' ∧
      w'.ownsRow 0 146 4 v' (n + 1) (xs ++ cs.toList) ∧ w.grownBy w' v.ownBlock ∧ (v'.ownBlock = v.ownBlock ∨ ∃ g, v'.ownBlock = some g ∧ w.heap.size ≤ g) := by
  obtain ⟨v', w', hr, g1, g2, g3⟩ := run_append_tk (P := Tryz.prog) (ty := 142) (w.alloc (.cells cs 146)) Tryz.tyKept v n xs (hown.alloc _) ⟨w.heap.size, 0, none⟩ 1 1 cs.toList (by simpa using hcs)
    (fun j u hu => by rw [Addr.add_lit]; simp only [Nat.zero_add]; rw [World.cell?_alloc_new]; simpa using hu) h1 (by omega)
  have hfin : w.grownBy w' v.ownBlock ∧ (v'.ownBlock = v.ownBlock ∨ ∃ g, v'.ownBlock = some g ∧ w.heap.size ≤ g) := by
    refine ⟨grownBy_trans (World.grownBy_alloc w _ _) g2, ?_⟩
    rcases g3 with e | ⟨g, e, h⟩
    · exact .inl e
    · exact .inr ⟨g, e, by simp at h; omega⟩
  have HF := Lib.hid hfin
  have G1 := Lib.hid g1
  clear hfin g1 g2 g3
  rcases hown.2 with ⟨rfl, rfl⟩ | ⟨g, cap, cur, rfl, -, hg, hnc, hcm, hcs2, htake⟩
  · clear hown
    go_enter Tryz.func96, Tryz.ntmps96
    go_wp2_with (at_builtin; refine wpList_append_run rfl _ _ _ _ rfl _ _ rfl rfl hr ?_)
    go_ret
    exact ⟨v', rfl, G1.out, HF.out⟩
  · unfold maxLen at hcm
    clear hown htake hg hcs2
    by_cases hcap : cap = n
    · subst hcap
      go_enter Tryz.func96, Tryz.ntmps96
      go_wp2_with (at_builtin; refine wpList_append_run rfl _ _ _ _ rfl _ _ rfl rfl hr ?_)
      go_ret
      exact ⟨v', rfl, G1.out, HF.out⟩
    · go_enter Tryz.func96, Tryz.ntmps96
      go_wp2_with (at_builtin; refine wpList_append_run rfl _ _ _ _ rfl _ _ rfl rfl hr ?_)
      go_ret
      exact ⟨v', rfl, G1.out, HF.out⟩
set_option maxRecDepth 100000 in
set_option maxHeartbeats 800000 in
theorem insertKept_grow (w : World) (g n i : Nat) (xs : List Value) (cs : Array Value) (hown : w.ownsRow 0 146 4 (.slice (some ⟨g, 0, none⟩) n n) n xs) (hi : i < n) (hcs : cs.size = 4) (h1 : ∀ u ∈ cs.toList, u.oneCell' = true) (h1x : ∀ u ∈ xs, u.oneCell' = true) (hn : n ≤ 1000000) :
    Calls Tryz.prog 96 #[.slice (some ⟨g, 0, none⟩) n n, .int .i64 i, .slice (some ⟨w.heap.size, 0, none⟩) 1 1] (w.alloc (.cells cs 146)) fun e w' => ∃ v', e = .returned v' ∧
      w'.ownsRow 0 146 4 v' (n + 1) (xs.take (i * 4) ++ cs.toList ++ xs.drop (i * 4)) ∧ w.grownBy w' (some g) ∧ (v'.ownBlock = some g ∨ ∃ g, v'.ownBlock = some g ∧ w.heap.size ≤ g) := by
  have hglt : g < w.heap.size := (hown.lt g rfl).2
  have hxl : xs.length = n * 4 := hown.1
  have hcell := hown.cells (g := g) rfl
  have hcell0 : ∀ j v, xs[j]? = some v → (w.alloc (.cells cs 146)).cell? ((⟨g, 0, none⟩ : Addr).add j) = some v := fun j v hj => by
    have := hcell j v hj
    rw [Addr.add_lit] at this ⊢
    rw [World.cell?_alloc_past _ _ _ hglt]; exact this
  obtain ⟨w1, cur, nc, hr1, hg1, hc1, hc2, hgr1, hnc1, hnc2⟩ := run_append_zeros_tk (P := Tryz.prog) (ty := 142) (w.alloc (.cells cs 146)) Tryz.tyKept Tryz.underlying3 g i n (n + 1 - i) (xs.take (i * 4)) (by simp; omega)
    (fun j v hj => hcell0 j v (by rw [List.getElem?_take] at hj; split at hj; exact hj; cases hj)) (by omega) (by omega) (by decide)
  rw [show i + (n + 1 - i) = n + 1 by omega] at hr1 hnc1
  obtain ⟨b1, hb1⟩ : ∃ b1, b1 = (w.alloc (.cells cs 146)).heap.size := ⟨_, rfl⟩
  rw [← hb1] at hr1 hg1
  rw [show ((n + 1 - i : Nat) : Int) = (n : Int) + 1 - (i : Int) by omega] at hr1
  have hb1' : b1 = w.heap.size + 1 := by rw [hb1]; simp
  have hcs5 : cs.toList.length = 4 := by simpa using hcs
  have hcl : cur.toList.length = nc * 4 := by simpa using hc1
  have hw1old : ∀ b, b < w.heap.size + 1 → w1.heap[b]? = (w.alloc (.cells cs 146)).heap[b]? := fun b hb => hgr1.block b (by simpa using hb) (by simp)
  have hr2 := run_copy_tk (P := Tryz.prog) (ty := 3) w1 Tryz.tyKept b1 (i * 4) (n + 1 - i) (nc - i) (some ⟨w.heap.size, 0, none⟩) 1 1 cur cs.toList hg1 (by rw [hcs5, show Nat.min 1 (n + 1 - i) = 1 from Nat.min_eq_left (by omega)])
    (fun _ => ⟨_, rfl, fun j v hj => by
      rw [Addr.add_lit, World.cell?_of_block (w := w.alloc (.cells cs 146)) (hw1old w.heap.size (by omega))]
      simp only [Nat.zero_add]; rw [World.cell?_alloc_new]; simpa using hj⟩) (by omega) h1
  have hl2 : (splice cur.toList (i * 4) cs.toList).length = nc * 4 := by rw [length_splice _ _ _ (by omega)]; exact hcl
  obtain ⟨w2, hw2⟩ : ∃ w2, w2 = w1.setRow b1 (splice cur.toList (i * 4) cs.toList).toArray := ⟨_, rfl⟩
  rw [← hw2] at hr2
  have hg2 : w2.drew.heap[b1]? = some (.cells (splice cur.toList (i * 4) cs.toList).toArray 146 (0, 0)) := by rw [hw2]; exact setRow_heap w1 b1 _ _ _ _ hg1
  have hw2old : ∀ b, b < w.heap.size + 1 → w2.drew.heap[b]? = (w.alloc (.cells cs 146)).heap[b]? := fun b hb => by
    rw [hw2]; exact (setRow_other w1 b1 b _ (by omega)).trans (hw1old b hb)
  have hr3 := run_copy_tk (P := Tryz.prog) (ty := 3) w2.drew Tryz.tyKept b1 ((i + 1) * 4) (n + 1 - (i + 1)) (nc - (i + 1)) (some ⟨g, i * 4, none⟩) (n - i) (n - i) _ (xs.drop (i * 4)) hg2
    (by rw [List.length_drop, hxl, show Nat.min (n - i) (n + 1 - (i + 1)) = n - i by rw [show n + 1 - (i + 1) = n - i by omega]; exact Nat.min_self _, Nat.sub_mul])
    (fun _ => ⟨_, rfl, fun j v hj => by
      rw [Addr.add_lit, World.cell?_of_block (w := w.alloc (.cells cs 146)) (hw2old g (by omega))]
      have := hcell0 (i * 4 + j) v (by rwa [List.getElem?_drop] at hj)
      rwa [Addr.add_lit, Nat.zero_add] at this⟩) (by rw [List.size_toArray, hl2, List.length_drop]; omega) (fun u hu => h1x u (List.mem_of_mem_drop hu))
  obtain ⟨w3, hw3⟩ : ∃ w3, w3 = w2.drew.setRow b1 (splice (splice cur.toList (i * 4) cs.toList).toArray.toList ((i + 1) * 4) (xs.drop (i * 4))).toArray := ⟨_, rfl⟩
  rw [← hw3] at hr3
  have hg3 : w3.heap[b1]? = some (.cells (splice (splice cur.toList (i * 4) cs.toList).toArray.toList ((i + 1) * 4) (xs.drop (i * 4))).toArray 146 (0, 0)) := by rw [hw3]; exact setRow_heap w2.drew b1 _ _ _ _ hg2
  have hfin : w3.ownsRow 0 146 4 (.slice (some ⟨b1, 0, none⟩) (n + 1) nc) (n + 1) (xs.take (i * 4) ++ cs.toList ++ xs.drop (i * 4)) ∧ w.grownBy w3 (some g) := by
    have hyl : (xs.drop (i * 4)).length = (n - i) * 4 := by rw [List.length_drop, hxl, Nat.sub_mul]
    refine ⟨⟨by simp [hcs5, hxl]; omega, .inr ⟨b1, nc, _, rfl, Nat.zero_le _, hg3, hnc1, hnc2, ?_, ?_⟩⟩, ?_⟩
    · rw [List.size_toArray, length_splice _ _ _ (by simp only [hl2, hyl]; omega)]; exact hl2
    · have := splice_two cur.toList (i * 4) cs.toList (xs.drop (i * 4)) (by rw [hcs5, hyl]; omega)
      rw [hcs5, hyl, hc2, show i * 4 + 4 = (i + 1) * 4 by omega, show (i + 1) * 4 + (n - i) * 4 = (n + 1) * 4 by omega] at this
      exact this
    · have h0 : w.grownBy w1 (some g) := grownBy_trans (World.grownBy_alloc w _ _) ⟨hgr1.os, hgr1.tape, hgr1.output, hgr1.size, fun k hk _ => hgr1.block k hk (by simp)⟩
      refine ⟨by rw [hw3, hw2]; exact h0.os, by rw [hw3, hw2]; exact h0.tape, by rw [hw3, hw2]; exact h0.output, ?_, fun k hk hne => ?_⟩
      · rw [hw3, hw2]; simpa using h0.size
      · rw [hw3, hw2]
        exact (setRow_other _ b1 k _ (by omega)).trans ((setRow_other _ b1 k _ (by omega)).trans (h0.block k hk hne))
  have HF := Lib.hid hfin
  have H1 := Lib.hid hb1'
  clear hfin hg3 hg2 hw2old hw1old hcell hcell0 hl2 hcl hcs5 hg1 hc1 hc2 hgr1 h1 h1x hw2 hw3 hb1 hb1' hxl hown hcs
  go_enter Tryz.func96, Tryz.ntmps96
  go_wp2_with (at_builtin; refine wpList_append_run rfl (.tmp 34) (.tmp 39) _ _ rfl _ _ rfl rfl hr1 ?_)
  have q1 : IntKind.i64.wrap ((i : Int) + 1) = (i : Int) + 1 := IntWalk.i64_in _ (by omega)
  have q2 : (0 : Int) ≤ (i : Int) + 1 := by omega
  have q3 : ((i : Int) + 1).toNat = i + 1 := by omega
  have q4 : ¬ (nc = i + 1) := by omega
  have q5 : ¬ (n = i) := by omega
  have q6 : (i : Int) + 1 ≤ (n : Int) + 1 := by omega
  have q7 : i ≤ n := by omega
  go_region_law (refine step_copy_run rfl _ _ 142 142 rfl _ _ (by simp [Act.eval, Act.put]) (by simp [Act.eval, Act.put]) hr3 ?_)
  clear q1 q2 q3 q4 q5 q6 q7
  go_wp2
  go_ret
  exact ⟨_, rfl, HF.out.1, HF.out.2, .inr ⟨_, rfl, by show w.heap.size ≤ b1; rw [H1.out]; omega⟩⟩
set_option maxRecDepth 100000 in
set_option maxHeartbeats 800000 in
theorem insertKept_shift (w : World) (g n cap i : Nat) (xs : List Value) (cs : Array Value) (hown : w.ownsRow 0 146 4 (.slice (some ⟨g, 0, none⟩) n cap) n xs) (hi : i < n) (hcap : n + 1 ≤ cap) (hcs : cs.size = 4) (h1 : ∀ u ∈ cs.toList, u.oneCell' = true) (h1x : ∀ u ∈ xs, u.oneCell' = true) (hn : n ≤ 1000000) :
    Calls Tryz.prog 96 #[.slice (some ⟨g, 0, none⟩) n cap, .int .i64 i, .slice (some ⟨w.heap.size, 0, none⟩) 1 1] (w.alloc (.cells cs 146)) fun e w' => ∃ v', e = .returned v' ∧
      w'.ownsRow 0 146 4 v' (n + 1) (xs.take (i * 4) ++ cs.toList ++ xs.drop (i * 4)) ∧ w.grownBy w' (some g) ∧ (v'.ownBlock = some g ∨ ∃ g, v'.ownBlock = some g ∧ w.heap.size ≤ g) := by
  have hglt : g < w.heap.size := (hown.lt g rfl).2
  have hxl : xs.length = n * 4 := hown.1
  have hcell := hown.cells (g := g) rfl
  obtain ⟨_, cur, hg, hcm, hcsz, htake⟩ : ∃ u : Unit, ∃ cur : Array Value, w.heap[g]? = some (.cells cur 146 (0, 0)) ∧ cap ≤ maxLen ∧ cur.size = cap * 4 ∧ cur.toList.take (n * 4) = xs := by
    rcases hown.2 with ⟨h, _⟩ | ⟨g', cap', cur, h, _, hg, _, hm, hs, ht⟩
    · simp at h
    · simp only [Value.slice.injEq, Option.some.injEq, Addr.mk.injEq, and_true, true_and] at h
      obtain ⟨rfl, rfl⟩ := h
      exact ⟨(), cur, hg, hm, hs, ht⟩
  have hg0 : (w.alloc (.cells cs 146)).heap[g]? = some (.cells cur 146 (0, 0)) := (heap_alloc_old w _ hglt).trans hg
  have hcl : cur.toList.length = cap * 4 := by simpa using hcsz
  have hcs5 : cs.toList.length = 4 := by simpa using hcs
  have hyl : (xs.drop (i * 4)).length = (n - i) * 4 := by rw [List.length_drop, hxl, Nat.sub_mul]
  have hov : (callFunc 134 #[.slice (some ⟨w.heap.size, 0, none⟩) 1 1, .slice (some ⟨g, (i + 1) * 4, none⟩) (n - i) (cap - (i + 1))]).run Tryz.prog (w.alloc (.cells cs 146)) = .ok (.value (.bool false)) (w.alloc (.cells cs 146)) := by
    rw [run_callFunc_extern Tryz.func134 (by kernel_rfl) (by kernel_rfl) (by kernel_rfl) (e := Extern.SlicesOverlaps.overlaps #[142, 142] #[4]) (by kernel_rfl),
      Lib.run_overlaps_apart (w.alloc (.cells cs 146)) 142 4 146 Tryz.underlying142 4 (fun _ => by kernel_rfl) ⟨w.heap.size, 0, none⟩ ⟨g, (i + 1) * 4, none⟩ 1 1 _ _ (by simp; omega) 146 146 4 (cap * 4)
        (by simp only [World.shape?]; rw [heap_alloc_new]; simp [hcs]) (by simp only [World.shape?]; rw [hg0]; simp [hcsz]) (by omega) (World.frozen?_alloc_new w cs _ _) (World.frozen?_alloc_new w cs _ _)]
    rfl
  have hr1 := run_copy_tk (P := Tryz.prog) (ty := 3) (w.alloc (.cells cs 146)).drew Tryz.tyKept g ((i + 1) * 4) (n + 1 - (i + 1)) (cap - (i + 1)) (some ⟨g, i * 4, none⟩) (n + 1 - i) (cap - i) cur (xs.drop (i * 4)) hg0
    (by rw [hyl, show Nat.min (n + 1 - i) (n + 1 - (i + 1)) = n - i by rw [show n + 1 - (i + 1) = n - i by omega]; exact Nat.min_eq_right (by omega)])
    (fun _ => ⟨_, rfl, fun j v hj => by
      rw [Addr.add_lit, World.cell?_drew, World.cell?_alloc_past _ _ _ hglt]
      have := hcell (i * 4 + j) v (by rwa [List.getElem?_drop] at hj)
      rwa [Addr.add_lit, Nat.zero_add] at this⟩) (by rw [hyl, hcsz]; omega) (fun u hu => h1x u (List.mem_of_mem_drop hu))
  have hl1 : (splice cur.toList ((i + 1) * 4) (xs.drop (i * 4))).length = cap * 4 := by rw [length_splice _ _ _ (by omega)]; exact hcl
  obtain ⟨w1, hw1⟩ : ∃ w1, w1 = (w.alloc (.cells cs 146)).drew.setRow g (splice cur.toList ((i + 1) * 4) (xs.drop (i * 4))).toArray := ⟨_, rfl⟩
  rw [← hw1] at hr1
  have hg1 : w1.heap[g]? = some (.cells (splice cur.toList ((i + 1) * 4) (xs.drop (i * 4))).toArray 146 (0, 0)) := by rw [hw1]; exact setRow_heap _ g _ _ _ _ hg0
  have hr2 := run_copy_tk (P := Tryz.prog) (ty := 3) w1 Tryz.tyKept g (i * 4) (n + 1 - i) (cap - i) (some ⟨w.heap.size, 0, none⟩) 1 1 _ cs.toList hg1 (by rw [hcs5, show Nat.min 1 (n + 1 - i) = 1 from Nat.min_eq_left (by omega)])
    (fun _ => ⟨_, rfl, fun j v hj => by
      rw [Addr.add_lit, World.cell?_of_block (w := w.alloc (.cells cs 146)) (by rw [hw1]; exact setRow_other _ g _ _ (by simp; omega))]
      simp only [Nat.zero_add]; rw [World.cell?_alloc_new]; simpa using hj⟩) (by rw [List.size_toArray, hl1, hcs5]; omega) h1
  obtain ⟨w2, hw2⟩ : ∃ w2, w2 = w1.setRow g (splice (splice cur.toList ((i + 1) * 4) (xs.drop (i * 4))).toArray.toList (i * 4) cs.toList).toArray := ⟨_, rfl⟩
  rw [← hw2] at hr2
  have hg2 : w2.heap[g]? = some (.cells (splice (splice cur.toList ((i + 1) * 4) (xs.drop (i * 4))).toArray.toList (i * 4) cs.toList).toArray 146 (0, 0)) := by rw [hw2]; exact setRow_heap _ g _ _ _ _ hg1
  have hfin : w2.ownsRow 0 146 4 (.slice (some ⟨g, 0, none⟩) (n + 1) cap) (n + 1) (xs.take (i * 4) ++ cs.toList ++ xs.drop (i * 4)) ∧ w.grownBy w2 (some g) := by
    refine ⟨⟨by simp [hcs5, hxl]; omega, .inr ⟨g, cap, _, rfl, Nat.zero_le _, hg2, hcap, hcm, ?_, ?_⟩⟩, ?_⟩
    · rw [List.size_toArray, length_splice _ _ _ (by simp only [hl1, hcs5]; omega)]; exact hl1
    · have := splice_back cur.toList (i * 4) cs.toList (xs.drop (i * 4)) (by rw [hcs5, hyl, hcl]; omega)
      rw [hcs5, hyl, show i * 4 + 4 = (i + 1) * 4 by omega, show (i + 1) * 4 + (n - i) * 4 = (n + 1) * 4 by omega] at this
      rw [← htake, List.take_take, Nat.min_eq_left (by omega)]
      rw [← htake] at this
      exact this
    · rw [hw2, hw1]
      exact grownBy_trans (grownBy_trans (grownBy_drew (World.grownBy_alloc w _ _)) (grownBy_setRow _ g _)) (grownBy_setRow _ g _)
  have HF := Lib.hid hfin
  unfold maxLen at hcm
  clear hfin hg2 hg1 hl1 hw1 hw2 hyl hcs5 hcl hg0 hg htake hcsz hcell hxl h1 h1x hown hcs
  go_enter Tryz.func96, Tryz.ntmps96
  have p4 : ¬ (cap = i + 1) := by omega
  have p5 : ¬ (cap = i) := by omega
  go_wp2_with (simp only [hov])
  clear hov
  have q1 : IntKind.i64.wrap ((i : Int) + 1) = (i : Int) + 1 := IntWalk.i64_in _ (by omega)
  have q2 : (0 : Int) ≤ (i : Int) + 1 := by omega
  have q3 : ((i : Int) + 1).toNat = i + 1 := by omega
  have q6 : (i : Int) + 1 ≤ (n : Int) + 1 := by omega
  have q7 : i ≤ n := by omega
  have q8 : (i : Int) ≤ (n : Int) + 1 := by omega
  go_region_law (refine step_copy_run rfl _ _ 142 142 rfl _ _ (by simp [Act.eval, Act.put]) (by simp [Act.eval, Act.put]) hr1 ?_)
  clear q1 q2 q3 q6 q7 q8 hr1
  go_wp2
  go_ret
  exact ⟨_, rfl, HF.out.1, HF.out.2, .inl rfl⟩
theorem insertKept_calls {α : Type} {R : Rel α} (hR : RelOk R 4) (l : List α) (i : Nat) (hi : i ≤ l.length) (x : α) (cs : Array Value) (w : World) (v : Value) (S : Nat → Prop) (hown : OwR 146 4 R w v l S)
    (hx : R w cs.toList x (fun b => S b ∧ some b ≠ v.ownBlock)) (hn : l.length ≤ 1000000) :
    Calls Tryz.prog 96 #[v, .int .i64 i, .slice (some ⟨w.heap.size, 0, none⟩) 1 1] (w.alloc (.cells cs 146)) fun e w' => ∃ v', e = .returned v' ∧
      OwR 146 4 R w' v' (l.take i ++ x :: l.drop i) S ∧ w.grownBy w' v.ownBlock ∧ (v'.ownBlock = v.ownBlock ∨ ∃ g, v'.ownBlock = some g ∧ w.heap.size ≤ g) := by
  obtain ⟨rows, h1, h2, h3⟩ := hown
  have hcs : cs.size = 4 := by simpa using hR.len hx
  have hone := OwR.cellsOne (E := 146) hR h1 h3
  have hone2 := hR.one hx
  have hv : ∀ g, v.ownBlock = some g → g < w.heap.size := fun g hg => (h2.lt g hg).2
  have fin : ∀ (e : Ending) (w' : World), (∃ v', e = .returned v' ∧ w'.ownsRow 0 146 4 v' (l.length + 1) (rows.flatten.take (i * 4) ++ cs.toList ++ rows.flatten.drop (i * 4)) ∧ w.grownBy w' v.ownBlock ∧ (v'.ownBlock = v.ownBlock ∨ ∃ g, v'.ownBlock = some g ∧ w.heap.size ≤ g)) →
      ∃ v', e = .returned v' ∧ OwR 146 4 R w' v' (l.take i ++ x :: l.drop i) S ∧ w.grownBy w' v.ownBlock ∧ (v'.ownBlock = v.ownBlock ∨ ∃ g, v'.ownBlock = some g ∧ w.heap.size ≤ g) := by
    rintro e w' ⟨v', he, g1, g2, g3⟩
    exact ⟨v', he, OwR.insert hR hi h1 hv h3 hx g1 g2 g3, g2, g3⟩
  by_cases hil : i = l.length
  · subst hil
    refine (insertKept_end w v l.length rows.flatten cs h2 hcs hone2 hn).mono fun e w' h => fin e w' ?_
    have hfl : rows.flatten.length = l.length * 4 := h2.1
    rw [List.take_of_length_le (by omega), List.drop_of_length_le (by omega), List.append_nil]
    exact h
  · rcases id h2.2 with ⟨rfl, hl0⟩ | ⟨g, cap, cur, rfl, -, hg, hnc, -, -, -⟩
    · omega
    · by_cases hcap : l.length + 1 ≤ cap
      · exact (insertKept_shift w g l.length cap i rows.flatten cs h2 (by omega) hcap hcs hone2 hone hn).mono fin
      · obtain rfl : cap = l.length := by omega
        exact (insertKept_grow w g l.length i rows.flatten cs h2 (by omega) hcs hone2 hone hn).mono fin
end Go.Proofs.YtkefgapnghnjjaaGreatDoor

namespace Go.Proofs.YtkefgapnghnjjaaGreatDoor
open Go.RowKit Go.Tk
theorem Tryz.zeroKept : ∀ i z, Tryz.prog.info? 146 = some i → i.zero = some z → ∀ v ∈ z.cells.toList, v.oneCell' = true := by
  have h : ((Tryz.prog.info? 146).bind (·.zero)).map (fun z => z.cells.toList.all (·.oneCell')) = some true := by kernel_rfl
  intro i z hi hz
  rw [hi, Option.bind_some, hz, Option.map_some, Option.some.injEq, List.all_eq_true] at h
  exact h
set_option maxRecDepth 100000 in
set_option maxHeartbeats 4000000 in
theorem deleteFuncKept_calls (w : World) (v : Value) (l : List KeptD) (S : Nat → Prop) (h : OwR 146 4 rKept w v l S) (hS : ∀ g, v.ownBlock = some g → S g) (hn : l.length ≤ 1000000) (c : Nat) (cap : Value) (p : KeptD → Bool)
    (hin : ∀ args w, (callFunc c args).run Tryz.prog w = .ok (.enter c args) w) (hp : TellsKept w v.ownBlock S c cap p) :
    Calls Tryz.prog 86 #[v, .func (.func c) #[] #[cap]] w fun e w' => ∃ v',
      e = .returned v' ∧ OwR 146 4 rKept w' v' (l.filter fun x => !p x) S ∧ w.grownBy w' v.ownBlock ∧ v'.ownBlock = v.ownBlock := by
  rcases fIdx_cases p l with ⟨hi, hall⟩ | ⟨n, hnl, hi, hpn, hall⟩
  · have hl0 : l.filter (fun x => !p x) = l := List.filter_eq_self.2 fun x hx => by rw [hall x hx]; rfl
    have HC := Lib.hid (indexKept_calls w v l S (h.read rKept_ok (by decide) hS) hn c cap p _ hin hp)
    have HI := Lib.hid hi
    have HL := Lib.hid hl0
    clear hl0 hi hp
    obtain ⟨va, vc, rfl⟩ := h.shape
    go_enter Tryz.func86, Tryz.ntmps86
    go_wp2_with fail
    refine HC.out.mono ?_; rw [HI.out]; rintro e w1 ⟨rfl, hb1⟩
    go_wp2
    go_ret
    exact ⟨_, rfl, by rw [HL.out]; exact h.below rKept_ok hb1, grownBy_any hb1 _, rfl⟩
  · have HC := Lib.hid (indexKept_calls w v l S (h.read rKept_ok (by decide) hS) hn c cap p _ hin hp)
    have HI := Lib.hid hi
    obtain ⟨g, vc, rfl, hlc, hcm⟩ : ∃ g vc, v = .slice (some ⟨g, 0, none⟩) l.length vc ∧ l.length ≤ vc ∧ vc ≤ maxLen := by
      obtain ⟨rows, h1, h2, h3⟩ := id h
      rcases h2.2 with ⟨rfl, hn⟩ | ⟨g, vc, cur, rfl, _, _, hc, hm, _⟩
      · omega
      · exact ⟨g, vc, rfl, hc, hm⟩
    have HK := Lib.hid (keep_first hnl hpn hall)
    unfold maxLen at hcm
    have hlen : (l.length : Int) ≤ 1000000 := by omega
    have hni : ((n : Int) == -1) = false := by simp
    have hSg := hS g rfl
    clear hall hpn hi hS
    go_enter Tryz.func86, Tryz.ntmps86
    go_wp2_with fail
    refine HC.out.mono ?_; rw [HI.out]; rintro e w1 ⟨rfl, hb1⟩
    go_wp2
    go_loopw [5, 6] (fun i j wr => ∃ (a b : Nat) (m : List KeptD), a < b ∧ b ≤ l.length ∧ i = .int .i64 a ∧ j = .int .i64 b ∧ m.length = l.length ∧ OwR 146 4 rKept wr (.slice (some ⟨g, 0, none⟩) l.length vc) m S ∧
        Hid (m.take a = (l.take b).filter fun x => !p x) ∧ Hid (m.drop b = l.drop b) ∧ w.grownBy wr (some g))
      (fun _ j _ => l.length - (intOf j).toNat)
    case atStart => exact ⟨n, n + 1, l, by omega, by omega, rfl, by go_num, rfl, h.below rKept_ok hb1, HK.out, rfl, grownBy_any hb1 _⟩
    case round =>
      obtain ⟨a, b, m, hab, hbl, rfl, rfl, hml, ho, hk1, hk2, hgr⟩ := hrel
      have hws := hgr.size
      have hrd := ho.read rKept_ok (by decide) (fun g' hg' => by cases hg'; exact hSg)
      have hgl : g < wr.heap.size := ho.lt g rfl
      have hfz : ∀ j, wr.frozen? ⟨g, j, none⟩ = false := by
        obtain ⟨rows, h1, h2, h3⟩ := id ho
        rcases h2.2 with ⟨h, _⟩ | ⟨g', vc', cur, h, _, hg, _⟩
        · simp at h
        · simp only [Value.slice.injEq, Option.some.injEq, Addr.mk.injEq, and_true] at h
          obtain ⟨rfl, _, _⟩ := h
          exact fun j => frozen_of_row wr g j cur _ hg
      by_cases hlt : b < l.length
      · have hmb : b < m.length := by omega
        obtain ⟨row, hrow, hcells⟩ := ho.at rKept_ok hmb
        obtain ⟨rowa, hrowa, hcellsa⟩ := ho.at rKept_ok (i := a) (by omega)
        have hd := drop_at hlt hml hk2.out
        have HT : Hid (p l[b] = true → m.take a = (l.take (b + 1)).filter fun x => !p x) := fun e => keep_skip hlt e hk1.out
        have HF : Hid (p l[b] = false → (m.set a l[b]).take (a + 1) = (l.take (b + 1)).filter fun x => !p x) := fun e => keep_take hlt (by omega) e hk1.out
        have HD : Hid (m.drop (b + 1) = l.drop (b + 1)) := drop_more hk2.out
        have HE : Hid ((m.set a l[b]).drop (b + 1) = l.drop (b + 1)) := keep_drop hab _ hk2.out
        clear hk1 hk2
        rw [hd] at hrow
        clear hd
        generalize l[b] = x at *
        generalize m[a] = y at *
        have hrow' := hrow
        have HO := Lib.hid ho
        obtain rfl := hrow
        have q0 := hcells 0 _ rfl
        have q1 := hcells 1 _ rfl
        have q2 := hcells 2 _ rfl
        have q3 := hcells 3 _ rfl
        simp only [Nat.add_zero] at q0
        have HA := Lib.hid hcellsa
        clear hcells hcellsa ho
        obtain rfl := hrowa
        by_cases hf : p x = true
        · have HT' := Lib.hid (HT.out hf)
          clear HT HF HE
          go_wp2_with fail
          refine (hp _ _ (grownBy_alloc hgr _) (rKept_ok.sub (rKept_ok.below hrow' (below_alloc _ _)) fun b hb _ => hb.1)).mono ?_; rw [hf]; rintro e w2 ⟨rfl, hb2⟩
          go_wp2
          go_roundw
          case rel => exact ⟨a, b + 1, m, by omega, by omega, rfl, by go_num, hml, HO.out.below rKept_ok (below_step (below_alloc _ _) hb2), HT'.out, HD.out, grownBy_below (grownBy_alloc hgr _) hb2⟩
          case measure => simp [intOf]; omega
        · have hf' : p x = false := by simpa using hf
          have HF' := Lib.hid (HF.out hf')
          clear HT HF hf
          go_wp2_with fail
          refine (hp _ _ (grownBy_alloc hgr _) (rKept_ok.sub (rKept_ok.below hrow' (below_alloc _ _)) fun b hb _ => hb.1)).mono ?_; rw [hf']; rintro e w2 ⟨rfl, hb2⟩
          have hb3 := below_step (below_alloc wr _) hb2
          rw [World.size_alloc] at hb2
          obtain ⟨hz, hzf, hzs⟩ := fresh hb2
          have z0 := hz 0; have z1 := hz 1; have z2 := hz 2; have z3 := hz 3
          have hc2 : ∀ j, w2.cell? ⟨g, j, none⟩ = wr.cell? ⟨g, j, none⟩ := fun j => hb3.cell (p := ⟨g, j, none⟩) hgl
          have hfz2 : ∀ j, w2.frozen? ⟨g, j, none⟩ = false := fun j => (hb3.frozen (p := ⟨g, j, none⟩) hgl).trans (hfz j)
          have p0 := (hc2 _).trans (HA.out 0 _ rfl); have p1 := (hc2 _).trans (HA.out 1 _ rfl); have p2 := (hc2 _).trans (HA.out 2 _ rfl); have p3 := (hc2 _).trans (HA.out 3 _ rfl); simp only [Nat.add_zero] at p0
          clear hz hzf hc2
          have hal : a < l.length := by omega
          go_wp2
          go_roundw
          case rel =>
            refine ⟨a + 1, b + 1, m.set a x, by omega, by omega, by go_num, by go_num, by simp [hml], ?_, HF'.out, HE.out, ?_⟩
            · exact (HO.out.below rKept_ok hb3).setRow rKept_ok (i := a) (by omega) (x := x) (cs := [.int .i64 x.seq, .int .i64 x.reply.code, .int .i64 x.reply.n, .string ⟨x.reply.text.toArray⟩]) (rKept_ok.below hrow' hb3)
            · exact grownBy_sets (.inl rfl) [.int .i64 x.seq, .int .i64 x.reply.code, .int .i64 x.reply.n, .string ⟨x.reply.text.toArray⟩] (a * 4) w2 (grownBy_below hgr hb3)
          case measure => simp [intOf]; omega
      · obtain rfl : b = l.length := by omega
        have HM : Hid (m.take a = l.filter fun x => !p x) := by have := hk1.out; rwa [List.take_length] at this
        obtain ⟨cur, hg, hcs⟩ : ∃ cur, wr.heap[g]? = some (.cells cur 146 (0, 0)) ∧ cur.size = vc * 4 := by
          obtain ⟨rows, h1, h2, h3⟩ := id ho
          rcases h2.2 with ⟨h, _⟩ | ⟨g', vc', cur, h, _, hg, _, _, hs, _⟩
          · simp at h
          · simp only [Value.slice.injEq, Option.some.injEq, Addr.mk.injEq, and_true] at h
            obtain ⟨rfl, _, rfl⟩ := h
            exact ⟨cur, hg, hs⟩
        have hcl : cur.toList.length = vc * 4 := by simpa using hcs
        obtain ⟨zs, hzl, hr1⟩ := run_clear_tk (P := Tryz.prog) (ty := 0) wr Tryz.tyKept g (a * 4) (l.length - a) (vc - a) cur hg (by rw [hcs]; omega) Tryz.zeroKept
        obtain ⟨wc, hwc⟩ : ∃ wc, wc = wr.setRow g (splice cur.toList (a * 4) zs).toArray := ⟨_, rfl⟩
        rw [← hwc] at hr1
        have hfin : OwR 146 4 rKept wc (.slice (some ⟨g, 0, none⟩) a vc) (m.take a) S ∧ w.grownBy wc (some g) := by
          have hgc : wc.heap[g]? = some (.cells (splice cur.toList (a * 4) zs).toArray 146 (0, 0)) := by rw [hwc]; exact setRow_heap wr g _ _ _ _ hg
          refine ⟨ho.cut rKept_ok (by omega) ?_ (fun j hj => ?_) (fun b' _ hb' _ => by rw [hwc]; exact setRow_other wr g b' _ hb'), ?_⟩
          · intro c0 E0 fz0 h0
            rw [hg] at h0
            cases h0
            exact ⟨_, hgc, by rw [List.size_toArray, length_splice _ _ _ (by omega)]; simp⟩
          · rw [cells_take hgc, cells_take hg, ← Array.getElem?_toList, ← Array.getElem?_toList]
            have := splice_take cur.toList (a * 4) zs (by omega)
            have h2 : ((splice cur.toList (a * 4) zs).take (a * 4 + zs.length))[j]? = (cur.toList.take (a * 4) ++ zs)[j]? := by rw [this]
            rw [List.getElem?_take_of_lt (by omega), List.getElem?_append_left (by rw [List.length_take]; omega), List.getElem?_take_of_lt (by omega)] at h2
            exact h2
          · rw [hwc]; exact grownBy_trans hgr ⟨rfl, rfl, rfl, by simp [World.setRow], fun k _ hk => setRow_other wr g k _ (fun e => hk (by rw [e]))⟩
        have HF := Lib.hid hfin
        clear hfin hg hcs hcl hwc hk1 hk2 ho hrd hfz
        have hal : a ≤ l.length := by omega
        have halv : a ≤ vc := by omega
        have hne : ¬ vc = a := by omega
        go_wp2_with (at_builtin; refine wpList_clear_run rfl (.tmp 38) _ rfl _ rfl hr1 ?_)
        go_ret
        exact ⟨_, rfl, by rw [← HM.out]; exact HF.out.1, HF.out.2, rfl⟩
end Go.Proofs.YtkefgapnghnjjaaGreatDoor
