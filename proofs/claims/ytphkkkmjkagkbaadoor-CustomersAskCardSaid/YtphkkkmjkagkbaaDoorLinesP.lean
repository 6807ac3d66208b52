/- LinesFair, plainly. -/
import Derived.Test.YtphkkkmjkagkbaaDoorLockP
import Derived.Test.YtphkkkmjkagkbaaDoorCodecP
import Derived.Test.YtphkkkmjkagkbaaDoorNumP
namespace Go.Tk
open Go
theorem compare_self : ∀ s : List UInt8, Lib.compareBytes s s = 0
  | [] => rfl
  | c :: r => by rw [Lib.compareBytes, if_neg (UInt8.lt_irrefl c), if_neg (UInt8.lt_irrefl c), compare_self r]
theorem lk_one {x : LockD} (h1 : lkName x.name = true) (h2 : 0 ≤ x.holder ∧ x.holder ≤ 9) (h3 : LineOk x) (h4 : 1 ≤ x.fence ∧ x.fence ≤ 1073741824) : LkOk [x] := by
  refine ⟨by simp, ?_, ?_, ?_, ?_, ?_⟩
  · intro y hy; simp at hy; subst hy; exact h1
  · intro y hy; simp at hy; subst hy; exact h2
  · intro y hy; simp at hy; subst hy; exact h3
  · intro y hy; simp at hy; subst hy; exact h4
  · intro i h1 h2; simp at h2; omega
theorem lk_find (x : LockD) : lThere [x] x.name = true ∧ lFind [x] x.name = 0 := by
  have h0 : lockCmp x x.name = 0 := compare_self x.name
  have h1 : bs (fun i => lockCmp ([x].getD i noLock) x.name) 1 = 0 := by simp [bs, bsGo, h0]
  refine ⟨?_, h1⟩
  show (decide (bs (fun i => lockCmp ([x].getD i noLock) x.name) 1 < 1) && (lockCmp ([x].getD (bs (fun i => lockCmp ([x].getD i noLock) x.name) 1) noLock) x.name == 0)) = true
  rw [h1]; simp [h0]
theorem lk_begin {l : List LockD} {name : List UInt8} {who : Int} (h : LkOk l) (h2 : lkName name = true) (h3 : 1 ≤ who ∧ who ≤ 9) : (lkBegin l name who).2.2.2 = 0 := by
  rw [lkBegin, if_neg (by rw [lkCheck_ok.2 h]; simp), if_neg (by rw [h2]; decide), if_neg (by rw [lkClient_iff.2 h3]; decide)]
theorem lk_nil : LkOk [] := ⟨by simp, by simp, by simp, by simp, by simp, by simp⟩
theorem take_nil {name : List UInt8} {who : Int} {wt : Bool} (h2 : lkName name = true) (h3 : 1 ≤ who ∧ who ≤ 9) : lkTake [] name who wt = ([⟨name, who, 1, []⟩], ⟨0, 1, []⟩, 0) := by
  rw [lkTake, if_neg (by rw [lk_begin lk_nil h2 h3]; simp), if_pos (show lThere [] name = false from rfl), if_neg (by simp)]
  simp
theorem take_line {x : LockD} {who : Int} (h : LkOk [x]) (hw : 1 ≤ who ∧ who ≤ 9) (h1 : x.holder ≠ who) (h2 : x.holder ≠ 0) (h3 : who ∉ x.line) (h4 : x.line.length ≠ 3) : lkTake [x] x.name who true = ([{ x with line := x.line ++ [who] }], ⟨10, x.holder, []⟩, 0) := by
  have hn : lkName x.name = true := h.name x (by simp)
  obtain ⟨f1, f2⟩ := lk_find x
  rw [lkTake, if_neg (by rw [lk_begin h hn hw]; simp), if_neg (by rw [f1]; decide), f2]
  simp only [List.getD_cons_zero, List.set_cons_zero]
  rw [if_neg h1, if_neg h2, if_neg (by simp [h3]), if_neg h4]
theorem take_full {x : LockD} {who : Int} (h : LkOk [x]) (hw : 1 ≤ who ∧ who ≤ 9) (h1 : x.holder ≠ who) (h2 : x.holder ≠ 0) (h3 : who ∉ x.line) (h4 : x.line.length = 3) : lkTake [x] x.name who true = ([x], ⟨8, 0, []⟩, 0) := by
  have hn : lkName x.name = true := h.name x (by simp)
  obtain ⟨f1, f2⟩ := lk_find x
  rw [lkTake, if_neg (by rw [lk_begin h hn hw]; simp), if_neg (by rw [f1]; decide), f2]
  simp only [List.getD_cons_zero, List.set_cons_zero]
  rw [if_neg h1, if_neg h2, if_neg (by simp [h3]), if_pos h4]
theorem free_one {x : LockD} (h : LkOk [x]) (hw : 1 ≤ x.holder) : lkFree [x] x.name x.holder = ([passP x], ⟨0, (passP x).holder, []⟩, 0) := by
  have hn : lkName x.name = true := h.name x (by simp)
  have hh := h.hold x (by simp)
  obtain ⟨f1, f2⟩ := lk_find x
  rw [lkFree, if_neg (by rw [lk_begin h hn ⟨hw, hh.2⟩]; simp), if_neg (by rw [f1]; decide), f2]
  simp only [List.getD_cons_zero, List.set_cons_zero]
  rw [if_pos trivial]
theorem who_one {x : LockD} (h : LkOk [x]) : lWho [x] x.name = if x.holder = 0 then (0, 0, 0) else (x.holder, x.fence, 0) := by
  obtain ⟨f1, f2⟩ := lk_find x
  rw [lWho, if_neg (by rw [lkCheck_ok.2 h]; simp), f1, f2]
  simp
def kname (n : Int) : List UInt8 := if picked n 3 = 0 then [97] else if picked n 3 = 1 then [98] else [107, 101, 121]
theorem kname_ok (n : Int) : lkName (kname n) = true := by
  unfold kname
  split
  · decide
  · split <;> decide

/-- Three clients in a row, from one on. -/
def ord (a : Int) : List Int := [a, 1 + a % 3, 1 + (1 + a) % 3]
def lf1 (k : List UInt8) (a : Int) (n : Nat) : LockD := ⟨k, 9, 1, (ord a).take n⟩
def lfH (a : Int) (n : Nat) : Int := [9, a, 1 + a % 3, 1 + (1 + a) % 3, 0].getD n 0
def lfF (n : Nat) : Int := [1, 2, 3, 4, 4].getD n 4
def lf2 (k : List UInt8) (a : Int) (n : Nat) : LockD := ⟨k, lfH a n, lfF n, (ord a).drop n⟩
theorem lf2_zero (k : List UInt8) (a : Int) : lf2 k a 0 = lf1 k a 3 := rfl
theorem three {a : Int} (ha : 1 ≤ a ∧ a ≤ 3) : a = 1 ∨ a = 2 ∨ a = 3 := by omega
theorem LineOk.rename {k k' : List UInt8} {h f : Int} {l : List Int} (o : LineOk ⟨k, h, f, l⟩) : LineOk ⟨k', h, f, l⟩ := ⟨o.len, o.held, o.cl, o.ne, o.nodup⟩
theorem lf1_line {a : Int} (ha : 1 ≤ a ∧ a ≤ 3) (n : Nat) (hn : n ≤ 3) : LineOk (lf1 [] a n) := by
  rcases three ha with rfl | rfl | rfl <;> (rcases (show n = 0 ∨ n = 1 ∨ n = 2 ∨ n = 3 by omega) with rfl | rfl | rfl | rfl) <;>
    exact ⟨by decide, by decide, by decide, by decide, by decide⟩
theorem lf2_line {a : Int} (ha : 1 ≤ a ∧ a ≤ 3) (n : Nat) (hn : n ≤ 4) : LineOk (lf2 [] a n) := by
  rcases three ha with rfl | rfl | rfl <;> (rcases (show n = 0 ∨ n = 1 ∨ n = 2 ∨ n = 3 ∨ n = 4 by omega) with rfl | rfl | rfl | rfl | rfl) <;>
    exact ⟨by decide, by decide, by decide, by decide, by decide⟩
theorem lf1_ok {k : List UInt8} {a : Int} (hk : lkName k = true) (ha : 1 ≤ a ∧ a ≤ 3) (n : Nat) (hn : n ≤ 3) : LkOk [lf1 k a n] :=
  lk_one hk (show 0 ≤ (9 : Int) ∧ (9 : Int) ≤ 9 by decide) (lf1_line ha n hn).rename (show 1 ≤ (1 : Int) ∧ (1 : Int) ≤ 1073741824 by decide)
theorem lfH_ok {a : Int} (ha : 1 ≤ a ∧ a ≤ 3) (n : Nat) (hn : n ≤ 4) : 0 ≤ lfH a n ∧ lfH a n ≤ 9 := by
  rcases three ha with rfl | rfl | rfl <;> (rcases (show n = 0 ∨ n = 1 ∨ n = 2 ∨ n = 3 ∨ n = 4 by omega) with rfl | rfl | rfl | rfl | rfl) <;> decide
theorem lfF_ok (n : Nat) (hn : n ≤ 4) : 1 ≤ lfF n ∧ lfF n ≤ 1073741824 := by
  rcases (show n = 0 ∨ n = 1 ∨ n = 2 ∨ n = 3 ∨ n = 4 by omega) with rfl | rfl | rfl | rfl | rfl <;> decide
theorem lf2_ok {k : List UInt8} {a : Int} (hk : lkName k = true) (ha : 1 ≤ a ∧ a ≤ 3) (n : Nat) (hn : n ≤ 4) : LkOk [lf2 k a n] :=
  lk_one hk (lfH_ok ha n hn) (lf2_line ha n hn).rename (lfF_ok n hn)
theorem ord_who {a : Int} (ha : 1 ≤ a ∧ a ≤ 3) (n : Nat) (hn : n < 3) : (1 ≤ (ord a).getD n 0 ∧ (ord a).getD n 0 ≤ 9) ∧ (9 : Int) ≠ (ord a).getD n 0 ∧ (ord a).getD n 0 ∉ (ord a).take n ∧ ((ord a).take n).length ≠ 3 := by
  rcases three ha with rfl | rfl | rfl <;> (rcases (show n = 0 ∨ n = 1 ∨ n = 2 by omega) with rfl | rfl | rfl) <;> decide
theorem lf1_take {k : List UInt8} {a : Int} (hk : lkName k = true) (ha : 1 ≤ a ∧ a ≤ 3) (n : Nat) (hn : n < 3) : lkTake [lf1 k a n] k ((ord a).getD n 0) true = ([lf1 k a (n + 1)], ⟨10, 9, []⟩, 0) := by
  have hok := lf1_ok hk ha n (by omega)
  obtain ⟨h1, h2, h3, h4⟩ := ord_who ha n hn
  have : lkTake [lf1 k a n] (lf1 k a n).name ((ord a).getD n 0) true = ([{ lf1 k a n with line := (lf1 k a n).line ++ [(ord a).getD n 0] }], ⟨10, (lf1 k a n).holder, []⟩, 0) :=
    take_line hok h1 h2 (show (9 : Int) ≠ 0 by decide) h3 h4
  refine this.trans ?_
  rcases (show n = 0 ∨ n = 1 ∨ n = 2 by omega) with rfl | rfl | rfl <;> rfl
theorem lf1_full {k : List UInt8} {a : Int} (hk : lkName k = true) (ha : 1 ≤ a ∧ a ≤ 3) : lkTake [lf1 k a 3] k 8 true = ([lf1 k a 3], ⟨8, 0, []⟩, 0) := by
  have hok := lf1_ok hk ha 3 (by omega)
  have h8 : (8 : Int) ∉ ord a := by rcases three ha with rfl | rfl | rfl <;> decide
  exact take_full (x := lf1 k a 3) hok (by decide) (show (9 : Int) ≠ 8 by decide) (show (9 : Int) ≠ 0 by decide) h8 rfl
theorem lf2_free {k : List UInt8} {a : Int} (hk : lkName k = true) (ha : 1 ≤ a ∧ a ≤ 3) (n : Nat) (hn : n < 4) : lkFree [lf2 k a n] k (lfH a n) = ([lf2 k a (n + 1)], ⟨0, lfH a (n + 1), []⟩, 0) := by
  have hok := lf2_ok hk ha n (by omega)
  have hp : passP (lf2 k a n) = lf2 k a (n + 1) := by
    rcases (show n = 0 ∨ n = 1 ∨ n = 2 ∨ n = 3 by omega) with rfl | rfl | rfl | rfl <;> rfl
  have h1 : 1 ≤ lfH a n := by
    rcases three ha with rfl | rfl | rfl <;> (rcases (show n = 0 ∨ n = 1 ∨ n = 2 ∨ n = 3 by omega) with rfl | rfl | rfl | rfl) <;> decide
  have := free_one hok h1
  rw [hp] at this
  exact this
theorem lf2_who {k : List UInt8} {a : Int} (hk : lkName k = true) (ha : 1 ≤ a ∧ a ≤ 3) (n : Nat) (hn : n < 4) : lWho [lf2 k a (n + 1)] k = (lfH a (n + 1), if n = 3 then 0 else (n : Int) + 2, 0) := by
  have := who_one (lf2_ok hk ha (n + 1) (by omega))
  refine Eq.trans this ?_
  show (if lfH a (n + 1) = 0 then ((0, 0, 0) : Int × Int × Int) else (lfH a (n + 1), lfF (n + 1), 0)) = _
  rcases three ha with rfl | rfl | rfl <;> (rcases (show n = 0 ∨ n = 1 ∨ n = 2 ∨ n = 3 by omega) with rfl | rfl | rfl | rfl) <;> decide
end Go.Tk
