/- A part of the proof, laid together from: SnapE. -/
import Derived.Test.YtkefgapnghnjjaaGreatDoorPa09
import Derived.Test.YtkefgapnghnjjaaGreatDoorPa15
import Derived.Test.YtkefgapnghnjjaaGreatDoorPa16
import Derived.Test.YtkefgapnghnjjaaGreatDoorPa13
import Derived.Test.YtkefgapnghnjjaaGreatDoorPa10
import Derived.Test.YtkefgapnghnjjaaGreatDoorPa14
set_option linter.unusedSimpArgs false
set_option linter.unusedVariables false
namespace Go.Tk
open Go Go.RowKit
theorem undrawG {w w' : World} {r : Option Nat} (h : w.drew.grownBy w' r) : w.grownBy w' r := ⟨h.os, h.tape, h.output, h.size, h.block⟩
theorem OwR.awayG {α : Type} {E k : Nat} {R : Rel α} (hR : RelOk R k) {w w' : World} {v : Value} {l : List α} {m B : Nat} (h : OwR E k R w v l (fun b => m ≤ b)) (hv : ∀ g, v.ownBlock = some g → m ≤ g) (hg : w.grownBy w' (some B)) (hB : B < m) : OwR E k R w' v l (fun b => m ≤ b) :=
  h.move hR (fun g hgv => hg.block g (h.lt g hgv) (fun e => by have := Option.some.inj e; have := hv g hgv; omega)) fun b hb _ hlt => ⟨hg.block b hlt (fun e => by have := Option.some.inj e; have : m ≤ b := hb; omega), hb⟩
theorem OwR.awayS {α : Type} {E k : Nat} {R : Rel α} (hR : RelOk R k) {w : World} {v : Value} {l : List α} {m B o : Nat} {u : Value} (h : OwR E k R w v l (fun b => m ≤ b)) (hv : ∀ g, v.ownBlock = some g → m ≤ g) (hB : B < m) : OwR E k R (w.setCell ⟨B, o, none⟩ u) v l (fun b => m ≤ b) :=
  h.move hR (fun g hgv => heap_far (by have := hv g hgv; omega)) fun b hb _ _ => ⟨heap_far (by have : m ≤ b := hb; omega), hb⟩
theorem own_more {v v' : Value} {m : Nat} {w : World} (hv : ∀ g, v.ownBlock = some g → m ≤ g) (hm : m ≤ w.heap.size) (h : v'.ownBlock = v.ownBlock ∨ ∃ g, v'.ownBlock = some g ∧ w.heap.size ≤ g) : ∀ g, v'.ownBlock = some g → m ≤ g := fun g hg => by
  rcases h with e | ⟨y, e, hy⟩
  · exact hv g (by rw [← e]; exact hg)
  · rw [e] at hg; cases hg; omega
theorem SlR.awayS {α : Type} {k : Nat} {R : Rel α} (hR : RelOk R k) (hk : 0 < k) {w : World} {v : Value} {l : List α} {S : Nat → Prop} {B o : Nat} {u : Value} (h : SlR k R w v l S) (hS : ∀ b, S b → b ≠ B) : SlR k R (w.setCell ⟨B, o, none⟩ u) v l S :=
  h.move hR hk fun b hb _ => ⟨heap_far (hS b hb), hb⟩
theorem SlR.awayO {α : Type} {k : Nat} {R : Rel α} (hR : RelOk R k) (hk : 0 < k) {w w' : World} {v : Value} {l : List α} {S : Nat → Prop} {r : Option Nat} (h : SlR k R w v l S) (hg : w.grownBy w' r) (hS : ∀ b, S b → some b ≠ r) : SlR k R w' v l S :=
  h.move hR hk fun b hb hlt => ⟨hg.block b hlt (hS b hb), hb⟩
structure SsOne (x : SessionD) : Prop where
  cl : 0 ≤ x.client ∧ x.client ≤ 9
  id : 0 ≤ x.id ∧ x.id ≤ 1073741824
  ack : 0 ≤ x.acked ∧ x.acked ≤ 1048576
  last : 0 ≤ x.last ∧ x.last ≤ 1073741824
  rep : replies x = true
theorem SessOk.ones {l : List SessionD} {index : Int} (h : SessOk l index) : ∀ x ∈ l, SsOne x := fun x hx => by
  have hb := h.bad x hx
  have hi := h.idx
  unfold sessBad at hb
  exact ⟨by omega, by omega, by omega, by omega, h.rep x hx⟩
end Go.Tk
namespace Go.Proofs.YtkefgapnghnjjaaGreatDoor
open Go.RowKit Go.Tk
theorem Tryz.tyeSess : SliceTy Tryz.prog 34 144 5 56 := ⟨Tryz.underlying34, by kernel_rfl, by decide⟩
set_option linter.unusedSimpArgs false in
set_option maxRecDepth 100000 in
set_option maxHeartbeats 12800000 in
theorem rlock_calls (k : LockD) (hk : LkOne k) (t : List UInt8) (R : Nat) (w : World) (hx : BoxAt w R [.string ⟨(encLock k ++ t).toArray⟩, .int .i64 0]) (hl : (encLock k ++ t).length ≤ 1000000) :
    Calls Tryz.prog 115 #[.pointer (some ⟨R, 0, none⟩)] w fun e w' => ∃ v, e = .returned (.agg #[.string ⟨k.name.toArray⟩, .int .i64 k.holder, .int .i64 k.fence, v]) ∧ SlR 1 rInt w' v k.line (fun b => w.heap.size ≤ b) ∧ BoxAt w' R [.string ⟨t.toArray⟩, .int .i64 0] ∧ w.grownBy w' (some R) := by
  have hn := (lkName_len hk.name).2
  have hh := hk.hold
  have hf := hk.fence
  have hln := hk.line.len
  have HCL := Lib.hid hk.line.cl
  have hR := hx.lt
  simp only [encLock, encLine, List.append_assoc] at hx hl
  have HLN := Lib.hid hl
  have HR := Lib.hid hx
  clear hx hl
  go_enter Tryz.func115, Tryz.ntmps115
  go_upto_region 1 with (fail)
  have HG := Lib.hid (grownBy_refl w (some R))
  have HZ := Lib.hid (BoxAt.new (w := w) (cs := [.string ⟨#[]⟩, .int .i64 0, .int .i64 0, .slice none 0 0]) (E := 50))
  have hba := below_alloc w (.cells #[.string ⟨#[]⟩, .int .i64 0, .int .i64 0, .slice none 0 0] 50)
  replace HR := Lib.hid (HR.out.below hba)
  replace HG := Lib.hid (grownBy_trans HG.out (grownBy_any hba (some R)))
  clear hba
  generalize w.alloc (.cells #[.string ⟨#[]⟩, .int .i64 0, .int .i64 0, .slice none 0 0] 50) = w1 at *
  have HN := Lib.hid (rtext_calls (k.name) (numB (k.holder) ++ (numB (k.fence) ++ (numB (k.line.length : Int) ++ (k.line.flatMap numB ++ t)))) R w1 HR.out (by omega) (by have := HLN.out; simp only [List.length_append] at *; omega))
  go_wp2_with fail
  refine HN.out.mono ?_
  rintro e wa0 ⟨rfl, hr, hg⟩
  clear HN
  replace HR := Lib.hid hr
  replace HLN := Lib.hid (show (numB (k.holder) ++ (numB (k.fence) ++ (numB (k.line.length : Int) ++ (k.line.flatMap numB ++ t)))).length ≤ 1000000 by have := HLN.out; simp only [List.length_append] at *; omega)
  replace HZ := Lib.hid (HZ.out.grown hg (fun e => by have := Option.some.inj e; omega))
  replace HG := Lib.hid (grownBy_trans HG.out hg)
  clear hr hg
  have HN := Lib.hid (rnum_calls (k.holder) (numB (k.fence) ++ (numB (k.line.length : Int) ++ (k.line.flatMap numB ++ t))) R wa0 HR.out (by omega) (by omega) (by have := HLN.out; simp only [List.length_append] at *; omega))
  go_wp2_with fail
  refine HN.out.mono ?_
  rintro e wa1 ⟨rfl, hr, hg⟩
  clear HN
  replace HR := Lib.hid hr
  replace HLN := Lib.hid (show (numB (k.fence) ++ (numB (k.line.length : Int) ++ (k.line.flatMap numB ++ t))).length ≤ 1000000 by have := HLN.out; simp only [List.length_append] at *; omega)
  replace HZ := Lib.hid (HZ.out.grown hg (fun e => by have := Option.some.inj e; omega))
  replace HG := Lib.hid (grownBy_trans HG.out hg)
  clear hr hg
  have HN := Lib.hid (rnum_calls (k.fence) (numB (k.line.length : Int) ++ (k.line.flatMap numB ++ t)) R wa1 HR.out (by omega) (by omega) (by have := HLN.out; simp only [List.length_append] at *; omega))
  go_wp2_with fail
  refine HN.out.mono ?_
  rintro e wa2 ⟨rfl, hr, hg⟩
  clear HN
  replace HR := Lib.hid hr
  replace HLN := Lib.hid (show (numB (k.line.length : Int) ++ (k.line.flatMap numB ++ t)).length ≤ 1000000 by have := HLN.out; simp only [List.length_append] at *; omega)
  replace HZ := Lib.hid (HZ.out.grown hg (fun e => by have := Option.some.inj e; omega))
  replace HG := Lib.hid (grownBy_trans HG.out hg)
  clear hr hg
  have hzl := HZ.out.lt
  go_upto_region 2 with (fail)
  have HK := Lib.hid (BoxAt.new (w := wa2) (cs := [.string ⟨k.name.toArray⟩, .int .i64 k.holder, .int .i64 k.fence, .slice none 0 0]) (E := 50))
  have hba := below_alloc wa2 (.cells #[.string ⟨k.name.toArray⟩, .int .i64 k.holder, .int .i64 k.fence, .slice none 0 0] 50)
  replace HR := Lib.hid (HR.out.below hba)
  replace HZ := Lib.hid (HZ.out.below hba)
  replace HG := Lib.hid (grownBy_trans HG.out (grownBy_any hba (some R)))
  clear hba
  generalize wa2.alloc (.cells #[.string ⟨k.name.toArray⟩, .int .i64 k.holder, .int .i64 k.fence, .slice none 0 0] 50) = wk at *
  obtain ⟨K, hK⟩ : ∃ K, wa2.heap.size = K := ⟨_, rfl⟩
  rw [hK] at HK hzl ⊢
  have hKw : w.heap.size < K := hzl
  clear hK
  have HN := Lib.hid (rcount_calls (k.line.length) 3 (k.line.flatMap numB ++ t) R wk HR.out (by omega) (by omega) (by have := HLN.out; simp only [List.length_append] at *; omega))
  go_wp2_with fail
  refine HN.out.mono ?_
  rintro e wc ⟨rfl, hr, hg⟩
  clear HN
  replace HR := Lib.hid hr
  replace HLN := Lib.hid (show (k.line.flatMap numB ++ t).length ≤ 1000000 by have := HLN.out; simp only [List.length_append] at *; omega)
  replace HZ := Lib.hid (HZ.out.grown hg (fun e => by have := Option.some.inj e; omega))
  replace HG := Lib.hid (grownBy_trans HG.out hg)
  replace HK := Lib.hid (HK.out.grown hg (fun e => by have := Option.some.inj e; omega))
  clear hr hg
  go_wp2
  have hKm : K < wc.heap.size := HK.out.lt
  obtain ⟨m, hm⟩ : ∃ m, wc.heap.size = m := ⟨_, rfl⟩
  rw [hm] at hKm
  go_loopw [13] (fun i wr => ∃ (j : Nat) (v : Value), j ≤ k.line.length ∧ i = .int .i64 j ∧ Hid (BoxAt wr R [.string ⟨((k.line.drop j).flatMap numB ++ t).toArray⟩, .int .i64 0]) ∧ Hid (((k.line.drop j).flatMap numB ++ t).length ≤ 1000000) ∧ Hid (BoxAt wr K [.string ⟨k.name.toArray⟩, .int .i64 k.holder, .int .i64 k.fence, v]) ∧ Hid (BoxAt wr w.heap.size [.string ⟨#[]⟩, .int .i64 0, .int .i64 0, .slice none 0 0]) ∧ Hid (OwR 3 1 rInt wr v (k.line.take j) (fun b => m ≤ b)) ∧ Hid (∀ g, v.ownBlock = some g → m ≤ g) ∧ Hid (w.grownBy wr (some R)) ∧ m ≤ wr.heap.size)
    (fun i _ => k.line.length - (intOf i).toNat)
  case atStart => exact ⟨0, .slice none 0 0, by omega, rfl, HR, HLN, HK, HZ, Lib.hid (OwR.nil _ _), Lib.hid (fun g hg => by cases hg), HG, by omega⟩
  case round =>
  clear HR HLN HK HZ HG hm
  obtain ⟨j, v, hj, rfl, HR, HLN, HK, HZ, HO, HV, HG, hmw⟩ := hrel
  have hone := HO.out.oneCell
  by_cases hlt : j < k.line.length
  · have HTK := Lib.hid (List.take_succ_eq_append_getElem hlt)
    have htl : (k.line.take j).length = j := by rw [List.length_take]; omega
    have hll := hln
    have hyb := HCL.out k.line[j] (List.getElem_mem hlt)
    have hr0 := HR.out
    rw [flat_drop numB k.line j hlt, List.append_assoc] at hr0
    have hl0 := HLN.out
    rw [flat_drop numB k.line j hlt, List.append_assoc] at hl0
    generalize k.line[j] = y at *
    obtain ⟨rest, hrest⟩ : ∃ rest, (k.line.drop (j + 1)).flatMap numB ++ t = rest := ⟨_, rfl⟩
    rw [hrest] at hr0 hl0
    have HRS := Lib.hid hrest
    clear hrest
    have hx0 := hr0.drew
    have k0 := HK.out.cell 3 _ rfl
    have HN0 := Lib.hid (rnum_calls (y) (rest) R wr.drew hx0 (by omega) (by omega) (by simp only [List.length_append] at *; omega))
    go_upto_region 4 with (fail)
    go_region_law (first
      | (go_simp; first | (go_at_call 113; refine HN0.out.mono ?_; rintro e u0 ⟨rfl, hx1, hh0⟩; have hg0 := undrawG hh0; have hk0 := HK.out.grown hg0 (fun e => by have := Option.some.inj e; omega); have c0 := hk0.cell 3 _ rfl; have d0 := (hk0.below (below_alloc u0 (.cells #[.int .i64 y] 3))).cell 3 _ rfl; have ho5 := HO.out.awayG rInt_ok HV.out hg0 (by omega); have ho6 := ho5.below rInt_ok (below_alloc u0 (.cells #[.int .i64 y] 3)); have hx6 := BoxAt.new (w := u0) (cs := [.int .i64 y]) (E := 3)))
      | (refine step_app rfl (.tmp 16) (.tmp 19) rfl Tryz.tycInt rInt_ok y rfl rfl hx6.cell ho6 rfl (by rw [htl]; omega) ?_; intro v8 w8 ho8 hg8 hv8; have hvK : ∀ g, v.ownBlock = some g → g ≠ K := (fun g hg => by have := HV.out g hg; omega); have hk8 := (hk0.below (below_alloc u0 (.cells #[.int .i64 y] 3))).grown hg8 (fun e => hvK K e.symm rfl); have k8 := hk8.cell 3 _ rfl; have t8 := hk8.thaw 3; obtain ⟨a8, c8, e8⟩ : ∃ a c, v8 = .slice a (j + 1) c := (by obtain ⟨a, c, e⟩ := ho8.shape; exact ⟨a, c, by rw [e, List.length_append, htl]; rfl⟩); subst e8))
    all_goals
      have hsz := hg0.size
      have hvR : ∀ g, v.ownBlock = some g → g ≠ R := fun g hg => by have := HV.out g hg; omega
      have hvZ : ∀ g, v.ownBlock = some g → g ≠ w.heap.size := fun g hg => by have := HV.out g hg; omega
      have hba := below_alloc u0 (.cells #[.int .i64 y] 3)
      have hws := HG.out.size
      have hv9 := own_more (m := m) HV.out (by have := hba.size; omega) hv8
      have HR9 := Lib.hid (((hx1.below hba).grown hg8 (fun e => hvR R e.symm rfl)).far (c := K) (by omega) 3 (.slice a8 (j + 1) c8))
      have HZ9 := Lib.hid ((((HZ.out.grown hg0 (fun e => by have := Option.some.inj e; omega)).below hba).grown hg8 (fun e => hvZ _ e.symm rfl)).far (c := K) (by omega) 3 (.slice a8 (j + 1) c8))
      have HK9 := Lib.hid (hk8.set 3 (by simp) (.slice a8 (j + 1) c8))
      have HO9 := Lib.hid (ho8.awayS (B := K) (o := 3) (u := (.slice a8 (j + 1) c8)) rInt_ok hv9 hKm)
      have HG9 := Lib.hid (grownBy_set (b := K) (grownBy_more (grownBy_trans HG.out (grownBy_trans hg0 (grownBy_any hba _))) hg8 (fun g hg => by have := HV.out g hg; omega)) (.inr (by omega)) 3 (.slice a8 (j + 1) c8))
      have hm9 : m ≤ (w8.setCell ⟨K, 3, none⟩ (.slice a8 (j + 1) c8)).heap.size := by rw [World.size_setCell]; have := hg8.size; have := hba.size; omega
      have HL9 := Lib.hid (show rest.length ≤ 1000000 by simp only [List.length_append] at *; omega)
      clear hk8 k8 t8 ho8 hg8 hv8 hba
      go_wp2
      go_roundw
      case rel => exact ⟨j + 1, _, by omega, by go_num, by rw [HRS.out]; exact HR9, by rw [HRS.out]; exact HL9, HK9, HZ9, by rw [HTK.out]; exact HO9, Lib.hid hv9, HG9, hm9⟩
      case measure => simp [intOf]; omega
  have hF : k.line.take j = k.line := List.take_of_length_le (by omega)
  rw [hF] at HO
  have h0 := HR.out
  rw [flat_end numB k.line j hlt, List.nil_append] at h0
  replace HR := Lib.hid h0
  have h1 := HLN.out
  rw [flat_end numB k.line j hlt, List.nil_append] at h1
  replace HLN := Lib.hid h1
  clear h0 h1 hF
  have HSL := Lib.hid (HO.out.read rInt_ok (by decide) (fun g hg => HV.out g hg))
  obtain ⟨a9, c9, rfl, -, -, -, -⟩ := id HSL.out
  have hz := HZ.out.lt
  have k0 := HK.out.cell 0 _ rfl; have k1 := HK.out.cell 1 _ rfl; have k2 := HK.out.cell 2 _ rfl; have k3 := HK.out.cell 3 _ rfl
  have z0 := HZ.out.cell 0 _ rfl; have y0 := HZ.out.thaw 0; have z1 := HZ.out.cell 1 _ rfl; have y1 := HZ.out.thaw 1; have z2 := HZ.out.cell 2 _ rfl; have y2 := HZ.out.thaw 2; have z3 := HZ.out.cell 3 _ rfl; have y3 := HZ.out.thaw 3
  have HZF := Lib.hid ((((HZ.out.set 0 (by simp) (.string ⟨k.name.toArray⟩)).set 1 (by simp) (.int .i64 k.holder)).set 2 (by simp) (.int .i64 k.fence)).set 3 (by simp) (.slice a9 k.line.length c9))
  have HRF := Lib.hid ((((HR.out.far (c := w.heap.size) (by omega) 0 (.string ⟨k.name.toArray⟩)).far (c := w.heap.size) (by omega) 1 (.int .i64 k.holder)).far (c := w.heap.size) (by omega) 2 (.int .i64 k.fence)).far (c := w.heap.size) (by omega) 3 (.slice a9 k.line.length c9))
  have HGF := Lib.hid (grownBy_set (grownBy_set (grownBy_set (grownBy_set HG.out (.inr (Nat.le_refl _)) 0 (.string ⟨k.name.toArray⟩)) (.inr (Nat.le_refl _)) 1 (.int .i64 k.holder)) (.inr (Nat.le_refl _)) 2 (.int .i64 k.fence)) (.inr (Nat.le_refl _)) 3 (.slice a9 k.line.length c9))
  have HSLF := Lib.hid ((((HSL.out.awayS (B := w.heap.size) (o := 0) (u := .string ⟨k.name.toArray⟩) rInt_ok (by decide) (fun b hb => by have : m ≤ b := hb; omega)).awayS (B := w.heap.size) (o := 1) (u := .int .i64 k.holder) rInt_ok (by decide) (fun b hb => by have : m ≤ b := hb; omega)).awayS (B := w.heap.size) (o := 2) (u := .int .i64 k.fence) rInt_ok (by decide) (fun b hb => by have : m ≤ b := hb; omega)).awayS (B := w.heap.size) (o := 3) (u := .slice a9 k.line.length c9) rInt_ok (by decide) (fun b hb => by have : m ≤ b := hb; omega))
  go_wp2
  generalize ((((wr.setCell ⟨w.heap.size, 0, none⟩ (.string ⟨k.name.toArray⟩)).setCell ⟨w.heap.size, 1, none⟩ (.int .i64 k.holder)).setCell ⟨w.heap.size, 2, none⟩ (.int .i64 k.fence)).setCell ⟨w.heap.size, 3, none⟩ (.slice a9 k.line.length c9)) = wf at *
  have g0 := HZF.out.cell 0 _ rfl; have g1 := HZF.out.cell 1 _ rfl; have g2 := HZF.out.cell 2 _ rfl; have g3 := HZF.out.cell 3 _ rfl
  refine bodyPost_ret (v := .agg #[.string ⟨k.name.toArray⟩, .int .i64 k.holder, .int .i64 k.fence, .slice a9 k.line.length c9]) (by simp [results, Tryz.results115, go_sem, g0, g1, g2, g3]) rfl ⟨_, rfl, HSLF.out.sub rInt_ok (by decide) fun b hb _ => by show _ ≤ _; have : m ≤ b := hb; omega, HRF.out, HGF.out⟩
set_option linter.unusedSimpArgs false in
set_option maxRecDepth 100000 in
set_option maxHeartbeats 12800000 in
theorem rsession_calls (x : SessionD) (hk : SsOne x) (t : List UInt8) (R : Nat) (w : World) (hx : BoxAt w R [.string ⟨(encSession x ++ t).toArray⟩, .int .i64 0]) (hl : (encSession x ++ t).length ≤ 1000000) :
    Calls Tryz.prog 117 #[.pointer (some ⟨R, 0, none⟩)] w fun e w' => ∃ v, e = .returned (.agg #[.int .i64 x.client, .int .i64 x.id, .int .i64 x.acked, .int .i64 x.last, v]) ∧ SlR 4 rKept w' v x.replies (fun b => w.heap.size ≤ b) ∧ BoxAt w' R [.string ⟨t.toArray⟩, .int .i64 0] ∧ w.grownBy w' (some R) := by
  have h1 := hk.cl
  have h2 := hk.id
  have h3 := hk.ack
  have h4 := hk.last
  have hrl := replies_len hk.rep
  have HSQ := Lib.hid (replies_iff.1 hk.rep).seq
  have HON := Lib.hid (replies_iff.1 hk.rep).one
  have hR := hx.lt
  simp only [encSession, List.append_assoc] at hx hl
  have HLN := Lib.hid hl
  have HR := Lib.hid hx
  clear hx hl
  go_enter Tryz.func117, Tryz.ntmps117
  go_upto_region 1 with (fail)
  have HG := Lib.hid (grownBy_refl w (some R))
  have HZ := Lib.hid (BoxAt.new (w := w) (cs := [.int .i64 0, .int .i64 0, .int .i64 0, .int .i64 0, .slice none 0 0]) (E := 144))
  have hba := below_alloc w (.cells #[.int .i64 0, .int .i64 0, .int .i64 0, .int .i64 0, .slice none 0 0] 144)
  replace HR := Lib.hid (HR.out.below hba)
  replace HG := Lib.hid (grownBy_trans HG.out (grownBy_any hba (some R)))
  clear hba
  generalize w.alloc (.cells #[.int .i64 0, .int .i64 0, .int .i64 0, .int .i64 0, .slice none 0 0] 144) = w1 at *
  have HN := Lib.hid (rnum_calls (x.client) (numB (x.id) ++ (numB (x.acked) ++ (numB (x.last) ++ (numB (x.replies.length : Int) ++ (x.replies.flatMap encKept ++ t))))) R w1 HR.out (by omega) (by omega) (by have := HLN.out; simp only [List.length_append] at *; omega))
  go_wp2_with fail
  refine HN.out.mono ?_
  rintro e wa0 ⟨rfl, hr, hg⟩
  clear HN
  replace HR := Lib.hid hr
  replace HLN := Lib.hid (show (numB (x.id) ++ (numB (x.acked) ++ (numB (x.last) ++ (numB (x.replies.length : Int) ++ (x.replies.flatMap encKept ++ t))))).length ≤ 1000000 by have := HLN.out; simp only [List.length_append] at *; omega)
  replace HZ := Lib.hid (HZ.out.grown hg (fun e => by have := Option.some.inj e; omega))
  replace HG := Lib.hid (grownBy_trans HG.out hg)
  clear hr hg
  have HN := Lib.hid (rnum_calls (x.id) (numB (x.acked) ++ (numB (x.last) ++ (numB (x.replies.length : Int) ++ (x.replies.flatMap encKept ++ t)))) R wa0 HR.out (by omega) (by omega) (by have := HLN.out; simp only [List.length_append] at *; omega))
  go_wp2_with fail
  refine HN.out.mono ?_
  rintro e wa1 ⟨rfl, hr, hg⟩
  clear HN
  replace HR := Lib.hid hr
  replace HLN := Lib.hid (show (numB (x.acked) ++ (numB (x.last) ++ (numB (x.replies.length : Int) ++ (x.replies.flatMap encKept ++ t)))).length ≤ 1000000 by have := HLN.out; simp only [List.length_append] at *; omega)
  replace HZ := Lib.hid (HZ.out.grown hg (fun e => by have := Option.some.inj e; omega))
  replace HG := Lib.hid (grownBy_trans HG.out hg)
  clear hr hg
  have HN := Lib.hid (rnum_calls (x.acked) (numB (x.last) ++ (numB (x.replies.length : Int) ++ (x.replies.flatMap encKept ++ t))) R wa1 HR.out (by omega) (by omega) (by have := HLN.out; simp only [List.length_append] at *; omega))
  go_wp2_with fail
  refine HN.out.mono ?_
  rintro e wa2 ⟨rfl, hr, hg⟩
  clear HN
  replace HR := Lib.hid hr
  replace HLN := Lib.hid (show (numB (x.last) ++ (numB (x.replies.length : Int) ++ (x.replies.flatMap encKept ++ t))).length ≤ 1000000 by have := HLN.out; simp only [List.length_append] at *; omega)
  replace HZ := Lib.hid (HZ.out.grown hg (fun e => by have := Option.some.inj e; omega))
  replace HG := Lib.hid (grownBy_trans HG.out hg)
  clear hr hg
  have HN := Lib.hid (rnum_calls (x.last) (numB (x.replies.length : Int) ++ (x.replies.flatMap encKept ++ t)) R wa2 HR.out (by omega) (by omega) (by have := HLN.out; simp only [List.length_append] at *; omega))
  go_wp2_with fail
  refine HN.out.mono ?_
  rintro e wa3 ⟨rfl, hr, hg⟩
  clear HN
  replace HR := Lib.hid hr
  replace HLN := Lib.hid (show (numB (x.replies.length : Int) ++ (x.replies.flatMap encKept ++ t)).length ≤ 1000000 by have := HLN.out; simp only [List.length_append] at *; omega)
  replace HZ := Lib.hid (HZ.out.grown hg (fun e => by have := Option.some.inj e; omega))
  replace HG := Lib.hid (grownBy_trans HG.out hg)
  clear hr hg
  have hzl := HZ.out.lt
  go_upto_region 2 with (fail)
  have HK := Lib.hid (BoxAt.new (w := wa3) (cs := [.int .i64 x.client, .int .i64 x.id, .int .i64 x.acked, .int .i64 x.last, .slice none 0 0]) (E := 144))
  have hba := below_alloc wa3 (.cells #[.int .i64 x.client, .int .i64 x.id, .int .i64 x.acked, .int .i64 x.last, .slice none 0 0] 144)
  replace HR := Lib.hid (HR.out.below hba)
  replace HZ := Lib.hid (HZ.out.below hba)
  replace HG := Lib.hid (grownBy_trans HG.out (grownBy_any hba (some R)))
  clear hba
  generalize wa3.alloc (.cells #[.int .i64 x.client, .int .i64 x.id, .int .i64 x.acked, .int .i64 x.last, .slice none 0 0] 144) = wk at *
  obtain ⟨K, hK⟩ : ∃ K, wa3.heap.size = K := ⟨_, rfl⟩
  rw [hK] at HK hzl ⊢
  have hKw : w.heap.size < K := hzl
  clear hK
  have HN := Lib.hid (rcount_calls (x.replies.length) 4 (x.replies.flatMap encKept ++ t) R wk HR.out (by omega) (by omega) (by have := HLN.out; simp only [List.length_append] at *; omega))
  go_wp2_with fail
  refine HN.out.mono ?_
  rintro e wc ⟨rfl, hr, hg⟩
  clear HN
  replace HR := Lib.hid hr
  replace HLN := Lib.hid (show (x.replies.flatMap encKept ++ t).length ≤ 1000000 by have := HLN.out; simp only [List.length_append] at *; omega)
  replace HZ := Lib.hid (HZ.out.grown hg (fun e => by have := Option.some.inj e; omega))
  replace HG := Lib.hid (grownBy_trans HG.out hg)
  replace HK := Lib.hid (HK.out.grown hg (fun e => by have := Option.some.inj e; omega))
  clear hr hg
  go_wp2
  have hKm : K < wc.heap.size := HK.out.lt
  obtain ⟨m, hm⟩ : ∃ m, wc.heap.size = m := ⟨_, rfl⟩
  rw [hm] at hKm
  go_loopw [15] (fun i wr => ∃ (j : Nat) (v : Value), j ≤ x.replies.length ∧ i = .int .i64 j ∧ Hid (BoxAt wr R [.string ⟨((x.replies.drop j).flatMap encKept ++ t).toArray⟩, .int .i64 0]) ∧ Hid (((x.replies.drop j).flatMap encKept ++ t).length ≤ 1000000) ∧ Hid (BoxAt wr K [.int .i64 x.client, .int .i64 x.id, .int .i64 x.acked, .int .i64 x.last, v]) ∧ Hid (BoxAt wr w.heap.size [.int .i64 0, .int .i64 0, .int .i64 0, .int .i64 0, .slice none 0 0]) ∧ Hid (OwR 146 4 rKept wr v (x.replies.take j) (fun b => m ≤ b)) ∧ Hid (∀ g, v.ownBlock = some g → m ≤ g) ∧ Hid (w.grownBy wr (some R)) ∧ m ≤ wr.heap.size)
    (fun i _ => x.replies.length - (intOf i).toNat)
  case atStart => exact ⟨0, .slice none 0 0, by omega, rfl, HR, HLN, HK, HZ, Lib.hid (OwR.nil _ _), Lib.hid (fun g hg => by cases hg), HG, by omega⟩
  case round =>
  clear HR HLN HK HZ HG hm
  obtain ⟨j, v, hj, rfl, HR, HLN, HK, HZ, HO, HV, HG, hmw⟩ := hrel
  have hone := HO.out.oneCell
  by_cases hlt : j < x.replies.length
  · have HTK := Lib.hid (List.take_succ_eq_append_getElem hlt)
    have htl : (x.replies.take j).length = j := by rw [List.length_take]; omega
    have hll := hrl
    have hyb := HSQ.out x.replies[j] (List.getElem_mem hlt)
    have hyc := HON.out x.replies[j] (List.getElem_mem hlt)
    have hr0 := HR.out
    rw [flat_drop encKept x.replies j hlt, List.append_assoc] at hr0
    have hl0 := HLN.out
    rw [flat_drop encKept x.replies j hlt, List.append_assoc] at hl0
    generalize x.replies[j] = y at *
    obtain ⟨rest, hrest⟩ : ∃ rest, (x.replies.drop (j + 1)).flatMap encKept ++ t = rest := ⟨_, rfl⟩
    rw [hrest] at hr0 hl0
    have HRS := Lib.hid hrest
    clear hrest
    simp only [encKept, List.append_assoc] at hr0 hl0
    have hx0 := hr0.drew
    have k0 := HK.out.cell 4 _ rfl
    have HN0 := Lib.hid (rnum_calls (y.seq) (numB (y.reply.code) ++ (numB (y.reply.n) ++ (textB (y.reply.text) ++ (rest)))) R wr.drew hx0 (by omega) (by omega) (by simp only [List.length_append] at *; omega))
    go_upto_region 4 with (fail)
    go_region_law (first
      | (go_simp; first | (go_at_call 113; first | (refine HN2.out.mono ?_; rintro e u2 ⟨rfl, hx3, hh2⟩; have hg2 := grownBy_trans hg1 hh2; have hk2 := HK.out.grown hg2 (fun e => by have := Option.some.inj e; omega); have c2 := hk2.cell 4 _ rfl; have HN3 := Lib.hid (rtext_calls (y.reply.text) (rest) R u2 hx3 (by omega) (by simp only [List.length_append] at *; omega))) | (refine HN1.out.mono ?_; rintro e u1 ⟨rfl, hx2, hh1⟩; have hg1 := grownBy_trans hg0 hh1; have hk1 := HK.out.grown hg1 (fun e => by have := Option.some.inj e; omega); have c1 := hk1.cell 4 _ rfl; have HN2 := Lib.hid (rnum_calls (y.reply.n) (textB (y.reply.text) ++ (rest)) R u1 hx2 (by omega) (by omega) (by simp only [List.length_append] at *; omega))) | (refine HN0.out.mono ?_; rintro e u0 ⟨rfl, hx1, hh0⟩; have hg0 := undrawG hh0; have hk0 := HK.out.grown hg0 (fun e => by have := Option.some.inj e; omega); have c0 := hk0.cell 4 _ rfl; have HN1 := Lib.hid (rnum_calls (y.reply.code) (numB (y.reply.n) ++ (textB (y.reply.text) ++ (rest))) R u0 hx1 (by omega) (by omega) (by simp only [List.length_append] at *; omega)))) | (go_at_call 116; refine HN3.out.mono ?_; rintro e u3 ⟨rfl, hx4, hh3⟩; have hg3 := grownBy_trans hg2 hh3; have hk3 := HK.out.grown hg3 (fun e => by have := Option.some.inj e; omega); have c3 := hk3.cell 4 _ rfl; have d3 := (hk3.below (below_alloc u3 (.cells #[.int .i64 y.seq, .int .i64 y.reply.code, .int .i64 y.reply.n, .string ⟨y.reply.text.toArray⟩] 146))).cell 4 _ rfl; have ho5 := HO.out.awayG rKept_ok HV.out hg3 (by omega); have ho6 := ho5.below rKept_ok (below_alloc u3 (.cells #[.int .i64 y.seq, .int .i64 y.reply.code, .int .i64 y.reply.n, .string ⟨y.reply.text.toArray⟩] 146)); have hx6 := BoxAt.new (w := u3) (cs := [.int .i64 y.seq, .int .i64 y.reply.code, .int .i64 y.reply.n, .string ⟨y.reply.text.toArray⟩]) (E := 146)))
      | (refine step_app rfl (.tmp 18) (.tmp 29) rfl Tryz.tycKept rKept_ok y rfl rfl hx6.cell ho6 rfl (by rw [htl]; omega) ?_; intro v8 w8 ho8 hg8 hv8; have hvK : ∀ g, v.ownBlock = some g → g ≠ K := (fun g hg => by have := HV.out g hg; omega); have hk8 := (hk3.below (below_alloc u3 (.cells #[.int .i64 y.seq, .int .i64 y.reply.code, .int .i64 y.reply.n, .string ⟨y.reply.text.toArray⟩] 146))).grown hg8 (fun e => hvK K e.symm rfl); have k8 := hk8.cell 4 _ rfl; have t8 := hk8.thaw 4; obtain ⟨a8, c8, e8⟩ : ∃ a c, v8 = .slice a (j + 1) c := (by obtain ⟨a, c, e⟩ := ho8.shape; exact ⟨a, c, by rw [e, List.length_append, htl]; rfl⟩); subst e8))
    all_goals
      have hsz := hg3.size
      have hvR : ∀ g, v.ownBlock = some g → g ≠ R := fun g hg => by have := HV.out g hg; omega
      have hvZ : ∀ g, v.ownBlock = some g → g ≠ w.heap.size := fun g hg => by have := HV.out g hg; omega
      have hba := below_alloc u3 (.cells #[.int .i64 y.seq, .int .i64 y.reply.code, .int .i64 y.reply.n, .string ⟨y.reply.text.toArray⟩] 146)
      have hws := HG.out.size
      have hv9 := own_more (m := m) HV.out (by have := hba.size; omega) hv8
      have HR9 := Lib.hid (((hx4.below hba).grown hg8 (fun e => hvR R e.symm rfl)).far (c := K) (by omega) 4 (.slice a8 (j + 1) c8))
      have HZ9 := Lib.hid ((((HZ.out.grown hg3 (fun e => by have := Option.some.inj e; omega)).below hba).grown hg8 (fun e => hvZ _ e.symm rfl)).far (c := K) (by omega) 4 (.slice a8 (j + 1) c8))
      have HK9 := Lib.hid (hk8.set 4 (by simp) (.slice a8 (j + 1) c8))
      have HO9 := Lib.hid (ho8.awayS (B := K) (o := 4) (u := (.slice a8 (j + 1) c8)) rKept_ok hv9 hKm)
      have HG9 := Lib.hid (grownBy_set (b := K) (grownBy_more (grownBy_trans HG.out (grownBy_trans hg3 (grownBy_any hba _))) hg8 (fun g hg => by have := HV.out g hg; omega)) (.inr (by omega)) 4 (.slice a8 (j + 1) c8))
      have hm9 : m ≤ (w8.setCell ⟨K, 4, none⟩ (.slice a8 (j + 1) c8)).heap.size := by rw [World.size_setCell]; have := hg8.size; have := hba.size; omega
      have HL9 := Lib.hid (show rest.length ≤ 1000000 by simp only [List.length_append] at *; omega)
      clear hk8 k8 t8 ho8 hg8 hv8 hba
      go_wp2
      go_roundw
      case rel => exact ⟨j + 1, _, by omega, by go_num, by rw [HRS.out]; exact HR9, by rw [HRS.out]; exact HL9, HK9, HZ9, by rw [HTK.out]; exact HO9, Lib.hid hv9, HG9, hm9⟩
      case measure => simp [intOf]; omega
  have hF : x.replies.take j = x.replies := List.take_of_length_le (by omega)
  rw [hF] at HO
  have h0 := HR.out
  rw [flat_end encKept x.replies j hlt, List.nil_append] at h0
  replace HR := Lib.hid h0
  have h1 := HLN.out
  rw [flat_end encKept x.replies j hlt, List.nil_append] at h1
  replace HLN := Lib.hid h1
  clear h0 h1 hF
  have HSL := Lib.hid (HO.out.read rKept_ok (by decide) (fun g hg => HV.out g hg))
  obtain ⟨a9, c9, rfl, -, -, -, -⟩ := id HSL.out
  have hz := HZ.out.lt
  have k0 := HK.out.cell 0 _ rfl; have k1 := HK.out.cell 1 _ rfl; have k2 := HK.out.cell 2 _ rfl; have k3 := HK.out.cell 3 _ rfl; have k4 := HK.out.cell 4 _ rfl
  have z0 := HZ.out.cell 0 _ rfl; have y0 := HZ.out.thaw 0; have z1 := HZ.out.cell 1 _ rfl; have y1 := HZ.out.thaw 1; have z2 := HZ.out.cell 2 _ rfl; have y2 := HZ.out.thaw 2; have z3 := HZ.out.cell 3 _ rfl; have y3 := HZ.out.thaw 3; have z4 := HZ.out.cell 4 _ rfl; have y4 := HZ.out.thaw 4
  have HZF := Lib.hid (((((HZ.out.set 0 (by simp) (.int .i64 x.client)).set 1 (by simp) (.int .i64 x.id)).set 2 (by simp) (.int .i64 x.acked)).set 3 (by simp) (.int .i64 x.last)).set 4 (by simp) (.slice a9 x.replies.length c9))
  have HRF := Lib.hid (((((HR.out.far (c := w.heap.size) (by omega) 0 (.int .i64 x.client)).far (c := w.heap.size) (by omega) 1 (.int .i64 x.id)).far (c := w.heap.size) (by omega) 2 (.int .i64 x.acked)).far (c := w.heap.size) (by omega) 3 (.int .i64 x.last)).far (c := w.heap.size) (by omega) 4 (.slice a9 x.replies.length c9))
  have HGF := Lib.hid (grownBy_set (grownBy_set (grownBy_set (grownBy_set (grownBy_set HG.out (.inr (Nat.le_refl _)) 0 (.int .i64 x.client)) (.inr (Nat.le_refl _)) 1 (.int .i64 x.id)) (.inr (Nat.le_refl _)) 2 (.int .i64 x.acked)) (.inr (Nat.le_refl _)) 3 (.int .i64 x.last)) (.inr (Nat.le_refl _)) 4 (.slice a9 x.replies.length c9))
  have HSLF := Lib.hid (((((HSL.out.awayS (B := w.heap.size) (o := 0) (u := .int .i64 x.client) rKept_ok (by decide) (fun b hb => by have : m ≤ b := hb; omega)).awayS (B := w.heap.size) (o := 1) (u := .int .i64 x.id) rKept_ok (by decide) (fun b hb => by have : m ≤ b := hb; omega)).awayS (B := w.heap.size) (o := 2) (u := .int .i64 x.acked) rKept_ok (by decide) (fun b hb => by have : m ≤ b := hb; omega)).awayS (B := w.heap.size) (o := 3) (u := .int .i64 x.last) rKept_ok (by decide) (fun b hb => by have : m ≤ b := hb; omega)).awayS (B := w.heap.size) (o := 4) (u := .slice a9 x.replies.length c9) rKept_ok (by decide) (fun b hb => by have : m ≤ b := hb; omega))
  go_wp2
  generalize (((((wr.setCell ⟨w.heap.size, 0, none⟩ (.int .i64 x.client)).setCell ⟨w.heap.size, 1, none⟩ (.int .i64 x.id)).setCell ⟨w.heap.size, 2, none⟩ (.int .i64 x.acked)).setCell ⟨w.heap.size, 3, none⟩ (.int .i64 x.last)).setCell ⟨w.heap.size, 4, none⟩ (.slice a9 x.replies.length c9)) = wf at *
  have g0 := HZF.out.cell 0 _ rfl; have g1 := HZF.out.cell 1 _ rfl; have g2 := HZF.out.cell 2 _ rfl; have g3 := HZF.out.cell 3 _ rfl; have g4 := HZF.out.cell 4 _ rfl
  refine bodyPost_ret (v := .agg #[.int .i64 x.client, .int .i64 x.id, .int .i64 x.acked, .int .i64 x.last, .slice a9 x.replies.length c9]) (by simp [results, Tryz.results117, go_sem, g0, g1, g2, g3, g4]) rfl ⟨_, rfl, HSLF.out.sub rKept_ok (by decide) fun b hb _ => by show _ ≤ _; have : m ≤ b := hb; omega, HRF.out, HGF.out⟩
set_option linter.unusedSimpArgs false in
set_option maxRecDepth 100000 in
set_option maxHeartbeats 12800000 in
theorem rstate_calls (s : StateD) (hk : StOk s) (t : List UInt8) (R : Nat) (w : World) (hx : BoxAt w R [.string ⟨(encState s ++ t).toArray⟩, .int .i64 0]) (hl : (encState s ++ t).length ≤ 1000000) :
    Calls Tryz.prog 66 #[.pointer (some ⟨R, 0, none⟩)] w fun e w' => ∃ vl vp vs, e = .returned (.agg #[.int .i64 s.index, vl, vp, vs]) ∧ StAt w' s vl vp vs (fun b => w.heap.size ≤ b) ∧ BoxAt w' R [.string ⟨t.toArray⟩, .int .i64 0] ∧ w.grownBy w' (some R) := by
  have hi := hk.sess.idx
  have hll := hk.lock.len
  have hpl := hk.pair.len
  have hzl := hk.sess.len
  have HLO := Lib.hid hk.lock.one
  have HPO := Lib.hid hk.pair.one
  have HSO := Lib.hid hk.sess.ones
  have hR := hx.lt
  simp only [encState, List.append_assoc] at hx hl
  have HLN := Lib.hid hl
  have HR := Lib.hid hx
  clear hx hl
  go_enter Tryz.func66, Tryz.ntmps66
  go_upto_region 1 with (fail)
  have HG := Lib.hid (grownBy_refl w (some R))
  have HZ := Lib.hid (BoxAt.new (w := w) (cs := [.int .i64 0, .slice none 0 0, .slice none 0 0, .slice none 0 0]) (E := 36))
  have hba := below_alloc w (.cells #[.int .i64 0, .slice none 0 0, .slice none 0 0, .slice none 0 0] 36)
  replace HR := Lib.hid (HR.out.below hba)
  replace HG := Lib.hid (grownBy_trans HG.out (grownBy_any hba (some R)))
  clear hba
  generalize w.alloc (.cells #[.int .i64 0, .slice none 0 0, .slice none 0 0, .slice none 0 0] 36) = w1 at *
  have HN := Lib.hid (rnum_calls (s.index) (numB (s.locks.length : Int) ++ (s.locks.flatMap encLock ++ (numB (s.pairs.length : Int) ++ (s.pairs.flatMap encPair ++ (numB (s.sessions.length : Int) ++ (s.sessions.flatMap encSession ++ t)))))) R w1 HR.out (by omega) (by omega) (by have := HLN.out; simp only [List.length_append] at *; omega))
  go_wp2_with fail
  refine HN.out.mono ?_
  rintro e wa0 ⟨rfl, hr, hg⟩
  clear HN
  replace HR := Lib.hid hr
  replace HLN := Lib.hid (show (numB (s.locks.length : Int) ++ (s.locks.flatMap encLock ++ (numB (s.pairs.length : Int) ++ (s.pairs.flatMap encPair ++ (numB (s.sessions.length : Int) ++ (s.sessions.flatMap encSession ++ t)))))).length ≤ 1000000 by have := HLN.out; simp only [List.length_append] at *; omega)
  replace HZ := Lib.hid (HZ.out.grown hg (fun e => by have := Option.some.inj e; omega))
  replace HG := Lib.hid (grownBy_trans HG.out hg)
  clear hr hg
  have hzl := HZ.out.lt
  go_upto_region 2 with (fail)
  have HK := Lib.hid (BoxAt.new (w := wa0) (cs := [.int .i64 s.index, .slice none 0 0, .slice none 0 0, .slice none 0 0]) (E := 36))
  have hba := below_alloc wa0 (.cells #[.int .i64 s.index, .slice none 0 0, .slice none 0 0, .slice none 0 0] 36)
  replace HR := Lib.hid (HR.out.below hba)
  replace HZ := Lib.hid (HZ.out.below hba)
  replace HG := Lib.hid (grownBy_trans HG.out (grownBy_any hba (some R)))
  clear hba
  generalize wa0.alloc (.cells #[.int .i64 s.index, .slice none 0 0, .slice none 0 0, .slice none 0 0] 36) = wk at *
  obtain ⟨K, hK⟩ : ∃ K, wa0.heap.size = K := ⟨_, rfl⟩
  rw [hK] at HK hzl ⊢
  have hKw : w.heap.size < K := hzl
  clear hK
  have HN := Lib.hid (rcount_calls (s.locks.length) 5 (s.locks.flatMap encLock ++ (numB (s.pairs.length : Int) ++ (s.pairs.flatMap encPair ++ (numB (s.sessions.length : Int) ++ (s.sessions.flatMap encSession ++ t))))) R wk HR.out (by omega) (by omega) (by have := HLN.out; simp only [List.length_append] at *; omega))
  go_wp2_with fail
  refine HN.out.mono ?_
  rintro e wc ⟨rfl, hr, hg⟩
  clear HN
  replace HR := Lib.hid hr
  replace HLN := Lib.hid (show (s.locks.flatMap encLock ++ (numB (s.pairs.length : Int) ++ (s.pairs.flatMap encPair ++ (numB (s.sessions.length : Int) ++ (s.sessions.flatMap encSession ++ t))))).length ≤ 1000000 by have := HLN.out; simp only [List.length_append] at *; omega)
  replace HZ := Lib.hid (HZ.out.grown hg (fun e => by have := Option.some.inj e; omega))
  replace HG := Lib.hid (grownBy_trans HG.out hg)
  replace HK := Lib.hid (HK.out.grown hg (fun e => by have := Option.some.inj e; omega))
  clear hr hg
  go_wp2
  have hKm : K < wc.heap.size := HK.out.lt
  obtain ⟨m, hm⟩ : ∃ m, wc.heap.size = m := ⟨_, rfl⟩
  rw [hm] at hKm
  go_loopw [9] (fun i wr => ∃ (j : Nat) (v : Value), j ≤ s.locks.length ∧ i = .int .i64 j ∧ Hid (BoxAt wr R [.string ⟨((s.locks.drop j).flatMap encLock ++ (numB (s.pairs.length : Int) ++ (s.pairs.flatMap encPair ++ (numB (s.sessions.length : Int) ++ (s.sessions.flatMap encSession ++ t))))).toArray⟩, .int .i64 0]) ∧ Hid (((s.locks.drop j).flatMap encLock ++ (numB (s.pairs.length : Int) ++ (s.pairs.flatMap encPair ++ (numB (s.sessions.length : Int) ++ (s.sessions.flatMap encSession ++ t))))).length ≤ 1000000) ∧ Hid (BoxAt wr K [.int .i64 s.index, v, .slice none 0 0, .slice none 0 0]) ∧ Hid (BoxAt wr w.heap.size [.int .i64 0, .slice none 0 0, .slice none 0 0, .slice none 0 0]) ∧ Hid (OwR 50 4 rLock wr v (s.locks.take j) (fun b => m ≤ b)) ∧ Hid (∀ g, v.ownBlock = some g → m ≤ g) ∧ Hid (w.grownBy wr (some R)) ∧ m ≤ wr.heap.size)
    (fun i _ => s.locks.length - (intOf i).toNat)
  case atStart => exact ⟨0, .slice none 0 0, by omega, rfl, HR, HLN, HK, HZ, Lib.hid (OwR.nil _ _), Lib.hid (fun g hg => by cases hg), HG, by omega⟩
  case round =>
  clear HR HLN HK HZ HG hm
  obtain ⟨j, v, hj, rfl, HR, HLN, HK, HZ, HO, HV, HG, hmw⟩ := hrel
  have hone := HO.out.oneCell
  by_cases hlt : j < s.locks.length
  · have HTK := Lib.hid (List.take_succ_eq_append_getElem hlt)
    have htl : (s.locks.take j).length = j := by rw [List.length_take]; omega
    have hll := hll
    have hyo := Lib.hid (HLO.out s.locks[j] (List.getElem_mem hlt))
    have hr0 := HR.out
    rw [flat_drop encLock s.locks j hlt, List.append_assoc] at hr0
    have hl0 := HLN.out
    rw [flat_drop encLock s.locks j hlt, List.append_assoc] at hl0
    generalize s.locks[j] = y at *
    obtain ⟨rest, hrest⟩ : ∃ rest, (s.locks.drop (j + 1)).flatMap encLock ++ (numB (s.pairs.length : Int) ++ (s.pairs.flatMap encPair ++ (numB (s.sessions.length : Int) ++ (s.sessions.flatMap encSession ++ t)))) = rest := ⟨_, rfl⟩
    rw [hrest] at hr0 hl0
    have HRS := Lib.hid hrest
    clear hrest
    have hx0 := hr0.drew
    have k0 := HK.out.cell 1 _ rfl
    have HN0 := Lib.hid (rlock_calls (y) hyo.out (rest) R wr.drew hx0 (by simp only [List.length_append] at *; omega))
    go_upto_region 4 with (fail)
    go_region_law (first
      | (go_simp; first | (go_at_call 115; refine HN0.out.mono ?_; rintro e u0 ⟨vn, rfl, hsn, hx1, hh0⟩; have hg0 := undrawG hh0; have hk0 := HK.out.grown hg0 (fun e => by have := Option.some.inj e; omega); have c0 := hk0.cell 1 _ rfl; obtain ⟨na, nc, rfl, -, -, -, -⟩ := id hsn; have d0 := (hk0.below (below_alloc u0 (.cells #[.string ⟨y.name.toArray⟩, .int .i64 y.holder, .int .i64 y.fence, .slice na y.line.length nc] 50))).cell 1 _ rfl; have ho5 := HO.out.awayG rLock_ok HV.out hg0 (by omega); have ho6 := ho5.below rLock_ok (below_alloc u0 (.cells #[.string ⟨y.name.toArray⟩, .int .i64 y.holder, .int .i64 y.fence, .slice na y.line.length nc] 50)); have hx6 := BoxAt.new (w := u0) (cs := [.string ⟨y.name.toArray⟩, .int .i64 y.holder, .int .i64 y.fence, .slice na y.line.length nc]) (E := 50)))
      | (refine step_app rfl (.tmp 12) (.tmp 15) rfl Tryz.tyyLock rLock_ok y rfl rfl hx6.cell ho6 ⟨_, rfl, (hsn.below rInt_ok (by decide) (below_alloc _ _)).sub rInt_ok (by decide) fun b hb _ => ⟨by have : wr.heap.size ≤ b := hb; omega, fun e => by have : wr.heap.size ≤ b := hb; have := HO.out.lt b e.symm; omega⟩⟩ (by rw [htl]; omega) ?_; intro v8 w8 ho8 hg8 hv8; have hvK : ∀ g, v.ownBlock = some g → g ≠ K := (fun g hg => by have := HV.out g hg; omega); have hk8 := (hk0.below (below_alloc u0 (.cells #[.string ⟨y.name.toArray⟩, .int .i64 y.holder, .int .i64 y.fence, .slice na y.line.length nc] 50))).grown hg8 (fun e => hvK K e.symm rfl); have k8 := hk8.cell 1 _ rfl; have t8 := hk8.thaw 1; obtain ⟨a8, c8, e8⟩ : ∃ a c, v8 = .slice a (j + 1) c := (by obtain ⟨a, c, e⟩ := ho8.shape; exact ⟨a, c, by rw [e, List.length_append, htl]; rfl⟩); subst e8))
    all_goals
      have hsz := hg0.size
      have hvR : ∀ g, v.ownBlock = some g → g ≠ R := fun g hg => by have := HV.out g hg; omega
      have hvZ : ∀ g, v.ownBlock = some g → g ≠ w.heap.size := fun g hg => by have := HV.out g hg; omega
      have hba := below_alloc u0 (.cells #[.string ⟨y.name.toArray⟩, .int .i64 y.holder, .int .i64 y.fence, .slice na y.line.length nc] 50)
      have hws := HG.out.size
      have hv9 := own_more (m := m) HV.out (by have := hba.size; omega) hv8
      have HR9 := Lib.hid (((hx1.below hba).grown hg8 (fun e => hvR R e.symm rfl)).far (c := K) (by omega) 1 (.slice a8 (j + 1) c8))
      have HZ9 := Lib.hid ((((HZ.out.grown hg0 (fun e => by have := Option.some.inj e; omega)).below hba).grown hg8 (fun e => hvZ _ e.symm rfl)).far (c := K) (by omega) 1 (.slice a8 (j + 1) c8))
      have HK9 := Lib.hid (hk8.set 1 (by simp) (.slice a8 (j + 1) c8))
      have HO9 := Lib.hid (ho8.awayS (B := K) (o := 1) (u := (.slice a8 (j + 1) c8)) rLock_ok hv9 hKm)
      have HG9 := Lib.hid (grownBy_set (b := K) (grownBy_more (grownBy_trans HG.out (grownBy_trans hg0 (grownBy_any hba _))) hg8 (fun g hg => by have := HV.out g hg; omega)) (.inr (by omega)) 1 (.slice a8 (j + 1) c8))
      have hm9 : m ≤ (w8.setCell ⟨K, 1, none⟩ (.slice a8 (j + 1) c8)).heap.size := by rw [World.size_setCell]; have := hg8.size; have := hba.size; omega
      have HL9 := Lib.hid (show rest.length ≤ 1000000 by simp only [List.length_append] at *; omega)
      clear hk8 k8 t8 ho8 hg8 hv8 hba
      go_wp2
      go_roundw
      case rel => exact ⟨j + 1, _, by omega, by go_num, by rw [HRS.out]; exact HR9, by rw [HRS.out]; exact HL9, HK9, HZ9, by rw [HTK.out]; exact HO9, Lib.hid hv9, HG9, hm9⟩
      case measure => simp [intOf]; omega
  have hF : s.locks.take j = s.locks := List.take_of_length_le (by omega)
  rw [hF] at HO
  have h0 := HR.out
  rw [flat_end encLock s.locks j hlt, List.nil_append] at h0
  replace HR := Lib.hid h0
  have h1 := HLN.out
  rw [flat_end encLock s.locks j hlt, List.nil_append] at h1
  replace HLN := Lib.hid h1
  clear h0 h1 hF
  have HLK := Lib.hid ((HO.out.read rLock_ok (by decide) (fun g hg => HV.out g hg)).sub (S' := fun b => K < b ∧ b < wr.heap.size) rLock_ok (by decide) fun b hb hlt => ⟨by have : m ≤ b := hb; omega, hlt⟩)
  obtain ⟨a1, c1, rfl, -, -, -, -⟩ := id HLK.out
  clear HO HV hone
  have HN := Lib.hid (rcount_calls (s.pairs.length) 5 (s.pairs.flatMap encPair ++ (numB (s.sessions.length : Int) ++ (s.sessions.flatMap encSession ++ t))) R wr HR.out (by omega) (by omega) (by have := HLN.out; simp only [List.length_append] at *; omega))
  go_wp2_with fail
  refine HN.out.mono ?_
  rintro e wc2 ⟨rfl, hr, hg⟩
  clear HN
  replace HR := Lib.hid hr
  replace HLN := Lib.hid (show (s.pairs.flatMap encPair ++ (numB (s.sessions.length : Int) ++ (s.sessions.flatMap encSession ++ t))).length ≤ 1000000 by have := HLN.out; simp only [List.length_append] at *; omega)
  replace HZ := Lib.hid (HZ.out.grown hg (fun e => by have := Option.some.inj e; omega))
  replace HG := Lib.hid (grownBy_trans HG.out hg)
  replace HK := Lib.hid (HK.out.grown hg (fun e => by have := Option.some.inj e; omega))
  replace HLK := Lib.hid (HLK.out.grownB rLock_ok (by decide) hg (fun b hb => by have := hb.1; omega))
  clear hr hg
  go_wp2
  have hKm : K < wc2.heap.size := HK.out.lt
  obtain ⟨m, hm⟩ : ∃ m, wc2.heap.size = m := ⟨_, rfl⟩
  rw [hm] at hKm
  replace HLK := Lib.hid (HLK.out.sub (S' := fun b => K < b ∧ b < m) rLock_ok (by decide) fun b hb hlt => ⟨hb.1, by omega⟩)
  go_loopw [21] (fun i wr => ∃ (j : Nat) (v : Value), j ≤ s.pairs.length ∧ i = .int .i64 j ∧ Hid (BoxAt wr R [.string ⟨((s.pairs.drop j).flatMap encPair ++ (numB (s.sessions.length : Int) ++ (s.sessions.flatMap encSession ++ t))).toArray⟩, .int .i64 0]) ∧ Hid (((s.pairs.drop j).flatMap encPair ++ (numB (s.sessions.length : Int) ++ (s.sessions.flatMap encSession ++ t))).length ≤ 1000000) ∧ Hid (BoxAt wr K [.int .i64 s.index, .slice a1 s.locks.length c1, v, .slice none 0 0]) ∧ Hid (BoxAt wr w.heap.size [.int .i64 0, .slice none 0 0, .slice none 0 0, .slice none 0 0]) ∧ Hid (OwR 57 3 rPair wr v (s.pairs.take j) (fun b => m ≤ b)) ∧ Hid (∀ g, v.ownBlock = some g → m ≤ g) ∧ Hid (w.grownBy wr (some R)) ∧ m ≤ wr.heap.size ∧ Hid (SlR 4 rLock wr (.slice a1 s.locks.length c1) s.locks (fun b => K < b ∧ b < m)))
    (fun i _ => s.pairs.length - (intOf i).toNat)
  case atStart => exact ⟨0, .slice none 0 0, by omega, rfl, HR, HLN, HK, HZ, Lib.hid (OwR.nil _ _), Lib.hid (fun g hg => by cases hg), HG, by omega, HLK⟩
  case round =>
  clear HR HLN HK HZ HG hm HLK
  obtain ⟨j, v, hj, rfl, HR, HLN, HK, HZ, HO, HV, HG, hmw, HLK⟩ := hrel
  have hone := HO.out.oneCell
  by_cases hlt : j < s.pairs.length
  · have HTK := Lib.hid (List.take_succ_eq_append_getElem hlt)
    have htl : (s.pairs.take j).length = j := by rw [List.length_take]; omega
    have hll := hpl
    have hyb := (lkName_len (HPO.out s.pairs[j] (List.getElem_mem hlt)).name).2
    have hyc := (HPO.out s.pairs[j] (List.getElem_mem hlt)).size
    have hyd := (HPO.out s.pairs[j] (List.getElem_mem hlt)).vers
    have hr0 := HR.out
    rw [flat_drop encPair s.pairs j hlt, List.append_assoc] at hr0
    have hl0 := HLN.out
    rw [flat_drop encPair s.pairs j hlt, List.append_assoc] at hl0
    generalize s.pairs[j] = y at *
    obtain ⟨rest, hrest⟩ : ∃ rest, (s.pairs.drop (j + 1)).flatMap encPair ++ (numB (s.sessions.length : Int) ++ (s.sessions.flatMap encSession ++ t)) = rest := ⟨_, rfl⟩
    rw [hrest] at hr0 hl0
    have HRS := Lib.hid hrest
    clear hrest
    simp only [encPair, List.append_assoc] at hr0 hl0
    have hx0 := hr0.drew
    have k0 := HK.out.cell 2 _ rfl
    have HN0 := Lib.hid (rtext_calls (y.name) (textB (y.value) ++ (numB (y.version) ++ (rest))) R wr.drew hx0 (by omega) (by simp only [List.length_append] at *; omega))
    go_upto_region 8 with (fail)
    go_region_law (first
      | (go_simp; first | (go_at_call 116; first | (refine HN1.out.mono ?_; rintro e u1 ⟨rfl, hx2, hh1⟩; have hg1 := grownBy_trans hg0 hh1; have hk1 := HK.out.grown hg1 (fun e => by have := Option.some.inj e; omega); have c1 := hk1.cell 2 _ rfl; have HN2 := Lib.hid (rnum_calls (y.version) (rest) R u1 hx2 (by omega) (by omega) (by simp only [List.length_append] at *; omega))) | (refine HN0.out.mono ?_; rintro e u0 ⟨rfl, hx1, hh0⟩; have hg0 := undrawG hh0; have hk0 := HK.out.grown hg0 (fun e => by have := Option.some.inj e; omega); have c0 := hk0.cell 2 _ rfl; have HN1 := Lib.hid (rtext_calls (y.value) (numB (y.version) ++ (rest)) R u0 hx1 (by omega) (by simp only [List.length_append] at *; omega)))) | (go_at_call 113; refine HN2.out.mono ?_; rintro e u2 ⟨rfl, hx3, hh2⟩; have hg2 := grownBy_trans hg1 hh2; have hk2 := HK.out.grown hg2 (fun e => by have := Option.some.inj e; omega); have c2 := hk2.cell 2 _ rfl; have d2 := (hk2.below (below_alloc u2 (.cells #[.string ⟨y.name.toArray⟩, .string ⟨y.value.toArray⟩, .int .i64 y.version] 57))).cell 2 _ rfl; have ho5 := HO.out.awayG rPair_ok HV.out hg2 (by omega); have ho6 := ho5.below rPair_ok (below_alloc u2 (.cells #[.string ⟨y.name.toArray⟩, .string ⟨y.value.toArray⟩, .int .i64 y.version] 57)); have hx6 := BoxAt.new (w := u2) (cs := [.string ⟨y.name.toArray⟩, .string ⟨y.value.toArray⟩, .int .i64 y.version]) (E := 57)))
      | (refine step_app rfl (.tmp 24) (.tmp 32) rfl Tryz.tycPair rPair_ok y rfl rfl hx6.cell ho6 rfl (by rw [htl]; omega) ?_; intro v8 w8 ho8 hg8 hv8; have hvK : ∀ g, v.ownBlock = some g → g ≠ K := (fun g hg => by have := HV.out g hg; omega); have hk8 := (hk2.below (below_alloc u2 (.cells #[.string ⟨y.name.toArray⟩, .string ⟨y.value.toArray⟩, .int .i64 y.version] 57))).grown hg8 (fun e => hvK K e.symm rfl); have k8 := hk8.cell 2 _ rfl; have t8 := hk8.thaw 2; obtain ⟨a8, c8, e8⟩ : ∃ a c, v8 = .slice a (j + 1) c := (by obtain ⟨a, c, e⟩ := ho8.shape; exact ⟨a, c, by rw [e, List.length_append, htl]; rfl⟩); subst e8))
    all_goals
      have hsz := hg2.size
      have hvR : ∀ g, v.ownBlock = some g → g ≠ R := fun g hg => by have := HV.out g hg; omega
      have hvZ : ∀ g, v.ownBlock = some g → g ≠ w.heap.size := fun g hg => by have := HV.out g hg; omega
      have hba := below_alloc u2 (.cells #[.string ⟨y.name.toArray⟩, .string ⟨y.value.toArray⟩, .int .i64 y.version] 57)
      have hws := HG.out.size
      have hv9 := own_more (m := m) HV.out (by have := hba.size; omega) hv8
      have HR9 := Lib.hid (((hx3.below hba).grown hg8 (fun e => hvR R e.symm rfl)).far (c := K) (by omega) 2 (.slice a8 (j + 1) c8))
      have HZ9 := Lib.hid ((((HZ.out.grown hg2 (fun e => by have := Option.some.inj e; omega)).below hba).grown hg8 (fun e => hvZ _ e.symm rfl)).far (c := K) (by omega) 2 (.slice a8 (j + 1) c8))
      have HK9 := Lib.hid (hk8.set 2 (by simp) (.slice a8 (j + 1) c8))
      have HO9 := Lib.hid (ho8.awayS (B := K) (o := 2) (u := (.slice a8 (j + 1) c8)) rPair_ok hv9 hKm)
      have HG9 := Lib.hid (grownBy_set (b := K) (grownBy_more (grownBy_trans HG.out (grownBy_trans hg2 (grownBy_any hba _))) hg8 (fun g hg => by have := HV.out g hg; omega)) (.inr (by omega)) 2 (.slice a8 (j + 1) c8))
      have hm9 : m ≤ (w8.setCell ⟨K, 2, none⟩ (.slice a8 (j + 1) c8)).heap.size := by rw [World.size_setCell]; have := hg8.size; have := hba.size; omega
      have HLK9 := Lib.hid ((((HLK.out.grownB rLock_ok (by decide) hg2 (fun b hb => by have := hb.1; omega)).below rLock_ok (by decide) hba).awayO rLock_ok (by decide) hg8 (fun b hb e => by have := hb.2; have := HV.out b e.symm; omega)).awayS (B := K) (o := 2) (u := (.slice a8 (j + 1) c8)) rLock_ok (by decide) (fun b hb => by have := hb.1; omega))
      have HL9 := Lib.hid (show rest.length ≤ 1000000 by simp only [List.length_append] at *; omega)
      clear hk8 k8 t8 ho8 hg8 hv8 hba
      go_wp2
      go_roundw
      case rel => exact ⟨j + 1, _, by omega, by go_num, by rw [HRS.out]; exact HR9, by rw [HRS.out]; exact HL9, HK9, HZ9, by rw [HTK.out]; exact HO9, Lib.hid hv9, HG9, hm9, HLK9⟩
      case measure => simp [intOf]; omega
  have hF : s.pairs.take j = s.pairs := List.take_of_length_le (by omega)
  rw [hF] at HO
  have h0 := HR.out
  rw [flat_end encPair s.pairs j hlt, List.nil_append] at h0
  replace HR := Lib.hid h0
  have h1 := HLN.out
  rw [flat_end encPair s.pairs j hlt, List.nil_append] at h1
  replace HLN := Lib.hid h1
  clear h0 h1 hF
  have HPK := Lib.hid ((HO.out.read rPair_ok (by decide) (fun g hg => HV.out g hg)).sub (S' := fun b => K < b ∧ b < wr.heap.size) rPair_ok (by decide) fun b hb hlt => ⟨by have : m ≤ b := hb; omega, hlt⟩)
  obtain ⟨a2, c2, rfl, -, -, -, -⟩ := id HPK.out
  clear HO HV hone
  have HN := Lib.hid (rcount_calls (s.sessions.length) 4 (s.sessions.flatMap encSession ++ t) R wr HR.out (by omega) (by omega) (by have := HLN.out; simp only [List.length_append] at *; omega))
  go_wp2_with fail
  refine HN.out.mono ?_
  rintro e wc3 ⟨rfl, hr, hg⟩
  clear HN
  replace HR := Lib.hid hr
  replace HLN := Lib.hid (show (s.sessions.flatMap encSession ++ t).length ≤ 1000000 by have := HLN.out; simp only [List.length_append] at *; omega)
  replace HZ := Lib.hid (HZ.out.grown hg (fun e => by have := Option.some.inj e; omega))
  replace HG := Lib.hid (grownBy_trans HG.out hg)
  replace HK := Lib.hid (HK.out.grown hg (fun e => by have := Option.some.inj e; omega))
  replace HLK := Lib.hid (HLK.out.grownB rLock_ok (by decide) hg (fun b hb => by have := hb.1; omega))
  replace HPK := Lib.hid (HPK.out.grownB rPair_ok (by decide) hg (fun b hb => by have := hb.1; omega))
  clear hr hg
  go_wp2
  have hKm : K < wc3.heap.size := HK.out.lt
  obtain ⟨m, hm⟩ : ∃ m, wc3.heap.size = m := ⟨_, rfl⟩
  rw [hm] at hKm
  replace HLK := Lib.hid (HLK.out.sub (S' := fun b => K < b ∧ b < m) rLock_ok (by decide) fun b hb hlt => ⟨hb.1, by omega⟩)
  replace HPK := Lib.hid (HPK.out.sub (S' := fun b => K < b ∧ b < m) rPair_ok (by decide) fun b hb hlt => ⟨hb.1, by omega⟩)
  go_loopw [38] (fun i wr => ∃ (j : Nat) (v : Value), j ≤ s.sessions.length ∧ i = .int .i64 j ∧ Hid (BoxAt wr R [.string ⟨((s.sessions.drop j).flatMap encSession ++ t).toArray⟩, .int .i64 0]) ∧ Hid (((s.sessions.drop j).flatMap encSession ++ t).length ≤ 1000000) ∧ Hid (BoxAt wr K [.int .i64 s.index, .slice a1 s.locks.length c1, .slice a2 s.pairs.length c2, v]) ∧ Hid (BoxAt wr w.heap.size [.int .i64 0, .slice none 0 0, .slice none 0 0, .slice none 0 0]) ∧ Hid (OwR 144 5 rSession wr v (s.sessions.take j) (fun b => m ≤ b)) ∧ Hid (∀ g, v.ownBlock = some g → m ≤ g) ∧ Hid (w.grownBy wr (some R)) ∧ m ≤ wr.heap.size ∧ Hid (SlR 4 rLock wr (.slice a1 s.locks.length c1) s.locks (fun b => K < b ∧ b < m)) ∧ Hid (SlR 3 rPair wr (.slice a2 s.pairs.length c2) s.pairs (fun b => K < b ∧ b < m)))
    (fun i _ => s.sessions.length - (intOf i).toNat)
  case atStart => exact ⟨0, .slice none 0 0, by omega, rfl, HR, HLN, HK, HZ, Lib.hid (OwR.nil _ _), Lib.hid (fun g hg => by cases hg), HG, by omega, HLK, HPK⟩
  case round =>
  clear HR HLN HK HZ HG hm HLK HPK
  obtain ⟨j, v, hj, rfl, HR, HLN, HK, HZ, HO, HV, HG, hmw, HLK, HPK⟩ := hrel
  have hone := HO.out.oneCell
  by_cases hlt : j < s.sessions.length
  · have HTK := Lib.hid (List.take_succ_eq_append_getElem hlt)
    have htl : (s.sessions.take j).length = j := by rw [List.length_take]; omega
    have hll := hzl
    have hyo := Lib.hid (HSO.out s.sessions[j] (List.getElem_mem hlt))
    have hr0 := HR.out
    rw [flat_drop encSession s.sessions j hlt, List.append_assoc] at hr0
    have hl0 := HLN.out
    rw [flat_drop encSession s.sessions j hlt, List.append_assoc] at hl0
    generalize s.sessions[j] = y at *
    obtain ⟨rest, hrest⟩ : ∃ rest, (s.sessions.drop (j + 1)).flatMap encSession ++ t = rest := ⟨_, rfl⟩
    rw [hrest] at hr0 hl0
    have HRS := Lib.hid hrest
    clear hrest
    have hx0 := hr0.drew
    have k0 := HK.out.cell 3 _ rfl
    have HN0 := Lib.hid (rsession_calls (y) hyo.out (rest) R wr.drew hx0 (by simp only [List.length_append] at *; omega))
    go_upto_region 12 with (fail)
    go_region_law (first
      | (go_simp; first | (go_at_call 117; refine HN0.out.mono ?_; rintro e u0 ⟨vn, rfl, hsn, hx1, hh0⟩; have hg0 := undrawG hh0; have hk0 := HK.out.grown hg0 (fun e => by have := Option.some.inj e; omega); have c0 := hk0.cell 3 _ rfl; obtain ⟨na, nc, rfl, -, -, -, -⟩ := id hsn; have d0 := (hk0.below (below_alloc u0 (.cells #[.int .i64 y.client, .int .i64 y.id, .int .i64 y.acked, .int .i64 y.last, .slice na y.replies.length nc] 144))).cell 3 _ rfl; have ho5 := HO.out.awayG rSession_ok HV.out hg0 (by omega); have ho6 := ho5.below rSession_ok (below_alloc u0 (.cells #[.int .i64 y.client, .int .i64 y.id, .int .i64 y.acked, .int .i64 y.last, .slice na y.replies.length nc] 144)); have hx6 := BoxAt.new (w := u0) (cs := [.int .i64 y.client, .int .i64 y.id, .int .i64 y.acked, .int .i64 y.last, .slice na y.replies.length nc]) (E := 144)))
      | (refine step_app rfl (.tmp 41) (.tmp 44) rfl Tryz.tyeSess rSession_ok y rfl rfl hx6.cell ho6 ⟨_, rfl, (hsn.below rKept_ok (by decide) (below_alloc _ _)).sub rKept_ok (by decide) fun b hb _ => ⟨by have : wr.heap.size ≤ b := hb; omega, fun e => by have : wr.heap.size ≤ b := hb; have := HO.out.lt b e.symm; omega⟩⟩ (by rw [htl]; omega) ?_; intro v8 w8 ho8 hg8 hv8; have hvK : ∀ g, v.ownBlock = some g → g ≠ K := (fun g hg => by have := HV.out g hg; omega); have hk8 := (hk0.below (below_alloc u0 (.cells #[.int .i64 y.client, .int .i64 y.id, .int .i64 y.acked, .int .i64 y.last, .slice na y.replies.length nc] 144))).grown hg8 (fun e => hvK K e.symm rfl); have k8 := hk8.cell 3 _ rfl; have t8 := hk8.thaw 3; obtain ⟨a8, c8, e8⟩ : ∃ a c, v8 = .slice a (j + 1) c := (by obtain ⟨a, c, e⟩ := ho8.shape; exact ⟨a, c, by rw [e, List.length_append, htl]; rfl⟩); subst e8))
    all_goals
      have hsz := hg0.size
      have hvR : ∀ g, v.ownBlock = some g → g ≠ R := fun g hg => by have := HV.out g hg; omega
      have hvZ : ∀ g, v.ownBlock = some g → g ≠ w.heap.size := fun g hg => by have := HV.out g hg; omega
      have hba := below_alloc u0 (.cells #[.int .i64 y.client, .int .i64 y.id, .int .i64 y.acked, .int .i64 y.last, .slice na y.replies.length nc] 144)
      have hws := HG.out.size
      have hv9 := own_more (m := m) HV.out (by have := hba.size; omega) hv8
      have HR9 := Lib.hid (((hx1.below hba).grown hg8 (fun e => hvR R e.symm rfl)).far (c := K) (by omega) 3 (.slice a8 (j + 1) c8))
      have HZ9 := Lib.hid ((((HZ.out.grown hg0 (fun e => by have := Option.some.inj e; omega)).below hba).grown hg8 (fun e => hvZ _ e.symm rfl)).far (c := K) (by omega) 3 (.slice a8 (j + 1) c8))
      have HK9 := Lib.hid (hk8.set 3 (by simp) (.slice a8 (j + 1) c8))
      have HO9 := Lib.hid (ho8.awayS (B := K) (o := 3) (u := (.slice a8 (j + 1) c8)) rSession_ok hv9 hKm)
      have HG9 := Lib.hid (grownBy_set (b := K) (grownBy_more (grownBy_trans HG.out (grownBy_trans hg0 (grownBy_any hba _))) hg8 (fun g hg => by have := HV.out g hg; omega)) (.inr (by omega)) 3 (.slice a8 (j + 1) c8))
      have hm9 : m ≤ (w8.setCell ⟨K, 3, none⟩ (.slice a8 (j + 1) c8)).heap.size := by rw [World.size_setCell]; have := hg8.size; have := hba.size; omega
      have HLK9 := Lib.hid ((((HLK.out.grownB rLock_ok (by decide) hg0 (fun b hb => by have := hb.1; omega)).below rLock_ok (by decide) hba).awayO rLock_ok (by decide) hg8 (fun b hb e => by have := hb.2; have := HV.out b e.symm; omega)).awayS (B := K) (o := 3) (u := (.slice a8 (j + 1) c8)) rLock_ok (by decide) (fun b hb => by have := hb.1; omega))
      have HPK9 := Lib.hid ((((HPK.out.grownB rPair_ok (by decide) hg0 (fun b hb => by have := hb.1; omega)).below rPair_ok (by decide) hba).awayO rPair_ok (by decide) hg8 (fun b hb e => by have := hb.2; have := HV.out b e.symm; omega)).awayS (B := K) (o := 3) (u := (.slice a8 (j + 1) c8)) rPair_ok (by decide) (fun b hb => by have := hb.1; omega))
      have HL9 := Lib.hid (show rest.length ≤ 1000000 by simp only [List.length_append] at *; omega)
      clear hk8 k8 t8 ho8 hg8 hv8 hba
      go_wp2
      go_roundw
      case rel => exact ⟨j + 1, _, by omega, by go_num, by rw [HRS.out]; exact HR9, by rw [HRS.out]; exact HL9, HK9, HZ9, by rw [HTK.out]; exact HO9, Lib.hid hv9, HG9, hm9, HLK9, HPK9⟩
      case measure => simp [intOf]; omega
  have hF : s.sessions.take j = s.sessions := List.take_of_length_le (by omega)
  rw [hF] at HO
  have h0 := HR.out
  rw [flat_end encSession s.sessions j hlt, List.nil_append] at h0
  replace HR := Lib.hid h0
  have h1 := HLN.out
  rw [flat_end encSession s.sessions j hlt, List.nil_append] at h1
  replace HLN := Lib.hid h1
  clear h0 h1 hF
  have HSK := Lib.hid ((HO.out.read rSession_ok (by decide) (fun g hg => HV.out g hg)).sub (S' := fun b => K < b ∧ b < wr.heap.size) rSession_ok (by decide) fun b hb hlt => ⟨by have : m ≤ b := hb; omega, hlt⟩)
  obtain ⟨a3, c3, rfl, -, -, -, -⟩ := id HSK.out
  clear HO HV hone
  have hz := HZ.out.lt
  have k0 := HK.out.cell 0 _ rfl; have k1 := HK.out.cell 1 _ rfl; have k2 := HK.out.cell 2 _ rfl; have k3 := HK.out.cell 3 _ rfl
  have z0 := HZ.out.cell 0 _ rfl; have y0 := HZ.out.thaw 0; have z1 := HZ.out.cell 1 _ rfl; have y1 := HZ.out.thaw 1; have z2 := HZ.out.cell 2 _ rfl; have y2 := HZ.out.thaw 2; have z3 := HZ.out.cell 3 _ rfl; have y3 := HZ.out.thaw 3
  have HZF := Lib.hid ((((HZ.out.set 0 (by simp) (.int .i64 s.index)).set 1 (by simp) (.slice a1 s.locks.length c1)).set 2 (by simp) (.slice a2 s.pairs.length c2)).set 3 (by simp) (.slice a3 s.sessions.length c3))
  have HRF := Lib.hid ((((HR.out.far (c := w.heap.size) (by omega) 0 (.int .i64 s.index)).far (c := w.heap.size) (by omega) 1 (.slice a1 s.locks.length c1)).far (c := w.heap.size) (by omega) 2 (.slice a2 s.pairs.length c2)).far (c := w.heap.size) (by omega) 3 (.slice a3 s.sessions.length c3))
  have HGF := Lib.hid (grownBy_set (grownBy_set (grownBy_set (grownBy_set HG.out (.inr (Nat.le_refl _)) 0 (.int .i64 s.index)) (.inr (Nat.le_refl _)) 1 (.slice a1 s.locks.length c1)) (.inr (Nat.le_refl _)) 2 (.slice a2 s.pairs.length c2)) (.inr (Nat.le_refl _)) 3 (.slice a3 s.sessions.length c3))
  have HLKF := Lib.hid ((((HLK.out.awayS (B := w.heap.size) (o := 0) (u := .int .i64 s.index) rLock_ok (by decide) (fun b hb => by have := hb.1; omega)).awayS (B := w.heap.size) (o := 1) (u := .slice a1 s.locks.length c1) rLock_ok (by decide) (fun b hb => by have := hb.1; omega)).awayS (B := w.heap.size) (o := 2) (u := .slice a2 s.pairs.length c2) rLock_ok (by decide) (fun b hb => by have := hb.1; omega)).awayS (B := w.heap.size) (o := 3) (u := .slice a3 s.sessions.length c3) rLock_ok (by decide) (fun b hb => by have := hb.1; omega))
  have HPKF := Lib.hid ((((HPK.out.awayS (B := w.heap.size) (o := 0) (u := .int .i64 s.index) rPair_ok (by decide) (fun b hb => by have := hb.1; omega)).awayS (B := w.heap.size) (o := 1) (u := .slice a1 s.locks.length c1) rPair_ok (by decide) (fun b hb => by have := hb.1; omega)).awayS (B := w.heap.size) (o := 2) (u := .slice a2 s.pairs.length c2) rPair_ok (by decide) (fun b hb => by have := hb.1; omega)).awayS (B := w.heap.size) (o := 3) (u := .slice a3 s.sessions.length c3) rPair_ok (by decide) (fun b hb => by have := hb.1; omega))
  have HSKF := Lib.hid ((((HSK.out.awayS (B := w.heap.size) (o := 0) (u := .int .i64 s.index) rSession_ok (by decide) (fun b hb => by have := hb.1; omega)).awayS (B := w.heap.size) (o := 1) (u := .slice a1 s.locks.length c1) rSession_ok (by decide) (fun b hb => by have := hb.1; omega)).awayS (B := w.heap.size) (o := 2) (u := .slice a2 s.pairs.length c2) rSession_ok (by decide) (fun b hb => by have := hb.1; omega)).awayS (B := w.heap.size) (o := 3) (u := .slice a3 s.sessions.length c3) rSession_ok (by decide) (fun b hb => by have := hb.1; omega))
  go_wp2
  generalize ((((wr.setCell ⟨w.heap.size, 0, none⟩ (.int .i64 s.index)).setCell ⟨w.heap.size, 1, none⟩ (.slice a1 s.locks.length c1)).setCell ⟨w.heap.size, 2, none⟩ (.slice a2 s.pairs.length c2)).setCell ⟨w.heap.size, 3, none⟩ (.slice a3 s.sessions.length c3)) = wf at *
  have g0 := HZF.out.cell 0 _ rfl; have g1 := HZF.out.cell 1 _ rfl; have g2 := HZF.out.cell 2 _ rfl; have g3 := HZF.out.cell 3 _ rfl
  refine bodyPost_ret (v := .agg #[.int .i64 s.index, .slice a1 s.locks.length c1, .slice a2 s.pairs.length c2, .slice a3 s.sessions.length c3]) (by simp [results, Tryz.results66, go_sem, g0, g1, g2, g3]) rfl ⟨_, _, _, rfl, ⟨HLKF.out.sub rLock_ok (by decide) fun b hb _ => by show _ ≤ _; have := hb.1; omega, HPKF.out.sub rPair_ok (by decide) fun b hb _ => by show _ ≤ _; have := hb.1; omega, HSKF.out.sub rSession_ok (by decide) fun b hb _ => by show _ ≤ _; have := hb.1; omega⟩, HRF.out, HGF.out⟩
end Go.Proofs.YtkefgapnghnjjaaGreatDoor
