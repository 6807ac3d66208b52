/- CustomersAsk: a client asks till it is answered, up to a window of calls at a time; what it asks may be; no condition. -/
import Derived.Test.YtphkkkmjkagkbaaDoorCustR
import Derived.Test.YtphkkkmjkagkbaaDoorCustH
import Derived.Test.YtphkkkmjkagkbaaDoorPlanD
import Derived.Test.YtphkkkmjkagkbaaDoorOpC
import Derived.Test.YtphkkkmjkagkbaaDoorCmdD
import Derived.Test.YtphkkkmjkagkbaaDoorRaw
import Derived.StillTailTactics
namespace Go.Tk
open Go Go.RowKit
theorem ask_hear2 {id a : Int} (h : 1 ≤ id ∧ id ≤ 9) : ∃ d, custHear ⟨id, 5, 5, askWaits a 4⟩ ⟨id, 1, noReply⟩ = (d, 0) ∧ d.waits.length = 3 ∧ (custHear d ⟨id, 1, noReply⟩) = (noCustomer, 12) ∧ CustOk d := by
  have hc : custCheck ⟨id, 5, 5, askWaits a 4⟩ = 0 := ask_check (a := a) h 4 (by omega)
  obtain ⟨o0, o1, o2, o3, he, k0, k1, k2, k3⟩ := ask_four a
  have e1 : custHear ⟨id, 5, 5, askWaits a 4⟩ ⟨id, 1, noReply⟩ = (⟨id, 5, 5, [⟨2, o1⟩, ⟨3, o2⟩, ⟨4, o3⟩]⟩, 0) := by
    rw [custHear, if_neg (by simp [hc])]
    simp [he, waitAt, noReply, List.findIdx_cons]
  have hd : CustOk ⟨id, 5, 5, [⟨2, o1⟩, ⟨3, o2⟩, ⟨4, o3⟩]⟩ := by
    refine ⟨h, by simp, by simp, by simp, by simp, fun i hi => ?_⟩
    simp only [List.length_cons, List.length_nil] at hi
    rcases (show i = 0 ∨ i = 1 ∨ i = 2 by omega) with rfl | rfl | rfl
    · exact ⟨by simp [custBad], k1⟩
    · exact ⟨by simp [custBad], k2⟩
    · exact ⟨by simp [custBad], k3⟩
  refine ⟨_, e1, rfl, ?_, hd⟩
  rw [custHear, if_neg (by simp [custCheck_ok.2 hd])]
  simp [waitAt, List.findIdx_cons]
theorem ask_gone2 {id a : Int} (h : 1 ≤ id ∧ id ≤ 9) : custHear ⟨id, 5, 5, askWaits a 4⟩ ⟨id, 2, ⟨11, 0, []⟩⟩ = (⟨id, 0, 5, []⟩, 0) := (ask_gone (a := a) h).1
theorem ask_step {id a : Int} (h : 1 ≤ id ∧ id ≤ 9) (n : Nat) : ∃ r e, custStart ⟨id, 5, ((min n 4 : Nat) : Int) + 1, askWaits a (min n 4)⟩ (opOf ⟨a, n, 0, 0⟩) = (r, e) ∧ (n < 4 → e = 0 ∧ r = ⟨id, 5, ((min (n + 1) 4 : Nat) : Int) + 1, askWaits a (min (n + 1) 4)⟩) ∧ (¬ n < 4 → e = 8) := by
  by_cases hn : n < 4
  · refine ⟨_, _, ?_, fun _ => ⟨rfl, rfl⟩, fun h => absurd hn h⟩
    rw [Nat.min_eq_left (show n ≤ 4 by omega), Nat.min_eq_left (show n + 1 ≤ 4 by omega)]
    exact ask_start h n hn
  · refine ⟨noCustomer, 8, ?_, fun h => absurd h hn, fun _ => rfl⟩
    rw [Nat.min_eq_right (show 4 ≤ n by omega)]
    exact ask_full h ⟨a, n, 0, 0⟩
theorem slr_empty {α : Type} {k : Nat} {R : Rel α} (w : World) (S : Nat → Prop) {a : Option Addr} {cap : Nat} (hc : cap ≤ maxLen) (hn : a = none → cap = 0) : SlR k R w (.slice a 0 cap) [] S :=
  ⟨a, cap, rfl, Nat.zero_le _, hc, hn, fun i x hx => by simp at hx⟩
/-- What the store of a customer into a box may do: b holds four cells of type E. -/
def StoreC (E L : Nat) (wx wy : World) : Prop := ∃ (b : Nat) (u0 u1 u2 u3 : Value) (cur : Array Value), L ≤ b ∧ wx.heap[b]? = some (.cells cur E (0, 0)) ∧ wy = (((wx.setCell ⟨b, 0, none⟩ u0).setCell ⟨b, 1, none⟩ u1).setCell ⟨b, 2, none⟩ u2).setCell ⟨b, 3, none⟩ u3
theorem StoreC.below {E L : Nat} {w0 wx wy : World} (h : StoreC E L wx wy) (hb : Below L w0 wx) : Below L w0 wy := by
  obtain ⟨b, u0, u1, u2, u3, cur, hL, -, rfl⟩ := h
  exact below_set (b := b) (below_set (b := b) (below_set (b := b) (below_set (b := b) hb hL 0 u0) hL 1 u1) hL 2 u2) hL 3 u3
/-- A slice of another type's elements stays. -/
theorem StoreC.own {E E' L k : Nat} {α : Type} {R : Rel α} (hR : RelOk R k) (hE : E' ≠ E) {wx wy : World} {v : Value} {l : List α} (h : StoreC E L wx wy) (ho : OwR E' k R wx v l (fun _ => False)) : OwR E' k R wy v l (fun _ => False) := by
  obtain ⟨b, u0, u1, u2, u3, cur, -, hc, rfl⟩ := h
  have hne : ∀ g, v.ownBlock = some g → g ≠ b := fun g hg e => by
    subst e
    obtain ⟨rows, h1, h2, h3⟩ := ho
    rcases h2.2 with ⟨hv, _⟩ | ⟨g', cap, cur', hv, -, hg', -⟩
    · rw [hv] at hg; cases hg
    · rw [hv] at hg; cases hg
      rw [hc] at hg'
      simp only [Option.some.injEq, Obj.cells.injEq] at hg'
      exact hE hg'.2.1.symm
  exact ho.move hR (fun g hg => (heap_far (hne g hg)).trans ((heap_far (hne g hg)).trans ((heap_far (hne g hg)).trans (heap_far (hne g hg))))) (fun b hb => hb.elim)
/-- A box of four cells of type E, made behind L. -/
def Box4 (E L : Nat) (v : Value) (w : World) : Prop := ∃ (b : Nat) (u0 u1 u2 u3 : Value) (cur : Array Value), v = .pointer (some ⟨b, 0, none⟩) ∧ L ≤ b ∧ BoxAt w b [u0, u1, u2, u3] ∧ w.heap[b]? = some (.cells cur E (0, 0))
theorem Box4.new (E L : Nat) {w : World} (hL : L ≤ w.heap.size) (u0 u1 u2 u3 : Value) : Box4 E L (.pointer (some ⟨w.heap.size, 0, none⟩)) (w.alloc (.cells #[u0, u1, u2, u3] E)) :=
  ⟨_, u0, u1, u2, u3, _, rfl, hL, BoxAt.new (cs := [u0, u1, u2, u3]), heap_alloc_new w _⟩
theorem Box4.below {E L : Nat} {v : Value} {wx wy : World} (h : Box4 E L v wx) (hb : Below wx.heap.size wx wy) : Box4 E L v wy := by
  obtain ⟨b, u0, u1, u2, u3, cur, e, h1, h2, h3⟩ := h
  exact ⟨b, u0, u1, u2, u3, cur, e, h1, h2.below hb, (hb.block b h2.lt).trans h3⟩
theorem Box4.store {E L : Nat} {v : Value} {wx wy : World} (h : Box4 E L v wx) (hs : StoreC E L wx wy) : Box4 E L v wy := by
  obtain ⟨b, u0, u1, u2, u3, cur, e, h1, h2, h3⟩ := h
  obtain ⟨c, v0, v1, v2, v3, cur', -, -, rfl⟩ := hs
  have hk : KeepsRow b wx ((((wx.setCell ⟨c, 0, none⟩ v0).setCell ⟨c, 1, none⟩ v1).setCell ⟨c, 2, none⟩ v2).setCell ⟨c, 3, none⟩ v3) := ((((KeepsRow.refl _ _).set _ _ _).set _ _ _).set _ _ _).set _ _ _
  obtain ⟨cur2, h4, -⟩ := hk cur E _ h3
  by_cases hbc : b = c
  · subst hbc
    exact ⟨b, v0, v1, v2, v3, cur2, e, h1, (((h2.set 0 (by simp) v0).set 1 (by simp) v1).set 2 (by simp) v2).set 3 (by simp) v3, h4⟩
  · exact ⟨b, u0, u1, u2, u3, cur2, e, h1, (((h2.far hbc 0 v0).far hbc 1 v1).far hbc 2 v2).far hbc 3 v3, h4⟩
end Go.Tk
namespace Go.Proofs.YtphkkkmjkagkbaaDoor
open Go.RowKit Go.Tk

set_option linter.unusedSimpArgs false in
set_option maxRecDepth 100000 in
set_option maxHeartbeats 12800000 in
theorem customersAsk_calls (w : World) (id : Int) (hi1 : -9223372036854775808 ≤ id) (hi2 : id ≤ 9223372036854775807) (l : List RawD) (v : Value) (S : Nat → Prop) (h : SlR 4 rRaw w v l S) (_hr : ∀ x ∈ l, RawOk x) (m : Int) (hm1 : -9223372036854775808 ≤ m) (hm2 : m ≤ 9223372036854775807) :
    Calls Tryd.prog 7 #[.int .i64 id, v, .int .i64 m] w fun e w' => e = .returned (.bool true) ∧ Below w.heap.size w w' := by
  have hone := h.oneCell
  clear h _hr
  obtain ⟨p, hp, hp0, hp1⟩ : ∃ p, picked id 9 = p ∧ 0 ≤ p ∧ p < 9 := ⟨_, rfl, picked_in _ _ (by decide)⟩
  obtain ⟨q, hq, hq0, hq1⟩ : ∃ q, picked m 9 = q ∧ 0 ≤ q ∧ q < 9 := ⟨_, rfl, picked_in _ _ (by decide)⟩
  obtain ⟨k, hk, hk0, hk1⟩ : ∃ k, picked m 4 = k ∧ 0 ≤ k ∧ k < 4 := ⟨_, rfl, picked_in _ _ (by decide)⟩
  have HP := Lib.hid hp
  have HQ := Lib.hid hq
  have HKK := Lib.hid hk
  obtain ⟨ci, hci⟩ : ∃ ci, 1 + p = ci := ⟨_, rfl⟩
  have hw1 : IntKind.i64.wrap (1 + p) = ci := (IntWalk.i64_in _ (by omega)).trans hci
  have hcc : 1 ≤ ci ∧ ci ≤ 9 := by omega
  have HCC := Lib.hid hcc
  clear hp hq hk hci hcc
  go_enter Tryd.func7, Tryd.ntmps7
  go_wp2_with fail
  refine (picked_calls id 9 (by omega) (by omega) hi1 hi2 _).mono ?_; rw [HP.out]; rintro e w0 ⟨rfl, rfl⟩
  go_wp2_with fail
  refine (custNew_calls ci HCC.out _).mono ?_; rintro e w1 ⟨rfl, hb1⟩
  have BW := Lib.hid hb1
  have hB7s := hb1.size
  clear hb1
  go_wp2_with fail
  have X7 := Lib.hid (BoxAt.new (w := w1) (cs := [.int .i64 ci, .int .i64 0, .int .i64 1, .slice none 0 0]) (E := 63))
  have hba := below_alloc w1 (.cells #[.int .i64 ci, .int .i64 0, .int .i64 1, .slice none 0 0] 63)
  replace BW := Lib.hid (below_step BW.out hba)
  clear hba
  generalize w1.alloc (.cells #[.int .i64 ci, .int .i64 0, .int .i64 1, .slice none 0 0] 63) = w2 at *
  have hB7 : w.heap.size ≤ w1.heap.size := hB7s
  generalize w1.heap.size = B7 at *
  refine (custStart_calls ⟨ci, 0, 1, []⟩ ⟨4, [97], [], 0⟩ (.slice none 0 0) (fun _ => True) _ (SlR.nil _ _) (ask_away HCC.out) (opCheck_ok.1 rfl) (by simp)).mono ?_
  rw [away_start HCC.out]
  rintro e w3 ⟨v3, rfl, ho3, -, hb3⟩
  obtain ⟨a3, c3, hv3⟩ := ho3.shape
  replace hv3 : v3 = .slice a3 0 c3 := hv3
  subst hv3
  clear ho3
  replace BW := Lib.hid (below_step BW.out hb3)
  replace X7 := Lib.hid (X7.out.below hb3)
  clear hb3
  have x0 := X7.out.cell 0 _ rfl; have x1 := X7.out.cell 1 _ rfl; have x2 := X7.out.cell 2 _ rfl; have x3 := X7.out.cell 3 _ rfl; have hx := X7.out.lt
  rw [valCust]
  go_wp2_with fail
  have X9 := Lib.hid (BoxAt.new (w := w3) (cs := [.int .i64 noCustomer.id, .int .i64 noCustomer.session, .int .i64 noCustomer.next, .slice a3 0 c3]) (E := 63))
  have hba := below_alloc w3 (.cells #[.int .i64 noCustomer.id, .int .i64 noCustomer.session, .int .i64 noCustomer.next, .slice a3 0 c3] 63)
  replace BW := Lib.hid (below_step BW.out hba)
  replace X7 := Lib.hid (X7.out.below hba)
  clear hba
  generalize w3.alloc (.cells #[.int .i64 noCustomer.id, .int .i64 noCustomer.session, .int .i64 noCustomer.next, .slice a3 0 c3] 63) = w4 at *
  generalize w3.heap.size = B9 at *
  clear x0 x1 x2 x3 hx
  have x0 := X7.out.cell 0 _ rfl; have x1 := X7.out.cell 1 _ rfl; have x2 := X7.out.cell 2 _ rfl; have x3 := X7.out.cell 3 _ rfl
  obtain ⟨hs, hhs⟩ : ∃ hs, custHello ⟨ci, 0, 1, []⟩ = (hs, 0) := ⟨(custHello ⟨ci, 0, 1, []⟩).1, by rw [hello_eq HCC.out]; exact Prod.ext rfl (encode_ok (hello_cmd HCC.out))⟩
  have HHS := Lib.hid hhs
  clear hhs
  refine (custHello_calls ⟨ci, 0, 1, []⟩ (.slice none 0 0) (fun _ => True) _ (SlR.nil _ _) (ask_away HCC.out)).mono ?_
  rw [HHS.out]
  rintro e w5 ⟨rfl, hb5⟩
  clear x0 x1 x2 x3
  replace BW := Lib.hid (below_step BW.out hb5)
  replace X7 := Lib.hid (X7.out.below hb5)
  replace X9 := Lib.hid (X9.out.below hb5)
  clear hb5
  have x0 := X7.out.cell 0 _ rfl; have x1 := X7.out.cell 1 _ rfl; have x2 := X7.out.cell 2 _ rfl; have x3 := X7.out.cell 3 _ rfl
  go_wp2_with fail
  refine (custHear_calls ⟨ci, 0, 1, []⟩ ⟨ci, 0, ⟨0, 5, []⟩⟩ (.slice none 0 0) (fun _ => True) _ (SlR.nil _ _) (ask_away HCC.out)).mono ?_
  rw [show custHear ⟨ci, 0, 1, []⟩ ⟨ci, 0, ⟨0, 5, []⟩⟩ = (⟨ci, 5, 1, []⟩, 0) from hear_join HCC.out q]
  rintro e w6 ⟨v6, rfl, hs6, hb6⟩
  obtain ⟨a6, c6, hv6, -, hc6, hn6, -⟩ := hs6
  replace hv6 : v6 = .slice a6 0 c6 := hv6
  subst hv6
  clear x0 x1 x2 x3
  replace BW := Lib.hid (below_step BW.out hb6)
  replace X7 := Lib.hid (X7.out.below hb6)
  replace X9 := Lib.hid (X9.out.below hb6)
  clear hb6
  have x0 := X7.out.cell 0 _ rfl; have x1 := X7.out.cell 1 _ rfl; have x2 := X7.out.cell 2 _ rfl; have x3 := X7.out.cell 3 _ rfl
  have t0 := X7.out.thaw 0; have t1 := X7.out.thaw 1; have t2 := X7.out.thaw 2; have t3 := X7.out.thaw 3
  rw [valCust]
  go_wp2
  have hx8 := ((((X7.out).set 0 (by simp) (.int .i64 ci)).set 1 (by simp) (.int .i64 5)).set 2 (by simp) (.int .i64 1)).set 3 (by simp) (.slice a6 0 c6)
  have hb8 : Below w.heap.size w ((((w6.setCell ⟨B7, 0, none⟩ (.int .i64 ci)).setCell ⟨B7, 1, none⟩ (.int .i64 5)).setCell ⟨B7, 2, none⟩ (.int .i64 1)).setCell ⟨B7, 3, none⟩ (.slice a6 0 c6)) := below_set (b := B7) (below_set (b := B7) (below_set (b := B7) (below_set (b := B7) BW.out hB7 0 _) hB7 1 _) hB7 2 _) hB7 3 _
  generalize (((w6.setCell ⟨B7, 0, none⟩ (.int .i64 ci)).setCell ⟨B7, 1, none⟩ (.int .i64 5)).setCell ⟨B7, 2, none⟩ (.int .i64 1)).setCell ⟨B7, 3, none⟩ (.slice a6 0 c6) = w7 at *
  clear x0 x1 x2 x3 t0 t1 t2 t3 X7 X9 BW
  go_loopw [14, 15, 16, 56] (fun _ _ _ i wr => ∃ (n : Nat) (a c : _) , n ≤ 8 ∧ i = .int .i64 n ∧ Hid (BoxAt wr B7 [.int .i64 ci, .int .i64 5, .int .i64 (((min n 4 : Nat) : Int) + 1), .slice a (min n 4) c]) ∧ Hid (SlR 5 rWait wr (.slice a (min n 4) c) (askWaits q (min n 4)) (fun _ => True)) ∧ Hid (Below w.heap.size w wr))
    (fun _ _ _ i _ => 8 - (intOf i).toNat)
  case atStart => exact ⟨0, a6, c6, by omega, rfl, hx8, slr_empty _ _ hc6 hn6, hb8⟩
  case round =>
    obtain ⟨n, a, c, hn, rfl, hbx, hsl, hbw⟩ := hrel
    clear hx8 hb8 hc6 hn6
    by_cases hlt : n < 8
    case neg =>
      obtain rfl : n = 8 := by omega
      have HX := Lib.hid (show BoxAt wr B7 [.int .i64 ci, .int .i64 5, .int .i64 5, .slice a 4 c] from hbx)
      have HS := Lib.hid (show SlR 5 rWait wr (.slice a 4 c) (askWaits q 4) (fun _ => True) from hsl)
      have HB := Lib.hid hbw
      clear hbx hsl hbw
      obtain ⟨a4, c4, hv4, hl4, hc4, -, -⟩ := HS.out
      simp only [Value.slice.injEq] at hv4
      obtain ⟨-, -, rfl⟩ := hv4
      unfold maxLen at hc4
      rw [askWaits_len] at hl4
      have HOK := Lib.hid (show CustOk ⟨ci, 5, 5, askWaits q 4⟩ from ask_ok HCC.out 4 (by omega))
      obtain ⟨y2, hy2⟩ : ∃ y2, opOf ⟨q, k, 0, 0⟩ = y2 := ⟨_, rfl⟩
      have hcm : CmdOk ⟨2, ci, 5, 1 + k, 0, y2⟩ := hy2 ▸ ask_cmd HCC.out k hk0 hk1
      obtain ⟨rs, hrs⟩ : ∃ rs, cmdEncode ⟨2, ci, 5, 1 + k, 0, y2⟩ = (rs, 0) := ⟨_, Prod.ext rfl (encode_ok hcm)⟩
      have HRQ := Lib.hid (show custRequest ⟨ci, 5, 5, askWaits q 4⟩ k = (rs, 0) by rw [← hrs, ← hy2]; exact ask_request HCC.out k hk0 hk1)
      have hrl : rs.length ≤ 69 := by have := @encode_len ⟨2, ci, 5, 1 + k, 0, y2⟩; rwa [hrs] at this
      have HDR := Lib.hid (show cmdDecode rs = (⟨2, ci, 5, 1 + k, 0, y2⟩, 0) by have := decode_back hcm; rwa [hrs] at this)
      have hhe : cmdEncode ⟨1, ci, 0, 0, 0, noOp⟩ = (hs, 0) := (hello_eq HCC.out).symm.trans HHS.out
      have hhl : hs.length ≤ 69 := by have := @encode_len ⟨1, ci, 0, 0, 0, noOp⟩; rwa [hhe] at this
      have HDH := Lib.hid (show cmdDecode hs = (⟨1, ci, 0, 0, 0, noOp⟩, 0) by have := decode_back (hello_cmd HCC.out); rwa [hhe] at this)
      obtain ⟨d, hd1, hd2, hd3, hd4⟩ := ask_hear2 (a := q) HCC.out
      have HD1 := Lib.hid hd1; have HD3 := Lib.hid hd3; have HD4 := Lib.hid hd4; have HD2 := Lib.hid hd2
      have HGN := Lib.hid (ask_gone2 (a := q) HCC.out)
      have e1k : IntKind.i64.wrap (1 + k) = 1 + k := IntWalk.i64_in _ (by omega)
      clear hy2 hcm hrs hhe hd1 hd2 hd3 hd4
      go_upto_region 14 with (fail)
      refine wp_region_plan 9 (fun wx => Below wr.heap.size wr wx) (fun wx wy => Below wx.heap.size wx wy) [eqV (.agg #[.int .i64 ci, .int .i64 5, .int .i64 5, .slice a 4 c]), eqV (.int .i64 m), eqV (.int .i64 k), eqV (.tuple #[.string ⟨rs.toArray⟩, .int .i64 0]), eqV (.tuple #[.string ⟨rs.toArray⟩, .int .i64 0]), eqV (.string ⟨rs.toArray⟩), eqV (.int .i64 0), eqV (.string ⟨rs.toArray⟩), eqV (.int .i64 0)] (by kernel_rfl) (by kernel_rfl) rfl ?hJ ?hJS ?hst ?hobl ?hend
      case hJ => exact Below.drew (Below.refl _ _)
      case hJS =>
        exact fun wx wy h1 h2 => below_step h1 h2
      case hst => exact planStab_at _ ⟨eqV_stab _, eqV_stab _, eqV_stab _, eqV_stab _, eqV_stab _, eqV_stab _, eqV_stab _, eqV_stab _, eqV_stab _, trivial⟩
      case hobl =>
        simp only [planObls, List.take_succ_cons, List.take_zero, planPut, Act.put, List.setIfInBounds_toArray, List.set_cons_zero, List.set_cons_succ, Nat.reduceAdd, Nat.zero_add]
        refine ⟨?_, ?_, ?_, ?_, ?_, ?_, ?_, ?_, ?_, trivial⟩
        · intro vs wx hJ hn K hK
          simp [planNeeds, VAt, eqV, Region.binds] at hn
          simp only [VAt, eqV, List.getD_cons_zero, List.getD_cons_succ, Act.put, List.setIfInBounds_toArray, List.set_cons_zero, List.set_cons_succ, Nat.reduceAdd, Nat.zero_add] at hK
          have hx := HX.out.below hJ
          have x0 := hx.cell 0 _ rfl; have x1 := hx.cell 1 _ rfl; have x2 := hx.cell 2 _ rfl; have x3 := hx.cell 3 _ rfl
          go_wp2
          exact hK _ _ (Below.refl _ _) rfl
        · intro vs wx hJ hn K hK
          simp [planNeeds, VAt, eqV, Region.binds] at hn
          simp only [VAt, eqV, List.getD_cons_zero, List.getD_cons_succ, Act.put, List.setIfInBounds_toArray, List.set_cons_zero, List.set_cons_succ, Nat.reduceAdd, Nat.zero_add] at hK
          go_wp2
          exact hK _ _ (Below.refl _ _) rfl
        · intro vs wx hJ hn K hK
          simp [planNeeds, VAt, eqV, Region.binds] at hn
          simp only [VAt, eqV, List.getD_cons_zero, List.getD_cons_succ, Act.put, List.setIfInBounds_toArray, List.set_cons_zero, List.set_cons_succ, Nat.reduceAdd, Nat.zero_add] at hK
          simp only [hn] at hK ⊢
          go_wp2_with fail
          refine (picked_calls m 4 (by omega) (by omega) hm1 hm2 _).mono ?_; rw [HKK.out]; rintro e w5 ⟨rfl, rfl⟩
          go_wp2
          exact hK _ _ (Below.refl _ _) rfl
        · intro vs wx hJ hn K hK
          simp [planNeeds, VAt, eqV, Region.binds] at hn
          simp only [VAt, eqV, List.getD_cons_zero, List.getD_cons_succ, Act.put, List.setIfInBounds_toArray, List.set_cons_zero, List.set_cons_succ, Nat.reduceAdd, Nat.zero_add] at hK
          simp only [hn] at hK ⊢
          have hsx := HS.out.below rWait_ok (by decide) hJ
          go_wp2_with fail
          refine (custRequest_calls ⟨ci, 5, 5, askWaits q 4⟩ k (.slice a 4 c) _ _ hsx HOK.out (by omega)).mono ?_; rw [HRQ.out]; rintro e w5 ⟨rfl, hb5⟩
          go_wp2
          exact hK _ _ hb5 rfl
        · intro vs wx hJ hn K hK
          simp [planNeeds, VAt, eqV, Region.binds] at hn
          simp only [VAt, eqV, List.getD_cons_zero, List.getD_cons_succ, Act.put, List.setIfInBounds_toArray, List.set_cons_zero, List.set_cons_succ, Nat.reduceAdd, Nat.zero_add] at hK
          simp only [hn] at hK ⊢
          go_wp2
          exact hK _ _ (Below.refl _ _) rfl
        · intro vs wx hJ hn K hK
          simp [planNeeds, VAt, eqV, Region.binds] at hn
          simp only [VAt, eqV, List.getD_cons_zero, List.getD_cons_succ, Act.put, List.setIfInBounds_toArray, List.set_cons_zero, List.set_cons_succ, Nat.reduceAdd, Nat.zero_add] at hK
          simp only [hn] at hK ⊢
          go_wp2
          exact hK _ _ (Below.refl _ _) rfl
        · intro vs wx hJ hn K hK
          simp [planNeeds, VAt, eqV, Region.binds] at hn
          simp only [VAt, eqV, List.getD_cons_zero, List.getD_cons_succ, Act.put, List.setIfInBounds_toArray, List.set_cons_zero, List.set_cons_succ, Nat.reduceAdd, Nat.zero_add] at hK
          simp only [hn] at hK ⊢
          go_wp2
          exact hK _ _ (Below.refl _ _) rfl
        · intro vs wx hJ hn K hK
          simp [planNeeds, VAt, eqV, Region.binds] at hn
          simp only [VAt, eqV, List.getD_cons_zero, List.getD_cons_succ, Act.put, List.setIfInBounds_toArray, List.set_cons_zero, List.set_cons_succ, Nat.reduceAdd, Nat.zero_add] at hK
          simp only [hn] at hK ⊢
          go_wp2
          exact hK _ _ (Below.refl _ _) rfl
        · intro vs wx hJ hn K hK
          simp [planNeeds, VAt, eqV, Region.binds] at hn
          simp only [VAt, eqV, List.getD_cons_zero, List.getD_cons_succ, Act.put, List.setIfInBounds_toArray, List.set_cons_zero, List.set_cons_succ, Nat.reduceAdd, Nat.zero_add] at hK
          simp only [hn] at hK ⊢
          go_wp2
          exact hK _ _ (Below.refl _ _) rfl
      case hend =>
        intro vs wx hJ hv
        simp [planHave, eqV] at hv
        obtain ⟨e0, e1, e2, e3, e4, e5, e6, e7, e8⟩ := hv
        simp only [List.take_succ_cons, List.take_zero, List.drop_succ_cons, List.drop_zero, planPut, Act.put, List.setIfInBounds_toArray, List.set_cons_zero, List.set_cons_succ, Nat.reduceAdd, Nat.zero_add]
        rw [e0, e1, e2, e3, e4, e5, e6, e7, e8]
        clear e0 e1 e2 e3 e4 e5 e6 e7 e8
        replace HX := Lib.hid (HX.out.below hJ)
        replace HS := Lib.hid (HS.out.below rWait_ok (by decide) hJ)
        replace HB := Lib.hid (below_step HB.out hJ)
        clear hJ
        go_wp2_with fail
        refine (decode_calls rs _ (by omega)).mono ?_; rw [HDR.out, valCommand]; rintro e w20 ⟨rfl, hb20⟩
        replace HX := Lib.hid (HX.out.below hb20)
        replace HS := Lib.hid (HS.out.below rWait_ok (by decide) hb20)
        replace HB := Lib.hid (below_step HB.out hb20)
        clear hb20
        go_wp2_with fail
        have X19 := Lib.hid (BoxAt.new (w := w20) (cs := [.int .i64 2, .int .i64 ci, .int .i64 5, .int .i64 (1 + k), .int .i64 0, .int .i64 y2.kind, .string ⟨y2.a.toArray⟩, .string ⟨y2.b.toArray⟩, .int .i64 y2.n]) (E := 28))
        have hba := below_alloc w20 (.cells #[.int .i64 2, .int .i64 ci, .int .i64 5, .int .i64 (1 + k), .int .i64 0, .int .i64 y2.kind, .string ⟨y2.a.toArray⟩, .string ⟨y2.b.toArray⟩, .int .i64 y2.n] 28)
        replace HX := Lib.hid (HX.out.below hba)
        replace HS := Lib.hid (HS.out.below rWait_ok (by decide) hba)
        replace HB := Lib.hid (below_step HB.out hba)
        clear hba
        generalize w20.alloc (.cells #[.int .i64 2, .int .i64 ci, .int .i64 5, .int .i64 (1 + k), .int .i64 0, .int .i64 y2.kind, .string ⟨y2.a.toArray⟩, .string ⟨y2.b.toArray⟩, .int .i64 y2.n] 28) = w21 at *
        generalize w20.heap.size = B19 at *
        refine (decode_calls hs _ (by omega)).mono ?_; rw [HDH.out, valCommand]; rintro e w22 ⟨rfl, hb22⟩
        replace HX := Lib.hid (HX.out.below hb22)
        replace HS := Lib.hid (HS.out.below rWait_ok (by decide) hb22)
        replace HB := Lib.hid (below_step HB.out hb22)
        replace X19 := Lib.hid (X19.out.below hb22)
        clear hb22
        have x0 := HX.out.cell 0 _ rfl; have x1 := HX.out.cell 1 _ rfl; have x2 := HX.out.cell 2 _ rfl; have x3 := HX.out.cell 3 _ rfl; have hxl := HX.out.lt
        simp only [noOp]
        go_wp2_with fail
        have X21 := Lib.hid (BoxAt.new (w := w22) (cs := [.int .i64 1, .int .i64 ci, .int .i64 0, .int .i64 0, .int .i64 0, .int .i64 0, .string ⟨[].toArray⟩, .string ⟨[].toArray⟩, .int .i64 0]) (E := 28))
        have hba := below_alloc w22 (.cells #[.int .i64 1, .int .i64 ci, .int .i64 0, .int .i64 0, .int .i64 0, .int .i64 0, .string ⟨[].toArray⟩, .string ⟨[].toArray⟩, .int .i64 0] 28)
        replace HX := Lib.hid (HX.out.below hba)
        replace HS := Lib.hid (HS.out.below rWait_ok (by decide) hba)
        replace HB := Lib.hid (below_step HB.out hba)
        replace X19 := Lib.hid (X19.out.below hba)
        clear hba
        generalize w22.alloc (.cells #[.int .i64 1, .int .i64 ci, .int .i64 0, .int .i64 0, .int .i64 0, .int .i64 0, .string ⟨[].toArray⟩, .string ⟨[].toArray⟩, .int .i64 0] 28) = w23 at *
        generalize w22.heap.size = B21 at *
        refine (custHear_calls ⟨ci, 5, 5, askWaits q 4⟩ ⟨ci, 1, noReply⟩ (.slice a 4 c) _ _ HS.out HOK.out).mono ?_; rw [HD1.out]; rintro e w24 ⟨v24, rfl, hs24, hb24⟩
        obtain ⟨a5, c5, hv5, -, hc5, -, -⟩ := _root_.id hs24
        replace hv5 : v24 = .slice a5 d.waits.length c5 := hv5
        rw [HD2.out] at hv5
        subst hv5
        clear x0 x1 x2 x3 hxl
        replace HX := Lib.hid (HX.out.below hb24)
        replace HS := Lib.hid (HS.out.below rWait_ok (by decide) hb24)
        replace HB := Lib.hid (below_step HB.out hb24)
        replace X19 := Lib.hid (X19.out.below hb24)
        replace X21 := Lib.hid (X21.out.below hb24)
        clear hb24
        have HSD := Lib.hid (show SlR 5 rWait w24 (.slice a5 3 c5) d.waits _ from hs24)
        clear hs24
        have x0 := HX.out.cell 0 _ rfl; have x1 := HX.out.cell 1 _ rfl; have x2 := HX.out.cell 2 _ rfl; have x3 := HX.out.cell 3 _ rfl; have hxl := HX.out.lt
        simp only [valCust]
        go_wp2_with fail
        have X23 := Lib.hid (BoxAt.new (w := w24) (cs := [.int .i64 d.id, .int .i64 d.session, .int .i64 d.next, .slice a5 3 c5]) (E := 63))
        have hba := below_alloc w24 (.cells #[.int .i64 d.id, .int .i64 d.session, .int .i64 d.next, .slice a5 3 c5] 63)
        replace HX := Lib.hid (HX.out.below hba)
        replace HS := Lib.hid (HS.out.below rWait_ok (by decide) hba)
        replace HB := Lib.hid (below_step HB.out hba)
        replace X19 := Lib.hid (X19.out.below hba)
        replace X21 := Lib.hid (X21.out.below hba)
        replace HSD := Lib.hid (HSD.out.below rWait_ok (by decide) hba)
        clear hba
        generalize w24.alloc (.cells #[.int .i64 d.id, .int .i64 d.session, .int .i64 d.next, .slice a5 3 c5] 63) = w25 at *
        generalize w24.heap.size = B23 at *
        refine (custHear_calls d ⟨ci, 1, noReply⟩ (.slice a5 3 c5) _ _ HSD.out HD4.out).mono ?_; rw [HD3.out]; rintro e w26 ⟨v26, rfl, hs26, hb26⟩
        obtain ⟨a66, c66, hv6, -, -, -, -⟩ := hs26
        replace hv6 : v26 = .slice a66 0 c66 := hv6
        subst hv6
        clear x0 x1 x2 x3 hxl
        replace HX := Lib.hid (HX.out.below hb26)
        replace HS := Lib.hid (HS.out.below rWait_ok (by decide) hb26)
        replace HB := Lib.hid (below_step HB.out hb26)
        replace X19 := Lib.hid (X19.out.below hb26)
        replace X21 := Lib.hid (X21.out.below hb26)
        replace HSD := Lib.hid (HSD.out.below rWait_ok (by decide) hb26)
        replace X23 := Lib.hid (X23.out.below hb26)
        clear hb26
        have x0 := HX.out.cell 0 _ rfl; have x1 := HX.out.cell 1 _ rfl; have x2 := HX.out.cell 2 _ rfl; have x3 := HX.out.cell 3 _ rfl; have hxl := HX.out.lt
        simp only [valCust]
        go_wp2_with fail
        have X25 := Lib.hid (BoxAt.new (w := w26) (cs := [.int .i64 noCustomer.id, .int .i64 noCustomer.session, .int .i64 noCustomer.next, .slice a66 0 c66]) (E := 63))
        have hba := below_alloc w26 (.cells #[.int .i64 noCustomer.id, .int .i64 noCustomer.session, .int .i64 noCustomer.next, .slice a66 0 c66] 63)
        replace HX := Lib.hid (HX.out.below hba)
        replace HS := Lib.hid (HS.out.below rWait_ok (by decide) hba)
        replace HB := Lib.hid (below_step HB.out hba)
        replace X19 := Lib.hid (X19.out.below hba)
        replace X21 := Lib.hid (X21.out.below hba)
        replace HSD := Lib.hid (HSD.out.below rWait_ok (by decide) hba)
        replace X23 := Lib.hid (X23.out.below hba)
        clear hba
        generalize w26.alloc (.cells #[.int .i64 noCustomer.id, .int .i64 noCustomer.session, .int .i64 noCustomer.next, .slice a66 0 c66] 63) = w27 at *
        generalize w26.heap.size = B25 at *
        refine (custHear_calls ⟨ci, 5, 5, askWaits q 4⟩ ⟨ci, 2, ⟨11, 0, []⟩⟩ (.slice a 4 c) _ _ HS.out HOK.out).mono ?_; rw [HGN.out]; rintro e w28 ⟨v28, rfl, hs28, hb28⟩
        obtain ⟨a8, c8, hv8, -, hc8, hn8, -⟩ := hs28
        replace hv8 : v28 = .slice a8 0 c8 := hv8
        subst hv8
        clear x0 x1 x2 x3 hxl
        replace HX := Lib.hid (HX.out.below hb28)
        replace HS := Lib.hid (HS.out.below rWait_ok (by decide) hb28)
        replace HB := Lib.hid (below_step HB.out hb28)
        replace X19 := Lib.hid (X19.out.below hb28)
        replace X21 := Lib.hid (X21.out.below hb28)
        replace HSD := Lib.hid (HSD.out.below rWait_ok (by decide) hb28)
        replace X23 := Lib.hid (X23.out.below hb28)
        replace X25 := Lib.hid (X25.out.below hb28)
        clear hb28
        simp only [valCust]
        go_upto_region 20 with (fail)
        have X27 := Lib.hid (BoxAt.new (w := w28) (cs := [.int .i64 ci, .int .i64 0, .int .i64 5, .slice a8 0 c8]) (E := 63))
        have hba := below_alloc w28 (.cells #[.int .i64 ci, .int .i64 0, .int .i64 5, .slice a8 0 c8] 63)
        replace HX := Lib.hid (HX.out.below hba)
        replace HS := Lib.hid (HS.out.below rWait_ok (by decide) hba)
        replace HB := Lib.hid (below_step HB.out hba)
        replace X19 := Lib.hid (X19.out.below hba)
        replace X21 := Lib.hid (X21.out.below hba)
        replace HSD := Lib.hid (HSD.out.below rWait_ok (by decide) hba)
        replace X23 := Lib.hid (X23.out.below hba)
        replace X25 := Lib.hid (X25.out.below hba)
        clear hba
        generalize w28.alloc (.cells #[.int .i64 ci, .int .i64 0, .int .i64 5, .slice a8 0 c8] 63) = w29 at *
        generalize w28.heap.size = B27 at *
        have HC8 := Lib.hid (show CustOk ⟨ci, 0, 5, []⟩ from custCheck_ok.1 (ask_gone (a := q) HCC.out).2)
        simp only [List.append_eq, List.cons_append, List.nil_append]
        have hpq : ∀ wx : World, Calls Tryd.prog 11 #[.int .i64 m, .int .i64 4] wx (fun e w'' => e = .returned (.int .i64 k) ∧ w'' = wx) := fun wx => by
          have := picked_calls m 4 (by omega) (by omega) hm1 hm2 wx
          rw [HKK.out] at this
          exact this.mono fun e w'' h => ⟨h.1, h.2.symm⟩
        have d3 := X19.out.cell 3 _ rfl
        refine wp_region_still_tail 44 (by kernel_rfl) (by kernel_rfl) ?_
        simp only [List.take_succ_cons, List.take_zero, List.drop_succ_cons, List.drop_zero]
        repeat still_step
        still_call (hpq _)
        repeat still_step
        refine wpStill_nil ?_
        change wpList _ _ _ _ _ w29.drew
        have hJ : Below w29.heap.size w29 w29.drew := Below.drew (Below.refl _ _)
        replace HX := Lib.hid (HX.out.below hJ)
        replace HS := Lib.hid (HS.out.below rWait_ok (by decide) hJ)
        replace HB := Lib.hid (below_step HB.out hJ)
        replace X19 := Lib.hid (X19.out.below hJ)
        replace X21 := Lib.hid (X21.out.below hJ)
        replace HSD := Lib.hid (HSD.out.below rWait_ok (by decide) hJ)
        replace X23 := Lib.hid (X23.out.below hJ)
        replace X25 := Lib.hid (X25.out.below hJ)
        replace X27 := Lib.hid (X27.out.below hJ)
        clear hJ
        clear d3 hpq
        generalize w29.drew = w30 at *
        have d2 := X19.out.cell 2 _ rfl; have d4 := X19.out.cell 4 _ rfl; have g0 := X21.out.cell 0 _ rfl; have i3 := X23.out.cell 3 _ rfl; have j0 := X27.out.cell 0 _ rfl; have j1 := X27.out.cell 1 _ rfl; have j2 := X27.out.cell 2 _ rfl; have j3 := X27.out.cell 3 _ rfl
        go_wp2_with fail
        refine (custCheck_calls ⟨ci, 0, 5, []⟩ (.slice a8 0 c8) (fun _ => True) _ (slr_empty _ _ hc8 hn8) HC8.out).mono ?_; rintro e w31 ⟨rfl, hb31⟩
        go_wp2
        go_ret
        exact ⟨rfl, below_step HB.out hb31⟩
    obtain ⟨mm, hmm⟩ : ∃ mm, min n 4 = mm := ⟨_, rfl⟩
    obtain ⟨rr, er, hst, hs1, hs2⟩ := ask_step (a := q) HCC.out n
    rw [hmm] at hbx hsl hst
    have hm4 : mm ≤ 4 := by omega
    have HMM := Lib.hid hmm
    clear hmm
    obtain ⟨y, hy⟩ : ∃ y, opOf ⟨q, n, 0, 0⟩ = y := ⟨_, rfl⟩
    have HYO := Lib.hid (hy ▸ opOf_ok ⟨q, n, 0, 0⟩)
    rw [hy] at hst
    have HY := Lib.hid hy
    have HST := Lib.hid hst
    have HS1 := Lib.hid hs1
    have HS2 := Lib.hid hs2
    clear hy hst hs1 hs2
    go_upto_region 8 with (fail)
    have hd8 : decide (n < 8) = true := by simpa using hlt
    have hd8i : decide ((n : Int) < 8) = true := by simp; omega
    try simp only [hd8, hd8i]
    clear hd8 hd8i
    have HX := Lib.hid hbx; have HS := Lib.hid hsl; have HB := Lib.hid hbw
    clear hbx hsl hbw
    refine wp_region_planD 13 (fun wx => Below wr.heap.size wr wx) (fun i wx wy => (i = 11 → StoreC 63 wr.heap.size wx wy) ∧ (i ≠ 11 → Below wx.heap.size wx wy)) [eqD (.agg #[.int .i64 ci, .int .i64 5, .int .i64 ((mm : Int) + 1), .slice a mm c]), eqD (.int .i64 m), eqD (.int .i64 q), eqD (.int .i64 n), eqD (.agg #[.int .i64 q, .int .i64 n, .int .i64 0, .int .i64 0]), eqD (.agg #[.int .i64 y.kind, .string ⟨y.a.toArray⟩, .string ⟨y.b.toArray⟩, .int .i64 y.n]), (fun _ v wx => ∃ v', v = .tuple #[.agg #[.int .i64 rr.id, .int .i64 rr.session, .int .i64 rr.next, v'], .int .i64 er] ∧ OwR 97 5 rWait wx v' rr.waits (fun _ => False) ∧ ∀ g, (v' : Value).ownBlock = some g → wr.heap.size ≤ g), (fun _ v wx => ∃ v', v = .tuple #[.agg #[.int .i64 rr.id, .int .i64 rr.session, .int .i64 rr.next, v'], .int .i64 er] ∧ OwR 97 5 rWait wx v' rr.waits (fun _ => False) ∧ ∀ g, (v' : Value).ownBlock = some g → wr.heap.size ≤ g), (fun _ v wx => ∃ v', v = .agg #[.int .i64 rr.id, .int .i64 rr.session, .int .i64 rr.next, v'] ∧ OwR 97 5 rWait wx v' rr.waits (fun _ => False) ∧ ∀ g, (v' : Value).ownBlock = some g → wr.heap.size ≤ g), eqD (.int .i64 er), (fun _ v wx => Box4 63 wr.heap.size v wx), (fun vs _ wx => ∃ (b : Nat) (v' : Value), vs 10 = .pointer (some ⟨b, 0, none⟩) ∧ BoxAt wx b [.int .i64 rr.id, .int .i64 rr.session, .int .i64 rr.next, v'] ∧ OwR 97 5 rWait wx v' rr.waits (fun _ => False) ∧ ∀ g, (v' : Value).ownBlock = some g → wr.heap.size ≤ g), eqD (.int .i64 er)] (by kernel_rfl) (by kernel_rfl) rfl ?hJ ?hJS ?hst ?hself ?hobl ?hend
    case hJ => exact Below.drew (Below.refl _ _)
    case hJS =>
      intro i wx wy hi h1 h2
      by_cases h : i = 11
      · exact (h2.1 h).below h1
      · exact below_step h1 (h2.2 h)
    case hst =>
      intro i j vs x wa wb hi hj hne hwf hJ hS hV
      match j, hj with
      | 0, _ => exact hV
      | 1, _ => exact hV
      | 2, _ => exact hV
      | 3, _ => exact hV
      | 4, _ => exact hV
      | 5, _ => exact hV
      | 6, _ =>
        obtain ⟨v', e1, ho, hgp⟩ := hV
        by_cases h : i = 11
        · exact ⟨v', e1, (hS.1 h).own rWait_ok (by decide) ho, hgp⟩
        · exact ⟨v', e1, ho.below rWait_ok (hS.2 h), hgp⟩
      | 7, _ =>
        obtain ⟨v', e1, ho, hgp⟩ := hV
        by_cases h : i = 11
        · exact ⟨v', e1, (hS.1 h).own rWait_ok (by decide) ho, hgp⟩
        · exact ⟨v', e1, ho.below rWait_ok (hS.2 h), hgp⟩
      | 8, _ =>
        obtain ⟨v', e1, ho, hgp⟩ := hV
        by_cases h : i = 11
        · exact ⟨v', e1, (hS.1 h).own rWait_ok (by decide) ho, hgp⟩
        · exact ⟨v', e1, ho.below rWait_ok (hS.2 h), hgp⟩
      | 9, _ => exact hV
      | 10, _ =>
        by_cases h : i = 11
        · exact Box4.store hV (hS.1 h)
        · exact Box4.below hV (hS.2 h)
      | 11, _ =>
        obtain ⟨b, v', e1, hb, ho, hgp⟩ := hV
        have h11 : i ≠ 11 := fun h => hne h
        have h10 : ¬ 10 = i := by
          intro h; subst h
          exact absurd (Eq.trans (show false = Region.waitsFor Region.Mode.any _ 11 10 from hwf.symm) (show _ = true by kernel_rfl)) (by decide)
        exact ⟨b, v', by simp only [upd1, if_neg h10]; exact e1, hb.below (hS.2 h11), ho.below rWait_ok (hS.2 h11), hgp⟩
      | 12, _ => exact hV
      | n + 13, hj => exact absurd hj (by omega)
    case hself =>
      intro i vs v w hi hV
      match i, hi with
      | 0, _ => exact hV
      | 1, _ => exact hV
      | 2, _ => exact hV
      | 3, _ => exact hV
      | 4, _ => exact hV
      | 5, _ => exact hV
      | 6, _ => exact hV
      | 7, _ => exact hV
      | 8, _ => exact hV
      | 9, _ => exact hV
      | 10, _ => exact hV
      | 11, _ =>
        obtain ⟨b, v', e1, hb, ho, hgp⟩ := hV
        exact ⟨b, v', by simp only [upd1]; exact e1, hb, ho, hgp⟩
      | 12, _ => exact hV
      | n + 13, hi => exact absurd hi (by omega)
    case hobl =>
      simp only [planOblsD, List.take_succ_cons, List.take_zero, planPut, Act.put, List.setIfInBounds_toArray, List.set_cons_zero, List.set_cons_succ, Nat.reduceAdd, Nat.zero_add]
      refine ⟨?_, ?_, ?_, ?_, ?_, ?_, ?_, ?_, ?_, ?_, ?_, ?_, ?_, trivial⟩
      · intro vs wx hJ hn K hK
        simp [planNeedsD, VDAt, eqD, Region.binds] at hn
        simp only [VDAt, eqD, List.getD_cons_zero, List.getD_cons_succ, Act.put, List.setIfInBounds_toArray, List.set_cons_zero, List.set_cons_succ, Nat.reduceAdd, Nat.zero_add] at hK
        have hx := HX.out.below hJ
        have x0 := hx.cell 0 _ rfl; have x1 := hx.cell 1 _ rfl; have x2 := hx.cell 2 _ rfl; have x3 := hx.cell 3 _ rfl
        go_wp2
        exact hK _ _ ⟨fun h => absurd h (by decide), fun _ => Below.refl _ _⟩ rfl
      · intro vs wx hJ hn K hK
        simp [planNeedsD, VDAt, eqD, Region.binds] at hn
        simp only [VDAt, eqD, List.getD_cons_zero, List.getD_cons_succ, Act.put, List.setIfInBounds_toArray, List.set_cons_zero, List.set_cons_succ, Nat.reduceAdd, Nat.zero_add] at hK
        go_wp2
        exact hK _ _ ⟨fun h => absurd h (by decide), fun _ => Below.refl _ _⟩ rfl
      · intro vs wx hJ hn K hK
        simp [planNeedsD, VDAt, eqD, Region.binds] at hn
        simp only [VDAt, eqD, List.getD_cons_zero, List.getD_cons_succ, Act.put, List.setIfInBounds_toArray, List.set_cons_zero, List.set_cons_succ, Nat.reduceAdd, Nat.zero_add] at hK
        simp only [hn] at hK ⊢
        go_wp2_with fail
        refine (picked_calls m 9 (by omega) (by omega) hm1 hm2 _).mono ?_; rw [HQ.out]; rintro e w5 ⟨rfl, rfl⟩
        go_wp2
        exact hK _ _ ⟨fun h => absurd h (by decide), fun _ => Below.refl _ _⟩ rfl
      · intro vs wx hJ hn K hK
        simp [planNeedsD, VDAt, eqD, Region.binds] at hn
        simp only [VDAt, eqD, List.getD_cons_zero, List.getD_cons_succ, Act.put, List.setIfInBounds_toArray, List.set_cons_zero, List.set_cons_succ, Nat.reduceAdd, Nat.zero_add] at hK
        go_wp2
        exact hK _ _ ⟨fun h => absurd h (by decide), fun _ => Below.refl _ _⟩ rfl
      · intro vs wx hJ hn K hK
        simp [planNeedsD, VDAt, eqD, Region.binds] at hn
        simp only [VDAt, eqD, List.getD_cons_zero, List.getD_cons_succ, Act.put, List.setIfInBounds_toArray, List.set_cons_zero, List.set_cons_succ, Nat.reduceAdd, Nat.zero_add] at hK
        simp only [hn] at hK ⊢
        go_wp2
        exact hK _ _ ⟨fun h => absurd h (by decide), fun _ => Below.refl _ _⟩ rfl
      · intro vs wx hJ hn K hK
        simp [planNeedsD, VDAt, eqD, Region.binds] at hn
        simp only [VDAt, eqD, List.getD_cons_zero, List.getD_cons_succ, Act.put, List.setIfInBounds_toArray, List.set_cons_zero, List.set_cons_succ, Nat.reduceAdd, Nat.zero_add] at hK
        simp only [hn] at hK ⊢
        go_wp2_with fail
        refine (op_calls ⟨q, n, 0, 0⟩ (by refine ⟨⟨?_, ?_⟩, ⟨?_, ?_⟩, ⟨?_, ?_⟩, ⟨?_, ?_⟩⟩ <;> (simp only; omega)) _).mono ?_; rw [HY.out, valOp]; rintro e w5 ⟨rfl, hb5⟩
        go_wp2
        exact hK _ _ ⟨fun h => absurd h (by decide), fun _ => hb5⟩ rfl
      · intro vs wx hJ hn K hK
        simp [planNeedsD, VDAt, eqD, Region.binds] at hn
        simp only [VDAt, eqD, List.getD_cons_zero, List.getD_cons_succ, Act.put, List.setIfInBounds_toArray, List.set_cons_zero, List.set_cons_succ, Nat.reduceAdd, Nat.zero_add] at hK
        simp only [hn] at hK ⊢
        have hsx := HS.out.below rWait_ok (by decide) hJ
        go_wp2_with fail
        refine (custStart_calls ⟨ci, 5, (mm : Int) + 1, askWaits q mm⟩ y (.slice a mm c) _ _ hsx (ask_ok HCC.out mm hm4) HYO.out (by simp only; omega)).mono ?_; rw [HST.out]; rintro e w5 ⟨v5, rfl, ho5, hg5, hb5⟩
        simp only [valCust]
        go_wp2
        exact hK _ _ ⟨fun h => absurd h (by decide), fun _ => hb5⟩ ⟨v5, rfl, ho5, fun g hg => Nat.le_trans hJ.size (hg5 g hg)⟩
      · intro vs wx hJ hn K hK
        simp [planNeedsD, VDAt, eqD, Region.binds] at hn
        simp only [VDAt, eqD, List.getD_cons_zero, List.getD_cons_succ, Act.put, List.setIfInBounds_toArray, List.set_cons_zero, List.set_cons_succ, Nat.reduceAdd, Nat.zero_add] at hK
        obtain ⟨v5, e6, ho5, hgp⟩ := hn
        simp only [e6] at hK ⊢
        go_wp2
        exact hK _ _ ⟨fun h => absurd h (by decide), fun _ => Below.refl _ _⟩ ⟨v5, rfl, ho5, hgp⟩
      · intro vs wx hJ hn K hK
        simp [planNeedsD, VDAt, eqD, Region.binds] at hn
        simp only [VDAt, eqD, List.getD_cons_zero, List.getD_cons_succ, Act.put, List.setIfInBounds_toArray, List.set_cons_zero, List.set_cons_succ, Nat.reduceAdd, Nat.zero_add] at hK
        obtain ⟨v5, e6, ho5, hgp⟩ := hn
        simp only [e6] at hK ⊢
        go_wp2
        exact hK _ _ ⟨fun h => absurd h (by decide), fun _ => Below.refl _ _⟩ ⟨v5, rfl, ho5, hgp⟩
      · intro vs wx hJ hn K hK
        simp [planNeedsD, VDAt, eqD, Region.binds] at hn
        simp only [VDAt, eqD, List.getD_cons_zero, List.getD_cons_succ, Act.put, List.setIfInBounds_toArray, List.set_cons_zero, List.set_cons_succ, Nat.reduceAdd, Nat.zero_add] at hK
        obtain ⟨v5, e6, ho5, hgp⟩ := hn
        simp only [e6] at hK ⊢
        go_wp2
        exact hK _ _ ⟨fun h => absurd h (by decide), fun _ => Below.refl _ _⟩ rfl
      · intro vs wx hJ hn K hK
        simp [planNeedsD, VDAt, eqD, Region.binds] at hn
        simp only [VDAt, eqD, List.getD_cons_zero, List.getD_cons_succ, Act.put, List.setIfInBounds_toArray, List.set_cons_zero, List.set_cons_succ, Nat.reduceAdd, Nat.zero_add] at hK
        go_wp2
        exact hK _ _ ⟨fun h => absurd h (by decide), fun _ => below_alloc wx _⟩ (Box4.new _ _ hJ.size _ _ _ _)
      · intro vs wx hJ hn K hK
        simp only [VDAt, eqD, List.getD_cons_zero, List.getD_cons_succ, Act.put, List.setIfInBounds_toArray, List.set_cons_zero, List.set_cons_succ, Nat.reduceAdd, Nat.zero_add] at hK
        obtain ⟨h10, h8, -⟩ := hn
        obtain ⟨b, u0, u1, u2, u3, cur, e10, hL, hbx, hty⟩ := h10 rfl (by decide)
        obtain ⟨v5, e8, ho5, hgp⟩ := h8 rfl (by decide)
        have e10 : vs 10 = .pointer (some ⟨b, 0, none⟩) := e10
        have e8 : vs 8 = .agg #[.int .i64 rr.id, .int .i64 rr.session, .int .i64 rr.next, v5] := e8
        obtain ⟨ra, rc, rfl⟩ := ho5.shape
        simp only [e10, e8] at hK ⊢
        have c0 := hbx.cell 0 _ rfl; have c1 := hbx.cell 1 _ rfl; have c2 := hbx.cell 2 _ rfl; have c3 := hbx.cell 3 _ rfl; have t0 := hbx.thaw 0; have t1 := hbx.thaw 1; have t2 := hbx.thaw 2; have t3 := hbx.thaw 3
        have hsc : StoreC 63 wr.heap.size wx ((((wx.setCell ⟨b, 0, none⟩ (.int .i64 rr.id)).setCell ⟨b, 1, none⟩ (.int .i64 rr.session)).setCell ⟨b, 2, none⟩ (.int .i64 rr.next)).setCell ⟨b, 3, none⟩ (.slice ra rr.waits.length rc)) := ⟨b, _, _, _, _, cur, hL, hty, rfl⟩
        have hp := ((((hbx).set 0 (by simp) (.int .i64 rr.id)).set 1 (by simp) (.int .i64 rr.session)).set 2 (by simp) (.int .i64 rr.next)).set 3 (by simp) (.slice ra rr.waits.length rc)
        have ho6 := hsc.own rWait_ok (by decide) ho5
        go_wp2
        exact hK undef _ ⟨fun _ => hsc, fun h => absurd rfl h⟩ ⟨b, _, rfl, hp, ho6, hgp⟩
      · intro vs wx hJ hn K hK
        simp only [VDAt, eqD, List.getD_cons_zero, List.getD_cons_succ, Act.put, List.setIfInBounds_toArray, List.set_cons_zero, List.set_cons_succ, Nat.reduceAdd, Nat.zero_add] at hK
        obtain ⟨h9, -⟩ := hn
        have e9 : vs 9 = .int .i64 er := h9 rfl (by decide)
        simp only [e9] at hK ⊢
        go_wp2
        exact hK _ _ ⟨fun h => absurd h (by decide), fun _ => Below.refl _ _⟩ rfl
    case hend =>
      intro vs wx hJ hv
      obtain ⟨e0, e1, e2, e3, e4, e5, ⟨v6, e6, -⟩, ⟨v7, e7, -⟩, ⟨v8, e8, -⟩, e9, -, ⟨b, v11, e10, hbx, hox, hgx⟩, e12, -⟩ := hv
      simp only [eqD] at e0 e1 e2 e3 e4 e5 e9 e12
      simp only [List.take_succ_cons, List.take_zero, List.drop_succ_cons, List.drop_zero, planPut, Act.put, List.setIfInBounds_toArray, List.set_cons_zero, List.set_cons_succ, Nat.reduceAdd, Nat.zero_add]
      rw [e0, e1, e2, e3, e4, e5, e6, e7, e8, e9, e10, e12]
      clear e0 e1 e2 e3 e4 e5 e6 e7 e8 e9 e10 e12
      have HX9 := Lib.hid (HX.out.below hJ)
      have HB9 := Lib.hid (below_step HB.out hJ)
      have HS9 := Lib.hid (HS.out.below rWait_ok (by decide) hJ)
      obtain ⟨ra, rc, rfl⟩ := hox.shape
      have HO := Lib.hid hox
      have HBX := Lib.hid hbx
      have HGX := Lib.hid hgx
      have hb7l : B7 < wr.heap.size := HX.out.lt
      clear hox hbx hgx HX HB HS hJ
      have y0 := HX9.out.cell 0 _ rfl; have y1 := HX9.out.cell 1 _ rfl; have y2 := HX9.out.cell 2 _ rfl; have y3 := HX9.out.cell 3 _ rfl; have t0 := HX9.out.thaw 0; have t1 := HX9.out.thaw 1; have t2 := HX9.out.thaw 2; have t3 := HX9.out.thaw 3
      by_cases h4 : n < 4
      case pos =>
        obtain ⟨rfl, hrr⟩ := HS1.out h4
        obtain ⟨M, hM⟩ : ∃ M, min (n + 1) 4 = M := ⟨_, rfl⟩
        rw [hM] at hrr
        subst hrr
        have hlM : (askWaits q M).length = M := askWaits_len q M
        simp only [hlM] at HO HBX HGX ⊢
        have z0 := HBX.out.cell 0 _ rfl; have z1 := HBX.out.cell 1 _ rfl; have z2 := HBX.out.cell 2 _ rfl; have z3 := HBX.out.cell 3 _ rfl
        have HMN := Lib.hid hM
        clear hM hlM
        have hd4 : decide (n < 4) = true := by simpa using h4
        go_wp2
        go_roundw
        case rel => exact ⟨n + 1, ra, rc, by omega, by go_num, Lib.hid (by rw [HMN.out]; exact (((HX9.out.set 0 (by simp) (.int .i64 ci)).set 1 (by simp) (.int .i64 5)).set 2 (by simp) (.int .i64 ((M : Int) + 1))).set 3 (by simp) (.slice ra M rc)), Lib.hid (by rw [HMN.out]; exact (HO.out.move (S' := fun _ => False) rWait_ok (fun g hg => (heap_far (by have := HGX.out g hg; omega)).trans ((heap_far (by have := HGX.out g hg; omega)).trans ((heap_far (by have := HGX.out g hg; omega)).trans (heap_far (by have := HGX.out g hg; omega))))) (fun b hb => hb.elim)).waitRead (fun _ _ => trivial)), Lib.hid (below_set (b := B7) (below_set (b := B7) (below_set (b := B7) (below_set (b := B7) HB9.out hB7 0 _) hB7 1 _) hB7 2 _) hB7 3 _)⟩
        case measure => simp [intOf]; omega
      case neg =>
        obtain rfl := HS2.out h4
        have hd4 : decide (n < 4) = false := by simpa using h4
        have HE4 := Lib.hid (show min (n + 1) 4 = mm by have := HMM.out; omega)
        go_wp2
        go_roundw
        case rel => exact ⟨n + 1, a, c, by omega, by go_num, Lib.hid (by rw [HE4.out]; exact HX9.out), Lib.hid (by rw [HE4.out]; exact HS9.out), HB9⟩
        case measure => simp [intOf]; omega
end Go.Proofs.YtphkkkmjkagkbaaDoor
