/- Raw things, as the program's types say. -/
import Derived.Test.YtphkkkmjkagkbaaDoorRows
import Derived.Test.YtphkkkmjkagkbaaDoorRaw
import Derived.KernelRfl
namespace Go.Proofs.YtphkkkmjkagkbaaDoor
open Go.RowKit Go.Tk
set_option maxRecDepth 100000 in
theorem Tryd.rawTypes {H : Type} {enc : TypeId × Value → H} {w : World} {r : Reach} {b0 base : Nat} {spare : Nat → Bool} {held : Bool} {v : Value} {d : DataW H} {p : List MemPlace}
    (hv : Value.okWide Tryd.prog w r b0 22 v) (h : DataW.Trod enc Tryd.prog w base spare held 22 v d p) : ∃ l : List RawD, SlR 4 rRaw w v l (fun _ => True) ∧ ∀ x ∈ l, RawOk x :=
  raws_open Tryd.underlying22 Tryd.underlying40 (by kernel_rfl) (by kernel_rfl) (by kernel_rfl) (by kernel_rfl) Tryd.underlying3 hv h
end Go.Proofs.YtphkkkmjkagkbaaDoor
