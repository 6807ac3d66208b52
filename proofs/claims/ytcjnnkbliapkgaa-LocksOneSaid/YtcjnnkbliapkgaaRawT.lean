/- Raw things, as the program's types say. -/
import Derived.Test.YtcjnnkbliapkgaaRows
import Derived.Test.YtcjnnkbliapkgaaRaw
import Derived.KernelRfl
namespace Go.Proofs.Ytcjnnkbliapkgaa
open Go.RowKit Go.Tk
set_option maxRecDepth 100000 in
theorem Try.rawTypes {H : Type} {enc : TypeId × Value → H} {w : World} {r : Reach} {b0 base : Nat} {spare : Nat → Bool} {held : Bool} {v : Value} {d : DataW H} {p : List MemPlace}
    (hv : Value.okWide Try.prog w r b0 58 v) (h : DataW.Trod enc Try.prog w base spare held 58 v d p) : ∃ l : List RawD, SlR 4 rRaw w v l (fun _ => True) ∧ ∀ x ∈ l, RawOk x :=
  raws_open Try.underlying58 Try.underlying101 (by kernel_rfl) (by kernel_rfl) (by kernel_rfl) (by kernel_rfl) Try.underlying3 hv h
end Go.Proofs.Ytcjnnkbliapkgaa
