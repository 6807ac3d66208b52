/- Raw things. No program in sight. -/
import Derived.Test.YtphkkkmjkagkbaaDoorData
namespace Go.Tk
open Go Go.RowKit
structure RawD where
  kind : Int
  a : Int
  b : Int
  c : Int
def rRaw : Rel RawD := fun _ cs x _ => cs = [.int .i64 x.kind, .int .i64 x.a, .int .i64 x.b, .int .i64 x.c]
theorem rRaw_ok : RelOk rRaw 4 := ⟨by rintro w cs x S rfl; rfl, by rintro w cs x S rfl u hu; simp at hu; rcases hu with rfl | rfl | rfl | rfl <;> rfl, fun h _ => h⟩
def I64 (n : Int) : Prop := -9223372036854775808 ≤ n ∧ n ≤ 9223372036854775807
def RawOk (x : RawD) : Prop := I64 x.kind ∧ I64 x.a ∧ I64 x.b ∧ I64 x.c
end Go.Tk
