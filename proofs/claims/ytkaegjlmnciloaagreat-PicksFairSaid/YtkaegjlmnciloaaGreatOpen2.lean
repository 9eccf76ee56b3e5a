/- More arguments: slices of bytes, of ints. -/
import Derived.Test.YtkaegjlmnciloaaGreatOpen
namespace Go.Proofs.YtkaegjlmnciloaaGreat
open Go.RowKit Go.ChangeShapes Go.WideShapes
theorem open_i64s {H : Type} {enc : TypeId × Value → H} {w : World} {base : Nat} {sp : Nat → Bool} {held : Bool} {a : Option Addr} {len cap : Nat} {d : DataW H} {p : List MemPlace}
    (h : DataW.Trod enc Tryz.prog w base sp held 22 (.slice a len cap) d p) : ∃ xs, Nums .i64 w a len cap xs := open_nums Tryz.underlying22 Tryz.underlying3 (by kernel_rfl) h
end Go.Proofs.YtkaegjlmnciloaaGreat
