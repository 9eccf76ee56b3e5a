/- More arguments: slices of bytes, of ints. -/
import Derived.Test.YtlfnoailaoiedaaOpen
namespace Go.Proofs.Ytlfnoailaoiedaa
open Go.RowKit Go.ChangeShapes Go.WideShapes
theorem open_u8s {H : Type} {enc : TypeId × Value → H} {w : World} {base : Nat} {sp : Nat → Bool} {held : Bool} {a : Option Addr} {len cap : Nat} {d : DataW H} {p : List MemPlace}
    (h : DataW.Trod enc Try.prog w base sp held 108 (.slice a len cap) d p) : ∃ xs, Nums .u8 w a len cap xs := open_nums Try.underlying108 Try.underlying5 (by kernel_rfl) h
theorem open_i64s {H : Type} {enc : TypeId × Value → H} {w : World} {base : Nat} {sp : Nat → Bool} {held : Bool} {a : Option Addr} {len cap : Nat} {d : DataW H} {p : List MemPlace}
    (h : DataW.Trod enc Try.prog w base sp held 104 (.slice a len cap) d p) : ∃ xs, Nums .i64 w a len cap xs := open_nums Try.underlying104 Try.underlying3 (by kernel_rfl) h
end Go.Proofs.Ytlfnoailaoiedaa
