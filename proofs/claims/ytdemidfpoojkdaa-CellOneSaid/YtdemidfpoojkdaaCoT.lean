/- The word's To in company. -/
import Derived.Test.YtdemidfpoojkdaaCoTb
namespace Go.Proofs.Ytdemidfpoojkdaa.Co
open Go.Conc Go.ConcN Go.RowKit Go.Conc.Lib Go.ConcR.Gen Go.ConcN.Gen
set_option linter.unusedVariables false
set_option linter.unusedSimpArgs false
section
variable {main : Bool} {R : World → World → Prop} {D : World → World → Array Event → Prop} {Stop : Goroutine → World → Prop} {I : World → Prop} {b₀ : Frame} {a₀ : Act} {ops₀ : Array Oper} {i₀ : Nat} {rest₀ : List Nat} {k₀ : List Item} {cs : List Frame} {mT : Nat}
theorem to_g (hI : ∀ w w', R w w' → I w → I w') (hD : ∀ w, D w w #[]) (x t : Int) (h0 : 0 ≤ x) (h1 : x < 18446744073709551616) (h2 : 0 ≤ t) (h3 : t < 4)
    (hT : ∀ w, I w → Goes Try.prog main R D Stop mT (G (b₀.at (a₀.put ((ops₀[i₀]?).bind (·.dst)) (.tuple #[.int .u64 (wTo x t), .bool (wMay (x % 4) t)])) (.inRegion ops₀ rest₀ :: k₀)) cs) w) (w : World) (hF : I w) :
    Goes Try.prog main R D Stop (mT + 150) (G ((base 11).at ⟨#[.int .u64 x, .int .i64 t, undef, undef, undef, undef, undef, undef, undef, undef, undef, undef, undef, undef, undef, undef, undef], []⟩ [.code bodyTo]) (b₀.at a₀ (.inRegion ops₀ (i₀ :: rest₀) :: k₀) :: cs)) w := by
  rcases (by omega : (x % 4 = 0 ∨ x % 4 = 1) ∨ x % 4 = 2 ∨ x % 4 = 3) with hs | hs
  · exact to_ga hI hD x t h0 h1 h2 h3 hs hT w hF
  · exact to_gb hI hD x t h0 h1 h2 h3 hs hT w hF
end
end Go.Proofs.Ytdemidfpoojkdaa.Co
