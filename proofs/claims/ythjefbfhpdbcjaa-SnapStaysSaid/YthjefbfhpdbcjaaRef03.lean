/- The document's lists of layer 3. -/
import Derived.Test.YthjefbfhpdbcjaaSnap
namespace Go.Proofs.Ythjefbfhpdbcjaa
open Go.RowKit
set_option linter.unusedVariables false
set_option linter.unusedSimpArgs false

theorem withoutL_snoc (xs : List Int) (k : Nat) (n : Int) (h : k < xs.length) : withoutL (xs.take (k + 1)) n = withoutL (xs.take k) n ++ (if xs.getD k 0 = n then [] else [xs.getD k 0]) := by
  rw [take_snoc xs k h]
  simp only [withoutL, List.filter_append]
  congr 1
  show List.filter _ [xs.getD k 0] = _
  generalize xs.getD k 0 = y
  by_cases e : y = n <;> simp [e]
theorem withoutL_length (xs : List Int) (n : Int) : (withoutL xs n).length ≤ xs.length := List.length_filter_le _ _

end Go.Proofs.Ythjefbfhpdbcjaa
