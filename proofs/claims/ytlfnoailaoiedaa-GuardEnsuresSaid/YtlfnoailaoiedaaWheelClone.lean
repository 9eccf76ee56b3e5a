/- The wheel's clone. -/
import Derived.Test.YtlfnoailaoiedaaWheel2
import Derived.Test.YtlfnoailaoiedaaWheelLay
namespace Go.Proofs.Ytlfnoailaoiedaa
open Go.RowKit Go.Maps
set_option linter.unusedVariables false
set_option linter.unusedSimpArgs false

set_option maxHeartbeats 400000 in
theorem wheel_Clone (g b : Nat) (L : List (Int × Int)) (w : World) (h : Wh w g b L) :
    Calls Try.prog 39 #[.pointer (some ⟨g, 0, none⟩)] w fun e w' => ∃ g' b', e = .returned (.pointer (some ⟨g', 0, none⟩)) ∧ Wh w' g' b' L ∧ w.heap.size ≤ g' ∧ w.heap.size ≤ b' ∧ RowKit.Below w.heap.size w w' := by
  obtain ⟨D, hown, hT⟩ := h.map_
  have p0 := h.cell
  have hcon := AnyW.maps_Clone_owns Try.cloneM 22 (plainElem Try.prog 22) b L.length D w hown
  change Calls Try.prog 104 _ _ _ at hcon
  go_enter Try.func39, Try.ntmps39
  go_wp2_with (go_at_call 104; refine hcon.mono ?_; rintro e w1 ⟨rfl, ho1, ho2, hb1⟩)
  go_ret
  exact ⟨_, w.heap.size, rfl, ⟨Blk.new _ _ _, ⟨D, ho1.alloc _, hT⟩, h.wf_⟩, hb1.size, Nat.le_refl _, hb1.alloc hb1.size _⟩
end Go.Proofs.Ytlfnoailaoiedaa
