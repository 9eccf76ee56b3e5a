/- Chapter 9's example: New, Advance, Add, All. -/
import Derived.Test.YtonfaojmphidpaaGreatDoorHistA
import Derived.Deep.AppendLies
import Derived.Deep.RegionLaw
namespace Go.Proofs.YtonfaojmphidpaaGreatDoor
open Go.RowKit
set_option linter.unusedVariables false
set_option linter.unusedSimpArgs false

set_option maxHeartbeats 400000 in
theorem hist_New (w : World) :
    Calls Tryz.prog 60 #[] w fun e w' => e = .returned (.pointer (some ⟨w.heap.size, 0, none⟩)) ∧ w' = w.alloc (.cells #[.int .u64 0, .slice none 0 0] 151) := by
  go_enter Tryz.func60, Tryz.ntmps60
  go_wp2
  go_ret
  exact ⟨rfl, rfl⟩
set_option maxHeartbeats 400000 in
theorem hist_Advance0 (g : Nat) (w : World) (h : Blk w g 151 #[.int .u64 0, .slice none 0 0]) :
    Calls Tryz.prog 61 #[.pointer (some ⟨g, 0, none⟩)] w fun e w' => e = .returned (.int .u64 1) ∧ w' = w.setCell ⟨g, 0, none⟩ (.int .u64 1) := by
  have c0 := h.cell 0
  have f0 := h.frozen 0
  have hl := h.lt
  simp only [List.getElem?_toArray, List.getElem?_cons_zero] at c0
  go_enter Tryz.func61, Tryz.ntmps61
  go_wp2_with go_in
  go_ret
  exact ⟨rfl, rfl⟩
end Go.Proofs.YtonfaojmphidpaaGreatDoor
