/- The examples of layers 6 and 7. -/
import Derived.Test.YtonfaojmphidpaaGreatDoorAwake05
import Derived.Test.YtonfaojmphidpaaGreatDoorGuard
namespace Go.Proofs.YtonfaojmphidpaaGreatDoor
open Go.RowKit
set_option linter.unusedVariables false
set_option linter.unusedSimpArgs false

set_option maxHeartbeats 1000000 in
theorem ratio_Share_1_4 (w : World) : Calls Tryz.prog 162 #[.int .u64 1, .int .u64 4] w fun e w' => e = .returned (.float .f64 4598175219545276416) ∧ w = w' := by
  have f1 : ∀ W : World, (binOp .quo 227 (.float .f64 (floatOfInt .f64 1)) (.float .f64 (floatOfInt .f64 4))).run Tryz.prog W = .ok (.float .f64 4598175219545276416) W := fun W => by kernel_rfl
  go_enter Tryz.func162, Tryz.ntmps162
  go_wp2
  go_ret
  exact ⟨rfl, rfl⟩
set_option maxHeartbeats 1000000 in
theorem ratio_Part_10 (w : World) : Calls Tryz.prog 163 #[.int .u64 10, .float .f64 4598175219545276416] w fun e w' => e = .returned (.int .u64 2) ∧ w = w' := by
  have f1 : ∀ W : World, (binOp .mul 227 (.float .f64 (floatOfInt .f64 10)) (.float .f64 4598175219545276416)).run Tryz.prog W = .ok (.float .f64 4612811918334230528) W := fun W => by kernel_rfl
  have f2 : ∀ W : World, (convert 227 28 (.float .f64 4612811918334230528)).run Tryz.prog W = .ok (.int .u64 2) W := fun W => by kernel_rfl
  go_enter Tryz.func163, Tryz.ntmps163
  go_wp2
  go_ret
  exact ⟨rfl, rfl⟩
set_option maxHeartbeats 1000000 in
theorem law06_awake (w : World) :
    Calls Tryz.prog 158 #[] w fun e w' => e = .returned (.bool true) ∧ RowKit.Below w.heap.size w w' := by
  go_enter Tryz.func158, Tryz.ntmps158
  go_wp2_with (first | (go_at_call 161; refine (law05_Awake _).mono ?_; rintro e w1 ⟨rfl, hb⟩) | (go_at_call 162; refine (ratio_Share_1_4 _).mono ?_; rintro e w2 ⟨rfl, rfl⟩) | (go_at_call 163; refine (ratio_Part_10 _).mono ?_; rintro e w2 ⟨rfl, rfl⟩))
  go_ret
  exact ⟨rfl, hb⟩
set_option maxHeartbeats 400000 in
theorem law06_Awake (w : World) :
    Calls Tryz.prog 146 #[] w fun e w' => e = .returned (.bool true) ∧ RowKit.Below w.heap.size w w' := by
  go_enter Tryz.func146, Tryz.ntmps146
  go_wp2_with (first | (go_at_call 158; refine (law06_awake _).mono ?_; rintro e w' ⟨rfl, hb⟩))
  go_ret
  exact ⟨rfl, hb⟩
set_option maxHeartbeats 400000 in
theorem awake1_panics (w : World) :
    Calls Tryz.prog 148 #[] w fun e w' => e = .panicked [{ v := .iface 220 (.agg #[.int .i64 6]), recovered := false }] ∧ RowKit.Below w.heap.size w w' := by
  go_enter Tryz.func148, Tryz.ntmps148
  go_wp2_with (go_at_call 149; refine (guard_Must_panics 6 (by decide) _).mono ?_; rintro e w' ⟨rfl, rfl⟩)
  exact ⟨rfl, rfl, RowKit.Below.refl _ _⟩
set_option maxHeartbeats 1000000 in
theorem law07_awake (w : World) :
    Calls Tryz.prog 126 #[] w fun e w' => e = .returned (.bool true) ∧ RowKit.Below w.heap.size w w' := by
  have eg : ∀ args w, (callFunc 148 args).run Tryz.prog w = .ok (.enter 148 args) w := enters_of Tryz.func148 (by kernel_rfl) rfl
  have hc := fun w0 => guard_Catch_fail 148 #[] 6 (by decide) w0 eg (fun w' _ => awake1_panics w')
  clear eg
  go_enter Tryz.func126, Tryz.ntmps126
  go_wp2_with (first | (go_at_call 146; refine (law06_Awake _).mono ?_; rintro e w1 ⟨rfl, hb⟩) | (go_at_call 147; refine (hc _).mono ?_; clear hc; rintro e w2 ⟨rfl, hb2⟩))
  go_ret
  exact ⟨rfl, below_step hb hb.size hb2⟩
set_option maxHeartbeats 400000 in
theorem law07_Awake (w : World) :
    Calls Tryz.prog 113 #[] w fun e w' => e = .returned (.bool true) ∧ RowKit.Below w.heap.size w w' := by
  go_enter Tryz.func113, Tryz.ntmps113
  go_wp2_with (first | (go_at_call 126; refine (law07_awake _).mono ?_; rintro e w' ⟨rfl, hb⟩))
  go_ret
  exact ⟨rfl, hb⟩
end Go.Proofs.YtonfaojmphidpaaGreatDoor
