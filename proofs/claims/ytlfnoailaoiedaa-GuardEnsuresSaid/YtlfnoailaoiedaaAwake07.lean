/- The examples of layers 6 and 7. -/
import Derived.Test.YtlfnoailaoiedaaAwake05
import Derived.Test.YtlfnoailaoiedaaGuard
namespace Go.Proofs.Ytlfnoailaoiedaa
open Go.RowKit
set_option linter.unusedVariables false
set_option linter.unusedSimpArgs false

set_option maxHeartbeats 1000000 in
theorem ratio_Share_1_4 (w : World) : Calls Try.prog 161 #[.int .u64 1, .int .u64 4] w fun e w' => e = .returned (.float .f64 4598175219545276416) ∧ w = w' := by
  have f1 : ∀ W : World, (binOp .quo 194 (.float .f64 (floatOfInt .f64 1)) (.float .f64 (floatOfInt .f64 4))).run Try.prog W = .ok (.float .f64 4598175219545276416) W := fun W => by kernel_rfl
  go_enter Try.func161, Try.ntmps161
  go_wp2
  go_ret
  exact ⟨rfl, rfl⟩
set_option maxHeartbeats 1000000 in
theorem ratio_Part_10 (w : World) : Calls Try.prog 162 #[.int .u64 10, .float .f64 4598175219545276416] w fun e w' => e = .returned (.int .u64 2) ∧ w = w' := by
  have f1 : ∀ W : World, (binOp .mul 194 (.float .f64 (floatOfInt .f64 10)) (.float .f64 4598175219545276416)).run Try.prog W = .ok (.float .f64 4612811918334230528) W := fun W => by kernel_rfl
  have f2 : ∀ W : World, (convert 194 22 (.float .f64 4612811918334230528)).run Try.prog W = .ok (.int .u64 2) W := fun W => by kernel_rfl
  go_enter Try.func162, Try.ntmps162
  go_wp2
  go_ret
  exact ⟨rfl, rfl⟩
set_option maxHeartbeats 1000000 in
theorem law06_awake (w : World) :
    Calls Try.prog 142 #[] w fun e w' => e = .returned (.bool true) ∧ RowKit.Below w.heap.size w w' := by
  go_enter Try.func142, Try.ntmps142
  go_wp2_with (first | (go_at_call 160; refine (law05_Awake _).mono ?_; rintro e w1 ⟨rfl, hb⟩) | (go_at_call 161; refine (ratio_Share_1_4 _).mono ?_; rintro e w2 ⟨rfl, rfl⟩) | (go_at_call 162; refine (ratio_Part_10 _).mono ?_; rintro e w2 ⟨rfl, rfl⟩))
  go_ret
  exact ⟨rfl, hb⟩
set_option maxHeartbeats 400000 in
theorem law06_Awake (w : World) :
    Calls Try.prog 106 #[] w fun e w' => e = .returned (.bool true) ∧ RowKit.Below w.heap.size w w' := by
  go_enter Try.func106, Try.ntmps106
  go_wp2_with (first | (go_at_call 142; refine (law06_awake _).mono ?_; rintro e w' ⟨rfl, hb⟩))
  go_ret
  exact ⟨rfl, hb⟩
set_option maxHeartbeats 400000 in
theorem awake1_panics (w : World) :
    Calls Try.prog 107 #[] w fun e w' => e = .panicked [{ v := .iface 97 (.agg #[.int .i64 6]), recovered := false }] ∧ RowKit.Below w.heap.size w w' := by
  go_enter Try.func107, Try.ntmps107
  go_wp2_with (go_at_call 63; refine (guard_Must_panics 6 (by decide) _).mono ?_; rintro e w' ⟨rfl, rfl⟩)
  exact ⟨rfl, rfl, RowKit.Below.refl _ _⟩
set_option maxHeartbeats 1000000 in
theorem law07_awake (w : World) :
    Calls Try.prog 47 #[] w fun e w' => e = .returned (.bool true) ∧ RowKit.Below w.heap.size w w' := by
  have eg : ∀ args w, (callFunc 107 args).run Try.prog w = .ok (.enter 107 args) w := enters_of Try.func107 (by kernel_rfl) rfl
  have hc := fun w0 => guard_Catch_fail 107 #[] 6 (by decide) w0 eg (fun w' _ => awake1_panics w')
  clear eg
  go_enter Try.func47, Try.ntmps47
  go_wp2_with (first | (go_at_call 106; refine (law06_Awake _).mono ?_; rintro e w1 ⟨rfl, hb⟩) | (go_at_call 51; refine (hc _).mono ?_; clear hc; rintro e w2 ⟨rfl, hb2⟩))
  go_ret
  exact ⟨rfl, below_step hb hb.size hb2⟩
set_option maxHeartbeats 400000 in
theorem law07_Awake (w : World) :
    Calls Try.prog 111 #[] w fun e w' => e = .returned (.bool true) ∧ RowKit.Below w.heap.size w w' := by
  go_enter Try.func111, Try.ntmps111
  go_wp2_with (first | (go_at_call 47; refine (law07_awake _).mono ?_; rintro e w' ⟨rfl, hb⟩))
  go_ret
  exact ⟨rfl, hb⟩
end Go.Proofs.Ytlfnoailaoiedaa
