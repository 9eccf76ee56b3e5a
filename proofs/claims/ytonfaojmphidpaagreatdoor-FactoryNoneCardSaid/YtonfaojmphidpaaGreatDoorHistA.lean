/- Chapter 9's example: the text of one event. -/
import Derived.Test.YtonfaojmphidpaaGreatDoorFmtU
import Derived.Test.YtonfaojmphidpaaGreatDoorClones
import Derived.Test.YtonfaojmphidpaaGreatDoorTail
import Derived.Test.YtonfaojmphidpaaGreatDoorPicks3
import Derived.Deep.RegionHeld3
import Derived.Deep.QuietTactic
namespace Go.Proofs.YtonfaojmphidpaaGreatDoor
open Go.RowKit
set_option linter.unusedVariables false
set_option linter.unusedSimpArgs false

set_option maxHeartbeats 400000 in
theorem law08_Awake (w : World) :
    Calls Tryz.prog 92 #[] w fun e w' => e = .returned (.bool true) ∧ RowKit.Below w.heap.size w w' := by
  go_enter Tryz.func92, Tryz.ntmps92
  go_wp2_with (first | (go_at_call 104; refine (law08_awake _).mono ?_; rintro e w' ⟨rfl, hb⟩))
  go_ret
  exact ⟨rfl, hb⟩
set_option maxRecDepth 100000 in
set_option maxHeartbeats 1000000 in
theorem itoa_0 (w : World) : Calls Tryz.prog 100 #[.int .i64 0] w fun e w' => e = .returned (.string ⟨#[48]⟩) ∧ w = w' := by
  go_enter Tryz.func100, Tryz.ntmps100
  go_wp2_with go_in
  go_ret
  exact ⟨rfl, rfl⟩
set_option maxRecDepth 100000 in
set_option maxHeartbeats 1000000 in
theorem itoa_2 (w : World) : Calls Tryz.prog 100 #[.int .i64 2] w fun e w' => e = .returned (.string ⟨#[50]⟩) ∧ w = w' := by
  go_enter Tryz.func100, Tryz.ntmps100
  go_wp2_with go_in
  go_ret
  exact ⟨rfl, rfl⟩

set_option maxRecDepth 100000 in
set_option maxHeartbeats 2000000 in
theorem event_Text (w : World) :
    Calls Tryz.prog 72 #[.agg #[.int .u64 1, .int .i64 2, .int .i64 0, .int .i64 0, .int .u64 0, .int .i64 0]] w fun e w' => e = .returned (.string ⟨#[49, 32, 50, 32, 99, 97, 108, 108, 32, 103, 101, 116, 32, 48, 32, 48]⟩) ∧ RowKit.Below w.heap.size w w' := by
  have HI0 := Lib.hid (fun W => itoa_0 W)
  have HI2 := Lib.hid (fun W => itoa_2 W)
  go_enter Tryz.func72, Tryz.ntmps72
  go_wp2_with go_in
  have hb1 := RowKit.Below.refl (w.heap.size + 1) (w.alloc (.cells #[.int .u64 1, .int .i64 2, .int .i64 0, .int .i64 0, .int .u64 0, .int .i64 0] 108))
  have kb := Blk.new w 108 #[.int .u64 1, .int .i64 2, .int .i64 0, .int .i64 0, .int .u64 0, .int .i64 0]
  have hw01 := (RowKit.Below.refl w.heap.size w).alloc (Nat.le_refl _) (.cells #[.int .u64 1, .int .i64 2, .int .i64 0, .int .i64 0, .int .u64 0, .int .i64 0] 108)
  have hsz1 := size_alloc w (.cells #[.int .u64 1, .int .i64 2, .int .i64 0, .int .i64 0, .int .u64 0, .int .i64 0] 108)
  have hall : ∀ w', RowKit.Below (w.heap.size + 1) (w.alloc (.cells #[.int .u64 1, .int .i64 2, .int .i64 0, .int .i64 0, .int .u64 0, .int .i64 0] 108)) w' → Blk w' w.heap.size 108 #[.int .u64 1, .int .i64 2, .int .i64 0, .int .i64 0, .int .u64 0, .int .i64 0] := fun w' h => kb.below h (Nat.lt_succ_self _)
  have Q0 := Lib.hid (fun w' h => by simpa using (hall w' h).cell 0)
  have Q1 := Lib.hid (fun w' h => by simpa using (hall w' h).cell 1)
  have Q4 := Lib.hid (fun w' h => by simpa using (hall w' h).cell 4)
  have Q5 := Lib.hid (fun w' h => by simpa using (hall w' h).cell 5)
  refine wp_region_class_tail (fun w' => RowKit.Below (w.heap.size + 1) (w.alloc (.cells #[.int .u64 1, .int .i64 2, .int .i64 0, .int .i64 0, .int .u64 0, .int .i64 0] 108)) w') 14 (by kernel_rfl) (by kernel_rfl) ((hb1.alloc (by simp) _).alloc (by simp) _).drew ?_
  simp only [List.take_succ_cons, List.take_zero, List.drop_succ_cons, List.drop_zero]
  repeat (first | go_big_quiet_skip | (go_big_quiet_want; first | (go_big_quiet_op; go_big_quiet_on) | (apply Exists.intro; refine ⟨fun w' hw' => ?_, ?_⟩; (have hcl := hw'; have q0 := Q0.out _ hcl; have q1 := Q1.out _ hcl; have q4 := Q4.out _ hcl; have q5 := Q5.out _ hcl; unfold Oper.quietAt; go_simp; first | done | exact ⟨rfl, hcl⟩ | exact ⟨rfl, rfl⟩ | exact rfl | (first | (go_at_call 99; first | (refine (formatUint_0 _).mono ?_; rintro e wn ⟨rfl, rfl⟩; exact ⟨rfl, hcl⟩) | (refine (formatUint_1 _).mono ?_; rintro e wn ⟨rfl, rfl⟩; exact ⟨rfl, hcl⟩)) | (go_at_call 100; first | (refine (HI0.out _).mono ?_; rintro e wn ⟨rfl, rfl⟩; exact ⟨rfl, hcl⟩) | (refine (HI2.out _).mono ?_; rintro e wn ⟨rfl, rfl⟩; exact ⟨rfl, hcl⟩)))); (go_simp; go_big_quiet_on))))
  refine wpQuiet_nil ?_
  intro wq hcl
  clear HI0 HI2 Q0 Q1 Q4 Q5 hall
  have hj := strings_Join_ wq.heap.size 0 6 [⟨#[49]⟩, ⟨#[50]⟩, ⟨#[99, 97, 108, 108]⟩, ⟨#[103, 101, 116]⟩, ⟨#[48]⟩, ⟨#[48]⟩] ⟨#[32]⟩ (wq.alloc (.cells #[.string ⟨#[49]⟩, .string ⟨#[50]⟩, .string ⟨#[99, 97, 108, 108]⟩, .string ⟨#[103, 101, 116]⟩, .string ⟨#[48]⟩, .string ⟨#[48]⟩] 9))
    (fun j x hx => by
      have := (Blk.new wq 9 #[.string ⟨#[49]⟩, .string ⟨#[50]⟩, .string ⟨#[99, 97, 108, 108]⟩, .string ⟨#[103, 101, 116]⟩, .string ⟨#[48]⟩, .string ⟨#[48]⟩]).cell (0 + j)
      rw [this, Nat.zero_add]
      rcases j with _ | _ | _ | _ | _ | _ | j <;> simp at hx ⊢ <;> exact hx) (by simp) (by decide) (by decide) (by decide)
  have HJ := Lib.hid hj; clear hj
  have hev : (w.alloc (.cells #[.int .u64 1, .int .i64 2, .int .i64 0, .int .i64 0, .int .u64 0, .int .i64 0] 108)).heap.size = w.heap.size + 1 := size_alloc _ _
  have hBq : RowKit.Below w.heap.size w wq := below_step hw01 hw01.size (hev ▸ hcl)
  have HBQ := Lib.hid hBq; clear hBq hev hw01 hsz1 hcl kb hb1
  go_wp2_with fail
  refine HJ.out.mono ?_
  rintro e w5 ⟨rfl, hb5⟩
  have hal := HBQ.out.alloc HBQ.out.size (.cells #[.string ⟨#[49]⟩, .string ⟨#[50]⟩, .string ⟨#[99, 97, 108, 108]⟩, .string ⟨#[103, 101, 116]⟩, .string ⟨#[48]⟩, .string ⟨#[48]⟩] 9)
  have HB5 := Lib.hid (below_step hal hal.size hb5)
  clear hal hb5 HJ
  go_wp2_with fail
  go_ret
  exact ⟨rfl, HB5.out⟩
end Go.Proofs.YtonfaojmphidpaaGreatDoor
