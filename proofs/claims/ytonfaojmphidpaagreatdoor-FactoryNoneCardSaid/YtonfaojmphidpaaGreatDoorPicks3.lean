/- Package picks: Left, Clone, Some of nobody; layer 8's example; the document's Next. -/
import Derived.Test.YtonfaojmphidpaaGreatDoorPicks2
namespace Go.Proofs.YtonfaojmphidpaaGreatDoor
open Go.RowKit
set_option linter.unusedVariables false
set_option linter.unusedSimpArgs false

set_option maxHeartbeats 400000 in
theorem picks_Some_nil (w : World) :
    Calls Tryz.prog 115 #[.pointer none, .int .i64 3, .int .i64 3] w fun e w' => e = .returned (.slice none 0 0) ∧ w = w' := by
  go_enter Tryz.func115, Tryz.ntmps115
  go_wp2
  refine wp_loop_rounds 1 ?_
  rw [rounds_succ]
  go_wp2_with (go_at_call 128; refine (picks_Next_nil _ _).mono ?_; rintro e w' ⟨rfl, rfl⟩)
  go_ret
  exact ⟨rfl, rfl⟩
set_option maxHeartbeats 400000 in
theorem picks_Some_bad (g : Nat) (w : World) :
    Calls Tryz.prog 115 #[.pointer (some ⟨g, 0, none⟩), .int .i64 0, .int .i64 3] w fun e w' => e = .returned (.slice none 0 0) ∧ w = w' := by
  go_enter Tryz.func115, Tryz.ntmps115
  go_wp2
  refine wp_loop_rounds 1 ?_
  rw [rounds_succ]
  go_wp2_with (go_at_call 128; refine (picks_Next_bad _ _ (by decide) _).mono ?_; rintro e w' ⟨rfl, rfl⟩)
  go_ret
  exact ⟨rfl, rfl⟩
set_option maxRecDepth 100000 in
set_option maxHeartbeats 1000000 in
theorem law08_awake (w : World) :
    Calls Tryz.prog 104 #[] w fun e w' => e = .returned (.bool true) ∧ Below w.heap.size w w' := by
  have hof : pkL [7, -1] 0 3 6 = [1, 2, 0, 1, 2, 0] := by decide
  go_enter Tryz.func104, Tryz.ntmps104
  go_wp2_with (first | (go_at_call 113; refine (law07_Awake _).mono ?_; rintro e w1 ⟨rfl, hb⟩))
  refine (picks_New _ 2 [7, -1] _ (sl_new w1 .i64 3 [7, -1]) (by intro x hx; simp at hx; unfold I64; omega) (by decide)).mono ?_
  rintro e w2 ⟨g, a2, c2, rfl, hp, hg, hb2⟩
  have hb2' := below_step ((Below.refl w1.heap.size w1).alloc (Nat.le_refl _) (.cells (nums .i64 [7, -1]).toArray 3)) (by simp) hb2
  have hB2 := below_step hb hb.size hb2'
  have hgw : w.heap.size ≤ g := by have := hb.size; simp at hg; omega
  have hsome := picks_Some g a2 c2 [7, -1] 0 3 6 w2 hp (by decide) (by decide) (by decide) (by decide)
  rw [hof] at hsome
  go_wp2_with fail
  refine hsome.mono ?_
  rintro e w3 ⟨a3, c3, A4, c4, rfl, ho, hp3, hg3, -⟩
  have hB3 : Below w.heap.size w w3 := hB2.grown hg3 hB2.size (fun j hj => by cases hj; exact hgw)
  have hs3 : Sl .i64 w3 A4 c4 [1, 2, 0, 1, 2, 0] := own_rd ho
  clear hsome ho hp hp3
  go_wp2_with fail
  refine (slices_Equal_i64 _ _ _ 6 [1, 2, 0, 1, 2, 0] [1, 2, 0, 1, 2, 0] _ (hs3.below ((Below.refl _ _).alloc (Nat.le_refl _) _)) (sl_new w3 .i64 3 [1, 2, 0, 1, 2, 0]) (by decide) (by decide)).mono ?_
  rintro e w4 ⟨rfl, q, rfl⟩
  go_wp2
  go_ret
  exact ⟨rfl, below_drewN (hB3.alloc hB3.size _) q⟩

end Go.Proofs.YtonfaojmphidpaaGreatDoor
