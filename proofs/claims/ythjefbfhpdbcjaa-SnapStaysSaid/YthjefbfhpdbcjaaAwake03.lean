/- Layer 3's example; the clock. -/
import Derived.Test.YthjefbfhpdbcjaaRef03
namespace Go.Proofs.Ythjefbfhpdbcjaa
open Go.RowKit
set_option linter.unusedVariables false
set_option linter.unusedSimpArgs false

theorem sl_new (w : World) (k : IntKind) (e : TypeId) (xs : List Int) : Sl k (w.alloc (.cells (nums k xs).toArray e)) (some ⟨w.heap.size, 0, none⟩) xs.length xs :=
  blk_sl (Blk.new w e _) (by simp [nums]) (Nat.le_refl _) fun j hj => by simp only [List.getElem?_toArray]; exact nums_get hj

set_option maxHeartbeats 1000000 in
theorem law03_awake (w : World) :
    Calls Try.prog 4 #[] w fun e w' => e = .returned (.bool true) ∧ Below w.heap.size w w' := by
  have hof : ofL [1, 2, 1] = [1, 2] := by decide
  go_enter Try.func4, Try.ntmps4
  go_wp2_with (first | (go_at_call 14; refine (law02_Awake _).mono ?_; rintro e w1 ⟨rfl, hb⟩))
  refine (snap_Of _ 3 [1, 2, 1] _ (sl_new w1 .u64 31 [1, 2, 1]) (by decide)).mono ?_
  rintro e w2 ⟨a2, c2, rfl, hs2, hl2, hb2⟩
  rw [hof] at hs2 ⊢
  simp only [World.size_alloc] at hb2
  have hz2 := hb2.size
  have hB2 : Below w.heap.size w w2 := below_step (hb.alloc hb.size _) (by simp; have := hb.size; omega) (by rw [World.size_alloc]; exact hb2)
  go_wp2_with fail
  refine (snap_All _ c2 [1, 2] _ hs2 (by decide)).mono ?_
  rintro e w3 ⟨a3, c3, rfl, ho3, hb3⟩
  have hB3 := below_step hB2 hB2.size hb3
  have hs3 : Sl .u64 w3 a3 c3 [1, 2] := own_rd ho3
  go_wp2_with fail
  refine (slices_Equal_u64 _ _ _ 2 [1, 2] [1, 2] _ (hs3.below ((Below.refl _ _).alloc (Nat.le_refl _) _)) (sl_new w3 .u64 31 [1, 2]) (by decide) (by decide)).mono ?_
  rintro e w4 ⟨rfl, q, rfl⟩
  go_wp2
  go_ret
  exact ⟨rfl, below_drewN (hB3.alloc hB3.size _) q⟩

/-! The clock: every tick up to 2^60. -/
def cAdd (a b : Int) : Int := if a + b < 1152921504606846976 then a + b else 1152921504606846976
theorem cAdd_range (a b : Int) (h0 : 0 ≤ a) (h2 : 0 ≤ b) : 0 ≤ cAdd a b ∧ cAdd a b ≤ 1152921504606846976 := by unfold cAdd; split <;> omega
end Go.Proofs.Ythjefbfhpdbcjaa
