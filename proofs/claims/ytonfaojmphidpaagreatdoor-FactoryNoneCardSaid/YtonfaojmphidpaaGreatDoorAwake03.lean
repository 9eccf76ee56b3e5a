/- Layer 3's example; the clock. -/
import Derived.Test.YtonfaojmphidpaaGreatDoorRef03
namespace Go.Proofs.YtonfaojmphidpaaGreatDoor
open Go.RowKit
set_option linter.unusedVariables false
set_option linter.unusedSimpArgs false

theorem sl_new (w : World) (k : IntKind) (e : TypeId) (xs : List Int) : Sl k (w.alloc (.cells (nums k xs).toArray e)) (some ⟨w.heap.size, 0, none⟩) xs.length xs :=
  blk_sl (Blk.new w e _) (by simp [nums]) (Nat.le_refl _) fun j hj => by simp only [List.getElem?_toArray]; exact nums_get hj

set_option maxHeartbeats 1000000 in
theorem law03_awake (w : World) :
    Calls Tryz.prog 184 #[] w fun e w' => e = .returned (.bool true) ∧ Below w.heap.size w w' := by
  have hof : ofL [1, 2, 1] = [1, 2] := by decide
  go_enter Tryz.func184, Tryz.ntmps184
  go_wp2_with (first | (go_at_call 189; refine (law02_Awake _).mono ?_; rintro e w1 ⟨rfl, hb⟩))
  refine (snap_Of _ 3 [1, 2, 1] _ (sl_new w1 .u64 28 [1, 2, 1]) (by decide)).mono ?_
  rintro e w2 ⟨a2, c2, rfl, hs2, hl2, hb2⟩
  rw [hof] at hs2 ⊢
  simp only [World.size_alloc] at hb2
  have hz2 := hb2.size
  have hB2 : Below w.heap.size w w2 := below_step (hb.alloc hb.size _) (by simp; have := hb.size; omega) (by rw [World.size_alloc]; exact hb2)
  go_wp2_with fail
  refine (snap_All _ c2 [1, 2] _ hs2 (by decide)).mono ?_
  rintro e w3 ⟨a3, c3, rfl, ho3, hb3⟩
  have hB3 := below_step hB2 hB2.size hb3
  have hs3 : Sl .u64 w3 a3 c3 [1, 2] := own_rd ho3
  go_wp2_with fail
  refine (slices_Equal_u64 _ _ _ 2 [1, 2] [1, 2] _ (hs3.below ((Below.refl _ _).alloc (Nat.le_refl _) _)) (sl_new w3 .u64 28 [1, 2]) (by decide) (by decide)).mono ?_
  rintro e w4 ⟨rfl, q, rfl⟩
  go_wp2
  go_ret
  exact ⟨rfl, below_drewN (hB3.alloc hB3.size _) q⟩

set_option maxHeartbeats 400000 in
theorem law03_Awake (w : World) :
    Calls Tryz.prog 175 #[] w fun e w' => e = .returned (.bool true) ∧ Below w.heap.size w w' := by
  go_enter Tryz.func175, Tryz.ntmps175
  go_wp2_with (first | (go_at_call 184; refine (law03_awake _).mono ?_; rintro e w' ⟨rfl, hb⟩))
  go_ret
  exact ⟨rfl, hb⟩

/-! The clock: every tick up to 2^60. -/
def cAdd (a b : Int) : Int := if a + b < 1152921504606846976 then a + b else 1152921504606846976
set_option maxHeartbeats 400000 in
theorem clock_Add (a b : Int) (w : World) (h0 : 0 ≤ a) (h1 : a < 18446744073709551616) (h2 : 0 ≤ b) (h3 : b < 18446744073709551616) :
    Calls Tryz.prog 171 #[.int .u64 a, .int .u64 b] w fun e w' => e = .returned (.int .u64 (cAdd a b)) ∧ w = w' := by
  go_enter Tryz.func171, Tryz.ntmps171
  go_wp2
  all_goals (go_ret; exact ⟨ret_int (by unfold cAdd; split <;> omega), rfl⟩)
theorem cAdd_range (a b : Int) (h0 : 0 ≤ a) (h2 : 0 ≤ b) : 0 ≤ cAdd a b ∧ cAdd a b ≤ 1152921504606846976 := by unfold cAdd; split <;> omega
set_option maxHeartbeats 400000 in
theorem clock_After (c : Int) (h0 : 0 ≤ c) (h1 : c < 18446744073709551616) (n : Int) (h2 : 0 ≤ n) (h3 : n < 18446744073709551616) (w : World) :
    Calls Tryz.prog 176 #[.agg #[.int .u64 c], .int .u64 n] w fun e w' => e = .returned (.int .u64 (cAdd c n)) ∧ Below w.heap.size w w' := by
  go_enter Tryz.func176, Tryz.ntmps176
  go_wp2_with (go_at_call 171; refine (clock_Add _ _ _ (by omega) (by omega) (by omega) (by omega)).mono ?_; rintro e w' ⟨rfl, rfl⟩)
  go_ret
  exact ⟨rfl, (Below.refl _ _).alloc (Nat.le_refl _) _⟩
set_option maxHeartbeats 400000 in
theorem clock_Reached (c : Int) (h0 : 0 ≤ c) (h1 : c < 18446744073709551616) (n : Int) (h2 : 0 ≤ n) (h3 : n < 18446744073709551616) (w : World) :
    Calls Tryz.prog 177 #[.agg #[.int .u64 c], .int .u64 n] w fun e w' => e = .returned (.bool (decide (n ≤ c))) ∧ Below w.heap.size w w' := by
  go_enter Tryz.func177, Tryz.ntmps177
  go_wp2
  go_ret
  exact ⟨rfl, (Below.refl _ _).alloc (Nat.le_refl _) _⟩
set_option maxHeartbeats 400000 in
theorem clock_At (c : Int) (h0 : 0 ≤ c) (h1 : c < 18446744073709551616) (w : World) :
    Calls Tryz.prog 174 #[.int .u64 c] w fun e w' => e = .returned (.agg #[.int .u64 (cAdd c 0)]) ∧ Below w.heap.size w w' := by
  go_enter Tryz.func174, Tryz.ntmps174
  go_wp2_with (go_at_call 171; refine (clock_Add _ _ _ (by omega) (by omega) (by omega) (by omega)).mono ?_; rintro e w' ⟨rfl, rfl⟩)
  refine bodyPost_ret (v := .agg #[.int .u64 (cAdd c 0)]) (by simp [results, Tryz.results174, go_sem]) rfl ?_
  exact ⟨rfl, (Below.refl _ _).alloc (Nat.le_refl _) _⟩
set_option maxHeartbeats 400000 in
theorem clock_Tick (c : Int) (h0 : 0 ≤ c) (h1 : c < 18446744073709551616) (n : Int) (h2 : 0 ≤ n) (h3 : n < 18446744073709551616) (w : World) :
    Calls Tryz.prog 178 #[.agg #[.int .u64 c], .int .u64 n] w fun e w' => e = .returned (.agg #[.int .u64 (cAdd c n)]) ∧ Below w.heap.size w w' := by
  go_enter Tryz.func178, Tryz.ntmps178
  go_wp2_with (go_at_call 176; refine (clock_After _ (by omega) (by omega) _ (by omega) (by omega) _).mono ?_; rintro e w1 ⟨rfl, hb⟩; obtain ⟨bc, bf⟩ := bcell hb; have hz := hb.size)
  refine bodyPost_ret (v := .agg #[.int .u64 (cAdd c n)]) (by simp [results, Tryz.results178, go_sem, bc]) rfl ?_
  exact ⟨rfl, (below_step (((Below.refl w.heap.size w).alloc (Nat.le_refl _) _).alloc (by simp) _) (by simp; omega) hb).setCell (by simp) _⟩

set_option maxHeartbeats 400000 in
theorem law04_awake (w : World) :
    Calls Tryz.prog 172 #[] w fun e w' => e = .returned (.bool true) ∧ Below w.heap.size w w' := by
  have e1 : cAdd 5 0 = 5 := by decide
  have e2 : cAdd 5 3 = 8 := by decide
  go_enter Tryz.func172, Tryz.ntmps172
  go_wp2_with (first | (go_at_call 174; refine (clock_At _ (by omega) (by omega) _).mono ?_; rintro e w1 ⟨rfl, hb1⟩; have hz0 := hb1.size) | (go_at_call 175; refine (law03_Awake _).mono ?_; rintro e w0 ⟨rfl, hb0⟩; have p' : w0.cell? ⟨w1.heap.size, 0, none⟩ = some (.int .u64 (5)) := ((hb0.cell (p := ⟨w1.heap.size, 0, none⟩) (by ((try simp only [World.size_alloc]); omega))).trans (by first | assumption | (simp; done))); have hz' : w1.heap.size < w0.heap.size := (by have := hb0.size; (try simp only [World.size_alloc] at this); omega); have hB' : Below w.heap.size w w0 := (below_step (by first | assumption | exact Below.alloc (by assumption) (by omega) _) (by ((try simp only [World.size_alloc]); omega)) hb0)) | (go_at_call 176; refine (clock_After _ (by omega) (by omega) _ (by omega) (by omega) _).mono ?_; rintro e wn ⟨rfl, hbn⟩; have p' : wn.cell? ⟨w1.heap.size, 0, none⟩ = some (.int .u64 (5)) := ((hbn.cell (p := ⟨w1.heap.size, 0, none⟩) (by ((try simp only [World.size_alloc]); omega))).trans (by first | assumption | (simp; done))); have hz' : w1.heap.size < wn.heap.size := (by have := hbn.size; (try simp only [World.size_alloc] at this); omega); have hB' : Below w.heap.size w wn := (below_step (by first | assumption | exact Below.alloc (by assumption) (by omega) _) (by ((try simp only [World.size_alloc]); omega)) hbn)) | (go_at_call 178; refine (clock_Tick _ (by omega) (by omega) _ (by omega) (by omega) _).mono ?_; rintro e wn ⟨rfl, hbn⟩; have p' : wn.cell? ⟨w1.heap.size, 0, none⟩ = some (.int .u64 (5)) := ((hbn.cell (p := ⟨w1.heap.size, 0, none⟩) (by ((try simp only [World.size_alloc]); omega))).trans (by first | assumption | (simp; done))); have hz' : w1.heap.size < wn.heap.size := (by have := hbn.size; (try simp only [World.size_alloc] at this); omega); have hB' : Below w.heap.size w wn := (below_step (by first | assumption | exact Below.alloc (by assumption) (by omega) _) (by ((try simp only [World.size_alloc]); omega)) hbn)) | (go_at_call 177; refine (clock_Reached _ (by omega) (by omega) _ (by omega) (by omega) _).mono ?_; rintro e wn ⟨rfl, hbn⟩; have p' : wn.cell? ⟨w1.heap.size, 0, none⟩ = some (.int .u64 (5)) := ((hbn.cell (p := ⟨w1.heap.size, 0, none⟩) (by ((try simp only [World.size_alloc]); omega))).trans (by first | assumption | (simp; done))); have hz' : w1.heap.size < wn.heap.size := (by have := hbn.size; (try simp only [World.size_alloc] at this); omega); have hB' : Below w.heap.size w wn := (below_step (by first | assumption | exact Below.alloc (by assumption) (by omega) _) (by ((try simp only [World.size_alloc]); omega)) hbn)))
  go_ret
  exact ⟨by rfl, by assumption⟩
set_option maxHeartbeats 400000 in
theorem law04_Awake (w : World) :
    Calls Tryz.prog 168 #[] w fun e w' => e = .returned (.bool true) ∧ Below w.heap.size w w' := by
  go_enter Tryz.func168, Tryz.ntmps168
  go_wp2_with (first | (go_at_call 172; refine (law04_awake _).mono ?_; rintro e w' ⟨rfl, hb⟩))
  go_ret
  exact ⟨rfl, hb⟩
end Go.Proofs.YtonfaojmphidpaaGreatDoor
