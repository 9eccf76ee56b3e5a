/- slices.IsSorted of the numbers below n, in order. -/
import Derived.Test.YtlfnoailaoiedaaGuardEns2
import Derived.Deep.RegionHeld3
import Derived.Deep.QuietTactic
import Derived.Deep.LoopGhost
namespace Go.Proofs.Ytlfnoailaoiedaa
open Go.RowKit
set_option linter.unusedVariables false
set_option linter.unusedSimpArgs false
set_option maxHeartbeats 400000 in
theorem cmp_isNaN_int (x : Int) (w : World) :
    Calls Try.prog 143 #[.int .i64 x] w fun e w' => e = .returned (.bool false) ∧ w = w' := by
  go_enter Try.func143, Try.ntmps143
  go_wp2
  go_ret
  exact ⟨rfl, rfl⟩
set_option maxHeartbeats 400000 in
theorem cmp_Less_int_not (x y : Int) (h : ¬ x < y) (w : World) :
    Calls Try.prog 110 #[.int .i64 x, .int .i64 y] w fun e w' => e = .returned (.bool false) ∧ w = w' := by
  have hd : decide (x < y) = false := by simpa using h
  go_enter Try.func110, Try.ntmps110
  go_wp2_with (go_at_call 143; refine (cmp_isNaN_int _ _).mono ?_; rintro e w' ⟨rfl, rfl⟩)
  go_ret
  exact ⟨rfl, rfl⟩
theorem rangeI_get {n i : Nat} (h : i < n) : (nums .i64 ((List.range n).map fun (i : Nat) => (i : Int)))[i]? = some (.int .i64 (i : Int)) := by
  simp [nums, h]

set_option maxRecDepth 100000 in
set_option maxHeartbeats 2000000 in
theorem sorted_range_call (a : Option Addr) (c n : Nat) (w : World) (h : Rd 1 w a n c (nums .i64 ((List.range n).map fun (i : Nat) => (i : Int)))) (hn : n ≤ 30) :
    Calls Try.prog 60 #[.slice a n c] w fun e w' => e = .returned (.bool true) ∧ RowKit.Below w.heap.size w w' := by
  have HR := Lib.hid h; clear h
  go_enter Try.func60, Try.ntmps60
  go_wp2
  go_loopg [3] n (fun gh iv wr => ∃ (t : Nat), gh = t ∧ t ≤ n ∧ iv = .int .i64 ((t : Int) - 1) ∧ RowKit.Below w.heap.size w wr)
  case atStart => exact ⟨n, rfl, by omega, rfl, RowKit.Below.refl _ _⟩
  case round =>
    obtain ⟨t, hgt, ht, rfl, hB⟩ := hrel
    have HB := Lib.hid hB; clear hB
    by_cases hlt : 2 ≤ t
    · obtain ⟨s, rfl⟩ : ∃ s, t = s + 2 := ⟨t - 2, by omega⟩
      rw [show ((s + 2 : Nat) : Int) - 1 = (s : Int) + 1 by omega]
      obtain ⟨b, off, rfl, hbs, hc⟩ := HR.out.2.2.2 (by omega)
      have q0 : ∀ w', RowKit.Below wr.heap.size wr w' → w'.cell? ⟨b, off + (s + 1), none⟩ = some (.int .i64 ((s : Int) + 1)) := fun w' h => by
        have := ((below_step HB.out HB.out.size h).cell (p := ⟨b, off + (s + 1), none⟩) hbs).trans (hc _ _ (rangeI_get (by omega)))
        rw [this]; simp
      have q1 : ∀ w', RowKit.Below wr.heap.size wr w' → w'.cell? ⟨b, off + s, none⟩ = some (.int .i64 (s : Int)) := fun w' h => ((below_step HB.out HB.out.size h).cell (p := ⟨b, off + s, none⟩) hbs).trans (hc _ _ (rangeI_get (by omega)))
      have Q0 := Lib.hid q0; have Q1 := Lib.hid q1; clear q0 q1 hc
      have HLS := Lib.hid (fun W => cmp_Less_int_not ((s : Int) + 1) (s : Int) (by omega) W)
      have hs1 : (s : Int) + 1 < (n : Int) := by omega
      have hs0 : 0 < (s : Int) + 1 := by omega
      have hs2 : 0 ≤ (s : Int) + 1 := by omega
      have hs3 : (s : Int) < (n : Int) := by omega
      have hw1 : IntKind.i64.wrap (s : Int) = (s : Int) := by rw [IntKind.wrap_i64]; omega
      have hw2 : ((s : Int) + 1).toNat = s + 1 := by omega
      go_wp2_with fail
      refine wp_region_class (fun w' => RowKit.Below wr.heap.size wr w') (by kernel_rfl) (by kernel_rfl) (RowKit.Below.refl _ _).drew ?_
      repeat (first | go_big_quiet_skip | (go_big_quiet_want; first | (go_big_quiet_op; go_big_quiet_on) | (apply Exists.intro; refine ⟨fun w' hw' => ?_, ?_⟩; (have hcl := hw'; have q0 := Q0.out _ hcl; have q1 := Q1.out _ hcl; unfold Oper.quietAt; go_simp; first | done | exact ⟨rfl, hcl⟩ | exact ⟨rfl, rfl⟩ | exact rfl | (go_at_call 110; refine (HLS.out _).mono ?_; rintro e wn ⟨rfl, rfl⟩; exact ⟨rfl, hcl⟩)); (go_simp; go_big_quiet_on))))
      refine wpQuiet_nil ?_
      intro wq hcl
      clear hw1 hw2
      go_wp2_with fail
      go_roundg (s + 1)
      case measure => omega
      case rel => exact ⟨s + 1, rfl, by omega, by go_num, below_step HB.out HB.out.size hcl⟩
    · have hlt' : ¬ (0 : Int) < (t : Int) - 1 := by omega
      go_wp2_with fail
      go_ret
      exact ⟨rfl, HB.out⟩
end Go.Proofs.Ytlfnoailaoiedaa
