/- The walks of layer 1's laws: each returns true, whatever the input. -/
import Derived.Test.YtebifndgdfalnaaWord
import Derived.OpenShut
import Derived.Deep.LoopGhost
import Derived.Lib.Hide
namespace Go.Proofs.Ytebifndgdfalnaa
open Go.RowKit
set_option linter.unusedVariables false

theorem may_cases {f t : Int} (h : wMay f t = true) : (f = 0 ∧ (t = 1 ∨ t = 2)) ∨ (f = 1 ∧ (t = 0 ∨ t = 3)) ∨ (f = 2 ∧ (t = 0 ∨ t = 1 ∨ t = 3)) := by
  simp [wMay] at h; omega
theorem goes_facts {a t : Int} (h : wMay (a % 4) t = true) (h0 : 0 ≤ a) (h1 : a < 18446744073709551616) :
    wTo a t % 4 = t ∧ wTo a t / 4 = (a / 4 + 1) % 4611686018427387904 ∧ wTo a t ≠ a ∧ a % 4 ≠ 3 := by
  have hc := may_cases h
  unfold wTo; rw [if_pos h]; unfold wOf
  omega

set_option maxHeartbeats 400000 in
theorem law_WordGoes (a t : Int) (w : World) (h0 : 0 ≤ a) (h1 : a < 18446744073709551616) (h2 : 0 ≤ t) (h3 : t < 256) :
    Calls Try.prog 3 #[.int .u64 a, .int .u8 t] w fun e w' => e = .returned (.bool true) ∧ Below w.heap.size w w' := by
  by_cases hm : wMay (a % 4) (t % 4) = true
  · obtain ⟨f1, f2, f3, f4⟩ := goes_facts hm h0 h1
    obtain ⟨r0, r1⟩ := wTo_range a (t % 4) h0 h1
    have f3' : (wTo a (t % 4) == a) = false := by simpa using f3
    have f4' : (a % 4 == 3) = false := by simpa using f4
    go_enter Try.func3, Try.ntmps3
    go_wp2_with (first | (go_at_call 23; refine (law01_awake _).mono ?_; rintro e w' ⟨rfl, rfl⟩) | (go_at_call 24; refine (word_To _ _ _ (by omega) (by omega)).mono ?_; rintro e w' ⟨rfl, rfl⟩) | (go_at_call 25; refine (word_State _ _ (by omega) (by omega)).mono ?_; rintro e w' ⟨rfl, rfl⟩) | (go_at_call 26; refine (word_Version _ _ (by omega) (by omega)).mono ?_; rintro e w' ⟨rfl, rfl⟩))
    go_ret
    exact ⟨by simp [f3, f4], Below.refl _ _⟩
  · have hm : wMay (a % 4) (t % 4) = false := by simpa using hm
    have e : wTo a (t % 4) = a := by simp [wTo, hm]
    go_enter Try.func3, Try.ntmps3
    go_wp2_with (first | (go_at_call 23; refine (law01_awake _).mono ?_; rintro e w' ⟨rfl, rfl⟩) | (go_at_call 24; refine (word_To _ _ _ (by omega) (by omega)).mono ?_; rintro e w' ⟨rfl, rfl⟩))
    go_ret
    exact ⟨by simp, Below.refl _ _⟩

set_option maxHeartbeats 400000 in
theorem law_WordTells (s t v r : Int) (w : World) (h0 : 0 ≤ v) (h1 : v < 18446744073709551616) (h2 : 0 ≤ r) (h3 : r < 18446744073709551616)
    (h4 : -9223372036854775808 ≤ s) (h5 : s ≤ 9223372036854775807) (h6 : -9223372036854775808 ≤ t) (h7 : t ≤ 9223372036854775807) :
    Calls Try.prog 5 #[.int .i64 s, .int .i64 t, .int .u64 v, .int .u64 r] w fun e w' => e = .returned (.bool true) ∧ Below w.heap.size w w' := by
  obtain ⟨r0, r1⟩ := wTo_range r t h2 h3
  obtain ⟨q0, q1⟩ := wOf_range s v
  go_enter Try.func5, Try.ntmps5
  go_wp2_with (first | (go_at_call 23; refine (law01_awake _).mono ?_; rintro e w' ⟨rfl, rfl⟩) | (go_at_call 24; refine (word_To _ _ _ (by omega) (by omega)).mono ?_; rintro e w' ⟨rfl, rfl⟩) | (go_at_call 25; refine (word_State _ _ (by omega) (by omega)).mono ?_; rintro e w' ⟨rfl, rfl⟩) | (go_at_call 26; refine (word_Version _ _ (by omega) (by omega)).mono ?_; rintro e w' ⟨rfl, rfl⟩) | (go_at_call 27; refine (word_Of _ _ _ (by omega) (by omega)).mono ?_; rintro e w' ⟨rfl, rfl⟩) | (go_at_call 28; refine (ref01_To _ _ _ (by omega) (by omega) (by omega) (by omega)).mono ?_; rintro e w' ⟨rfl, rfl⟩) | (go_at_call 29; refine (ref01_Of _ _ _ (by omega) (by omega) (by omega) (by omega)).mono ?_; rintro e w' ⟨rfl, rfl⟩) | (go_at_call 30; refine (word_May _ _ _).mono ?_; rintro e w' ⟨rfl, rfl⟩) | (go_at_call 31; refine (ref01_May _ _ _).mono ?_; rintro e w' ⟨rfl, rfl⟩) | (go_at_call 32; refine (word_Name _ _).mono ?_; rintro e w' ⟨rfl, rfl⟩) | (go_at_call 33; refine (ref01_Name _ _).mono ?_; rintro e w' ⟨rfl, hb⟩))
  go_ret
  exact ⟨rfl, hb⟩

theorem wTo_of {x t : Int} (h : wMay (x % 4) t = true) : wTo x t = wOf t (x / 4 + 1) := by unfold wTo; rw [if_pos h]
theorem rounds_facts (v : Int) (k : Nat) : wOf 0 (v + 2 * k) % 4 = 0 ∧ wMay (wOf 0 (v + 2 * k) % 4) 1 = true ∧ wTo (wOf 0 (v + 2 * k)) 1 % 4 = 1 ∧
    wMay (wTo (wOf 0 (v + 2 * k)) 1 % 4) 0 = true ∧ wTo (wTo (wOf 0 (v + 2 * k)) 1) 0 = wOf 0 (v + 2 * ((k : Int) + 1)) := by
  have a1 : wOf 0 (v + 2 * k) % 4 = 0 := by unfold wOf; omega
  have a2 : wMay (wOf 0 (v + 2 * k) % 4) 1 = true := by rw [a1]; rfl
  have a3 : wTo (wOf 0 (v + 2 * k)) 1 = wOf 1 (wOf 0 (v + 2 * k) / 4 + 1) := by unfold wTo; rw [if_pos a2]
  have a4 : wTo (wOf 0 (v + 2 * k)) 1 % 4 = 1 := by rw [a3]; unfold wOf; omega
  have a5 : wMay (wTo (wOf 0 (v + 2 * k)) 1 % 4) 0 = true := by rw [a4]; rfl
  refine ⟨a1, a2, a4, a5, ?_⟩
  have a6 : wTo (wTo (wOf 0 (v + 2 * k)) 1) 0 = wOf 0 (wTo (wOf 0 (v + 2 * k)) 1 / 4 + 1) := by
    exact wTo_of a5
  rw [a6, a3]; unfold wOf; omega
theorem rounds_end (x : Int) (h : x % 4 = 0) : wMay (x % 4) 2 = true ∧ wTo x 2 % 4 = 2 ∧ wMay (wTo x 2 % 4) 3 = true ∧ wTo (wTo x 2) 3 % 4 = 3 ∧ ∀ s, wMay (wTo (wTo x 2) 3 % 4) s = false := by
  have a2 : wMay (x % 4) 2 = true := by rw [h]; rfl
  have a3 : wTo x 2 = wOf 2 (x / 4 + 1) := by unfold wTo; rw [if_pos a2]
  have a4 : wTo x 2 % 4 = 2 := by rw [a3]; unfold wOf; omega
  have a5 : wMay (wTo x 2 % 4) 3 = true := by rw [a4]; rfl
  have a6 : wTo (wTo x 2) 3 % 4 = 3 := by
    rw [wTo_of a5]; unfold wOf; omega
  exact ⟨a2, a4, a5, a6, fun s => by rw [a6]; rfl⟩

set_option maxHeartbeats 400000 in
theorem law_WordRounds (v n : Int) (w : World) (h0 : 0 ≤ v) (h1 : v < 18446744073709551616) (h2 : 0 ≤ n) (h3 : n < 256) :
    Calls Try.prog 4 #[.int .u64 v, .int .u8 n] w fun e w' => e = .returned (.bool true) ∧ Below w.heap.size w w' := by
  go_enter Try.func4, Try.ntmps4
  go_wp2_with (first | (go_at_call 23; refine (law01_awake _).mono ?_; rintro e w' ⟨rfl, rfl⟩) | (go_at_call 27; refine (word_Of _ _ _ (by omega) (by omega)).mono ?_; rintro e w' ⟨rfl, rfl⟩))
  go_loop [5, 22] (fun x i => ∃ k : Nat, (k : Int) ≤ n ∧ i = .int .u8 k ∧ x = .int .u64 (wOf 0 (v + 2 * k))) (fun _ i => (n - intOf i).toNat)
  case atStart => exact ⟨0, by simpa using h2, rfl, by simp⟩
  case round =>
    obtain ⟨k, hk, rfl, rfl⟩ := hrel
    obtain ⟨a1, a2, a3, a4, a5⟩ := rounds_facts v k
    obtain ⟨r0, r1⟩ := wOf_range 0 (v + 2 * k)
    obtain ⟨q0, q1⟩ := wTo_range (wOf 0 (v + 2 * k)) 1 r0 r1
    have A1 := Lib.hid a1; clear a1
    have A3 := Lib.hid a3; clear a3
    have A5 := Lib.hid a5; clear a5
    by_cases hlt : (k : Int) < n
    · go_wp2_with (first | (go_at_call 24; refine (word_To _ _ _ (by omega) (by omega)).mono ?_; rintro e w' ⟨rfl, rfl⟩))
      go_round
      case rel => exact ⟨k + 1, by omega, by go_num, by rw [A5.out]; go_num⟩
      case measure => simp [intOf]; omega
    · have hkn : (k : Int) = n := by omega
      obtain ⟨b1, b2, b3, b4, b5⟩ := rounds_end _ A1.out
      have hv : wOf 0 (v + 2 * k) / 4 = (v % 4611686018427387904 + 2 * n) % 4611686018427387904 := by rw [← hkn]; unfold wOf; omega
      generalize hx : wOf 0 (v + 2 * k) = x at *
      have HV := Lib.hid hv; clear hv
      have B2 := Lib.hid b2; clear b2
      have B4 := Lib.hid b4; clear b4
      have B5 := Lib.hid b5; clear b5
      have HX := Lib.hid hx; clear hx
      have HKN := Lib.hid hkn; clear hkn
      obtain ⟨q0, q1⟩ := wTo_range x 2 r0 r1
      obtain ⟨q2, q3⟩ := wTo_range (wTo x 2) 3 q0 q1
      go_wp2_with (first | (go_at_call 24; refine (word_To _ _ _ (by omega) (by omega)).mono ?_; rintro e w' ⟨rfl, rfl⟩))
      go_loop [52] (fun i => ∃ s : Nat, s ≤ 5 ∧ i = .int .i64 s) (fun i => (5 - intOf i).toNat)
      case atStart => exact ⟨0, by omega, rfl⟩
      case round =>
        obtain ⟨s, hs, rfl⟩ := hrel
        by_cases hlt : s < 5
        · have b := B5.out ((s : Int) - 1)
          go_wp2_with (first | (go_at_call 24; refine (word_To _ _ _ (by omega) (by omega)).mono ?_; rintro e w' ⟨rfl, rfl⟩))
          go_round
          case rel => exact ⟨s + 1, by omega, by go_num⟩
          case measure => simp [intOf]; omega
        · have a1 := A1.out
          have hv := HV.out
          go_wp2_with (first | (go_at_call 25; refine (word_State _ _ (by omega) (by omega)).mono ?_; rintro e w' ⟨rfl, rfl⟩) | (go_at_call 26; refine (word_Version _ _ (by omega) (by omega)).mono ?_; rintro e w' ⟨rfl, rfl⟩))
          go_ret
          exact ⟨rfl, Below.refl _ _⟩
end Go.Proofs.Ytebifndgdfalnaa
