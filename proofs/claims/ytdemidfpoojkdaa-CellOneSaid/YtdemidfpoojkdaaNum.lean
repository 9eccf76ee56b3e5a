/- Small facts on whole numbers, bits and wraps: no program in sight. -/
import Derived.WalkKit
import Derived.Laws.BitsAllLaws
namespace Go.Proofs.Ytdemidfpoojkdaa
open Go.RowKit

theorem and3 (a : Int) (h0 : 0 ≤ a) (h1 : a < 18446744073709551616) : bits .and .u64 a 3 = a % 4 := by
  rw [u64_and a 3 h0 h1 (by omega) (by omega)]
  have : a.toNat &&& (3 : Int).toNat = a.toNat % 4 := Nat.and_two_pow_sub_one_eq_mod a.toNat 2
  rw [this]; omega

theorem wrap64_id (a : Int) (h0 : -9223372036854775808 ≤ a) (h1 : a ≤ 9223372036854775807) : wrap64 a = a := IntWalk.wrap64_in a ⟨h0, h1⟩

theorem u64_wrap (a : Int) : IntKind.u64.wrap a = a % 18446744073709551616 := by
  simp [IntKind.wrap, IntKind.signed, IntKind.bits]

theorem or4 (v b : Int) (h2 : 0 ≤ b) (h3 : b < 4) :
    bits .or .u64 (IntKind.u64.wrap (v * 4)) b = 4 * (v % 4611686018427387904) + b := by
  rw [u64_wrap]
  have e : v * 4 % 18446744073709551616 = 4 * (v % 4611686018427387904) := by omega
  rw [e, u64_or _ b (by omega) (by omega) h2 (by omega)]
  have : (4 * (v % 4611686018427387904)).toNat = (v % 4611686018427387904).toNat <<< 2 := by
    rw [Nat.shiftLeft_eq]; omega
  rw [this, ← Nat.shiftLeft_add_eq_or_of_lt (by omega : b.toNat < 2 ^ 2), Nat.shiftLeft_eq]
  omega

theorem tmod_pos_cases (a n : Int) (hn : 0 < n) : a.tmod n = a % n ∨ (a.tmod n = a % n - n ∧ a % n ≠ 0) := by
  rw [Int.tmod_eq_emod]
  split
  · left; omega
  · rename_i h
    right
    refine ⟨by omega, fun h0 => h (.inr (Int.dvd_of_emod_eq_zero h0))⟩
end Go.Proofs.Ytdemidfpoojkdaa
