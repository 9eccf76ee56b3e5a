/- The contracts of package word and of hackneyref01: what each function of layer 1 returns, the world left alone. -/
import Derived.Test.YtdemidfpoojkdaaProg
import Derived.WalkKit
import Derived.WalkSpells
import Derived.WalkLawsBesides
import Derived.Test.YtdemidfpoojkdaaNum
namespace Go.Proofs.Ytdemidfpoojkdaa
open Go.RowKit
set_option linter.unusedVariables false

def wOf (s v : Int) : Int := 4 * (v % 4611686018427387904) + s % 4
def wMay (f t : Int) : Bool := (f == 0 && (t == 1 || t == 2)) || (f == 1 && (t == 0 || t == 3)) || (f == 2 && (t == 0 || t == 1 || t == 3))
def wTo (w t : Int) : Int := if wMay (w % 4) t then wOf t (w / 4 + 1) else w
theorem wOf_range (s v : Int) : 0 ≤ wOf s v ∧ wOf s v < 18446744073709551616 := by unfold wOf; omega
theorem wTo_range (w t : Int) (h0 : 0 ≤ w) (h1 : w < 18446744073709551616) : 0 ≤ wTo w t ∧ wTo w t < 18446744073709551616 := by
  unfold wTo; split
  · exact wOf_range _ _
  · exact ⟨h0, h1⟩

theorem ret_u64 {k : IntKind} {a b : Int} (h : a = b) : Ending.returned (.int k a) = .returned (.int k b) := by rw [h]

set_option maxHeartbeats 400000 in
theorem word_State (a : Int) (w : World) (h0 : 0 ≤ a) (h1 : a < 18446744073709551616) :
    Calls Try.prog 32 #[.int .u64 a] w fun e w' => e = .returned (.int .i64 (a % 4)) ∧ w = w' := by
  have h := and3 a h0 h1
  go_enter Try.func32, Try.ntmps32
  go_wp2
  go_ret
  exact ⟨rfl, rfl⟩

set_option maxHeartbeats 400000 in
theorem word_Version (a : Int) (w : World) (h0 : 0 ≤ a) (h1 : a < 18446744073709551616) :
    Calls Try.prog 34 #[.int .u64 a] w fun e w' => e = .returned (.int .u64 (a / 4)) ∧ w = w' := by
  go_enter Try.func34, Try.ntmps34
  go_wp2
  go_ret
  exact ⟨rfl, rfl⟩

set_option maxHeartbeats 400000 in
theorem word_Of (s v : Int) (w : World) (h0 : 0 ≤ v) (h1 : v < 18446744073709551616) :
    Calls Try.prog 33 #[.int .i64 s, .int .u64 v] w fun e w' => e = .returned (.int .u64 (wOf s v)) ∧ w = w' := by
  go_enter Try.func33, Try.ntmps33
  go_wp2
  go_ret
  refine ⟨ret_u64 ?_, rfl⟩
  rw [and3 _ (by rw [u64_wrap]; omega) (by rw [u64_wrap]; omega), or4 _ _ (by omega) (by omega), u64_wrap]
  unfold wOf; omega

set_option maxHeartbeats 400000 in
theorem word_May (s t : Int) (w : World) :
    Calls Try.prog 31 #[.int .i64 s, .int .i64 t] w fun e w' => e = .returned (.bool (wMay s t)) ∧ w = w' := by
  go_enter Try.func31, Try.ntmps31
  go_wp2
  all_goals (go_ret; exact ⟨congrArg Ending.returned (congrArg Value.bool (by simp_all [wMay])), rfl⟩)

set_option maxHeartbeats 400000 in
theorem word_To (a s : Int) (w : World) (h0 : 0 ≤ a) (h1 : a < 18446744073709551616) :
    Calls Try.prog 11 #[.int .u64 a, .int .i64 s] w fun e w' => e = .returned (.tuple #[.int .u64 (wTo a s), .bool (wMay (a % 4) s)]) ∧ w = w' := by
  by_cases hm : wMay (a % 4) s = true
  · go_enter Try.func11, Try.ntmps11
    go_wp2_with (first | (go_at_call 32; refine (word_State _ _ h0 h1).mono ?_; rintro e w' ⟨rfl, rfl⟩) | (go_at_call 31; refine (word_May _ _ _).mono ?_; rintro e w' ⟨rfl, rfl⟩) | (go_at_call 34; refine (word_Version _ _ h0 h1).mono ?_; rintro e w' ⟨rfl, rfl⟩) | (go_at_call 33; refine (word_Of _ _ _ (by omega) (by omega)).mono ?_; rintro e w' ⟨rfl, rfl⟩))
    go_ret2
    exact ⟨by simp [wTo, hm], rfl⟩
  · have hm : wMay (a % 4) s = false := by simpa using hm
    go_enter Try.func11, Try.ntmps11
    go_wp2_with (first | (go_at_call 32; refine (word_State _ _ h0 h1).mono ?_; rintro e w' ⟨rfl, rfl⟩) | (go_at_call 31; refine (word_May _ _ _).mono ?_; rintro e w' ⟨rfl, rfl⟩))
    go_ret2
    exact ⟨by simp [wTo, hm], rfl⟩

def wName (s : Int) : ByteArray :=
  if s == 0 then ⟨#[102, 114, 101, 101]⟩ else if s == 1 then ⟨#[105, 110, 117, 115, 101]⟩ else if s == 2 then ⟨#[114, 101, 115, 101, 114, 118, 101, 100]⟩
  else if s == 3 then ⟨#[114, 101, 109, 111, 118, 101, 100]⟩ else ⟨#[]⟩
set_option maxHeartbeats 400000 in
theorem law01_awake (w : World) :
    Calls Try.prog 36 #[] w fun e w' => e = .returned (.bool true) ∧ w = w' := by
  have e1 : wOf 0 5 = 20 := by decide
  have e2 : wTo 20 1 = 25 := by decide
  have e3 : wMay (20 % 4) 1 = true := by decide
  go_enter Try.func36, Try.ntmps36
  go_wp2_with (first | (go_at_call 33; refine (word_Of _ _ _ (by omega) (by omega)).mono ?_; rintro e w' ⟨rfl, rfl⟩) | (go_at_call 11; refine (word_To _ _ _ (by omega) (by omega)).mono ?_; rintro e w' ⟨rfl, rfl⟩))
  go_ret
  exact ⟨rfl, rfl⟩
end Go.Proofs.Ytdemidfpoojkdaa
