/- cmp's functions at uint64 and int. -/
import Derived.Test.YtonfaojmphidpaaGreatDoorSl
namespace Go.Proofs.YtonfaojmphidpaaGreatDoor
open Go.RowKit
set_option linter.unusedVariables false
set_option linter.unusedSimpArgs false

def cmpI (x y : Int) : Int := if x < y then -1 else if y < x then 1 else 0
set_option maxHeartbeats 400000 in
theorem cmp_Compare_u64 (x y : Int) (w : World) :
    Calls Tryz.prog 183 #[.int .u64 x, .int .u64 y] w fun e w' => e = .returned (.int .i64 (cmpI x y)) ∧ w = w' := by
  have key : ∀ c : Int, cmpI x y = c → (Calls Tryz.prog 183 #[.int .u64 x, .int .u64 y] w fun e w' => e = .returned (.int .i64 c) ∧ w = w') → Calls Tryz.prog 183 #[.int .u64 x, .int .u64 y] w fun e w' => e = .returned (.int .i64 (cmpI x y)) ∧ w = w' := fun c hc h => hc ▸ h
  by_cases h1 : x < y
  · refine key (-1) (by simp [cmpI, h1]) ?_; clear key
    go_enter Tryz.func183, Tryz.ntmps183
    go_wp2
    go_ret
    exact ⟨rfl, rfl⟩
  · by_cases h2 : y < x
    · refine key 1 (by simp [cmpI, h1, h2]) ?_; clear key
      go_enter Tryz.func183, Tryz.ntmps183
      go_wp2
      go_ret
      exact ⟨rfl, rfl⟩
    · refine key 0 (by simp [cmpI, h1, h2]) ?_; clear key
      go_enter Tryz.func183, Tryz.ntmps183
      go_wp2
      go_ret
      exact ⟨rfl, rfl⟩
def orI (xs : List Int) : Int := (xs.find? (· != 0)).getD 0
theorem orI_two (a b : Int) : orI [a, b] = if a = 0 then b else a := by
  unfold orI
  by_cases h : a = 0
  · subst h; by_cases h' : b = 0 <;> simp [h']
  · simp [h]
set_option maxHeartbeats 400000 in
theorem cmp_Or_int (a : Option Addr) (cap : Nat) (xs : List Int) (w : World) (h : Sl .i64 w a cap xs) (hl : xs.length ≤ 1000000) :
    Calls Tryz.prog 182 #[.slice a xs.length cap] w fun e w' => e = .returned (.int .i64 (orI xs)) ∧ w = w' := by
  go_enter Tryz.func182, Tryz.ntmps182
  go_wp2
  go_loop [8] (fun i => ∃ k : Nat, k ≤ xs.length ∧ i = .int .i64 k ∧ ∀ j, j < k → xs.getD j 0 = 0) (fun i => xs.length - (intOf i).toNat)
  case atStart => exact ⟨0, by omega, rfl, fun j hj => absurd hj (by omega)⟩
  case round =>
    obtain ⟨k, hk, rfl, hno⟩ := hrel
    have HN := Lib.hid hno; clear hno
    by_cases hlt : k < xs.length
    · obtain ⟨b, off, rfl, hbs, hc⟩ := h.at_ (by omega)
      have c0 := hc k hlt
      clear hc
      by_cases hx : xs.getD k 0 = 0
      · rw [hx] at c0
        have HX := Lib.hid hx; clear hx
        go_wp2
        go_round
        case rel => exact ⟨k + 1, by omega, by go_num, fun j hj => by
          by_cases e : j = k
          · subst e; exact HX.out
          · exact HN.out j (by omega)⟩
        case measure => simp [intOf]; omega
      · have hx' : (xs.getD k 0 != 0) = true := by simpa using hx
        have HX := Lib.hid hx; clear hx
        generalize hxx : xs.getD k 0 = x at c0 hx'
        have HXX := Lib.hid hxx; clear hxx
        go_wp2
        go_ret
        refine ⟨ret_int ?_, rfl⟩
        have : xs.find? (· != 0) = some x := by
          rw [List.find?_eq_some_iff_getElem]
          refine ⟨hx', k, hlt, by have := HXX.out; simpa [List.getD_eq_getElem?_getD, hlt] using this, fun j hj => ?_⟩
          have := HN.out j hj
          simp [List.getD_eq_getElem?_getD, show j < xs.length by omega] at this
          simp [this]
        simp only [orI, this]; rfl
    · go_wp2
      go_ret
      refine ⟨ret_int ?_, rfl⟩
      have : xs.find? (· != 0) = none := by
        rw [List.find?_eq_none]
        intro x hx
        obtain ⟨j, hj, rfl⟩ := List.mem_iff_getElem.1 hx
        have := HN.out j (by omega)
        simp [List.getD_eq_getElem?_getD, hj] at this
        simp [this]
      simp only [orI, this]; rfl
end Go.Proofs.YtonfaojmphidpaaGreatDoor
