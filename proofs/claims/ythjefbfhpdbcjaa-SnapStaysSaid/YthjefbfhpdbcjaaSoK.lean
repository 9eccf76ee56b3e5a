/- slices.Sort of no elements; slices.Compact of a row that holds no number twice. -/
import Derived.Test.YthjefbfhpdbcjaaSoH
namespace Go.Proofs.Ythjefbfhpdbcjaa
open Go.RowKit
set_option linter.unusedVariables false
set_option linter.unusedSimpArgs false
set_option maxRecDepth 100000
set_option maxHeartbeats 1000000 in
theorem insertion_nil (A : Option Addr) (c : Nat) (w : World) :
    Calls Try.prog 22 #[.slice A 0 c, .int .i64 0, .int .i64 0] w fun e w' => e = .returned (.tuple #[]) ∧ w' = w := by
  go_enter Try.func22, Try.ntmps22
  go_wp2_with fail
  go_loopg [6] 1 (fun gh v6 wr => gh = 1 ∧ v6 = .int .i64 1 ∧ wr = w)
  case atStart => exact ⟨rfl, rfl, rfl⟩
  case round =>
    obtain ⟨rfl, rfl, rfl⟩ := hrel
    go_wp2_with fail
    (try simp only [Exit.inBlock, Exit.then]); exact ⟨rfl, _, results_none rfl _ _ _, rfl, rfl⟩
set_option maxHeartbeats 1000000 in
theorem pdq_nil (A : Option Addr) (c lim : Nat) (w : World) :
    Calls Try.prog 19 #[.slice A 0 c, .int .i64 0, .int .i64 0, .int .i64 lim] w fun e w' => e = .returned (.tuple #[]) ∧ w' = w := by
  have HI := Lib.hid (insertion_nil A c)
  go_enter Try.func19, Try.ntmps19
  go_wp2_with fail
  go_loopg [1, 2, 3, 8, 9] 1 (fun gh va vb vl v8 v9 wr => gh = 1 ∧ va = .int .i64 0 ∧ vb = .int .i64 0 ∧ vl = .int .i64 lim ∧ v8 = .bool true ∧ v9 = .bool true ∧ wr = w)
  case atStart => exact ⟨rfl, rfl, rfl, rfl, rfl, rfl, rfl⟩
  case round =>
    obtain ⟨rfl, rfl, rfl, rfl, rfl, rfl, rfl⟩ := hrel
    go_wp2_with fail
    refine (HI.out wr).mono ?_
    rintro e w5 ⟨rfl, hq⟩
    have HQ := Lib.hid hq; clear hq HI
    go_wp2_with fail
    (try simp only [Exit.inBlock, Exit.then]); refine bodyPost_ret (results_none rfl _ _ _) rfl ?_
    exact ⟨rfl, HQ.out⟩
set_option maxHeartbeats 1000000 in
theorem sort_nil (A : Option Addr) (c : Nat) (w : World) :
    Calls Try.prog 10 #[.slice A 0 c] w fun e w' => e = .returned (.tuple #[]) ∧ w' = w := by
  have HP := Lib.hid (pdq_nil A c)
  go_enter Try.func10, Try.ntmps10
  go_wp2_with (go_at_call 20; refine (bits_len _ _ (by omega) (by omega)).mono ?_; rintro e w1 ⟨rfl, hq⟩; rw [hq]; clear hq)
  refine (HP.out _ w).mono ?_
  rintro e w5 ⟨rfl, hq⟩
  have HQ := Lib.hid hq; clear hq HP
  go_wp2_with fail
  exact ⟨rfl, _, results_none rfl _ _ _, rfl, HQ.out⟩

theorem nodup_next {xs : List Int} (h : xs.Nodup) {k : Nat} (h1 : 1 ≤ k) (hk : k < xs.length) : (xs.getD k 0 == xs.getD (k - 1) 0) = false := by
  rw [List.getD_eq_getElem?_getD, List.getD_eq_getElem?_getD, List.getElem?_eq_getElem hk, List.getElem?_eq_getElem (by omega)]
  simp only [Option.getD_some, beq_eq_false_iff_ne]
  intro he
  have := List.pairwise_iff_getElem.1 h (k - 1) k (by omega) hk (by omega)
  exact this he.symm
set_option maxHeartbeats 1000000 in
theorem compact_ (A : Option Addr) (c : Nat) (xs : List Int) (w : World) (h : Sl .u64 w A c xs) (hn : xs.length ≤ 100000) (hd : xs.Nodup) :
    Calls Try.prog 12 #[.slice A xs.length c] w fun e w' => e = .returned (.slice A xs.length c) ∧ ∃ q, w' = w.drewN q := by
  have HD := Lib.hid hd; clear hd
  by_cases h2 : xs.length < 2
  · have h2' : (xs.length : Int) < 2 := by omega
    clear h
    go_enter Try.func12, Try.ntmps12
    go_wp2_with fail
    refine bodyPost_ret (v := .slice A xs.length c) (by simp [results, Try.results12, go_sem]) rfl ?_
    exact ⟨rfl, 0, rfl⟩
  · have h2' : ¬ (xs.length : Int) < 2 := by omega
    obtain ⟨b, off, rfl, hbs, hc⟩ := h.at_ (by omega)
    have HC := Lib.hid hc; clear hc h
    go_enter Try.func12, Try.ntmps12
    go_wp2_with fail
    go_loopg [3] (xs.length) (fun gh v3 wr => ∃ (k q : Nat), 1 ≤ k ∧ k ≤ xs.length ∧ gh = xs.length + 1 - k ∧ v3 = .int .i64 k ∧ Hid (wr = w.drewN q))
    case atStart => exact ⟨1, 0, Nat.le_refl _, by omega, by omega, rfl, Lib.hid rfl⟩
    case round =>
      obtain ⟨k, q, hk1, hk2, rfl, rfl, HW⟩ := hrel
      by_cases hlt : k < xs.length
      · have hw1 : IntKind.i64.wrap ((k : Int) - 1) = ((k - 1 : Nat) : Int) := by rw [IntKind.wrap_i64]; omega
        have hw2 : IntKind.i64.wrap ((k : Int) + 1) = ((k + 1 : Nat) : Int) := by rw [IntKind.wrap_i64]; omega
        have hlt' : (k : Int) < (xs.length : Int) := by omega
        have hlm : ((k - 1 : Nat) : Int) < (xs.length : Int) := by omega
        have c1 : wr.cell? ⟨b, off + k, none⟩ = some (.int .u64 (xs.getD k 0)) := by rw [HW.out]; exact HC.out k hlt
        have c2 : wr.cell? ⟨b, off + (k - 1), none⟩ = some (.int .u64 (xs.getD (k - 1) 0)) := by rw [HW.out]; exact HC.out (k - 1) (by omega)
        have he := nodup_next HD.out hk1 hlt
        generalize xs.getD k 0 = x at c1 he
        generalize xs.getD (k - 1) 0 = y at c2 he
        obtain ⟨k', hk'⟩ : ∃ k', k' = k - 1 := ⟨_, rfl⟩
        rw [← hk'] at hw1 hlm c2
        have hk'' : k' + 1 ≤ k := by omega
        clear hk'
        go_wp2_with fail
        go_region
        all_goals (
          go_wp2_with fail
          go_roundg (xs.length + 1 - (k + 1))
          case measure => omega
          case rel => exact ⟨k + 1, q + 1, by omega, by omega, rfl, by go_num, Lib.hid (by rw [HW.out]; exact World.drew_drewN _ _)⟩)
      · have hlt' : ¬ (k : Int) < (xs.length : Int) := by omega
        go_wp2_with fail
        (try simp only [Exit.inBlock, Exit.then]); refine bodyPost_ret (v := .slice (some ⟨b, off, none⟩) xs.length c) (by simp [results, Try.results12, go_sem]) rfl ?_
        exact ⟨rfl, q, HW.out⟩
end Go.Proofs.Ythjefbfhpdbcjaa
