/- slices.Clone of any row: at []bool, []hist.Event, []slots.Slot. -/
import Derived.Test.YtonfaojmphidpaaGreatDoorSlFn
namespace Go.Proofs.YtonfaojmphidpaaGreatDoor
open Go.RowKit
set_option linter.unusedVariables false
set_option linter.unusedSimpArgs false

theorem Tryz.infoB : (Tryz.prog.info? 4).map (fun i => (i.zero, i.size, i.bytes)) = some (some (.bool false), 1, 1) := by kernel_rfl
set_option maxHeartbeats 400000 in
theorem slices_Clone_bool (a : Option Addr) (n cap : Nat) (cs : List Value) (w : World) (h : Rd 1 w a n cap cs) (ho : ∀ u ∈ cs, u.oneCell' = true) (hl : n ≤ 1000000) :
    Calls Tryz.prog 76 #[.slice a n cap] w fun e w' => ∃ a' cap', e = .returned (.slice a' n cap') ∧ w'.ownsRow w.heap.size 4 1 (.slice a' n cap') n cs ∧ (a = none ↔ a' = none) ∧ Below w.heap.size w w' := by
  cases a with
  | none =>
    have h0 : cap = 0 := h.2.2.1 rfl
    have h1 : n = 0 := by have := h.2.1; omega
    have h2 : cs = [] := List.eq_nil_of_length_eq_zero (by rw [h.1, h1])
    subst h1 h2 h0
    clear h
    have hn := fun (x : World) => Lib.run_eql_slice_nil (P := Tryz.prog) x 22 4 none 0 0 0 0 Tryz.underlying22
    go_enter Tryz.func76, Tryz.ntmps76
    go_wp2
    go_ret
    exact ⟨none, 0, rfl, World.ownsRow_nil _ _ _ _, by simp, Below.refl _ _⟩
  | some ad =>
    have hn := fun (x : World) => Lib.run_eql_slice_nil (P := Tryz.prog) x 22 4 (some ad) n cap 0 0 Tryz.underlying22
    have HO := World.ownsRow_made (base := w.heap.size) (e := 4) (size := 1) w #[] 0 (Nat.le_refl _) (Nat.zero_le _) rfl
    have HS := Lib.hid (Rd.alloc h (.cells #[] 4)); clear h
    go_enter Tryz.func76, Tryz.ntmps76
    go_wp2_with (at_builtin; refine app_own _ rfl _ _ 22 rfl w.heap.size 4 (.bool false) 1 1 Tryz.underlying22 Tryz.infoB rfl (by decide) (.slice (some ⟨w.heap.size, 0, none⟩) 0 0) 0 [] rfl HO _ n cap cs rfl HS.out ho (by omega) (by omega) (by simp) ?_; intro A1 c1 w1 h2 h3 h4)
    go_ret
    simp only [Nat.zero_add, List.nil_append] at h2 h4
    refine ⟨A1, c1, by simp, h2, ⟨(fun h => by cases h), (fun h => by subst h; simp [Value.ownBlock] at h4)⟩, ((Below.refl w.heap.size w).alloc (Nat.le_refl _) _).grown h3 (by simp) (fun k hk => by simp [Value.ownBlock] at hk; omega)⟩

theorem Tryz.infoEv : (Tryz.prog.info? 108).map (fun i => (i.zero, i.size, i.bytes)) = some (some (.agg #[.int .u64 0, .int .i64 0, .int .i64 0, .int .i64 0, .int .u64 0, .int .i64 0]), 6, 48) := by kernel_rfl
set_option maxHeartbeats 400000 in
theorem slices_Clone_event (a : Option Addr) (n cap : Nat) (cs : List Value) (w : World) (h : Rd 6 w a n cap cs) (ho : ∀ u ∈ cs, u.oneCell' = true) (hl : n ≤ 1000000) :
    Calls Tryz.prog 93 #[.slice a n cap] w fun e w' => ∃ a' cap', e = .returned (.slice a' n cap') ∧ w'.ownsRow w.heap.size 108 6 (.slice a' n cap') n cs ∧ (a = none ↔ a' = none) ∧ Below w.heap.size w w' := by
  cases a with
  | none =>
    have h0 : cap = 0 := h.2.2.1 rfl
    have h1 : n = 0 := by have := h.2.1; omega
    have h2 : cs = [] := List.eq_nil_of_length_eq_zero (by rw [h.1, h1])
    subst h1 h2 h0
    clear h
    have hn := fun (x : World) => Lib.run_eql_slice_nil (P := Tryz.prog) x 106 108 none 0 0 0 0 Tryz.underlying106
    go_enter Tryz.func93, Tryz.ntmps93
    go_wp2
    go_ret
    exact ⟨none, 0, rfl, World.ownsRow_nil _ _ _ _, by simp, Below.refl _ _⟩
  | some ad =>
    have hn := fun (x : World) => Lib.run_eql_slice_nil (P := Tryz.prog) x 106 108 (some ad) n cap 0 0 Tryz.underlying106
    have HO := World.ownsRow_made (base := w.heap.size) (e := 108) (size := 6) w #[] 0 (Nat.le_refl _) (Nat.zero_le _) rfl
    have HS := Lib.hid (Rd.alloc h (.cells #[] 108)); clear h
    go_enter Tryz.func93, Tryz.ntmps93
    go_wp2_with (at_builtin; refine app_own _ rfl _ _ 106 rfl w.heap.size 108 (.agg #[.int .u64 0, .int .i64 0, .int .i64 0, .int .i64 0, .int .u64 0, .int .i64 0]) 6 48 Tryz.underlying106 Tryz.infoEv rfl (by decide) (.slice (some ⟨w.heap.size, 0, none⟩) 0 0) 0 [] rfl HO _ n cap cs rfl HS.out ho (by omega) (by omega) (by simp) ?_; intro A1 c1 w1 h2 h3 h4)
    go_ret
    simp only [Nat.zero_add, List.nil_append] at h2 h4
    refine ⟨A1, c1, by simp, h2, ⟨(fun h => by cases h), (fun h => by subst h; simp [Value.ownBlock] at h4)⟩, ((Below.refl w.heap.size w).alloc (Nat.le_refl _) _).grown h3 (by simp) (fun k hk => by simp [Value.ownBlock] at hk; omega)⟩

theorem Tryz.infoSlot : (Tryz.prog.info? 75).map (fun i => (i.zero, i.size, i.bytes)) = some (some (.agg #[.int .i64 0, .int .u64 0, .int .u64 0]), 3, 24) := by kernel_rfl
set_option maxHeartbeats 400000 in
theorem slices_Clone_slot (a : Option Addr) (n cap : Nat) (cs : List Value) (w : World) (h : Rd 3 w a n cap cs) (ho : ∀ u ∈ cs, u.oneCell' = true) (hl : n ≤ 1000000) :
    Calls Tryz.prog 56 #[.slice a n cap] w fun e w' => ∃ a' cap', e = .returned (.slice a' n cap') ∧ w'.ownsRow w.heap.size 75 3 (.slice a' n cap') n cs ∧ (a = none ↔ a' = none) ∧ Below w.heap.size w w' := by
  cases a with
  | none =>
    have h0 : cap = 0 := h.2.2.1 rfl
    have h1 : n = 0 := by have := h.2.1; omega
    have h2 : cs = [] := List.eq_nil_of_length_eq_zero (by rw [h.1, h1])
    subst h1 h2 h0
    clear h
    have hn := fun (x : World) => Lib.run_eql_slice_nil (P := Tryz.prog) x 60 75 none 0 0 0 0 Tryz.underlying60
    go_enter Tryz.func56, Tryz.ntmps56
    go_wp2
    go_ret
    exact ⟨none, 0, rfl, World.ownsRow_nil _ _ _ _, by simp, Below.refl _ _⟩
  | some ad =>
    have hn := fun (x : World) => Lib.run_eql_slice_nil (P := Tryz.prog) x 60 75 (some ad) n cap 0 0 Tryz.underlying60
    have HO := World.ownsRow_made (base := w.heap.size) (e := 75) (size := 3) w #[] 0 (Nat.le_refl _) (Nat.zero_le _) rfl
    have HS := Lib.hid (Rd.alloc h (.cells #[] 75)); clear h
    go_enter Tryz.func56, Tryz.ntmps56
    go_wp2_with (at_builtin; refine app_own _ rfl _ _ 60 rfl w.heap.size 75 (.agg #[.int .i64 0, .int .u64 0, .int .u64 0]) 3 24 Tryz.underlying60 Tryz.infoSlot rfl (by decide) (.slice (some ⟨w.heap.size, 0, none⟩) 0 0) 0 [] rfl HO _ n cap cs rfl HS.out ho (by omega) (by omega) (by simp) ?_; intro A1 c1 w1 h2 h3 h4)
    go_ret
    simp only [Nat.zero_add, List.nil_append] at h2 h4
    refine ⟨A1, c1, by simp, h2, ⟨(fun h => by cases h), (fun h => by subst h; simp [Value.ownBlock] at h4)⟩, ((Below.refl w.heap.size w).alloc (Nat.le_refl _) _).grown h3 (by simp) (fun k hk => by simp [Value.ownBlock] at hk; omega)⟩

end Go.Proofs.YtonfaojmphidpaaGreatDoor
