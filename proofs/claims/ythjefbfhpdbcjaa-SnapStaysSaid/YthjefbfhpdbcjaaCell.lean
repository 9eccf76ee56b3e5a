/- The contracts of package cell: a block of one cell that holds the word. -/
import Derived.Test.YthjefbfhpdbcjaaWord
import Derived.Laws.LoneSync
import Derived.Test.YthjefbfhpdbcjaaMem
namespace Go.Proofs.Ythjefbfhpdbcjaa
open Go.RowKit
set_option linter.unusedVariables false

set_option maxHeartbeats 400000 in
theorem atomic_Store (b : Nat) (u v : Int) (w : World) (hc : w.cell? ⟨b, 0, none⟩ = some (.int .u64 u)) (hf : w.frozen? ⟨b, 0, none⟩ = false) :
    Calls Try.prog 42 #[.pointer (some ⟨b, 0, none⟩), .int .u64 v] w fun e w' => e = .returned (.tuple #[]) ∧ w.setCell ⟨b, 0, none⟩ (.int .u64 v) = w' := by
  have hcas := run_call_store (P := Try.prog) Try.func48 (by kernel_rfl) (by kernel_rfl) (by kernel_rfl) (by kernel_rfl) (k := .u64) (y := v) hc hf
  go_enter Try.func42, Try.ntmps42
  go_wp2
  go_end0
  exact ⟨rfl, rfl⟩
set_option maxHeartbeats 400000 in
theorem atomic_Load (b : Nat) (u : Int) (w : World) (hc : w.cell? ⟨b, 0, none⟩ = some (.int .u64 u)) :
    Calls Try.prog 54 #[.pointer (some ⟨b, 0, none⟩)] w fun e w' => e = .returned (.int .u64 u) ∧ w = w' := by
  have hcas := run_call_load (P := Try.prog) Try.func55 (by kernel_rfl) (by kernel_rfl) (by kernel_rfl) .u64 (by kernel_rfl) hc
  go_enter Try.func54, Try.ntmps54
  go_wp2
  go_ret
  exact ⟨rfl, rfl⟩
set_option maxHeartbeats 400000 in
theorem atomic_Cas_hit (b : Nat) (u v : Int) (w : World) (hc : w.cell? ⟨b, 0, none⟩ = some (.int .u64 u)) (hf : w.frozen? ⟨b, 0, none⟩ = false) :
    Calls Try.prog 44 #[.pointer (some ⟨b, 0, none⟩), .int .u64 u, .int .u64 v] w fun e w' => e = .returned (.bool true) ∧ w.setCell ⟨b, 0, none⟩ (.int .u64 v) = w' := by
  have hcas := run_call_cas_hit (P := Try.prog) Try.func53 (by kernel_rfl) (by kernel_rfl) (by kernel_rfl) .u64 (by kernel_rfl) (y := v) hc hf
  go_enter Try.func44, Try.ntmps44
  go_wp2
  go_ret
  exact ⟨rfl, rfl⟩
set_option maxHeartbeats 400000 in
theorem atomic_Cas_miss (b : Nat) (u o v : Int) (w : World) (hc : w.cell? ⟨b, 0, none⟩ = some (.int .u64 u)) (hf : w.frozen? ⟨b, 0, none⟩ = false) (hne : ¬ u = o) :
    Calls Try.prog 44 #[.pointer (some ⟨b, 0, none⟩), .int .u64 o, .int .u64 v] w fun e w' => e = .returned (.bool false) ∧ w = w' := by
  have hcas := run_call_cas_miss (P := Try.prog) Try.func53 (by kernel_rfl) (by kernel_rfl) (by kernel_rfl) .u64 (by kernel_rfl) (o := o) (y := v) hc hf hne
  go_enter Try.func44, Try.ntmps44
  go_wp2
  go_ret
  exact ⟨rfl, rfl⟩

/-- Block b is a cell that holds v. -/
def IsCell (w : World) (b : Nat) (v : Int) : Prop := w.cell? ⟨b, 0, none⟩ = some (.int .u64 v) ∧ w.frozen? ⟨b, 0, none⟩ = false

set_option maxHeartbeats 400000 in
theorem cell_New (v : Int) (w : World) :
    Calls Try.prog 33 #[.int .u64 v] w fun e w' => e = .returned (.pointer (some ⟨w.heap.size, 0, none⟩)) ∧ w.alloc (.cells #[.int .u64 v] 75) = w' := by
  go_enter Try.func33, Try.ntmps33
  go_wp2_with (first | (go_at_call 42; refine (atomic_Store _ 0 _ _ (by simp) (by simp)).mono ?_; rintro e w' ⟨rfl, rfl⟩))
  go_ret
  exact ⟨rfl, rfl⟩
set_option maxHeartbeats 400000 in
theorem cell_Load (b : Nat) (v : Int) (w : World) (hc : IsCell w b v) :
    Calls Try.prog 45 #[.pointer (some ⟨b, 0, none⟩)] w fun e w' => e = .returned (.int .u64 v) ∧ w = w' := by
  go_enter Try.func45, Try.ntmps45
  go_wp2_with (first | (go_at_call 54; refine (atomic_Load _ _ _ hc.1).mono ?_; rintro e w' ⟨rfl, rfl⟩))
  go_ret
  exact ⟨rfl, rfl⟩
set_option maxHeartbeats 400000 in
theorem cell_Load_nil (w : World) :
    Calls Try.prog 45 #[.pointer none] w fun e w' => e = .returned (.int .u64 0) ∧ w = w' := by
  go_enter Try.func45, Try.ntmps45
  go_wp2
  go_ret
  exact ⟨rfl, rfl⟩
set_option maxHeartbeats 400000 in
theorem cell_Swap_nil (o s : Int) (w : World) (h0 : 0 ≤ o) (h1 : o < 18446744073709551616) :
    Calls Try.prog 34 #[.pointer none, .int .u64 o, .int .i64 s] w fun e w' => e = .returned (.tuple #[.int .u64 0, .bool false]) ∧ w = w' := by
  go_enter Try.func34, Try.ntmps34
  go_wp2_with (first | (go_at_call 43; refine (word_To _ _ _ h0 h1).mono ?_; rintro e w' ⟨rfl, rfl⟩) | (go_at_call 45; refine (cell_Load_nil _).mono ?_; rintro e w' ⟨rfl, rfl⟩))
  go_ret2
  exact ⟨rfl, rfl⟩
set_option maxHeartbeats 400000 in
theorem cell_Swap_hit (b : Nat) (o s : Int) (w : World) (hc : IsCell w b o) (h0 : 0 ≤ o) (h1 : o < 18446744073709551616) (hm : wMay (o % 4) s = true) :
    Calls Try.prog 34 #[.pointer (some ⟨b, 0, none⟩), .int .u64 o, .int .i64 s] w fun e w' => e = .returned (.tuple #[.int .u64 (wTo o s), .bool true]) ∧ w.setCell ⟨b, 0, none⟩ (.int .u64 (wTo o s)) = w' := by
  go_enter Try.func34, Try.ntmps34
  go_wp2_with (first | (go_at_call 43; refine (word_To _ _ _ h0 h1).mono ?_; rintro e w' ⟨rfl, rfl⟩) | (go_at_call 44; refine (atomic_Cas_hit _ _ _ _ hc.1 hc.2).mono ?_; rintro e w' ⟨rfl, rfl⟩))
  go_ret2
  exact ⟨rfl, rfl⟩
set_option maxHeartbeats 400000 in
theorem cell_Swap_miss (b : Nat) (v o s : Int) (w : World) (hc : IsCell w b v) (h0 : 0 ≤ o) (h1 : o < 18446744073709551616) (hne : ¬ (v = o ∧ wMay (o % 4) s = true)) :
    Calls Try.prog 34 #[.pointer (some ⟨b, 0, none⟩), .int .u64 o, .int .i64 s] w fun e w' => e = .returned (.tuple #[.int .u64 v, .bool false]) ∧ w = w' := by
  by_cases hm : wMay (o % 4) s = true
  · have hv : ¬ v = o := fun h => hne ⟨h, hm⟩
    clear hne
    go_enter Try.func34, Try.ntmps34
    go_wp2_with (first | (go_at_call 43; refine (word_To _ _ _ h0 h1).mono ?_; rintro e w' ⟨rfl, rfl⟩) | (go_at_call 44; refine (atomic_Cas_miss _ _ _ _ _ hc.1 hc.2 hv).mono ?_; rintro e w' ⟨rfl, rfl⟩) | (go_at_call 45; refine (cell_Load _ _ _ hc).mono ?_; rintro e w' ⟨rfl, rfl⟩))
    go_ret2
    exact ⟨rfl, rfl⟩
  · have hm : wMay (o % 4) s = false := by simpa using hm
    clear hne
    go_enter Try.func34, Try.ntmps34
    go_wp2_with (first | (go_at_call 43; refine (word_To _ _ _ h0 h1).mono ?_; rintro e w' ⟨rfl, rfl⟩) | (go_at_call 45; refine (cell_Load _ _ _ hc).mono ?_; rintro e w' ⟨rfl, rfl⟩))
    go_ret2
    exact ⟨rfl, rfl⟩

def cOk (d o s : Int) : Bool := d == o && wMay (o % 4) s
def cSwap (d o s : Int) : Int := if cOk d o s then wTo o s else d
theorem cSwap_range {d o s : Int} (h0 : 0 ≤ o) (h1 : o < 18446744073709551616) (h2 : 0 ≤ d) (h3 : d < 18446744073709551616) : 0 ≤ cSwap d o s ∧ cSwap d o s < 18446744073709551616 := by
  unfold cSwap; split
  · exact wTo_range _ _ h0 h1
  · exact ⟨h2, h3⟩
theorem modify_id {α : Type} (a : Array α) (i : Nat) (f : α → α) (h : ∀ x, a[i]? = some x → f x = x) : a.modify i f = a := by
  apply Array.ext_getElem?
  intro j
  rw [Array.getElem?_modify]
  split
  · rename_i e; subst e
    cases hx : a[i]? with
    | none => rfl
    | some x => simp [h x hx]
  · rfl
theorem setCell_id {w : World} {a : Addr} {v : Value} (h : w.cell? a = some v) : w.setCell a v = w := by
  have : (w.setCell a v).heap = w.heap := by
    simp only [World.setCell]
    apply modify_id
    intro x hx
    unfold World.cell? at h
    rw [hx] at h
    cases x with
    | cells c e f =>
      simp only at h ⊢
      by_cases hs : a.spot.isSome = true
      · simp [hs] at h
      · simp only [hs, Bool.false_eq_true, if_false] at h ⊢
        congr 1
        apply Array.ext_getElem?
        intro j
        rw [Array.getElem?_setIfInBounds]
        split
        · rename_i e; subst e
          split
          · simpa using h.symm
          · rename_i hn; simp [Array.getElem?_eq_none (Nat.le_of_not_lt hn)]
        · rfl
    | _ => rfl
  unfold World.setCell at this ⊢
  cases w; simp_all
theorem Blk.isCell {w : World} {b : Nat} {v : Int} (h : Blk w b 75 #[.int .u64 v]) : IsCell w b v := ⟨by rw [h.cell]; rfl, h.frozen 0⟩
theorem IsCell.set {w : World} {b : Nat} {v : Int} (h : IsCell w b v) (u : Int) : IsCell (w.setCell ⟨b, 0, none⟩ (.int .u64 u)) b u := by
  refine ⟨?_, ?_⟩
  · exact World.cell?_setCell_same' _ _ _ (by rw [h.1]; rfl)
  · rw [World.frozen?_setCell]; exact h.2
theorem cell_Swap (b : Nat) (v o s : Int) (w : World) (hc : IsCell w b v) (h0 : 0 ≤ o) (h1 : o < 18446744073709551616) :
    Calls Try.prog 34 #[.pointer (some ⟨b, 0, none⟩), .int .u64 o, .int .i64 s] w fun e w' => e = .returned (.tuple #[.int .u64 (cSwap v o s), .bool (cOk v o s)]) ∧ w.setCell ⟨b, 0, none⟩ (.int .u64 (cSwap v o s)) = w' := by
  by_cases h : cOk v o s = true
  · have h' := h
    simp only [cOk, Bool.and_eq_true, beq_iff_eq] at h'
    obtain ⟨e0, hm⟩ := h'
    subst e0
    refine (cell_Swap_hit b v s w hc h0 h1 hm).mono fun e w' ⟨he, hw⟩ => ?_
    have e1 : cSwap v v s = wTo v s := by simp [cSwap, h]
    rw [e1, h]
    exact ⟨he, hw⟩
  · have h' : ¬ (v = o ∧ wMay (o % 4) s = true) := by simpa [cOk] using h
    refine (cell_Swap_miss b v o s w hc h0 h1 h').mono fun e w' ⟨he, hw⟩ => ?_
    have e1 : cSwap v o s = v := by simp [cSwap, h]
    simp only [Bool.not_eq_true] at h
    rw [e1, h, setCell_id hc.1]
    exact ⟨he, hw⟩

set_option maxHeartbeats 400000 in
theorem law02_awake (w : World) :
    Calls Try.prog 21 #[] w fun e w' => e = .returned (.bool true) ∧ Below w.heap.size w w' := by
  have e1 : cSwap 20 20 1 = 25 := by decide
  have e2 : cOk 20 20 1 = true := by decide
  have e3 : cSwap 25 20 1 = 25 := by decide
  have e4 : cOk 25 20 1 = false := by decide
  have hcell : ∀ (W : World) (v : Int), IsCell (W.alloc (.cells #[.int .u64 v] 75)) W.heap.size v := fun W v => ⟨by simp, by simp⟩
  go_enter Try.func21, Try.ntmps21
  go_wp2_with (first | (go_at_call 33; refine (cell_New _ _).mono ?_; rintro e w' ⟨rfl, rfl⟩) | (go_at_call 34; refine (cell_Swap _ _ _ _ _ (hcell _ _) (by omega) (by omega)).mono ?_; rintro e w' ⟨rfl, rfl⟩) | (go_at_call 35; go_in) | (go_at_call 46; refine (law01_awake _).mono ?_; rintro e w' ⟨rfl, rfl⟩))
  go_ret
  exact ⟨rfl, (Below.refl _ _).alloc (Nat.le_refl _) _⟩
set_option maxHeartbeats 400000 in
theorem law02_Awake (w : World) :
    Calls Try.prog 14 #[] w fun e w' => e = .returned (.bool true) ∧ Below w.heap.size w w' := by
  go_enter Try.func14, Try.ntmps14
  go_wp2_with (first | (go_at_call 21; refine (law02_awake _).mono ?_; rintro e w' ⟨rfl, hb⟩))
  go_ret
  exact ⟨rfl, hb⟩
end Go.Proofs.Ythjefbfhpdbcjaa
