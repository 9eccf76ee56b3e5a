/- A row of turns: what comes in n times is each of n once. No program in sight. -/
import Derived.Test.YtkaegjlmnciloaaGreatPicks3
namespace Go.Proofs.YtkaegjlmnciloaaGreat
set_option linter.unusedVariables false
theorem turnF_perm (f : Int) (k : Nat) (hk : 1 ≤ k) : ((List.range k).map fun (i : Nat) => ((f + (i : Int)) % (k : Int))).Perm ((List.range k).map fun (i : Nat) => (i : Int)) := by
  have hk0 : (k : Int) ≠ 0 := by omega
  have hkp : (0 : Int) < k := by omega
  have key : ∀ i j : Nat, i < k → j < k → (f + (i : Int)) % (k : Int) = (f + (j : Int)) % (k : Int) → i = j := by
    intro i j hi hj h
    have h1 := Int.emod_emod_of_dvd (f + i) (Int.dvd_refl (k : Int))
    have h2 : ((f + (i : Int)) - (f + (j : Int))) % (k : Int) = 0 := by
      rw [Int.sub_emod, h]; simp
    have h3 : (k : Int) ∣ ((i : Int) - (j : Int)) := by
      have := Int.dvd_of_emod_eq_zero h2
      rwa [show (f + (i : Int)) - (f + (j : Int)) = (i : Int) - (j : Int) by omega] at this
    obtain ⟨c, hc⟩ := h3
    have hc0 : c = 0 := by
      rcases Int.lt_trichotomy c 0 with h | h | h
      · have : (k : Int) * c ≤ (k : Int) * (-1) := Int.mul_le_mul_of_nonneg_left (by omega) (by omega)
        omega
      · exact h
      · have : (k : Int) * 1 ≤ (k : Int) * c := Int.mul_le_mul_of_nonneg_left (by omega) (by omega)
        omega
    subst hc0; omega
  refine (List.perm_ext_iff_of_nodup ?_ ?_).2 fun x => ?_
  · rw [List.Nodup, List.pairwise_map]
    refine List.Pairwise.imp_of_mem ?_ (List.nodup_range (n := k))
    intro i j hi hj hne h
    exact hne (key i j (List.mem_range.1 hi) (List.mem_range.1 hj) h)
  · rw [List.Nodup, List.pairwise_map]
    exact List.Pairwise.imp (fun h => by omega) (List.nodup_range (n := k))
  · rw [List.mem_map, List.mem_map]
    constructor
    · rintro ⟨i, hi, rfl⟩
      have h1 := Int.emod_nonneg (f + i) hk0
      have h2 := Int.emod_lt_of_pos (f + i) hkp
      exact ⟨((f + i) % k).toNat, List.mem_range.2 (by omega), by omega⟩
    · rintro ⟨i, hi, rfl⟩
      have hi := List.mem_range.1 hi
      have h1 := Int.emod_nonneg ((i : Int) - f) hk0
      have h2 := Int.emod_lt_of_pos ((i : Int) - f) hkp
      refine ⟨(((i : Int) - f) % k).toNat, List.mem_range.2 (by omega), ?_⟩
      rw [Int.toNat_of_nonneg h1, Int.add_emod, Int.emod_emod_of_dvd _ (Int.dvd_refl (k : Int)), ← Int.add_emod, show f + ((i : Int) - f) = i by omega]
      exact Int.emod_eq_of_lt (by omega) (by omega)
theorem sorted_range (F : List Int) (k : Nat) (hp : F.Perm ((List.range k).map fun (i : Nat) => (i : Int))) : F.mergeSort (fun x y => decide (x ≤ y)) = (List.range k).map fun (i : Nat) => (i : Int) := by
  refine List.Perm.eq_of_pairwise (le := fun x y => x ≤ y) (fun a b _ _ h1 h2 => by omega) ?_ ?_ ((List.mergeSort_perm _ _).trans hp)
  · have := List.pairwise_mergeSort (le := fun x y : Int => decide (x ≤ y)) (fun a b c h1 h2 => by simp at *; omega) (fun a b => by simp; omega) F
    exact this.imp (fun h => by simpa using h)
  · rw [List.pairwise_map]
    exact List.Pairwise.imp (fun h => by omega) (List.pairwise_lt_range (n := k))
end Go.Proofs.YtkaegjlmnciloaaGreat
