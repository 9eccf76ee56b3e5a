/- slices.Sort of a row of one's own permutes it; nothing else is turned. -/
import Derived.Test.YthjefbfhpdbcjaaSnC
import Derived.Test.YthjefbfhpdbcjaaSoJ
namespace Go.Proofs.Ythjefbfhpdbcjaa
open Go.RowKit
set_option linter.unusedVariables false
set_option linter.unusedSimpArgs false
theorem sort_own (base : Nat) (A : Option Addr) (c : Nat) (xs : List Int) (w : World) (hn : xs.length ≤ 100000) (hbs : base ≤ w.heap.size)
    (ho : w.ownsRow base 31 1 (.slice A xs.length c) xs.length (nums .u64 xs)) :
    Calls Try.prog 10 #[.slice A xs.length c] w fun e w' => e = .returned (.tuple #[]) ∧ ∃ ys, ys.Perm xs ∧ Sl .u64 w' A c ys ∧ RowKit.Below base w w' := by
  cases hx : xs with
  | nil =>
    subst hx
    refine (sort_nil A c w).mono ?_
    rintro e w' ⟨rfl, rfl⟩
    exact ⟨rfl, [], List.Perm.refl _, own_rd ho, RowKit.Below.refl _ _⟩
  | cons x xt =>
    rw [← hx]
    obtain ⟨g, cur, rfl, hg, hk, hs, hn1, hn2, hc⟩ := own_at ho (by rw [hx]; simp)
    have hcur : cur = (nums .u64 xs ++ cur.toList.drop xs.length).toArray := by
      apply Array.ext'
      rw [List.toList_toArray]
      apply List.ext_getElem?
      intro j
      rw [Array.getElem?_toList]
      by_cases hj : j < xs.length
      · rw [hc j (by omega), List.getElem?_append_left (by simpa [nums] using hj)]
      · rw [List.getElem?_append_right (by simp [nums]; omega), List.getElem?_drop, Array.getElem?_toList, nums_length]
        congr 1; omega
    generalize hr : cur.toList.drop xs.length = rest at hcur
    have hrl : rest.length = c - xs.length := by rw [← hr]; simp [hs]
    refine (sort_ g c rest xs w hn (hcur ▸ hk)).mono ?_
    rintro e w' ⟨rfl, ys, hd⟩
    refine ⟨rfl, ys, hd.perm, ?_, ?_⟩
    · have hyl := hd.len
      exact blk_sl hd.blk (by simp [nums, hrl]; omega) (by omega) (fun j hj => by
        rw [List.getElem?_toArray, List.getElem?_append_left (by simpa [nums] using hj), nums_get hj])
    · exact hd.gr.below (RowKit.Below.refl _ _) (fun k _ hk => by omega) hbs
end Go.Proofs.Ythjefbfhpdbcjaa
