/- slices.Sort permutes; slices.Compact of a row that holds no number twice. -/
import Derived.Test.YthjefbfhpdbcjaaSoI
import Derived.Sort.WalkA14
namespace Go.Proofs.Ythjefbfhpdbcjaa
open Go.RowKit
set_option linter.unusedVariables false
set_option linter.unusedSimpArgs false
set_option maxRecDepth 100000
set_option maxHeartbeats 1000000 in
theorem sort_ (g c : Nat) (rest : List Value) (xs : List Int) (w : World) (hn : xs.length ≤ 100000) (hb : Blk w g 31 (nums .u64 xs ++ rest).toArray) :
    Calls Try.prog 10 #[.slice (some ⟨g, 0, none⟩) xs.length c] w fun e w' => e = .returned (.tuple #[]) ∧ So .u64 31 w g rest xs w' := by
  obtain ⟨n, hn'⟩ : ∃ n, n = xs.length := ⟨_, rfl⟩
  have hk : Lib.bitLen (n : Int).toNat ≤ 64 := by
    rw [Int.toNat_natCast, Go.Proofs.bitLen_eq _ (by omega)]
    exact Nat.le_trans ((Go.Sort.bitsLen_le_iff n 62).2 (by omega)) (by omega)
  have HP := Lib.hid (fun lim hl => pdq_ g c rest xs w hn (xs.length - 0) 0 xs.length lim xs w ⟨hb, List.Perm.refl _, Grew.refl _ _⟩ (Nat.le_refl _) (Nat.zero_le _) rfl hl)
  have hw1 : IntKind.u64.wrap ((xs.length : Nat) : Int) = (xs.length : Int) := by rw [IntKind.wrap_u64]; omega
  clear hb
  go_enter Try.func10, Try.ntmps10
  go_wp2_with (go_at_call 20; refine (bits_len _ _ (by omega) (by omega)).mono ?_; rintro e w1 ⟨rfl, hq⟩; rw [hq]; clear hq)
  rw [← hn'] at *
  have HQ := Lib.hid (HP.out _ hk)
  refine HQ.out.mono ?_
  rintro e w5 ⟨rfl, hso⟩
  have HSO := Lib.hid hso; clear hso HP HQ
  go_wp2_with fail
  exact ⟨rfl, _, results_none rfl _ _ _, rfl, HSO.out⟩
end Go.Proofs.Ythjefbfhpdbcjaa
