/- slices.Clone and slices.Clip. -/
import Derived.Test.YthjefbfhpdbcjaaSlDel
namespace Go.Proofs.Ythjefbfhpdbcjaa
open Go.RowKit
set_option linter.unusedVariables false
set_option linter.unusedSimpArgs false

theorem nums_one (k : IntKind) (xs : List Int) : ∀ u ∈ nums k xs, u.oneCell' = true := by
  intro u hu
  obtain ⟨x, _, rfl⟩ := List.mem_map.1 hu
  rfl

set_option maxHeartbeats 400000 in
theorem slices_Clone_u64 (a : Option Addr) (cap : Nat) (xs : List Int) (w : World) (h : Sl .u64 w a cap xs) (hl : xs.length ≤ 1000000) :
    Calls Try.prog 15 #[.slice a xs.length cap] w fun e w' => ∃ a' cap', e = .returned (.slice a' xs.length cap') ∧ w'.ownsRow w.heap.size 31 1 (.slice a' xs.length cap') xs.length (nums .u64 xs) ∧ (a = none ↔ a' = none) ∧ Below w.heap.size w w' := by
  cases a with
  | none =>
    have h0 : cap = 0 := h.2.2.1 rfl
    have h1 : xs.length = 0 := by have := h.le; omega
    have h2 : xs = [] := List.eq_nil_of_length_eq_zero h1
    subst h2 h0
    clear h h1
    have hn := fun (x : World) => Lib.run_eql_slice_nil (P := Try.prog) x 22 31 none 0 0 0 0 Try.underlying22
    go_enter Try.func15, Try.ntmps15
    go_wp2
    go_ret
    exact ⟨none, 0, rfl, World.ownsRow_nil _ _ _ _, by simp, Below.refl _ _⟩
  | some ad =>
    have hn := fun (x : World) => Lib.run_eql_slice_nil (P := Try.prog) x 22 31 (some ad) xs.length cap 0 0 Try.underlying22
    have HO := World.ownsRow_made (base := w.heap.size) (e := 31) (size := 1) w #[] 0 (Nat.le_refl _) (Nat.zero_le _) rfl
    have HS := Lib.hid (Rd.alloc h (.cells #[] 31)); clear h
    go_enter Try.func15, Try.ntmps15
    go_wp2_with (at_builtin; refine app_own _ rfl _ _ 22 rfl w.heap.size 31 (.int .u64 0) 1 8 Try.underlying22 Try.infoU rfl (by decide) (.slice (some ⟨w.heap.size, 0, none⟩) 0 0) 0 [] rfl HO _ xs.length cap (nums .u64 xs) rfl HS.out (nums_one _ _) (by omega) (by omega) (by simp) ?_; intro A1 c1 w1 h2 h3 h4)
    go_ret
    simp only [Nat.zero_add, List.nil_append] at h2 h4
    refine ⟨A1, c1, by simp, h2, ⟨(fun h => by cases h), (fun h => by subst h; simp [Value.ownBlock] at h4)⟩, ((Below.refl w.heap.size w).alloc (Nat.le_refl _) _).grown h3 (by simp) (fun k hk => by simp [Value.ownBlock] at hk; omega)⟩

set_option maxHeartbeats 400000 in
theorem slices_Clip_u64 (a : Option Addr) (cap : Nat) (xs : List Int) (w : World) (h : Sl .u64 w a cap xs) (hl : xs.length ≤ 1000000) :
    Calls Try.prog 16 #[.slice a xs.length cap] w fun e w' => e = .returned (.slice a xs.length xs.length) ∧ w = w' := by
  have hle := h.le
  go_enter Try.func16, Try.ntmps16
  go_wp2
  go_ret
  exact ⟨rfl, rfl⟩

/-! Package snap. -/
/-- The list with n behind, if it isn't there. -/
def withL (xs : List Int) (n : Int) : List Int := if n ∈ xs then xs else xs ++ [n]
def withoutL (xs : List Int) (n : Int) : List Int := xs.filter (· ≠ n)
theorem idxI_neg {xs : List Int} {n : Int} : idxI xs n < 0 ↔ n ∉ xs := by
  unfold idxI
  cases h : xs.findIdx? (· == n) with
  | none =>
    rw [List.findIdx?_eq_none_iff] at h
    simp only [beq_eq_false_iff_ne] at h
    exact ⟨fun _ hm => h n hm rfl, fun _ => by decide⟩
  | some i =>
    rw [List.findIdx?_eq_some_iff_getElem] at h
    obtain ⟨hi, hx, _⟩ := h
    refine ⟨fun h => by simp at h; omega, fun hn => absurd (List.getElem_mem hi) ?_⟩
    rw [beq_iff_eq] at hx
    rw [hx]; exact hn
theorem idxI_range (xs : List Int) (n : Int) : -1 ≤ idxI xs n ∧ idxI xs n < xs.length := by
  unfold idxI
  cases h : xs.findIdx? (· == n) with
  | none => simp; omega
  | some i =>
    rw [List.findIdx?_eq_some_iff_getElem] at h
    obtain ⟨hi, _, _⟩ := h
    simp; omega

set_option maxHeartbeats 400000 in
theorem snap_Index (a : Option Addr) (cap : Nat) (xs : List Int) (n : Int) (w : World) (h : Sl .u64 w a cap xs) (hl : xs.length ≤ 1000000) :
    Calls Try.prog 9 #[.agg #[.slice a xs.length cap], .int .u64 n] w fun e w' => e = .returned (.int .i64 (idxI xs n)) ∧ Below w.heap.size w w' := by
  have h1 := Sl.below h ((Below.refl _ _).alloc (Nat.le_refl _) (.cells #[.slice a xs.length cap] 26))
  have H1 := Lib.hid h1; clear h1
  clear h
  go_enter Try.func9, Try.ntmps9
  go_wp2_with (go_at_call 18; refine (slices_Index_u64 _ _ _ _ _ H1.out (by omega)).mono ?_; rintro e w' ⟨rfl, rfl⟩)
  go_ret
  exact ⟨rfl, (Below.refl _ _).alloc (Nat.le_refl _) _⟩
set_option maxHeartbeats 400000 in
theorem snap_Len (a : Option Addr) (cap : Nat) (xs : List Int) (w : World) :
    Calls Try.prog 13 #[.agg #[.slice a xs.length cap]] w fun e w' => e = .returned (.int .i64 xs.length) ∧ Below w.heap.size w w' := by
  go_enter Try.func13, Try.ntmps13
  go_wp2
  go_ret
  exact ⟨rfl, (Below.refl _ _).alloc (Nat.le_refl _) _⟩
set_option maxHeartbeats 400000 in
theorem snap_All (a : Option Addr) (cap : Nat) (xs : List Int) (w : World) (h : Sl .u64 w a cap xs) (hl : xs.length ≤ 1000000) :
    Calls Try.prog 6 #[.agg #[.slice a xs.length cap]] w fun e w' => ∃ a' cap', e = .returned (.slice a' xs.length cap') ∧ w'.ownsRow w.heap.size 31 1 (.slice a' xs.length cap') xs.length (nums .u64 xs) ∧ Below w.heap.size w w' := by
  have h1 := Sl.below h ((Below.refl _ _).alloc (Nat.le_refl _) (.cells #[.slice a xs.length cap] 26))
  have H1 := Lib.hid h1; clear h1
  clear h
  go_enter Try.func6, Try.ntmps6
  go_wp2_with (go_at_call 15; refine (slices_Clone_u64 _ _ _ _ H1.out (by omega)).mono ?_; rintro e w' ⟨a', cap', rfl, ho, hn, hb⟩)
  go_ret
  exact ⟨a', cap', rfl, own_mono ho (by simp), below_step ((Below.refl w.heap.size w).alloc (Nat.le_refl _) _) (by simp) hb⟩

set_option maxHeartbeats 1000000 in
theorem snap_With (a : Option Addr) (cap : Nat) (xs : List Int) (n : Int) (w : World) (h : Sl .u64 w a cap xs) (hl : xs.length ≤ 100000) :
    Calls Try.prog 7 #[.agg #[.slice a xs.length cap], .int .u64 n] w fun e w' => ∃ a' cap', e = .returned (.agg #[.slice a' (withL xs n).length cap']) ∧ Sl .u64 w' a' cap' (withL xs n) ∧ Loc w.heap.size a a' ∧ Below w.heap.size w w' := by
  have HS : ∀ w1, Below w.heap.size w w1 → Sl .u64 w1 a cap xs := fun w1 hb => h.below hb
  have HH := Lib.hid HS
  clear HS
  by_cases hm : n ∈ xs
  · have e : withL xs n = xs := if_pos hm
    rw [e]; clear e
    have hi : 0 ≤ idxI xs n := by have := (not_congr (idxI_neg (xs := xs) (n := n))).2 (by simpa using hm); omega
    go_enter Try.func7, Try.ntmps7
    go_wp2_with (go_at_call 9; refine (snap_Index _ _ _ _ _ (HH.out _ (by exact ((Below.refl w.heap.size w).alloc (Nat.le_refl _) _).alloc (by simp) _)) (by omega)).mono ?_; rintro e w1 ⟨rfl, hb⟩; obtain ⟨bc, bf⟩ := bcell hb; have hz := hb.size)
    refine bodyPost_ret (v := .agg #[.slice a xs.length cap]) (by simp [results, Try.results7, go_sem, bc, bf]) rfl ?_
    have hB := below_step (((Below.refl w.heap.size w).alloc (Nat.le_refl _) _).alloc (by simp) _) (by simp; omega) hb
    exact ⟨a, cap, rfl, HH.out _ (hB.setCell (by simp) _), .inl rfl, hB.setCell (by simp) _⟩
  · have e : withL xs n = xs ++ [n] := if_neg hm
    rw [e]; clear e
    have hi : idxI xs n < 0 := idxI_neg.2 hm
    go_enter Try.func7, Try.ntmps7
    go_wp2_with (first | (go_at_call 9; refine (snap_Index _ _ _ _ _ (HH.out _ (by exact ((Below.refl w.heap.size w).alloc (Nat.le_refl _) _).alloc (by simp) _)) (by omega)).mono ?_; rintro e w1 ⟨rfl, hb⟩; obtain ⟨bc, bf⟩ := bcell hb; have hz := hb.size) | (go_at_call 16; refine (slices_Clip_u64 _ _ _ _ (HH.out _ (by exact below_step (((Below.refl w.heap.size w).alloc (Nat.le_refl _) _).alloc (by simp) _) (by simp; omega) hb)) (by omega)).mono ?_; rintro e w' ⟨rfl, rfl⟩) | (at_builtin; refine app_grow_one w1 rfl _ _ 22 rfl 31 (.int .u64 0) 1 8 Try.underlying22 Try.infoU rfl (by decide) a xs.length (nums .u64 xs) rfl (by exact (HH.out _ (below_step (((Below.refl w.heap.size w).alloc (Nat.le_refl _) _).alloc (by simp) _) (by simp; omega) hb)).clip) [.int .u64 n] rfl rfl (by simp [Value.oneCell']) (by omega) (by omega) ?_; intro A1 c1 w2 ho hb2; obtain ⟨bc2, bf2⟩ := bcell hb2; have hz2 := hb2.size; have hz3 : w.heap.size + 1 < w1.heap.size := by (simp only [World.size_alloc] at hz; omega)))
    have hlen : (xs ++ [n]).length = xs.length + 1 := by simp
    have hB := below_step (((Below.refl w.heap.size w).alloc (Nat.le_refl _) _).alloc (by simp) _) (by simp; omega) hb
    have hB2 := below_step hB (by omega) hb2
    rw [hlen]
    refine bodyPost_ret (v := .agg #[.slice A1 (xs.length + 1) c1]) (by simp [results, Try.results7, go_sem, bc, bf, bc2, bf2, hz3]) rfl ?_
    have ho2 : Rd 1 w2 A1 (xs.length + 1) c1 (nums .u64 (xs ++ [n])) := by
      rw [show nums .u64 (xs ++ [n]) = nums .u64 xs ++ [.int .u64 n] by simp [nums]]
      exact own_rd ho
    refine ⟨A1, c1, rfl, ?_, .inr fun q hq => by (subst hq; have := own_addr ho; omega), hB2.setCell (by simp) _⟩
    unfold Sl
    rw [hlen]
    exact ho2.far (fun q hq => by subst hq; have := own_addr ho; simp; omega) _
end Go.Proofs.Ythjefbfhpdbcjaa
