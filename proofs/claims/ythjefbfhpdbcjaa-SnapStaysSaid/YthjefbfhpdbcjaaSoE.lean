/- Sorting of numbers: choosing the pivot. -/
import Derived.Test.YthjefbfhpdbcjaaSoC
namespace Go.Proofs.Ythjefbfhpdbcjaa
open Go.RowKit
set_option linter.unusedVariables false
set_option linter.unusedSimpArgs false
/-- Block b is one count, at most z. -/
def Cnt (w : World) (b : Nat) (z : Int) : Prop := ∃ s : Int, 0 ≤ s ∧ s ≤ z ∧ Blk w b 3 #[.int .i64 s]
set_option maxRecDepth 100000 in
set_option maxHeartbeats 4000000 in
theorem order2_ (g c i j bs : Nat) (z B : Nat) (rest : List Value) (xs zs : List Int) (w0 w : World) (h : Sd .u64 31 w0 w g rest xs zs) (hn : xs.length ≤ 100000) (hi : i < xs.length) (hj : j < xs.length) (hz : z ≤ 1000) (hs : Cnt w bs z) (hB : B ≤ bs) (hgB : g < B) :
    Calls Try.prog 47 #[.slice (some ⟨g, 0, none⟩) xs.length c, .int .i64 i, .int .i64 j, .pointer (some ⟨bs, 0, none⟩)] w fun e w' => ∃ (i' j' : Nat), e = .returned (.tuple #[.int .i64 i', .int .i64 j']) ∧ ((i' = i ∧ j' = j) ∨ (i' = j ∧ j' = i)) ∧ Cnt w' bs (z + 1 : Nat) ∧ RowKit.Below B w w' := by
  have LESS := Lib.hid (fun x y W => less_ x y W)
  obtain ⟨s, hs0, hs1, hsb⟩ := hs
  have hl := h.len
  have gl := h.blk.lt
  have hzi : i < zs.length := by omega
  have hzj : j < zs.length := by omega
  have hni : (i : Int) < (xs.length : Int) := by omega
  have hnj : (j : Int) < (xs.length : Int) := by omega
  have c_i := h.cell hzi
  have c_j := h.cell hzj
  have c_s := hsb.cell 0
  have f_s := hsb.frozen 0
  have l_s := hsb.lt
  simp only [List.getElem?_toArray, List.getElem?_cons_zero] at c_s
  have hws : IntKind.i64.wrap (s + 1) = s + 1 := by rw [IntKind.wrap_i64]; omega
  have HSB := Lib.hid hsb; clear hsb h hl hzi hzj
  generalize zs.getD i 0 = x_i at *
  generalize zs.getD j 0 = x_j at *
  go_enter Try.func47, Try.ntmps47
  by_cases hxy : x_j < x_i
  · have hdx : decide (x_j < x_i) = true := decide_eq_true hxy
    go_wp2_with fail
    go_quiet ((go_at_call 28; first | exact Calls.quiet_of (LESS.out _ _ _) | (refine (LESS.out _ _ _).mono ?_; rintro e w'' ⟨rfl, q, rfl⟩; exact ⟨rfl, _, drewN3 _ _ _ _⟩)))
    go_wp2
    go_ret2
    refine ⟨j, i, rfl, .inr ⟨rfl, rfl⟩, ⟨s + 1, by omega, by omega, ?_⟩, ?_⟩
    · exact HSB.out.put 0 (.int .i64 (s + 1))
    · exact below_drewN ((RowKit.Below.refl B w).setCell (p := ⟨bs, 0, none⟩) hB (.int .i64 (s + 1))) _
  · have hdx : decide (x_j < x_i) = false := decide_eq_false hxy
    go_wp2_with fail
    go_quiet ((go_at_call 28; first | exact Calls.quiet_of (LESS.out _ _ _) | (refine (LESS.out _ _ _).mono ?_; rintro e w'' ⟨rfl, q, rfl⟩; exact ⟨rfl, _, drewN3 _ _ _ _⟩)))
    go_wp2
    go_ret2
    exact ⟨i, j, rfl, .inl ⟨rfl, rfl⟩, ⟨s, hs0, by omega, HSB.out⟩, below_drewN (RowKit.Below.refl B w) _⟩
set_option maxRecDepth 100000 in
set_option maxHeartbeats 4000000 in
theorem median_ (g c i j k bs : Nat) (z B : Nat) (rest : List Value) (xs zs : List Int) (w0 w : World) (h : Sd .u64 31 w0 w g rest xs zs) (hn : xs.length ≤ 100000) (hi : i < xs.length) (hj : j < xs.length) (hk : k < xs.length) (hz : z ≤ 900) (hs : Cnt w bs z) (hB : B ≤ bs) (hgB : g < B) (hBw : B ≤ w.heap.size) (hw0 : w0.heap.size ≤ B) :
    Calls Try.prog 40 #[.slice (some ⟨g, 0, none⟩) xs.length c, .int .i64 i, .int .i64 j, .int .i64 k, .pointer (some ⟨bs, 0, none⟩)] w fun e w' => ∃ (m : Nat), e = .returned (.int .i64 m) ∧ (m = i ∨ m = j ∨ m = k) ∧ Cnt w' bs (z + 3 : Nat) ∧ RowKit.Below B w w' := by
  have O2 := Lib.hid (fun (W : World) (i j z : Nat) hS hi hj hz hs => order2_ g c i j bs z B rest xs zs w0 W hS hn hi hj hz hs hB hgB)
  have keep : ∀ W, RowKit.Below B w W → Sd .u64 31 w0 W g rest xs zs := fun W hb => h.keepB hb hgB hw0
  have KEEP := Lib.hid keep; clear keep
  have HS := Lib.hid h; clear h
  have HC := Lib.hid hs; clear hs
  go_enter Try.func40, Try.ntmps40
  go_wp2_with fail
  refine (O2.out w i j z HS.out hi hj (by omega) HC.out).mono ?_
  rintro e w1 ⟨i1, j1, rfl, hij, hc1, hb1⟩
  have hi1 : i1 < xs.length := by omega
  have hj1 : j1 < xs.length := by omega
  have HIJ := Lib.hid hij; clear hij
  have H2 := Lib.hid (O2.out w1 j1 k (z + 1) (KEEP.out w1 hb1) hj1 hk (by omega) hc1); clear hc1
  have HB1 := Lib.hid hb1; clear hb1
  go_wp2_with fail
  refine H2.out.mono ?_
  rintro e w2 ⟨j2, k2, rfl, hjk, hc2, hb2⟩
  have hj2 : j2 < xs.length := by omega
  have HJK := Lib.hid hjk; clear hjk
  have HB2 := Lib.hid (HB1.out.trans hb2); clear hb2
  have H3 := Lib.hid (O2.out w2 i1 j2 (z + 1 + 1) (KEEP.out w2 HB2.out) hi1 hj2 (by omega) hc2); clear hc2 H2
  go_wp2_with fail
  refine H3.out.mono ?_
  rintro e w3 ⟨i3, j3, rfl, hij3, hc3, hb3⟩
  have HIJ3 := Lib.hid hij3; clear hij3
  have HC3 := Lib.hid hc3; clear hc3
  have HB3 := Lib.hid (HB2.out.trans hb3); clear hb3 H3
  go_wp2
  go_ret
  exact ⟨j3, rfl, by have h1 := HIJ.out; have h2 := HJK.out; have h3 := HIJ3.out; omega, HC3.out, HB3.out⟩

set_option maxRecDepth 100000 in
set_option maxHeartbeats 4000000 in
theorem medianAdj_ (g c i bs : Nat) (z B : Nat) (rest : List Value) (xs zs : List Int) (w0 w : World) (h : Sd .u64 31 w0 w g rest xs zs) (hn : xs.length ≤ 100000) (hi1 : 1 ≤ i) (hi : i + 1 < xs.length) (hz : z ≤ 900) (hs : Cnt w bs z) (hB : B ≤ bs) (hgB : g < B) (hBw : B ≤ w.heap.size) (hw0 : w0.heap.size ≤ B) :
    Calls Try.prog 39 #[.slice (some ⟨g, 0, none⟩) xs.length c, .int .i64 i, .pointer (some ⟨bs, 0, none⟩)] w fun e w' => ∃ (m : Nat), e = .returned (.int .i64 m) ∧ (i ≤ m + 1 ∧ m ≤ i + 1) ∧ Cnt w' bs (z + 3 : Nat) ∧ RowKit.Below B w w' := by
  have hw1 : IntKind.i64.wrap ((i : Int) - 1) = ((i - 1 : Nat) : Int) := by rw [IntKind.wrap_i64]; omega
  have hw2 : IntKind.i64.wrap ((i : Int) + 1) = ((i + 1 : Nat) : Int) := by rw [IntKind.wrap_i64]; omega
  have hm := median_ g c (i - 1) i (i + 1) bs z B rest xs zs w0 w h hn (by omega) (by omega) hi hz hs hB hgB hBw hw0
  obtain ⟨i0, hi0⟩ : ∃ i0, i0 = i - 1 := ⟨_, rfl⟩
  obtain ⟨i2, hi2⟩ : ∃ i2, i2 = i + 1 := ⟨_, rfl⟩
  rw [← hi0] at hw1 hm
  rw [← hi2] at hw2 hm
  have HI := Lib.hid (And.intro hi0 hi2); clear hi0 hi2
  have HM := Lib.hid hm; clear hm h hs
  go_enter Try.func39, Try.ntmps39
  go_wp2_with fail
  refine HM.out.mono ?_
  rintro e w1 ⟨m, rfl, hmm, hc, hb⟩
  have HC := Lib.hid hc; clear hc
  have HB := Lib.hid hb; clear hb
  have HMM := Lib.hid hmm; clear hmm
  go_wp2
  go_ret
  exact ⟨m, rfl, by have h1 := HMM.out; have h2 := HI.out; omega, HC.out, HB.out⟩
end Go.Proofs.Ythjefbfhpdbcjaa
