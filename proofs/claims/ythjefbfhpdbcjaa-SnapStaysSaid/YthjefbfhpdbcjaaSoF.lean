/- Sorting of numbers: the pivot chosen. -/
import Derived.Test.YthjefbfhpdbcjaaSoE
import Derived.Deep.CutRange
import Derived.Deep.CutBlock
namespace Go.Proofs.Ythjefbfhpdbcjaa
open Go.RowKit
set_option linter.unusedVariables false
set_option linter.unusedSimpArgs false
/-- What the choice comes to. -/
def Piv (a b : Nat) (w : World) (e : Ending) (w' : World) : Prop := ∃ (p : Nat) (hint : Int), e = .returned (.tuple #[.int .i64 p, .int .i64 hint]) ∧ a ≤ p ∧ p < b ∧ (hint = 0 ∨ hint = 1 ∨ hint = 2) ∧ RowKit.Below w.heap.size w w'
set_option maxRecDepth 100000 in
set_option maxHeartbeats 8000000 in
theorem pivot_ (g c a b : Nat) (rest : List Value) (xs zs : List Int) (w0 w : World) (h : Sd .u64 31 w0 w g rest xs zs) (hn : xs.length ≤ 100000) (hab : a + 13 ≤ b) (hb : b ≤ xs.length) :
    Calls Try.prog 25 #[.slice (some ⟨g, 0, none⟩) xs.length c, .int .i64 a, .int .i64 b] w (Piv a b w) := by
  have hgB := h.blk.lt
  have hw0 := h.gr.size
  have hal := (RowKit.Below.refl w.heap.size w).alloc (Nat.le_refl _) (.cells #[.int .i64 0] 3)
  have KEEP := Lib.hid (fun W (hb : RowKit.Below w.heap.size w W) => (h.keepB hb hgB hw0 : Sd .u64 31 w0 W g rest xs zs))
  have HC0 : Hid (Cnt (w.alloc (.cells #[.int .i64 0] 3)) w.heap.size (0 : Nat)) := ⟨0, by omega, by omega, Blk.new _ _ _⟩
  have HAL := Lib.hid hal; clear hal h
  obtain ⟨l, hl⟩ : ∃ l, l = b - a := ⟨_, rfl⟩
  obtain ⟨q, hq⟩ : ∃ q, q = l / 4 := ⟨_, rfl⟩
  have hwl : IntKind.i64.wrap ((b : Int) - (a : Int)) = (l : Int) := by rw [IntKind.wrap_i64]; omega
  have hdv : (l : Int) / 4 = (q : Int) := by omega
  obtain ⟨i, hi⟩ : ∃ i, i = a + q := ⟨_, rfl⟩
  obtain ⟨j, hj⟩ : ∃ j, j = a + q * 2 := ⟨_, rfl⟩
  obtain ⟨k, hk⟩ : ∃ k, k = a + q * 3 := ⟨_, rfl⟩
  have hwi0 : IntKind.i64.wrap (q : Int) = (q : Int) := by rw [IntKind.wrap_i64]; omega
  have hwi : IntKind.i64.wrap ((a : Int) + (q : Int)) = (i : Int) := by rw [IntKind.wrap_i64]; omega
  obtain ⟨q2, hq2⟩ : ∃ q2, q2 = q * 2 := ⟨_, rfl⟩
  obtain ⟨q3, hq3⟩ : ∃ q3, q3 = q * 3 := ⟨_, rfl⟩
  have hwj0 : IntKind.i64.wrap ((q : Int) * 2) = (q2 : Int) := by rw [IntKind.wrap_i64]; omega
  have hwk0 : IntKind.i64.wrap ((q : Int) * 3) = (q3 : Int) := by rw [IntKind.wrap_i64]; omega
  have hwj : IntKind.i64.wrap ((a : Int) + (q2 : Int)) = (j : Int) := by rw [IntKind.wrap_i64]; omega
  have hwk : IntKind.i64.wrap ((a : Int) + (q3 : Int)) = (k : Int) := by rw [IntKind.wrap_i64]; omega
  have hl8 : (8 : Int) ≤ (l : Int) := by omega
  have hi1 : a + 3 ≤ i := by omega
  have hk1 : k + 1 < b := by omega
  have hij : i < j := by omega
  have hjk : j < k := by omega
  have hbig : 50 ≤ l → a + 12 ≤ i := by omega
  have HQ := Lib.hid (And.intro hl (And.intro hq (And.intro hi (And.intro hj hk)))); clear hl hq hi hj hk hq2 hq3
  have HBIG := Lib.hid hbig; clear hbig
  have MED := Lib.hid (fun W (i j k z : Nat) (hb' : RowKit.Below w.heap.size w W) hi hj hk hz hs => median_ g c i j k w.heap.size z w.heap.size rest xs zs w0 W (KEEP.out W hb') hn hi hj hk hz hs (Nat.le_refl _) hgB hb'.size hw0)
  have ADJ := Lib.hid (fun W (i z : Nat) (hb' : RowKit.Below w.heap.size w W) hi1 hi hz hs => medianAdj_ g c i w.heap.size z w.heap.size rest xs zs w0 W (KEEP.out W hb') hn hi1 hi hz hs (Nat.le_refl _) hgB hb'.size hw0)
  go_enter Try.func25, Try.ntmps25
  go_upto_if 34 with fail
  go_cut [10, 11, 12] from 33 to 43 (fun vi vj vk wx => ∃ (i j k z : Nat), vi = .int .i64 i ∧ vj = .int .i64 j ∧ vk = .int .i64 k ∧ a ≤ i ∧ i < b ∧ a ≤ j ∧ j < b ∧ a ≤ k ∧ k < b ∧ z ≤ 9 ∧ Hid (Cnt wx w.heap.size z) ∧ Hid (RowKit.Below w.heap.size w wx))
  case first =>
    by_cases h50 : 50 ≤ l
    · have h50' : (50 : Int) ≤ (l : Int) := by omega
      have h12 := HBIG.out h50
      have hq12 : a + 12 ≤ i ∧ i + 12 ≤ j ∧ j + 12 ≤ k ∧ k + 2 ≤ b := by
        have h1 := HQ.out
        omega
      obtain ⟨g1, g2, g3, g4⟩ := hq12
      have A1 := Lib.hid (ADJ.out _ i 0 HAL.out (by omega) (by omega) (by omega) HC0.out)
      go_wp2_with fail
      refine A1.out.mono ?_
      rintro e w1 ⟨i1, rfl, hi1', hc1, hb1⟩
      have HB1 := Lib.hid (HAL.out.trans hb1); clear hb1
      have A2 := Lib.hid (ADJ.out w1 j (0 + 3) HB1.out (by omega) (by omega) (by omega) hc1); clear hc1 A1
      go_wp2_with fail
      refine A2.out.mono ?_
      rintro e w2 ⟨j1, rfl, hj1', hc2, hb2⟩
      have HB2 := Lib.hid (HB1.out.trans hb2); clear hb2
      have A3 := Lib.hid (ADJ.out w2 k (0 + 3 + 3) HB2.out (by omega) (by omega) (by omega) hc2); clear hc2 A2
      go_wp2_with fail
      refine A3.out.mono ?_
      rintro e w3 ⟨k1, rfl, hk1', hc3, hb3⟩
      have HC3 := Lib.hid hc3; clear hc3
      have HB3 := Lib.hid (HB2.out.trans hb3); clear hb3 A3
      go_wp2
      go_meet
      exact ⟨i1, j1, k1, 0 + 3 + 3 + 3, rfl, rfl, rfl, by omega, by omega, by omega, by omega, by omega, by omega, by omega, HC3, HB3⟩
    · have h50' : ¬ (50 : Int) ≤ (l : Int) := by omega
      go_wp2
      go_meet
      exact ⟨i, j, k, 0, rfl, rfl, rfl, by omega, by omega, by omega, by omega, by omega, by omega, by omega, HC0, HAL⟩
  case rest =>
    clear HC0 HAL hi1 hk1 hij hjk hwi hwj hwk hwi0 hwj0 hwk0
    obtain ⟨i, j, k, z, rfl, rfl, rfl, i1, i2, j1, j2, k1, k2, hz, HC, HB⟩ := hcut
    have M := Lib.hid (MED.out wc i j k z HB.out (by omega) (by omega) (by omega) (by omega) HC.out)
    go_wp2_with fail
    refine M.out.mono ?_
    rintro e w5 ⟨m, rfl, hm, ⟨s, hs0, hs1, hsb⟩, hb5⟩
    have hma : a ≤ m := by omega
    have hmb : m < b := by omega
    have c_s := hsb.cell 0
    have l_s := hsb.lt
    simp only [List.getElem?_toArray, List.getElem?_cons_zero] at c_s
    have HB5 := Lib.hid (HB.out.trans hb5); clear hb5 hsb hm M
    by_cases e0 : s = 0
    · subst e0
      go_wp2
      go_ret2
      exact ⟨m, 1, rfl, hma, hmb, .inr (.inl rfl), HB5.out⟩
    · have q0 : (s == 0) = false := by simpa using e0
      by_cases e12 : s = 12
      · subst e12
        go_wp2
        go_ret2
        exact ⟨m, 2, rfl, hma, hmb, .inr (.inr rfl), HB5.out⟩
      · have q12 : (s == 12) = false := by simpa using e12
        go_wp2
        go_ret2
        exact ⟨m, 0, rfl, hma, hmb, .inl rfl, HB5.out⟩
end Go.Proofs.Ythjefbfhpdbcjaa
