/- Sorting of numbers: reversing, sifting down, the heap sort. -/
import Derived.Test.YthjefbfhpdbcjaaSoA
namespace Go.Proofs.Ythjefbfhpdbcjaa
open Go.RowKit
set_option linter.unusedVariables false
set_option linter.unusedSimpArgs false
set_option maxRecDepth 100000 in
set_option maxHeartbeats 4000000 in
theorem reverse_ (g c a b : Nat) (rest : List Value) (xs ys : List Int) (w0 w : World) (h : Sd .u64 31 w0 w g rest xs ys) (hb : b ≤ xs.length) (hn : xs.length ≤ 100000) (hab : a < b) :
    Calls Try.prog 26 #[.slice (some ⟨g, 0, none⟩) xs.length c, .int .i64 a, .int .i64 b] w fun e w' => e = .returned (.tuple #[]) ∧ So .u64 31 w0 g rest xs w' := by
  have HS := Lib.hid h; clear h
  have hwb : IntKind.i64.wrap ((b : Int) - 1) = ((b - 1 : Nat) : Int) := by rw [IntKind.wrap_i64]; omega
  go_enter Try.func26, Try.ntmps26
  go_wp2_with fail
  go_loopg [6, 7] (b + 1 - a) (fun gh v6 v7 wr => ∃ (i j : Nat) (zs : List Int), a ≤ i ∧ j < b ∧ i ≤ b ∧ gh = b + 1 - i ∧ v6 = .int .i64 i ∧ v7 = .int .i64 j ∧ Hid (Sd .u64 31 w0 wr g rest xs zs))
  case atStart => exact ⟨a, b - 1, ys, Nat.le_refl _, by omega, by omega, rfl, rfl, rfl, HS⟩
  case round =>
    clear HS
    obtain ⟨i, j, zs, hi1, hj1, hi2, rfl, rfl, rfl, HS⟩ := hrel
    by_cases hij : i < j
    · have hl := HS.out.len
      have hi : i < zs.length := by omega
      have hj : j < zs.length := by omega
      have hci := HS.out.cell hi
      have hcj := HS.out.cell hj
      have fi := HS.out.blk.frozen i
      have fj := HS.out.blk.frozen j
      have gl := HS.out.blk.lt
      have HSW := Lib.hid (HS.out.swap hi hj)
      have hni : (i : Int) < (xs.length : Int) := by omega
      have hnj : (j : Int) < (xs.length : Int) := by omega
      have hne1 : ¬ j = i := by omega
      have hne2 : ¬ i = j := by omega
      have hwj : IntKind.i64.wrap ((j : Int) - 1) = ((j - 1 : Nat) : Int) := by rw [IntKind.wrap_i64]; omega
      clear hl hi hj
      generalize zs.getD i 0 = x at *
      generalize zs.getD j 0 = y at *
      go_wp2_with fail
      go_region
      all_goals (
        go_wp2_with fail
        go_roundg (b + 1 - (i + 1))
        case measure => omega
        case rel => exact ⟨i + 1, j - 1, _, by omega, by omega, by omega, rfl, by go_num, by go_num, (show Hid _ from HSW.out.same _ rfl rfl rfl rfl)⟩)
    · go_wp2
      go_end0
      exact ⟨rfl, zs, HS.out⟩

set_option maxRecDepth 100000 in
set_option maxHeartbeats 8000000 in
theorem sift_ (g c lo hi f : Nat) (rest : List Value) (xs ys : List Int) (w0 w : World) (h : Sd .u64 31 w0 w g rest xs ys) (hb : f + hi ≤ xs.length) (hn : xs.length ≤ 100000) (hlo : lo ≤ hi) :
    Calls Try.prog 36 #[.slice (some ⟨g, 0, none⟩) xs.length c, .int .i64 lo, .int .i64 hi, .int .i64 f] w fun e w' => e = .returned (.tuple #[]) ∧ So .u64 31 w0 g rest xs w' := by
  have LESS := Lib.hid (fun x y W => less_ x y W)
  have HS := Lib.hid h; clear h
  go_enter Try.func36, Try.ntmps36
  go_wp2_with fail
  go_loopg [8] (hi + 1 - lo) (fun gh v8 wr => ∃ (r : Nat) (zs : List Int), r ≤ hi ∧ gh = hi + 1 - r ∧ v8 = .int .i64 r ∧ Hid (Sd .u64 31 w0 wr g rest xs zs))
  case atStart => exact ⟨lo, ys, hlo, rfl, rfl, HS⟩
  case round =>
    clear HS
    obtain ⟨r, zs, hr, rfl, rfl, HS⟩ := hrel
    have hw2 : IntKind.i64.wrap (2 * (r : Int)) = 2 * (r : Int) := by rw [IntKind.wrap_i64]; omega
    obtain ⟨ch, hch⟩ : ∃ ch, ch = 2 * r + 1 := ⟨_, rfl⟩
    have hw3 : IntKind.i64.wrap (2 * (r : Int) + 1) = (ch : Int) := by rw [IntKind.wrap_i64]; omega
    have hrc : r < ch := by omega
    have HCH := Lib.hid hch; clear hch
    by_cases hc : ch < hi
    · have hge : ¬ (hi : Int) ≤ (ch : Int) := by omega
      have hl := HS.out.len
      have gl := HS.out.blk.lt
      obtain ⟨p, hp⟩ : ∃ p, p = f + r := ⟨_, rfl⟩
      obtain ⟨q, hq⟩ : ∃ q, q = f + ch := ⟨_, rfl⟩
      have hwp : IntKind.i64.wrap ((f : Int) + (r : Int)) = (p : Int) := by rw [IntKind.wrap_i64]; omega
      have hwq : IntKind.i64.wrap ((f : Int) + (ch : Int)) = (q : Int) := by rw [IntKind.wrap_i64]; omega
      have hzp : p < zs.length := by omega
      have hzq : q < zs.length := by omega
      have hnp : (p : Int) < (xs.length : Int) := by omega
      have hnq : (q : Int) < (xs.length : Int) := by omega
      have cp := HS.out.cell hzp
      have cq := HS.out.cell hzq
      have fp := HS.out.blk.frozen p
      have fq := HS.out.blk.frozen q
      have HSW := Lib.hid (HS.out.swap hzp hzq)
      have hw4 : IntKind.i64.wrap ((ch : Int) + 1) = ((ch + 1 : Nat) : Int) := by rw [IntKind.wrap_i64]; omega
      have hpq : ¬ p = q := by omega
      have hqp : ¬ q = p := by omega
      by_cases hc1 : ch + 1 < hi
      · obtain ⟨ch1, hch1⟩ : ∃ ch1, ch1 = ch + 1 := ⟨_, rfl⟩
        rw [← hch1] at hw4
        obtain ⟨q1, hq1⟩ : ∃ q1, q1 = q + 1 := ⟨_, rfl⟩
        have hwq1 : IntKind.i64.wrap ((q : Int) + 1) = (q1 : Int) := by rw [IntKind.wrap_i64]; omega
        have hwq2 : IntKind.i64.wrap ((f : Int) + (ch1 : Int)) = (q1 : Int) := by rw [IntKind.wrap_i64]; omega
        have hzq1 : q1 < zs.length := by omega
        have hnq1 : (q1 : Int) < (xs.length : Int) := by omega
        have cq1 := HS.out.cell hzq1
        have fq1 := HS.out.blk.frozen q1
        have HSW1 := Lib.hid (HS.out.swap hzp hzq1)
        have hpq1 : ¬ p = q1 := by omega
        have hqp1 : ¬ q1 = p := by omega
        have hd : decide ((ch1 : Int) < (hi : Int)) = true := decide_eq_true (by omega)
        have hd2 : decide (ch1 < hi) = true := decide_eq_true (by omega)
        have hrc1 : r < ch1 := by omega
        have hch1' : ch1 ≤ hi := by omega
        have HQ := Lib.hid (And.intro hp (And.intro hq (And.intro hch1 hq1))); clear hp hq hch1 hq1 hzp hzq hzq1 hl
        generalize zs.getD p 0 = x at *
        generalize zs.getD q 0 = y at *
        generalize zs.getD q1 0 = z at *
        by_cases hyz : y < z
        · have hdy : decide (y < z) = true := decide_eq_true hyz
          by_cases hxz : x < z
          · have hdx : decide (x < z) = true := decide_eq_true hxz
            go_wp2_with fail
            go_quiet ((go_at_call 28; first | exact Calls.quiet_of (LESS.out _ _ _) | (refine (LESS.out _ _ _).mono ?_; rintro e w'' ⟨rfl, q, rfl⟩; exact ⟨rfl, _, drewN3 _ _ _ _⟩)))
            go_wp2_with fail
            go_quiet ((go_at_call 28; first | exact Calls.quiet_of (LESS.out _ _ _) | (refine (LESS.out _ _ _).mono ?_; rintro e w'' ⟨rfl, q, rfl⟩; exact ⟨rfl, _, drewN3 _ _ _ _⟩)))
            go_wp2_with fail
            go_region
            all_goals (
              go_wp2_with fail
              go_roundg (hi + 1 - ch1)
              case measure => omega
              case rel => exact ⟨ch1, _, hch1', rfl, rfl, (show Hid _ from HSW1.out.same _ rfl rfl rfl rfl)⟩)
          · have hdx : decide (x < z) = false := decide_eq_false hxz
            go_wp2_with fail
            go_quiet ((go_at_call 28; first | exact Calls.quiet_of (LESS.out _ _ _) | (refine (LESS.out _ _ _).mono ?_; rintro e w'' ⟨rfl, q, rfl⟩; exact ⟨rfl, _, drewN3 _ _ _ _⟩)))
            go_wp2_with fail
            go_quiet ((go_at_call 28; first | exact Calls.quiet_of (LESS.out _ _ _) | (refine (LESS.out _ _ _).mono ?_; rintro e w'' ⟨rfl, q, rfl⟩; exact ⟨rfl, _, drewN3 _ _ _ _⟩)))
            go_wp2_with fail
            (try simp only [Exit.inBlock, Exit.then]); refine bodyPost_ret (results_none rfl _ _ _) rfl ?_
            exact ⟨rfl, zs, HS.out.same _ rfl rfl rfl rfl⟩
        · have hdy : decide (y < z) = false := decide_eq_false hyz
          by_cases hxy : x < y
          · have hdx : decide (x < y) = true := decide_eq_true hxy
            go_wp2_with fail
            go_quiet ((go_at_call 28; first | exact Calls.quiet_of (LESS.out _ _ _) | (refine (LESS.out _ _ _).mono ?_; rintro e w'' ⟨rfl, q, rfl⟩; exact ⟨rfl, _, drewN3 _ _ _ _⟩)))
            go_wp2_with fail
            go_quiet ((go_at_call 28; first | exact Calls.quiet_of (LESS.out _ _ _) | (refine (LESS.out _ _ _).mono ?_; rintro e w'' ⟨rfl, q, rfl⟩; exact ⟨rfl, _, drewN3 _ _ _ _⟩)))
            go_wp2_with fail
            go_region
            all_goals (
              go_wp2_with fail
              go_roundg (hi + 1 - ch)
              case measure => omega
              case rel => exact ⟨ch, _, by omega, rfl, rfl, (show Hid _ from HSW.out.same _ rfl rfl rfl rfl)⟩)
          · have hdx : decide (x < y) = false := decide_eq_false hxy
            go_wp2_with fail
            go_quiet ((go_at_call 28; first | exact Calls.quiet_of (LESS.out _ _ _) | (refine (LESS.out _ _ _).mono ?_; rintro e w'' ⟨rfl, q, rfl⟩; exact ⟨rfl, _, drewN3 _ _ _ _⟩)))
            go_wp2_with fail
            go_quiet ((go_at_call 28; first | exact Calls.quiet_of (LESS.out _ _ _) | (refine (LESS.out _ _ _).mono ?_; rintro e w'' ⟨rfl, q, rfl⟩; exact ⟨rfl, _, drewN3 _ _ _ _⟩)))
            go_wp2_with fail
            (try simp only [Exit.inBlock, Exit.then]); refine bodyPost_ret (results_none rfl _ _ _) rfl ?_
            exact ⟨rfl, zs, HS.out.same _ rfl rfl rfl rfl⟩
      · obtain ⟨ch1, hch1⟩ : ∃ ch1, ch1 = ch + 1 := ⟨_, rfl⟩
        rw [← hch1] at hw4
        have hd : decide ((ch1 : Int) < (hi : Int)) = false := decide_eq_false (by omega)
        have hd2 : decide (ch1 < hi) = false := decide_eq_false (by omega)
        have HQ := Lib.hid (And.intro hp (And.intro hq hch1)); clear hp hq hch1 hzp hzq hl hc1
        generalize zs.getD p 0 = x at *
        generalize zs.getD q 0 = y at *
        by_cases hxy : x < y
        · have hdx : decide (x < y) = true := decide_eq_true hxy
          go_wp2_with fail
          go_quiet ((go_at_call 28; first | exact Calls.quiet_of (LESS.out _ _ _) | (refine (LESS.out _ _ _).mono ?_; rintro e w'' ⟨rfl, q, rfl⟩; exact ⟨rfl, _, drewN3 _ _ _ _⟩)))
          go_wp2_with fail
          go_quiet ((go_at_call 28; first | exact Calls.quiet_of (LESS.out _ _ _) | (refine (LESS.out _ _ _).mono ?_; rintro e w'' ⟨rfl, q, rfl⟩; exact ⟨rfl, _, drewN3 _ _ _ _⟩)))
          go_wp2_with fail
          go_region
          all_goals (
            go_wp2_with fail
            go_roundg (hi + 1 - ch)
            case measure => omega
            case rel => exact ⟨ch, _, by omega, rfl, rfl, (show Hid _ from HSW.out.same _ rfl rfl rfl rfl)⟩)
        · have hdx : decide (x < y) = false := decide_eq_false hxy
          go_wp2_with fail
          go_quiet ((go_at_call 28; first | exact Calls.quiet_of (LESS.out _ _ _) | (refine (LESS.out _ _ _).mono ?_; rintro e w'' ⟨rfl, q, rfl⟩; exact ⟨rfl, _, drewN3 _ _ _ _⟩)))
          go_wp2_with fail
          go_quiet ((go_at_call 28; first | exact Calls.quiet_of (LESS.out _ _ _) | (refine (LESS.out _ _ _).mono ?_; rintro e w'' ⟨rfl, q, rfl⟩; exact ⟨rfl, _, drewN3 _ _ _ _⟩)))
          go_wp2_with fail
          (try simp only [Exit.inBlock, Exit.then]); refine bodyPost_ret (results_none rfl _ _ _) rfl ?_
          exact ⟨rfl, zs, HS.out.same _ rfl rfl rfl rfl⟩
    · have hge : (hi : Int) ≤ (ch : Int) := by omega
      go_wp2
      go_end0
      exact ⟨rfl, zs, HS.out⟩
set_option maxRecDepth 100000 in
set_option maxHeartbeats 8000000 in
theorem heap_ (g c a b : Nat) (rest : List Value) (xs ys : List Int) (w0 w : World) (h : Sd .u64 31 w0 w g rest xs ys) (hb : b ≤ xs.length) (hn : xs.length ≤ 100000) (hab : a < b) :
    Calls Try.prog 23 #[.slice (some ⟨g, 0, none⟩) xs.length c, .int .i64 a, .int .i64 b] w fun e w' => e = .returned (.tuple #[]) ∧ So .u64 31 w0 g rest xs w' := by
  have SIFT := Lib.hid (fun lo hi W zs hS hb' hlo => sift_ g c lo hi a rest xs zs w0 W hS hb' hn hlo)
  have HS := Lib.hid h; clear h
  obtain ⟨m, hm⟩ : ∃ m, m = b - a := ⟨_, rfl⟩
  have hw1 : IntKind.i64.wrap ((b : Int) - (a : Int)) = (m : Int) := by rw [IntKind.wrap_i64]; omega
  have hw2 : IntKind.i64.wrap ((m : Int) - 1) = ((m - 1 : Nat) : Int) := by rw [IntKind.wrap_i64]; omega
  have hmb : a + m ≤ xs.length := by omega
  have hm1 : 1 ≤ m := by omega
  clear hm
  go_enter Try.func23, Try.ntmps23
  go_wp2_with fail
  go_loopg [9] ((m - 1) / 2 + 1 + 1) (fun gh v9 wr => ∃ (n : Nat) (zs : List Int), gh = n + 1 ∧ ((∃ k : Nat, n = k + 1 ∧ k < m ∧ v9 = .int .i64 k) ∨ (n = 0 ∧ v9 = .int .i64 (-1))) ∧ Hid (Sd .u64 31 w0 wr g rest xs zs))
  case atStart => exact ⟨(m - 1) / 2 + 1, ys, rfl, .inl ⟨(m - 1) / 2, rfl, by omega, by congr 1⟩, HS⟩
  case round =>
    clear HS
    obtain ⟨n, zs, rfl, hcase, HS⟩ := hrel
    rcases hcase with ⟨k, rfl, hk, rfl⟩ | ⟨rfl, rfl⟩
    · have hsf := SIFT.out k m _ zs HS.out hmb (by omega)
      have HSF := Lib.hid hsf; clear hsf
      have hnx : IntKind.i64.wrap ((k : Int) - 1) = (k : Int) - 1 := by rw [IntKind.wrap_i64]; omega
      go_wp2_with fail
      refine HSF.out.mono ?_
      rintro e w5 ⟨rfl, zs5, h5⟩
      have H5 := Lib.hid h5; clear h5 HSF
      go_wp2_with fail
      go_roundg (k + 1)
      case measure => omega
      case rel =>
        refine ⟨k, zs5, rfl, ?_, H5⟩
        rcases k with _ | k
        · exact .inr ⟨rfl, by go_num⟩
        · exact .inl ⟨k, rfl, by omega, by congr 1; omega⟩
    · go_wp2_with fail
      go_loopg [10] (m + 1) (fun gh v10 wr => ∃ (n : Nat) (zs : List Int), gh = n + 1 ∧ ((∃ k : Nat, n = k + 1 ∧ k < m ∧ v10 = .int .i64 k) ∨ (n = 0 ∧ v10 = .int .i64 (-1))) ∧ Hid (Sd .u64 31 w0 wr g rest xs zs))
      case atStart => exact ⟨m, zs, rfl, .inl ⟨m - 1, by omega, by omega, by congr 1⟩, HS⟩
      case round =>
        clear HS
        obtain ⟨n, zs, rfl, hcase, HS⟩ := hrel
        rcases hcase with ⟨k, rfl, hk, rfl⟩ | ⟨rfl, rfl⟩
        · have hnx : IntKind.i64.wrap ((k : Int) - 1) = (k : Int) - 1 := by rw [IntKind.wrap_i64]; omega
          have hl := HS.out.len
          have gl := HS.out.blk.lt
          obtain ⟨q, hq⟩ : ∃ q, q = a + k := ⟨_, rfl⟩
          have hwq : IntKind.i64.wrap ((a : Int) + (k : Int)) = (q : Int) := by rw [IntKind.wrap_i64]; omega
          have hza : a < zs.length := by omega
          have hzq : q < zs.length := by omega
          have hna : (a : Int) < (xs.length : Int) := by omega
          have hnq : (q : Int) < (xs.length : Int) := by omega
          have ca := HS.out.cell hza
          have cq := HS.out.cell hzq
          have fa := HS.out.blk.frozen a
          have fq := HS.out.blk.frozen q
          have HSW := Lib.hid (HS.out.swap hza hzq)
          by_cases hk0 : q = a
          · subst hk0
            have HQ := Lib.hid hq; clear hq hl hza hzq
            generalize zs.getD q 0 = x at *
            go_wp2_with fail
            go_region
            all_goals (
              go_upto_region 11 with fail
              go_name_world W hW
              have HSN := Lib.hid (HSW.out.same W (by subst hW; rfl) (by subst hW; rfl) (by subst hW; rfl) (by subst hW; rfl))
              clear hW
              have HSF := Lib.hid (SIFT.out 0 k W _ HSN.out (by omega) (by omega))
              go_wp2_with fail
              refine HSF.out.mono ?_
              rintro e w5 ⟨rfl, zs5, h5⟩
              have H5 := Lib.hid h5; clear h5
              go_wp2_with fail
              go_roundg (k + 1)
              case measure => omega
              case rel =>
                refine ⟨k, zs5, rfl, ?_, H5⟩
                rcases k with _ | k
                · exact .inr ⟨rfl, by go_num⟩
                · exact .inl ⟨k, rfl, by omega, by congr 1; omega⟩)
          · have hne1 : ¬ a = q := fun e => hk0 e.symm
            have HQ := Lib.hid hq; clear hq hl hza hzq
            generalize zs.getD a 0 = x at *
            generalize zs.getD q 0 = y at *
            go_wp2_with fail
            go_region
            all_goals (
              go_upto_region 11 with fail
              go_name_world W hW
              have HSN := Lib.hid (HSW.out.same W (by subst hW; rfl) (by subst hW; rfl) (by subst hW; rfl) (by subst hW; rfl))
              clear hW
              have HSF := Lib.hid (SIFT.out 0 k W _ HSN.out (by omega) (by omega))
              go_wp2_with fail
              refine HSF.out.mono ?_
              rintro e w5 ⟨rfl, zs5, h5⟩
              have H5 := Lib.hid h5; clear h5
              go_wp2_with fail
              go_roundg (k + 1)
              case measure => omega
              case rel =>
                refine ⟨k, zs5, rfl, ?_, H5⟩
                rcases k with _ | k
                · exact .inr ⟨rfl, by go_num⟩
                · exact .inl ⟨k, rfl, by omega, by congr 1; omega⟩)
        · go_wp2
          go_end0
          exact ⟨rfl, zs, HS.out⟩
end Go.Proofs.Ythjefbfhpdbcjaa
