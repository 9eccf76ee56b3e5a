/- Sorting of numbers: partitionEqual. -/
import Derived.Test.YthjefbfhpdbcjaaSoC
namespace Go.Proofs.Ythjefbfhpdbcjaa
open Go.RowKit
set_option linter.unusedVariables false
set_option linter.unusedSimpArgs false
set_option maxRecDepth 100000 in
set_option maxHeartbeats 8000000 in
theorem partitionEqual_ (g c a b pv : Nat) (rest : List Value) (xs ys : List Int) (w0 w : World) (h : Sd .u64 31 w0 w g rest xs ys) (hb : b ≤ xs.length) (hn : xs.length ≤ 100000) (hab : a < b) (hp1 : a ≤ pv) (hp2 : pv < b) :
    Calls Try.prog 29 #[.slice (some ⟨g, 0, none⟩) xs.length c, .int .i64 a, .int .i64 b, .int .i64 pv] w fun e w' => ∃ (m : Nat), e = .returned (.int .i64 m) ∧ a < m ∧ m ≤ b ∧ So .u64 31 w0 g rest xs w' := by
  have LESS := Lib.hid (fun x y W => less_ x y W)
  have hwb : IntKind.i64.wrap ((b : Int) - 1) = ((b - 1 : Nat) : Int) := by rw [IntKind.wrap_i64]; omega
  obtain ⟨b1, hb1⟩ : ∃ b1, b1 = b - 1 := ⟨_, rfl⟩
  rw [← hb1] at hwb
  have hb2 : b1 < b := by omega
  have hb3 : b ≤ b1 + 1 := by omega
  clear hb1
  obtain ⟨zs, hzs⟩ : ∃ zs, zs = ys := ⟨_, rfl⟩
  subst hzs
  have HS := Lib.hid h; clear h
  go_enter Try.func29, Try.ntmps29
  go_upto_region 1 with fail
  go_cut [24] from 11 to 24 (fun vb wx => Hid (So .u64 31 w0 g rest xs wx))
  case first =>
    have hl := HS.out.len
    have gl := HS.out.blk.lt
    have hza : a < zs.length := by omega
    have hna : (a : Int) < (xs.length : Int) := by omega
    have c_a := HS.out.cell hza
    have f_a := HS.out.blk.frozen a
    have hzpv : pv < zs.length := by omega
    have hnpv : (pv : Int) < (xs.length : Int) := by omega
    have c_pv := HS.out.cell hzpv
    have f_pv := HS.out.blk.frozen pv
    have HSW := Lib.hid (HS.out.swap hza hzpv)
    have HSE := Lib.hid (HS.out.swap hza hza)
    clear hl hza hzpv
    by_cases heq : a = pv
    · subst heq
      generalize zs.getD a 0 = x_a at *
      go_region
      all_goals (
        go_wp2
        go_meet
        exact (show Hid _ from ⟨_, HSE.out.same _ rfl rfl rfl rfl⟩))
    · have hne : ¬ pv = a := fun e => heq e.symm
      generalize zs.getD a 0 = x_a at *
      generalize zs.getD pv 0 = x_pv at *
      go_region
      all_goals (
        go_wp2
        go_meet
        exact (show Hid _ from ⟨_, HSW.out.same _ rfl rfl rfl rfl⟩))
  case rest =>
  clear HS
  obtain ⟨zs, hS⟩ := hcut.out
  have HS := Lib.hid hS; clear hS hcut
  go_wp2_with fail
  go_loopg [9, 10] (b1 + b + 2 - (a + 1)) (fun gh vi vj wr => ∃ (i j : Nat) (zs : List Int), a + 1 ≤ i ∧ i ≤ b ∧ a ≤ j ∧ j ≤ b1 ∧ gh = j + b + 2 - i ∧ vi = .int .i64 i ∧ vj = .int .i64 j ∧ Hid (Sd .u64 31 w0 wr g rest xs zs))
  case atStart => exact ⟨a + 1, b1, zs, by omega, by omega, by omega, by omega, by omega, by go_num, by go_num, HS⟩
  case round =>
    clear HS
    obtain ⟨i, j, zs, hi1, hi2, hj1, hj2, rfl, rfl, rfl, HS⟩ := hrel
    go_wp2_with fail
    go_loopg [9] (b + 1 - i) (fun gh vi wr => ∃ (i2 : Nat), i ≤ i2 ∧ i2 ≤ b ∧ gh = b + 1 - i2 ∧ vi = .int .i64 i2 ∧ Hid (Sd .u64 31 w0 wr g rest xs zs))
    case atStart => exact ⟨i, Nat.le_refl _, by omega, rfl, by go_num, HS⟩
    case round =>
      clear HS
      obtain ⟨i2, hge_i2, hle_i2, rfl, rfl, HS⟩ := hrel
      go_upto_region 3 with fail
      go_cut [43] from 29 to 43 (fun vb wx => ∃ bb, vb = .bool bb ∧ Hid (bb = true → i2 ≤ j) ∧ Hid (Sd .u64 31 w0 wx g rest xs zs))
      case first =>
        by_cases hij : i2 ≤ j
        · have hl := HS.out.len
          have gl := HS.out.blk.lt
          have hza : a < zs.length := by omega
          have hna : (a : Int) < (xs.length : Int) := by omega
          have c_a := HS.out.cell hza
          have f_a := HS.out.blk.frozen a
          have hzi2 : i2 < zs.length := by omega
          have hni2 : (i2 : Int) < (xs.length : Int) := by omega
          have c_i2 := HS.out.cell hzi2
          have f_i2 := HS.out.blk.frozen i2
          have hd : decide ((i2 : Int) ≤ (j : Int)) = true := decide_eq_true (by omega)
          have hd2 : decide (i2 ≤ j) = true := decide_eq_true hij
          generalize zs.getD a 0 = x_a at *
          generalize zs.getD i2 0 = x_i2 at *
          by_cases hxy : x_a < x_i2
          · have hdx : decide (x_a < x_i2) = true := decide_eq_true hxy
            go_quiet ((go_at_call 28; first | exact Calls.quiet_of (LESS.out _ _ _) | (refine (LESS.out _ _ _).mono ?_; rintro e w'' ⟨rfl, q, rfl⟩; exact ⟨rfl, _, drewN3 _ _ _ _⟩)))
            go_wp2
            go_meet
            exact ⟨false, by go_num, (show Hid _ from fun _ => hij), (show Hid _ from HS.out.same _ rfl rfl rfl rfl)⟩
          · have hdx : decide (x_a < x_i2) = false := decide_eq_false hxy
            go_quiet ((go_at_call 28; first | exact Calls.quiet_of (LESS.out _ _ _) | (refine (LESS.out _ _ _).mono ?_; rintro e w'' ⟨rfl, q, rfl⟩; exact ⟨rfl, _, drewN3 _ _ _ _⟩)))
            go_wp2
            go_meet
            exact ⟨true, by go_num, (show Hid _ from fun _ => hij), (show Hid _ from HS.out.same _ rfl rfl rfl rfl)⟩
        · have hd : decide ((i2 : Int) ≤ (j : Int)) = false := decide_eq_false (by omega)
          have hd2 : decide (i2 ≤ j) = false := decide_eq_false hij
          go_quiet ((go_at_call 28; first | exact Calls.quiet_of (LESS.out _ _ _) | (refine (LESS.out _ _ _).mono ?_; rintro e w'' ⟨rfl, q, rfl⟩; exact ⟨rfl, _, drewN3 _ _ _ _⟩)))
          go_wp2
          go_meet
          exact ⟨false, by go_num, (show Hid _ from fun e => by cases e), (show Hid _ from HS.out.same _ rfl rfl rfl rfl)⟩
      case rest =>
      clear HS
      obtain ⟨bb, rfl, HBB, HS⟩ := hcut
      cases bb
      · clear HBB
        go_wp2_with fail
        go_loopg [10] (j + 1) (fun gh vj wr => ∃ (j2 : Nat), j2 ≤ j ∧ a ≤ j2 ∧ gh = j2 + 1 ∧ vj = .int .i64 j2 ∧ Hid (Sd .u64 31 w0 wr g rest xs zs))
        case atStart => exact ⟨j, Nat.le_refl _, by omega, rfl, by go_num, HS⟩
        case round =>
          clear HS
          obtain ⟨j2, hge_j2, hle_j2, rfl, rfl, HS⟩ := hrel
          go_upto_region 5 with fail
          go_cut [59] from 46 to 59 (fun vb wx => ∃ bb, vb = .bool bb ∧ Hid (bb = true → i2 ≤ j2) ∧ Hid (Sd .u64 31 w0 wx g rest xs zs))
          case first =>
            by_cases hij : i2 ≤ j2
            · have hl := HS.out.len
              have gl := HS.out.blk.lt
              have hza : a < zs.length := by omega
              have hna : (a : Int) < (xs.length : Int) := by omega
              have c_a := HS.out.cell hza
              have f_a := HS.out.blk.frozen a
              have hzj2 : j2 < zs.length := by omega
              have hnj2 : (j2 : Int) < (xs.length : Int) := by omega
              have c_j2 := HS.out.cell hzj2
              have f_j2 := HS.out.blk.frozen j2
              have hd : decide ((i2 : Int) ≤ (j2 : Int)) = true := decide_eq_true (by omega)
              have hd2 : decide (i2 ≤ j2) = true := decide_eq_true hij
              generalize zs.getD a 0 = x_a at *
              generalize zs.getD j2 0 = x_j2 at *
              by_cases hxy : x_a < x_j2
              · have hdx : decide (x_a < x_j2) = true := decide_eq_true hxy
                go_quiet ((go_at_call 28; first | exact Calls.quiet_of (LESS.out _ _ _) | (refine (LESS.out _ _ _).mono ?_; rintro e w'' ⟨rfl, q, rfl⟩; exact ⟨rfl, _, drewN3 _ _ _ _⟩)))
                go_wp2
                go_meet
                exact ⟨true, by go_num, (show Hid _ from fun _ => hij), (show Hid _ from HS.out.same _ rfl rfl rfl rfl)⟩
              · have hdx : decide (x_a < x_j2) = false := decide_eq_false hxy
                go_quiet ((go_at_call 28; first | exact Calls.quiet_of (LESS.out _ _ _) | (refine (LESS.out _ _ _).mono ?_; rintro e w'' ⟨rfl, q, rfl⟩; exact ⟨rfl, _, drewN3 _ _ _ _⟩)))
                go_wp2
                go_meet
                exact ⟨false, by go_num, (show Hid _ from fun _ => hij), (show Hid _ from HS.out.same _ rfl rfl rfl rfl)⟩
            · have hd : decide ((i2 : Int) ≤ (j2 : Int)) = false := decide_eq_false (by omega)
              have hd2 : decide (i2 ≤ j2) = false := decide_eq_false hij
              go_quiet ((go_at_call 28; first | exact Calls.quiet_of (LESS.out _ _ _) | (refine (LESS.out _ _ _).mono ?_; rintro e w'' ⟨rfl, q, rfl⟩; exact ⟨rfl, _, drewN3 _ _ _ _⟩)))
              go_wp2
              go_meet
              exact ⟨false, by go_num, (show Hid _ from fun e => by cases e), (show Hid _ from HS.out.same _ rfl rfl rfl rfl)⟩
          case rest =>
          clear HS
          obtain ⟨bb, rfl, HBB, HS⟩ := hcut
          cases bb
          · clear HBB
            by_cases hgt : j2 < i2
            · have hgt' : (j2 : Int) < (i2 : Int) := by omega
              go_wp2
              go_ret
              exact ⟨i2, rfl, by omega, by omega, zs, HS.out⟩
            · have hgt' : ¬ (j2 : Int) < (i2 : Int) := by omega
              have hwj2 : IntKind.i64.wrap ((j2 : Int) - 1) = ((j2 - 1 : Nat) : Int) := by rw [IntKind.wrap_i64]; omega
              go_wp2_with fail
              go_upto_region 8 with fail
              go_cut [78] from 65 to 78 (fun vb wx => Hid (So .u64 31 w0 g rest xs wx))
              case first =>
                have hl := HS.out.len
                have gl := HS.out.blk.lt
                have hzi2 : i2 < zs.length := by omega
                have hni2 : (i2 : Int) < (xs.length : Int) := by omega
                have c_i2 := HS.out.cell hzi2
                have f_i2 := HS.out.blk.frozen i2
                have hzj2 : j2 < zs.length := by omega
                have hnj2 : (j2 : Int) < (xs.length : Int) := by omega
                have c_j2 := HS.out.cell hzj2
                have f_j2 := HS.out.blk.frozen j2
                have HSW := Lib.hid (HS.out.swap hzi2 hzj2)
                have HSE := Lib.hid (HS.out.swap hzi2 hzi2)
                clear hl hzi2 hzj2
                by_cases heq : i2 = j2
                · subst heq
                  generalize zs.getD i2 0 = x_i2 at *
                  go_region
                  all_goals (
                    go_wp2
                    go_meet
                    exact (show Hid _ from ⟨_, HSE.out.same _ rfl rfl rfl rfl⟩))
                · have hne : ¬ j2 = i2 := fun e => heq e.symm
                  generalize zs.getD i2 0 = x_i2 at *
                  generalize zs.getD j2 0 = x_j2 at *
                  go_region
                  all_goals (
                    go_wp2
                    go_meet
                    exact (show Hid _ from ⟨_, HSW.out.same _ rfl rfl rfl rfl⟩))
              case rest =>
              clear HS
              obtain ⟨zs, hS⟩ := hcut.out
              have HS := Lib.hid hS; clear hS hcut
              go_wp2_with fail
              go_roundg (j2 - 1 + b + 2 - (i2 + 1))
              case measure => omega
              case rel => exact ⟨i2 + 1, j2 - 1, zs, by omega, by omega, by omega, by omega, rfl, by go_num, by go_num, HS⟩
          · have hij := HBB.out rfl
            clear HBB
            have hwj : IntKind.i64.wrap ((j2 : Int) - 1) = ((j2 - 1 : Nat) : Int) := by rw [IntKind.wrap_i64]; omega
            go_wp2_with fail
            go_roundg (j2 - 1 + 1)
            case measure => omega
            case rel => exact ⟨j2 - 1, by omega, by omega, rfl, by go_num, HS⟩
      · have hij := HBB.out rfl
        clear HBB
        go_wp2_with fail
        go_roundg (b + 1 - (i2 + 1))
        case measure => omega
        case rel => exact ⟨i2 + 1, by omega, by omega, rfl, by go_num, HS⟩
end Go.Proofs.Ythjefbfhpdbcjaa
