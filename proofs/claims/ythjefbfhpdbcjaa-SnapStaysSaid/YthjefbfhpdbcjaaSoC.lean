/- Sorting of numbers: partition. -/
import Derived.Test.YthjefbfhpdbcjaaSoB
import Derived.OwnWalk
import Derived.Deep.CutRange
import Derived.Deep.CutBlock
namespace Go.Proofs.Ythjefbfhpdbcjaa
open Go.RowKit
set_option linter.unusedVariables false
set_option linter.unusedSimpArgs false
set_option maxRecDepth 100000 in
set_option maxHeartbeats 8000000 in
theorem partition_ (g c a b pv : Nat) (rest : List Value) (xs ys : List Int) (w0 w : World) (h : Sd .u64 31 w0 w g rest xs ys) (hb : b ≤ xs.length) (hn : xs.length ≤ 100000) (hab : a < b) (hp1 : a ≤ pv) (hp2 : pv < b) :
    Calls Try.prog 30 #[.slice (some ⟨g, 0, none⟩) xs.length c, .int .i64 a, .int .i64 b, .int .i64 pv] w fun e w' => ∃ (m : Nat) (al : Bool), e = .returned (.tuple #[.int .i64 m, .bool al]) ∧ a ≤ m ∧ m < b ∧ So .u64 31 w0 g rest xs w' := by
  have LESS := Lib.hid (fun x y W => less_ x y W)
  have hwb : IntKind.i64.wrap ((b : Int) - 1) = ((b - 1 : Nat) : Int) := by rw [IntKind.wrap_i64]; omega
  obtain ⟨b1, hb1⟩ : ∃ b1, b1 = b - 1 := ⟨_, rfl⟩
  rw [← hb1] at hwb
  have hb2 : b1 < b := by omega
  have hb3 : b ≤ b1 + 1 := by omega
  clear hb1
  obtain ⟨zs, hzs⟩ : ∃ zs, zs = ys := ⟨_, rfl⟩
  subst hzs
  have HS := Lib.hid h; clear h
  go_enter Try.func30, Try.ntmps30
  go_upto_region 1 with fail
  go_cut [25] from 12 to 25 (fun vb wx => Hid (So .u64 31 w0 g rest xs wx))
  case first =>
    have hl := HS.out.len
    have gl := HS.out.blk.lt
    have hza : a < zs.length := by omega
    have hna : (a : Int) < (xs.length : Int) := by omega
    have c_a := HS.out.cell hza
    have f_a := HS.out.blk.frozen a
    have hzpv : pv < zs.length := by omega
    have hnpv : (pv : Int) < (xs.length : Int) := by omega
    have c_pv := HS.out.cell hzpv
    have f_pv := HS.out.blk.frozen pv
    have HSW := Lib.hid (HS.out.swap hza hzpv)
    have HSE := Lib.hid (HS.out.swap hza hza)
    clear hl hza hzpv
    by_cases heq : a = pv
    · subst heq
      generalize zs.getD a 0 = x_a at *
      go_region
      all_goals (
        go_wp2
        go_meet
        exact (show Hid _ from ⟨_, HSE.out.same _ rfl rfl rfl rfl⟩))
    · have hne : ¬ pv = a := fun e => heq e.symm
      generalize zs.getD a 0 = x_a at *
      generalize zs.getD pv 0 = x_pv at *
      go_region
      all_goals (
        go_wp2
        go_meet
        exact (show Hid _ from ⟨_, HSW.out.same _ rfl rfl rfl rfl⟩))
  case rest =>
  clear HS
  obtain ⟨zs, hS⟩ := hcut.out
  have HS := Lib.hid hS; clear hS hcut
  go_wp2_with fail
  go_loopg [10] (b + 1 - (a + 1)) (fun gh vi wr => ∃ (i : Nat), (a + 1) ≤ i ∧ i ≤ b ∧ gh = b + 1 - i ∧ vi = .int .i64 i ∧ Hid (Sd .u64 31 w0 wr g rest xs zs))
  case atStart => exact ⟨(a + 1), Nat.le_refl _, by omega, rfl, by go_num, HS⟩
  case round =>
    clear HS
    obtain ⟨i, hge_i, hle_i, rfl, rfl, HS⟩ := hrel
    go_upto_region 3 with fail
    go_cut [43] from 30 to 43 (fun vb wx => ∃ bb, vb = .bool bb ∧ Hid (bb = true → i ≤ b1) ∧ Hid (Sd .u64 31 w0 wx g rest xs zs))
    case first =>
      by_cases hij : i ≤ b1
      · have hl := HS.out.len
        have gl := HS.out.blk.lt
        have hzi : i < zs.length := by omega
        have hni : (i : Int) < (xs.length : Int) := by omega
        have c_i := HS.out.cell hzi
        have f_i := HS.out.blk.frozen i
        have hza : a < zs.length := by omega
        have hna : (a : Int) < (xs.length : Int) := by omega
        have c_a := HS.out.cell hza
        have f_a := HS.out.blk.frozen a
        have hd : decide ((i : Int) ≤ (b1 : Int)) = true := decide_eq_true (by omega)
        have hd2 : decide (i ≤ b1) = true := decide_eq_true hij
        generalize zs.getD i 0 = x_i at *
        generalize zs.getD a 0 = x_a at *
        by_cases hxy : x_i < x_a
        · have hdx : decide (x_i < x_a) = true := decide_eq_true hxy
          go_quiet ((go_at_call 28; first | exact Calls.quiet_of (LESS.out _ _ _) | (refine (LESS.out _ _ _).mono ?_; rintro e w'' ⟨rfl, q, rfl⟩; exact ⟨rfl, _, drewN3 _ _ _ _⟩)))
          go_wp2
          go_meet
          exact ⟨true, by go_num, (show Hid _ from fun _ => hij), (show Hid _ from HS.out.same _ rfl rfl rfl rfl)⟩
        · have hdx : decide (x_i < x_a) = false := decide_eq_false hxy
          go_quiet ((go_at_call 28; first | exact Calls.quiet_of (LESS.out _ _ _) | (refine (LESS.out _ _ _).mono ?_; rintro e w'' ⟨rfl, q, rfl⟩; exact ⟨rfl, _, drewN3 _ _ _ _⟩)))
          go_wp2
          go_meet
          exact ⟨false, by go_num, (show Hid _ from fun _ => hij), (show Hid _ from HS.out.same _ rfl rfl rfl rfl)⟩
      · have hd : decide ((i : Int) ≤ (b1 : Int)) = false := decide_eq_false (by omega)
        have hd2 : decide (i ≤ b1) = false := decide_eq_false hij
        go_quiet ((go_at_call 28; first | exact Calls.quiet_of (LESS.out _ _ _) | (refine (LESS.out _ _ _).mono ?_; rintro e w'' ⟨rfl, q, rfl⟩; exact ⟨rfl, _, drewN3 _ _ _ _⟩)))
        go_wp2
        go_meet
        exact ⟨false, by go_num, (show Hid _ from fun e => by cases e), (show Hid _ from HS.out.same _ rfl rfl rfl rfl)⟩
    case rest =>
    clear HS
    obtain ⟨bb, rfl, HBB, HS⟩ := hcut
    cases bb
    · clear HBB
      go_wp2_with fail
      go_loopg [11] (b1 + 1) (fun gh vj wr => ∃ (j : Nat), j ≤ b1 ∧ a ≤ j ∧ gh = j + 1 ∧ vj = .int .i64 j ∧ Hid (Sd .u64 31 w0 wr g rest xs zs))
      case atStart => exact ⟨b1, Nat.le_refl _, by omega, rfl, by go_num, HS⟩
      case round =>
        clear HS
        obtain ⟨j, hge_j, hle_j, rfl, rfl, HS⟩ := hrel
        go_upto_region 5 with fail
        go_cut [60] from 46 to 60 (fun vb wx => ∃ bb, vb = .bool bb ∧ Hid (bb = true → i ≤ j) ∧ Hid (Sd .u64 31 w0 wx g rest xs zs))
        case first =>
          by_cases hij : i ≤ j
          · have hl := HS.out.len
            have gl := HS.out.blk.lt
            have hzj : j < zs.length := by omega
            have hnj : (j : Int) < (xs.length : Int) := by omega
            have c_j := HS.out.cell hzj
            have f_j := HS.out.blk.frozen j
            have hza : a < zs.length := by omega
            have hna : (a : Int) < (xs.length : Int) := by omega
            have c_a := HS.out.cell hza
            have f_a := HS.out.blk.frozen a
            have hd : decide ((i : Int) ≤ (j : Int)) = true := decide_eq_true (by omega)
            have hd2 : decide (i ≤ j) = true := decide_eq_true hij
            generalize zs.getD j 0 = x_j at *
            generalize zs.getD a 0 = x_a at *
            by_cases hxy : x_j < x_a
            · have hdx : decide (x_j < x_a) = true := decide_eq_true hxy
              go_quiet ((go_at_call 28; first | exact Calls.quiet_of (LESS.out _ _ _) | (refine (LESS.out _ _ _).mono ?_; rintro e w'' ⟨rfl, q, rfl⟩; exact ⟨rfl, _, drewN3 _ _ _ _⟩)))
              go_wp2
              go_meet
              exact ⟨false, by go_num, (show Hid _ from fun _ => hij), (show Hid _ from HS.out.same _ rfl rfl rfl rfl)⟩
            · have hdx : decide (x_j < x_a) = false := decide_eq_false hxy
              go_quiet ((go_at_call 28; first | exact Calls.quiet_of (LESS.out _ _ _) | (refine (LESS.out _ _ _).mono ?_; rintro e w'' ⟨rfl, q, rfl⟩; exact ⟨rfl, _, drewN3 _ _ _ _⟩)))
              go_wp2
              go_meet
              exact ⟨true, by go_num, (show Hid _ from fun _ => hij), (show Hid _ from HS.out.same _ rfl rfl rfl rfl)⟩
          · have hd : decide ((i : Int) ≤ (j : Int)) = false := decide_eq_false (by omega)
            have hd2 : decide (i ≤ j) = false := decide_eq_false hij
            go_quiet ((go_at_call 28; first | exact Calls.quiet_of (LESS.out _ _ _) | (refine (LESS.out _ _ _).mono ?_; rintro e w'' ⟨rfl, q, rfl⟩; exact ⟨rfl, _, drewN3 _ _ _ _⟩)))
            go_wp2
            go_meet
            exact ⟨false, by go_num, (show Hid _ from fun e => by cases e), (show Hid _ from HS.out.same _ rfl rfl rfl rfl)⟩
        case rest =>
        clear HS
        obtain ⟨bb, rfl, HBB, HS⟩ := hcut
        cases bb
        · clear HBB
          by_cases hgt : j < i
          · have hgt' : (j : Int) < (i : Int) := by omega
            go_wp2_with fail
            go_upto_region 8 with fail
            go_cut [79] from 66 to 79 (fun vb wx => Hid (So .u64 31 w0 g rest xs wx))
            case first =>
              have hl := HS.out.len
              have gl := HS.out.blk.lt
              have hzj : j < zs.length := by omega
              have hnj : (j : Int) < (xs.length : Int) := by omega
              have c_j := HS.out.cell hzj
              have f_j := HS.out.blk.frozen j
              have hza : a < zs.length := by omega
              have hna : (a : Int) < (xs.length : Int) := by omega
              have c_a := HS.out.cell hza
              have f_a := HS.out.blk.frozen a
              have HSW := Lib.hid (HS.out.swap hzj hza)
              have HSE := Lib.hid (HS.out.swap hzj hzj)
              clear hl hzj hza
              by_cases heq : j = a
              · subst heq
                generalize zs.getD j 0 = x_j at *
                go_region
                all_goals (
                  go_wp2
                  go_meet
                  exact (show Hid _ from ⟨_, HSE.out.same _ rfl rfl rfl rfl⟩))
              · have hne : ¬ a = j := fun e => heq e.symm
                generalize zs.getD j 0 = x_j at *
                generalize zs.getD a 0 = x_a at *
                go_region
                all_goals (
                  go_wp2
                  go_meet
                  exact (show Hid _ from ⟨_, HSW.out.same _ rfl rfl rfl rfl⟩))
            case rest =>
            clear HS
            obtain ⟨zs, hS⟩ := hcut.out
            have HS := Lib.hid hS; clear hS hcut
            go_wp2
            go_ret2
            exact ⟨j, true, rfl, by omega, by omega, zs, HS.out⟩
          · have hgt' : ¬ (j : Int) < (i : Int) := by omega
            have hwj : IntKind.i64.wrap ((j : Int) - 1) = ((j - 1 : Nat) : Int) := by rw [IntKind.wrap_i64]; omega
            go_wp2_with fail
            go_upto_region 10 with fail
            go_cut [94] from 81 to 94 (fun vb wx => Hid (So .u64 31 w0 g rest xs wx))
            case first =>
              have hl := HS.out.len
              have gl := HS.out.blk.lt
              have hzi : i < zs.length := by omega
              have hni : (i : Int) < (xs.length : Int) := by omega
              have c_i := HS.out.cell hzi
              have f_i := HS.out.blk.frozen i
              have hzj : j < zs.length := by omega
              have hnj : (j : Int) < (xs.length : Int) := by omega
              have c_j := HS.out.cell hzj
              have f_j := HS.out.blk.frozen j
              have HSW := Lib.hid (HS.out.swap hzi hzj)
              have HSE := Lib.hid (HS.out.swap hzi hzi)
              clear hl hzi hzj
              by_cases heq : i = j
              · subst heq
                generalize zs.getD i 0 = x_i at *
                go_region
                all_goals (
                  go_wp2
                  go_meet
                  exact (show Hid _ from ⟨_, HSE.out.same _ rfl rfl rfl rfl⟩))
              · have hne : ¬ j = i := fun e => heq e.symm
                generalize zs.getD i 0 = x_i at *
                generalize zs.getD j 0 = x_j at *
                go_region
                all_goals (
                  go_wp2
                  go_meet
                  exact (show Hid _ from ⟨_, HSW.out.same _ rfl rfl rfl rfl⟩))
            case rest =>
            clear HS
            obtain ⟨zs, hS⟩ := hcut.out
            have HS := Lib.hid hS; clear hS hcut
            go_wp2_with fail
            go_loopg [10, 11] (j - 1 + b + 2 - (i + 1)) (fun gh vi vj wr => ∃ (i j : Nat) (zs : List Int), a + 1 ≤ i ∧ i ≤ b ∧ a ≤ j ∧ j ≤ b1 ∧ gh = j + b + 2 - i ∧ vi = .int .i64 i ∧ vj = .int .i64 j ∧ Hid (Sd .u64 31 w0 wr g rest xs zs))
            case atStart => exact ⟨i + 1, j - 1, zs, by omega, by omega, by omega, by omega, by omega, by go_num, by go_num, HS⟩
            case round =>
              clear HS
              obtain ⟨i, j, zs, hi1, hi2, hj1, hj2, rfl, rfl, rfl, HS⟩ := hrel
              go_wp2_with fail
              go_loopg [10] (b + 1 - i) (fun gh vi wr => ∃ (i2 : Nat), i ≤ i2 ∧ i2 ≤ b ∧ gh = b + 1 - i2 ∧ vi = .int .i64 i2 ∧ Hid (Sd .u64 31 w0 wr g rest xs zs))
              case atStart => exact ⟨i, Nat.le_refl _, by omega, rfl, by go_num, HS⟩
              case round =>
                clear HS
                obtain ⟨i2, hge_i2, hle_i2, rfl, rfl, HS⟩ := hrel
                go_upto_region 13 with fail
                go_cut [112] from 99 to 112 (fun vb wx => ∃ bb, vb = .bool bb ∧ Hid (bb = true → i2 ≤ j) ∧ Hid (Sd .u64 31 w0 wx g rest xs zs))
                case first =>
                  by_cases hij : i2 ≤ j
                  · have hl := HS.out.len
                    have gl := HS.out.blk.lt
                    have hzi2 : i2 < zs.length := by omega
                    have hni2 : (i2 : Int) < (xs.length : Int) := by omega
                    have c_i2 := HS.out.cell hzi2
                    have f_i2 := HS.out.blk.frozen i2
                    have hza : a < zs.length := by omega
                    have hna : (a : Int) < (xs.length : Int) := by omega
                    have c_a := HS.out.cell hza
                    have f_a := HS.out.blk.frozen a
                    have hd : decide ((i2 : Int) ≤ (j : Int)) = true := decide_eq_true (by omega)
                    have hd2 : decide (i2 ≤ j) = true := decide_eq_true hij
                    generalize zs.getD i2 0 = x_i2 at *
                    generalize zs.getD a 0 = x_a at *
                    by_cases hxy : x_i2 < x_a
                    · have hdx : decide (x_i2 < x_a) = true := decide_eq_true hxy
                      go_quiet ((go_at_call 28; first | exact Calls.quiet_of (LESS.out _ _ _) | (refine (LESS.out _ _ _).mono ?_; rintro e w'' ⟨rfl, q, rfl⟩; exact ⟨rfl, _, drewN3 _ _ _ _⟩)))
                      go_wp2
                      go_meet
                      exact ⟨true, by go_num, (show Hid _ from fun _ => hij), (show Hid _ from HS.out.same _ rfl rfl rfl rfl)⟩
                    · have hdx : decide (x_i2 < x_a) = false := decide_eq_false hxy
                      go_quiet ((go_at_call 28; first | exact Calls.quiet_of (LESS.out _ _ _) | (refine (LESS.out _ _ _).mono ?_; rintro e w'' ⟨rfl, q, rfl⟩; exact ⟨rfl, _, drewN3 _ _ _ _⟩)))
                      go_wp2
                      go_meet
                      exact ⟨false, by go_num, (show Hid _ from fun _ => hij), (show Hid _ from HS.out.same _ rfl rfl rfl rfl)⟩
                  · have hd : decide ((i2 : Int) ≤ (j : Int)) = false := decide_eq_false (by omega)
                    have hd2 : decide (i2 ≤ j) = false := decide_eq_false hij
                    go_quiet ((go_at_call 28; first | exact Calls.quiet_of (LESS.out _ _ _) | (refine (LESS.out _ _ _).mono ?_; rintro e w'' ⟨rfl, q, rfl⟩; exact ⟨rfl, _, drewN3 _ _ _ _⟩)))
                    go_wp2
                    go_meet
                    exact ⟨false, by go_num, (show Hid _ from fun e => by cases e), (show Hid _ from HS.out.same _ rfl rfl rfl rfl)⟩
                case rest =>
                clear HS
                obtain ⟨bb, rfl, HBB, HS⟩ := hcut
                cases bb
                · clear HBB
                  go_wp2_with fail
                  go_loopg [11] (j + 1) (fun gh vj wr => ∃ (j2 : Nat), j2 ≤ j ∧ a ≤ j2 ∧ gh = j2 + 1 ∧ vj = .int .i64 j2 ∧ Hid (Sd .u64 31 w0 wr g rest xs zs))
                  case atStart => exact ⟨j, Nat.le_refl _, by omega, rfl, by go_num, HS⟩
                  case round =>
                    clear HS
                    obtain ⟨j2, hge_j2, hle_j2, rfl, rfl, HS⟩ := hrel
                    go_upto_region 15 with fail
                    go_cut [129] from 115 to 129 (fun vb wx => ∃ bb, vb = .bool bb ∧ Hid (bb = true → i2 ≤ j2) ∧ Hid (Sd .u64 31 w0 wx g rest xs zs))
                    case first =>
                      by_cases hij : i2 ≤ j2
                      · have hl := HS.out.len
                        have gl := HS.out.blk.lt
                        have hzj2 : j2 < zs.length := by omega
                        have hnj2 : (j2 : Int) < (xs.length : Int) := by omega
                        have c_j2 := HS.out.cell hzj2
                        have f_j2 := HS.out.blk.frozen j2
                        have hza : a < zs.length := by omega
                        have hna : (a : Int) < (xs.length : Int) := by omega
                        have c_a := HS.out.cell hza
                        have f_a := HS.out.blk.frozen a
                        have hd : decide ((i2 : Int) ≤ (j2 : Int)) = true := decide_eq_true (by omega)
                        have hd2 : decide (i2 ≤ j2) = true := decide_eq_true hij
                        generalize zs.getD j2 0 = x_j2 at *
                        generalize zs.getD a 0 = x_a at *
                        by_cases hxy : x_j2 < x_a
                        · have hdx : decide (x_j2 < x_a) = true := decide_eq_true hxy
                          go_quiet ((go_at_call 28; first | exact Calls.quiet_of (LESS.out _ _ _) | (refine (LESS.out _ _ _).mono ?_; rintro e w'' ⟨rfl, q, rfl⟩; exact ⟨rfl, _, drewN3 _ _ _ _⟩)))
                          go_wp2
                          go_meet
                          exact ⟨false, by go_num, (show Hid _ from fun _ => hij), (show Hid _ from HS.out.same _ rfl rfl rfl rfl)⟩
                        · have hdx : decide (x_j2 < x_a) = false := decide_eq_false hxy
                          go_quiet ((go_at_call 28; first | exact Calls.quiet_of (LESS.out _ _ _) | (refine (LESS.out _ _ _).mono ?_; rintro e w'' ⟨rfl, q, rfl⟩; exact ⟨rfl, _, drewN3 _ _ _ _⟩)))
                          go_wp2
                          go_meet
                          exact ⟨true, by go_num, (show Hid _ from fun _ => hij), (show Hid _ from HS.out.same _ rfl rfl rfl rfl)⟩
                      · have hd : decide ((i2 : Int) ≤ (j2 : Int)) = false := decide_eq_false (by omega)
                        have hd2 : decide (i2 ≤ j2) = false := decide_eq_false hij
                        go_quiet ((go_at_call 28; first | exact Calls.quiet_of (LESS.out _ _ _) | (refine (LESS.out _ _ _).mono ?_; rintro e w'' ⟨rfl, q, rfl⟩; exact ⟨rfl, _, drewN3 _ _ _ _⟩)))
                        go_wp2
                        go_meet
                        exact ⟨false, by go_num, (show Hid _ from fun e => by cases e), (show Hid _ from HS.out.same _ rfl rfl rfl rfl)⟩
                    case rest =>
                    clear HS
                    obtain ⟨bb, rfl, HBB, HS⟩ := hcut
                    cases bb
                    · clear HBB
                      by_cases hgt : j2 < i2
                      · have hgt' : (j2 : Int) < (i2 : Int) := by omega
                        go_wp2_with fail
                        go_upto_region 21 with fail
                        go_cut [166] from 153 to 166 (fun vb wx => Hid (So .u64 31 w0 g rest xs wx))
                        case first =>
                          have hl := HS.out.len
                          have gl := HS.out.blk.lt
                          have hzj2 : j2 < zs.length := by omega
                          have hnj2 : (j2 : Int) < (xs.length : Int) := by omega
                          have c_j2 := HS.out.cell hzj2
                          have f_j2 := HS.out.blk.frozen j2
                          have hza : a < zs.length := by omega
                          have hna : (a : Int) < (xs.length : Int) := by omega
                          have c_a := HS.out.cell hza
                          have f_a := HS.out.blk.frozen a
                          have HSW := Lib.hid (HS.out.swap hzj2 hza)
                          have HSE := Lib.hid (HS.out.swap hzj2 hzj2)
                          clear hl hzj2 hza
                          by_cases heq : j2 = a
                          · subst heq
                            generalize zs.getD j2 0 = x_j2 at *
                            go_region
                            all_goals (
                              go_wp2
                              go_meet
                              exact (show Hid _ from ⟨_, HSE.out.same _ rfl rfl rfl rfl⟩))
                          · have hne : ¬ a = j2 := fun e => heq e.symm
                            generalize zs.getD j2 0 = x_j2 at *
                            generalize zs.getD a 0 = x_a at *
                            go_region
                            all_goals (
                              go_wp2
                              go_meet
                              exact (show Hid _ from ⟨_, HSW.out.same _ rfl rfl rfl rfl⟩))
                        case rest =>
                        clear HS
                        obtain ⟨zs, hS⟩ := hcut.out
                        have HS := Lib.hid hS; clear hS hcut
                        go_wp2
                        go_ret2
                        exact ⟨j2, false, rfl, by omega, by omega, zs, HS.out⟩
                      · have hgt' : ¬ (j2 : Int) < (i2 : Int) := by omega
                        have hwj2 : IntKind.i64.wrap ((j2 : Int) - 1) = ((j2 - 1 : Nat) : Int) := by rw [IntKind.wrap_i64]; omega
                        go_wp2_with fail
                        go_upto_region 18 with fail
                        go_cut [148] from 135 to 148 (fun vb wx => Hid (So .u64 31 w0 g rest xs wx))
                        case first =>
                          have hl := HS.out.len
                          have gl := HS.out.blk.lt
                          have hzi2 : i2 < zs.length := by omega
                          have hni2 : (i2 : Int) < (xs.length : Int) := by omega
                          have c_i2 := HS.out.cell hzi2
                          have f_i2 := HS.out.blk.frozen i2
                          have hzj2 : j2 < zs.length := by omega
                          have hnj2 : (j2 : Int) < (xs.length : Int) := by omega
                          have c_j2 := HS.out.cell hzj2
                          have f_j2 := HS.out.blk.frozen j2
                          have HSW := Lib.hid (HS.out.swap hzi2 hzj2)
                          have HSE := Lib.hid (HS.out.swap hzi2 hzi2)
                          clear hl hzi2 hzj2
                          by_cases heq : i2 = j2
                          · subst heq
                            generalize zs.getD i2 0 = x_i2 at *
                            go_region
                            all_goals (
                              go_wp2
                              go_meet
                              exact (show Hid _ from ⟨_, HSE.out.same _ rfl rfl rfl rfl⟩))
                          · have hne : ¬ j2 = i2 := fun e => heq e.symm
                            generalize zs.getD i2 0 = x_i2 at *
                            generalize zs.getD j2 0 = x_j2 at *
                            go_region
                            all_goals (
                              go_wp2
                              go_meet
                              exact (show Hid _ from ⟨_, HSW.out.same _ rfl rfl rfl rfl⟩))
                        case rest =>
                        clear HS
                        obtain ⟨zs, hS⟩ := hcut.out
                        have HS := Lib.hid hS; clear hS hcut
                        go_wp2_with fail
                        go_roundg (j2 - 1 + b + 2 - (i2 + 1))
                        case measure => omega
                        case rel => exact ⟨i2 + 1, j2 - 1, zs, by omega, by omega, by omega, by omega, rfl, by go_num, by go_num, HS⟩
                    · have hij := HBB.out rfl
                      clear HBB
                      have hwj : IntKind.i64.wrap ((j2 : Int) - 1) = ((j2 - 1 : Nat) : Int) := by rw [IntKind.wrap_i64]; omega
                      go_wp2_with fail
                      go_roundg (j2 - 1 + 1)
                      case measure => omega
                      case rel => exact ⟨j2 - 1, by omega, by omega, rfl, by go_num, HS⟩
                · have hij := HBB.out rfl
                  clear HBB
                  go_wp2_with fail
                  go_roundg (b + 1 - (i2 + 1))
                  case measure => omega
                  case rel => exact ⟨i2 + 1, by omega, by omega, rfl, by go_num, HS⟩
        · have hij := HBB.out rfl
          clear HBB
          have hwj : IntKind.i64.wrap ((j : Int) - 1) = ((j - 1 : Nat) : Int) := by rw [IntKind.wrap_i64]; omega
          go_wp2_with fail
          go_roundg (j - 1 + 1)
          case measure => omega
          case rel => exact ⟨j - 1, by omega, by omega, rfl, by go_num, HS⟩
    · have hij := HBB.out rfl
      clear HBB
      go_wp2_with fail
      go_roundg (b + 1 - (i + 1))
      case measure => omega
      case rel => exact ⟨i + 1, by omega, by omega, rfl, by go_num, HS⟩
end Go.Proofs.Ythjefbfhpdbcjaa
