/- Sorting of numbers: the insertion sort that gives up. -/
import Derived.Test.YthjefbfhpdbcjaaSoC
namespace Go.Proofs.Ythjefbfhpdbcjaa
open Go.RowKit
set_option linter.unusedVariables false
set_option linter.unusedSimpArgs false
/-- What the sort that gives up comes to. -/
def PRes (k : IntKind) (t : TypeId) (w0 : World) (g : Nat) (rest : List Value) (xs : List Int) (e : Ending) (w' : World) : Prop := ∃ r : Bool, e = .returned (.bool r) ∧ So k t w0 g rest xs w'
set_option maxRecDepth 100000 in
set_option maxHeartbeats 8000000 in
theorem partial_ (g c a b : Nat) (rest : List Value) (xs ys : List Int) (w0 w : World) (h : Sd .u64 31 w0 w g rest xs ys) (hb : b ≤ xs.length) (hn : xs.length ≤ 100000) (hab : a < b) :
    Calls Try.prog 27 #[.slice (some ⟨g, 0, none⟩) xs.length c, .int .i64 a, .int .i64 b] w (PRes .u64 31 w0 g rest xs) := by
  have LESS := Lib.hid (fun x y W => less_ x y W)
  have HS := Lib.hid h; clear h
  go_enter Try.func27, Try.ntmps27
  go_wp2_with fail
  go_loopg [7, 8] 5 (fun gh vi vj wr => ∃ (n i : Nat) (zs : List Int), n ≤ 5 ∧ a + 1 ≤ i ∧ i ≤ b ∧ gh = 5 - n ∧ vi = .int .i64 i ∧ vj = .int .i64 n ∧ Hid (Sd .u64 31 w0 wr g rest xs zs))
  case atStart => exact ⟨0, a + 1, ys, by omega, by omega, by omega, rfl, by go_num, rfl, HS⟩
  case round =>
    clear HS
    obtain ⟨n, i, zs, hn5, hia, hib', rfl, rfl, rfl, HS⟩ := hrel
    by_cases h5 : n < 5
    · have h5' : (n : Int) < 5 := by omega
      go_wp2_with fail
      go_loopg [7] (b + 1 - i) (fun gh vi wr => ∃ (i2 : Nat), i ≤ i2 ∧ i2 ≤ b ∧ gh = b + 1 - i2 ∧ vi = .int .i64 i2 ∧ Hid (Sd .u64 31 w0 wr g rest xs zs))
      case atStart => exact ⟨i, Nat.le_refl _, by omega, rfl, by go_num, HS⟩
      case round =>
        clear HS
        obtain ⟨i2, hge2, hle2, rfl, rfl, HS⟩ := hrel
        go_upto_region 5 with fail
        go_cut [32] from 17 to 32 (fun vb wx => ∃ bb, vb = .bool bb ∧ Hid (bb = true → i2 < b) ∧ Hid (Sd .u64 31 w0 wx g rest xs zs))
        case first =>
          by_cases hib : i2 < b
          · have hd : decide ((i2 : Int) < (b : Int)) = true := decide_eq_true (by omega)
            have hd2 : decide (i2 < b) = true := decide_eq_true hib
            obtain ⟨i2m, hi2m⟩ : ∃ i2m, i2m = i2 - 1 := ⟨_, rfl⟩
            have hwi2m : IntKind.i64.wrap ((i2 : Int) - 1) = (i2m : Int) := by rw [IntKind.wrap_i64]; omega
            have hl := HS.out.len
            have gl := HS.out.blk.lt
            have hzi2 : i2 < zs.length := by omega
            have hni2 : (i2 : Int) < (xs.length : Int) := by omega
            have c_i2 := HS.out.cell hzi2
            have f_i2 := HS.out.blk.frozen i2
            have hzi2m : i2m < zs.length := by omega
            have hni2m : (i2m : Int) < (xs.length : Int) := by omega
            have c_i2m := HS.out.cell hzi2m
            have f_i2m := HS.out.blk.frozen i2m
            have HSW := Lib.hid (HS.out.swap hzi2 hzi2m)
            have hne1 : ¬ i2 = i2m := by omega
            have hne2 : ¬ i2m = i2 := by omega
            have hi2ma : i2m < i2 := by omega
            have hi2mb : i2 ≤ i2m + 1 := by omega
            clear hl hzi2 hzi2m hi2m
            generalize zs.getD i2 0 = x_i2 at *
            generalize zs.getD i2m 0 = x_i2m at *
            by_cases hxy : x_i2 < x_i2m
            · have hdx : decide (x_i2 < x_i2m) = true := decide_eq_true hxy
              go_quiet ((go_at_call 28; first | exact Calls.quiet_of (LESS.out _ _ _) | (refine (LESS.out _ _ _).mono ?_; rintro e w'' ⟨rfl, q, rfl⟩; exact ⟨rfl, _, drewN3 _ _ _ _⟩)))
              go_wp2
              go_meet
              exact ⟨false, by go_num, (show Hid _ from fun _ => hib), (show Hid _ from HS.out.same _ rfl rfl rfl rfl)⟩
            · have hdx : decide (x_i2 < x_i2m) = false := decide_eq_false hxy
              go_quiet ((go_at_call 28; first | exact Calls.quiet_of (LESS.out _ _ _) | (refine (LESS.out _ _ _).mono ?_; rintro e w'' ⟨rfl, q, rfl⟩; exact ⟨rfl, _, drewN3 _ _ _ _⟩)))
              go_wp2
              go_meet
              exact ⟨true, by go_num, (show Hid _ from fun _ => hib), (show Hid _ from HS.out.same _ rfl rfl rfl rfl)⟩
          · have hd : decide ((i2 : Int) < (b : Int)) = false := decide_eq_false (by omega)
            have hd2 : decide (i2 < b) = false := decide_eq_false hib
            go_quiet ((go_at_call 28; first | exact Calls.quiet_of (LESS.out _ _ _) | (refine (LESS.out _ _ _).mono ?_; rintro e w'' ⟨rfl, q, rfl⟩; exact ⟨rfl, _, drewN3 _ _ _ _⟩)))
            go_wp2
            go_meet
            exact ⟨false, by go_num, (show Hid _ from fun e => by cases e), (show Hid _ from HS.out.same _ rfl rfl rfl rfl)⟩
        case rest =>
        clear HS
        obtain ⟨bb, rfl, HBB, HS⟩ := hcut
        cases bb
        · clear HBB
          by_cases heb : i2 = b
          · have q1 : ((i2 : Int) == (b : Int)) = true := by simp [heb]
            have q2 : (i2 == b) = true := by simp [heb]
            have HEB := Lib.hid heb; clear heb
            go_wp2
            go_ret
            exact ⟨true, rfl, zs, HS.out⟩
          · have q1 : ((i2 : Int) == (b : Int)) = false := by simp; omega
            have q2 : (i2 == b) = false := by simpa using heb
            have hi2b : i2 < b := by omega
            have hi2a : a + 1 ≤ i2 := by omega
            have hwl : IntKind.i64.wrap ((b : Int) - (a : Int)) = ((b - a : Nat) : Int) := by rw [IntKind.wrap_i64]; omega
            clear heb
            by_cases h50 : b - a < 50
            · have h50' : ((b - a : Nat) : Int) < 50 := by omega
              obtain ⟨l, hl⟩ : ∃ l, l = b - a := ⟨_, rfl⟩
              rw [← hl] at hwl h50 h50'
              clear hl
              go_wp2
              go_ret
              exact ⟨false, rfl, zs, HS.out⟩
            · have h50' : ¬ ((b - a : Nat) : Int) < 50 := by omega
              obtain ⟨l, hl⟩ : ∃ l, l = b - a := ⟨_, rfl⟩
              rw [← hl] at hwl h50 h50'
              clear hl
              go_upto_region 11 with fail
              go_cut [57] from 42 to 57 (fun vb wx => Hid (So .u64 31 w0 g rest xs wx))
              case first =>
                obtain ⟨i2m, hi2m⟩ : ∃ i2m, i2m = i2 - 1 := ⟨_, rfl⟩
                have hwi2m : IntKind.i64.wrap ((i2 : Int) - 1) = (i2m : Int) := by rw [IntKind.wrap_i64]; omega
                have hl := HS.out.len
                have gl := HS.out.blk.lt
                have hzi2 : i2 < zs.length := by omega
                have hni2 : (i2 : Int) < (xs.length : Int) := by omega
                have c_i2 := HS.out.cell hzi2
                have f_i2 := HS.out.blk.frozen i2
                have hzi2m : i2m < zs.length := by omega
                have hni2m : (i2m : Int) < (xs.length : Int) := by omega
                have c_i2m := HS.out.cell hzi2m
                have f_i2m := HS.out.blk.frozen i2m
                have HSW := Lib.hid (HS.out.swap hzi2 hzi2m)
                have hne1 : ¬ i2 = i2m := by omega
                have hne2 : ¬ i2m = i2 := by omega
                have hi2ma : i2m < i2 := by omega
                have hi2mb : i2 ≤ i2m + 1 := by omega
                clear hl hzi2 hzi2m hi2m
                generalize zs.getD i2 0 = x_i2 at *
                generalize zs.getD i2m 0 = x_i2m at *
                go_region
                all_goals (
                  go_wp2
                  go_meet
                  exact (show Hid _ from ⟨_, HSW.out.same _ rfl rfl rfl rfl⟩))
              case rest =>
              clear HS
              obtain ⟨zs, hS⟩ := hcut.out
              have HS := Lib.hid hS; clear hS hcut
              have hwia : IntKind.i64.wrap ((i2 : Int) - (a : Int)) = ((i2 - a : Nat) : Int) := by rw [IntKind.wrap_i64]; omega
              have hwbi : IntKind.i64.wrap ((b : Int) - (i2 : Int)) = ((b - i2 : Nat) : Int) := by rw [IntKind.wrap_i64]; omega
              obtain ⟨d1, hd1⟩ : ∃ d1, d1 = i2 - a := ⟨_, rfl⟩
              obtain ⟨d2, hd2⟩ : ∃ d2, d2 = b - i2 := ⟨_, rfl⟩
              rw [← hd1] at hwia
              rw [← hd2] at hwbi
              clear hd1 hd2
              go_upto_if 61 with fail
              go_cut [9] from 58 to 94 (fun vb wx => Hid (So .u64 31 w0 g rest xs wx))
              case first =>
                by_cases hge : 2 ≤ d1
                · have hge' : (2 : Int) ≤ (d1 : Int) := by omega
                  have hwi : IntKind.i64.wrap ((i2 : Int) - 1) = ((i2 - 1 : Nat) : Int) := by rw [IntKind.wrap_i64]; omega
                  go_wp2_with fail
                  go_loopg [9] (i2 - 1 + 1) (fun gh vj wr => ∃ (j : Nat) (zs : List Int), j < i2 ∧ gh = j + 1 ∧ vj = .int .i64 j ∧ Hid (Sd .u64 31 w0 wr g rest xs zs))
                  case atStart => exact ⟨i2 - 1, zs, by omega, rfl, by go_num, HS⟩
                  case round =>
                    clear HS
                    obtain ⟨j, zs, hj, rfl, rfl, HS⟩ := hrel
                    by_cases hj1 : 1 ≤ j
                    · have hj1' : (1 : Int) ≤ (j : Int) := by omega
                      obtain ⟨jm, hjm⟩ : ∃ jm, jm = j - 1 := ⟨_, rfl⟩
                      have hwjm : IntKind.i64.wrap ((j : Int) - 1) = (jm : Int) := by rw [IntKind.wrap_i64]; omega
                      have hl := HS.out.len
                      have gl := HS.out.blk.lt
                      have hzj : j < zs.length := by omega
                      have hnj : (j : Int) < (xs.length : Int) := by omega
                      have c_j := HS.out.cell hzj
                      have f_j := HS.out.blk.frozen j
                      have hzjm : jm < zs.length := by omega
                      have hnjm : (jm : Int) < (xs.length : Int) := by omega
                      have c_jm := HS.out.cell hzjm
                      have f_jm := HS.out.blk.frozen jm
                      have HSW := Lib.hid (HS.out.swap hzj hzjm)
                      have hne1 : ¬ j = jm := by omega
                      have hne2 : ¬ jm = j := by omega
                      have hjma : jm < j := by omega
                      have hjmb : j ≤ jm + 1 := by omega
                      clear hl hzj hzjm hjm
                      generalize zs.getD j 0 = x_j at *
                      generalize zs.getD jm 0 = x_jm at *
                      by_cases hxy : x_j < x_jm
                      · have hdx : decide (x_j < x_jm) = true := decide_eq_true hxy
                        go_wp2_with fail
                        go_quiet ((go_at_call 28; first | exact Calls.quiet_of (LESS.out _ _ _) | (refine (LESS.out _ _ _).mono ?_; rintro e w'' ⟨rfl, q, rfl⟩; exact ⟨rfl, _, drewN3 _ _ _ _⟩)))
                        go_wp2_with fail
                        go_region
                        all_goals (
                          go_wp2_with fail
                          go_roundg (jm + 1)
                          case measure => omega
                          case rel => exact ⟨jm, _, by omega, rfl, by go_num, (show Hid _ from HSW.out.same _ rfl rfl rfl rfl)⟩)
                      · have hdx : decide (x_j < x_jm) = false := decide_eq_false hxy
                        go_wp2_with fail
                        go_quiet ((go_at_call 28; first | exact Calls.quiet_of (LESS.out _ _ _) | (refine (LESS.out _ _ _).mono ?_; rintro e w'' ⟨rfl, q, rfl⟩; exact ⟨rfl, _, drewN3 _ _ _ _⟩)))
                        go_wp2
                        go_meet
                        exact (show Hid _ from ⟨zs, HS.out.same _ rfl rfl rfl rfl⟩)
                    · have hj1' : ¬ (1 : Int) ≤ (j : Int) := by omega
                      go_wp2
                      go_meet
                      exact (show Hid _ from ⟨zs, HS.out⟩)
                · have hge' : ¬ (2 : Int) ≤ (d1 : Int) := by omega
                  go_wp2
                  go_meet
                  exact (show Hid _ from ⟨zs, HS.out⟩)
              case rest =>
              clear HS
              obtain ⟨zs, hS⟩ := hcut.out
              have HS := Lib.hid hS; clear hS hcut
              by_cases hge : 2 ≤ d2
              · have hge' : (2 : Int) ≤ (d2 : Int) := by omega
                go_wp2_with fail
                go_loopg [10] (b + 1 - (i2 + 1)) (fun gh vj wr => ∃ (j : Nat) (zs : List Int), i2 < j ∧ j ≤ b ∧ gh = b + 1 - j ∧ vj = .int .i64 j ∧ Hid (Sd .u64 31 w0 wr g rest xs zs))
                case atStart => exact ⟨i2 + 1, zs, by omega, by omega, rfl, by go_num, HS⟩
                case round =>
                  clear HS
                  obtain ⟨j, zs, hj, hjb, rfl, rfl, HS⟩ := hrel
                  by_cases hj1 : j < b
                  · have hj1' : (j : Int) < (b : Int) := by omega
                    obtain ⟨jm, hjm⟩ : ∃ jm, jm = j - 1 := ⟨_, rfl⟩
                    have hwjm : IntKind.i64.wrap ((j : Int) - 1) = (jm : Int) := by rw [IntKind.wrap_i64]; omega
                    have hl := HS.out.len
                    have gl := HS.out.blk.lt
                    have hzj : j < zs.length := by omega
                    have hnj : (j : Int) < (xs.length : Int) := by omega
                    have c_j := HS.out.cell hzj
                    have f_j := HS.out.blk.frozen j
                    have hzjm : jm < zs.length := by omega
                    have hnjm : (jm : Int) < (xs.length : Int) := by omega
                    have c_jm := HS.out.cell hzjm
                    have f_jm := HS.out.blk.frozen jm
                    have HSW := Lib.hid (HS.out.swap hzj hzjm)
                    have hne1 : ¬ j = jm := by omega
                    have hne2 : ¬ jm = j := by omega
                    have hjma : jm < j := by omega
                    have hjmb : j ≤ jm + 1 := by omega
                    clear hl hzj hzjm hjm
                    generalize zs.getD j 0 = x_j at *
                    generalize zs.getD jm 0 = x_jm at *
                    by_cases hxy : x_j < x_jm
                    · have hdx : decide (x_j < x_jm) = true := decide_eq_true hxy
                      go_wp2_with fail
                      go_quiet ((go_at_call 28; first | exact Calls.quiet_of (LESS.out _ _ _) | (refine (LESS.out _ _ _).mono ?_; rintro e w'' ⟨rfl, q, rfl⟩; exact ⟨rfl, _, drewN3 _ _ _ _⟩)))
                      go_wp2_with fail
                      go_region
                      all_goals (
                        go_wp2_with fail
                        go_roundg (b + 1 - (j + 1))
                        case measure => omega
                        case rel => exact ⟨j + 1, _, by omega, by omega, rfl, by go_num, (show Hid _ from HSW.out.same _ rfl rfl rfl rfl)⟩)
                    · have hdx : decide (x_j < x_jm) = false := decide_eq_false hxy
                      go_wp2_with fail
                      go_quiet ((go_at_call 28; first | exact Calls.quiet_of (LESS.out _ _ _) | (refine (LESS.out _ _ _).mono ?_; rintro e w'' ⟨rfl, q, rfl⟩; exact ⟨rfl, _, drewN3 _ _ _ _⟩)))
                      go_wp2_with fail
                      go_roundg (5 - (n + 1))
                      case measure => omega
                      case rel => exact ⟨n + 1, i2, zs, by omega, by omega, by omega, rfl, by go_num, by go_num, (show Hid _ from HS.out.same _ rfl rfl rfl rfl)⟩
                  · have hj1' : ¬ (j : Int) < (b : Int) := by omega
                    go_wp2_with fail
                    go_roundg (5 - (n + 1))
                    case measure => omega
                    case rel => exact ⟨n + 1, i2, zs, by omega, by omega, by omega, rfl, by go_num, by go_num, HS⟩
              · have hge' : ¬ (2 : Int) ≤ (d2 : Int) := by omega
                go_wp2_with fail
                go_roundg (5 - (n + 1))
                case measure => omega
                case rel => exact ⟨n + 1, i2, zs, by omega, by omega, by omega, rfl, by go_num, by go_num, HS⟩
        · have hib := HBB.out rfl
          clear HBB
          go_wp2_with fail
          go_roundg (b + 1 - (i2 + 1))
          case measure => omega
          case rel => exact ⟨i2 + 1, by omega, by omega, rfl, by go_num, HS⟩
    · have h5' : ¬ (n : Int) < 5 := by omega
      go_wp2
      go_ret
      exact ⟨false, rfl, zs, HS.out⟩
end Go.Proofs.Ythjefbfhpdbcjaa
