/- Sorting of numbers: pdqsort, Sort. -/
import Derived.Test.YthjefbfhpdbcjaaSoF
import Derived.Test.YthjefbfhpdbcjaaSoG
import Derived.Test.YthjefbfhpdbcjaaSoH
import Derived.Test.YthjefbfhpdbcjaaSoD
namespace Go.Proofs.Ythjefbfhpdbcjaa
open Go.RowKit
set_option linter.unusedVariables false
set_option linter.unusedSimpArgs false
set_option maxRecDepth 100000 in
set_option maxHeartbeats 16000000 in
theorem pdq_ (g c : Nat) (rest : List Value) (xs : List Int) (w0 : World) (hn : xs.length ≤ 100000) (N : Nat) : ∀ (a b lim : Nat) (ys : List Int) (w : World), Sd .u64 31 w0 w g rest xs ys → b ≤ xs.length → a ≤ b → b - a = N → lim ≤ 64 →
    Calls Try.prog 19 #[.slice (some ⟨g, 0, none⟩) xs.length c, .int .i64 a, .int .i64 b, .int .i64 lim] w fun e w' => e = .returned (.tuple #[]) ∧ So .u64 31 w0 g rest xs w' := by
  induction N using Nat.strongRecOn with
  | ind N ih =>
  intro a b lim ys w h hb hab hN hlim
  have LESS := Lib.hid (fun x y W => less_ x y W)
  have IH := Lib.hid (fun (a' b' lim' : Nat) (ys' : List Int) (W : World) (hS : Sd .u64 31 w0 W g rest xs ys') (hb' : b' ≤ xs.length) (hab' : a' ≤ b') (hlt : b' - a' < N) (hl' : lim' ≤ 64) => ih (b' - a') hlt a' b' lim' ys' W hS hb' hab' rfl hl'); clear ih
  have INS := Lib.hid (fun (a b : Nat) ys' W hS hb' hab' => insertion_ g c a b rest xs ys' w0 W hS hb' hn hab')
  have HEAP := Lib.hid (fun (a b : Nat) ys' W hS hb' hab' => heap_ g c a b rest xs ys' w0 W hS hb' hn hab')
  have BRK := Lib.hid (fun (a b : Nat) ys' W hS hb' hab' => break_ g c a b rest xs ys' w0 W hS hb' hn hab')
  have PIV := Lib.hid (fun (a b : Nat) ys' W hS hb' hab' => pivot_ g c a b rest xs ys' w0 W hS hn hab' hb')
  have REV := Lib.hid (fun (a b : Nat) ys' W hS hb' hab' => reverse_ g c a b rest xs ys' w0 W hS hb' hn hab')
  have PAR := Lib.hid (fun (a b : Nat) ys' W hS hb' hab' => partial_ g c a b rest xs ys' w0 W hS hb' hn hab')
  have PEQ := Lib.hid (fun (a b pv : Nat) ys' W hS hb' hab' h1 h2 => partitionEqual_ g c a b pv rest xs ys' w0 W hS hb' hn hab' h1 h2)
  have PRT := Lib.hid (fun (a b pv : Nat) ys' W hS hb' hab' h1 h2 => partition_ g c a b pv rest xs ys' w0 W hS hb' hn hab' h1 h2)
  obtain ⟨zs, hzs⟩ : ∃ zs, zs = ys := ⟨_, rfl⟩
  subst hzs
  have HS := Lib.hid h; clear h
  go_enter Try.func19, Try.ntmps19
  go_wp2_with fail
  go_loopg [1, 2, 3, 8, 9] (b - a + 1) (fun gh va vb vl v8 v9 wr => ∃ (a' b' lim' : Nat) (wb wp : Bool) (zs : List Int), a ≤ a' ∧ b' ≤ b ∧ a' ≤ b' ∧ lim' ≤ 64 ∧ gh = b' - a' + 1 ∧ va = .int .i64 a' ∧ vb = .int .i64 b' ∧ vl = .int .i64 lim' ∧ v8 = .bool wb ∧ v9 = .bool wp ∧ Hid (Sd .u64 31 w0 wr g rest xs zs))
  case atStart => exact ⟨a, b, lim, true, true, zs, Nat.le_refl _, Nat.le_refl _, hab, hlim, rfl, rfl, rfl, rfl, rfl, rfl, HS⟩
  case round =>
    clear HS hlim
    obtain ⟨a', b', lim', wb, wp, zs, ha', hb', hab', hlim, rfl, rfl, rfl, rfl, rfl, rfl, HS⟩ := hrel
    obtain ⟨l, hl⟩ : ∃ l, l = b' - a' := ⟨_, rfl⟩
    have hwl : IntKind.i64.wrap ((b' : Int) - (a' : Int)) = (l : Int) := by rw [IntKind.wrap_i64]; omega
    by_cases h12 : l ≤ 12
    · have h12' : (l : Int) ≤ 12 := by omega
      have H := Lib.hid (INS.out a' b' zs wr HS.out (by omega) hab')
      clear hl
      go_wp2_with fail
      refine H.out.mono ?_
      rintro e w5 ⟨rfl, hso⟩
      have HSO := Lib.hid hso; clear hso H
      go_wp2_with fail
      (try simp only [Exit.inBlock, Exit.then]); refine bodyPost_ret (results_none rfl _ _ _) rfl ?_
      exact ⟨rfl, HSO.out⟩
    · have h12' : ¬ (l : Int) ≤ 12 := by omega
      by_cases h0 : lim' = 0
      · subst h0
        have H := Lib.hid (HEAP.out a' b' zs wr HS.out (by omega) (by omega))
        clear hl
        go_wp2_with fail
        refine H.out.mono ?_
        rintro e w5 ⟨rfl, hso⟩
        have HSO := Lib.hid hso; clear hso H
        go_wp2_with fail
        (try simp only [Exit.inBlock, Exit.then]); refine bodyPost_ret (results_none rfl _ _ _) rfl ?_
        exact ⟨rfl, HSO.out⟩
      · have q0 : ((lim' : Int) == 0) = false := by simp; omega
        have h13 : a' + 13 ≤ b' := by omega
        have hbn : b' ≤ xs.length := by omega
        have hlN : b' - a' ≤ N := by omega
        have hlb : a' + l ≤ b' := by omega
        have hlb2 : b' ≤ a' + l := by omega
        have hl1 : 1 ≤ lim' := by omega
        clear hl h12
        go_upto_if 35 with fail
        go_cut [3] from 33 to 41 (fun vl wx => ∃ lim2 : Nat, vl = .int .i64 lim2 ∧ lim2 ≤ 64 ∧ Hid (So .u64 31 w0 g rest xs wx))
        case first =>
          cases wb
          · have H := Lib.hid (BRK.out a' b' zs wr HS.out hbn h13)
            have hwlim : IntKind.i64.wrap ((lim' : Int) - 1) = ((lim' - 1 : Nat) : Int) := by rw [IntKind.wrap_i64]; omega
            go_wp2_with fail
            refine H.out.mono ?_
            rintro e w5 ⟨rfl, hso⟩
            have HSO := Lib.hid hso; clear hso H
            go_wp2
            go_meet
            exact ⟨lim' - 1, by go_num, by omega, HSO⟩
          · go_wp2
            go_meet
            exact ⟨lim', rfl, by omega, (show Hid _ from ⟨zs, HS.out.same _ rfl rfl rfl rfl⟩)⟩
        case rest =>
        clear HS q0 h0 hl1 hlim
        obtain ⟨lim2, rfl, hlim, HSo⟩ := hcut
        obtain ⟨zs, hS⟩ := HSo.out
        have HS := Lib.hid hS; clear hS HSo
        have HP := Lib.hid (PIV.out a' b' zs wc HS.out hbn h13)
        go_wp2_with fail
        refine HP.out.mono ?_
        rintro e w5 ⟨pv, hint, rfl, hp1, hp2, hh, hb5⟩
        have HS5 := Lib.hid (HS.out.below hb5); clear hb5 HP HS
        have HS := HS5; clear HS5
        go_upto_if 50 with fail
        go_cut [11, 12] from 49 to 60 (fun vp vh wx => ∃ (pv : Nat) (hint : Int), vp = .int .i64 pv ∧ vh = .int .i64 hint ∧ a' ≤ pv ∧ pv < b' ∧ Hid (So .u64 31 w0 g rest xs wx))
        case first =>
          by_cases h2 : hint = 2
          · subst h2
            have H := Lib.hid (REV.out a' b' zs w5 HS.out hbn (by omega))
            have hw1 : IntKind.i64.wrap ((b' : Int) - 1) = ((b' - 1 : Nat) : Int) := by rw [IntKind.wrap_i64]; omega
            have hw2 : IntKind.i64.wrap ((pv : Int) - (a' : Int)) = ((pv - a' : Nat) : Int) := by rw [IntKind.wrap_i64]; omega
            obtain ⟨e1, he1⟩ : ∃ e1, e1 = b' - 1 := ⟨_, rfl⟩
            obtain ⟨e2, he2⟩ : ∃ e2, e2 = pv - a' := ⟨_, rfl⟩
            rw [← he1] at hw1
            rw [← he2] at hw2
            have hw3 : IntKind.i64.wrap ((e1 : Int) - (e2 : Int)) = ((e1 - e2 : Nat) : Int) := by rw [IntKind.wrap_i64]; omega
            have hr1 : a' ≤ e1 - e2 := by omega
            have hr2 : e1 - e2 < b' := by omega
            clear he1 he2
            go_wp2_with fail
            refine H.out.mono ?_
            rintro e w6 ⟨rfl, hso⟩
            have HSO := Lib.hid hso; clear hso H
            go_wp2
            go_meet
            exact ⟨e1 - e2, 1, by go_num, rfl, hr1, hr2, HSO⟩
          · have q2 : (hint == 2) = false := by simpa using h2
            go_wp2
            go_meet
            exact ⟨pv, hint, rfl, rfl, hp1, hp2, (show Hid _ from ⟨zs, HS.out.same _ rfl rfl rfl rfl⟩)⟩
        case rest =>
        clear HS hp1 hp2 hh
        obtain ⟨pv, hint, rfl, rfl, hp1, hp2, HSo⟩ := hcut
        go_upto_region 15 with fail
        go_cut [68] from 61 to 68 (fun vb wx => ∃ bb : Bool, vb = .bool bb ∧ Hid (So .u64 31 w0 g rest xs wx))
        case first =>
          by_cases h1 : hint = 1
          · have q1 : (hint == 1) = true := by simp [h1]
            have H1 := Lib.hid h1; clear h1
            cases wb <;> cases wp <;> (go_wp2; go_meet; exact ⟨_, rfl, HSo⟩)
          · have q1 : (hint == 1) = false := by simpa using h1
            cases wb <;> cases wp <;> (go_wp2; go_meet; exact ⟨_, rfl, HSo⟩)
        case rest =>
        clear HSo
        obtain ⟨bb, rfl, HSo⟩ := hcut
        obtain ⟨zs, hS⟩ := HSo.out
        have HS := Lib.hid hS; clear hS HSo
        go_upto_if 68 with fail
        go_cut [72] from 69 to 72 (fun vb wx => Hid (So .u64 31 w0 g rest xs wx))
        case first =>
          cases bb
          · go_wp2
            go_meet
            exact (show Hid _ from ⟨zs, HS.out.same _ rfl rfl rfl rfl⟩)
          · have H := Lib.hid (PAR.out a' b' zs _ HS.out hbn (by omega))
            go_wp2_with fail
            refine H.out.mono ?_
            rintro e w6 ⟨r, rfl, hso⟩
            have HSO := Lib.hid hso; clear hso H
            cases r
            · go_wp2
              go_meet
              exact HSO
            · go_wp2_with fail
              (try simp only [Exit.inBlock, Exit.then]); refine bodyPost_ret (results_none rfl _ _ _) rfl ?_
              exact ⟨rfl, HSO.out⟩
        case rest =>
        clear HS
        obtain ⟨zs, hS⟩ := hcut.out
        have HS := Lib.hid hS; clear hS hcut
        go_upto_region 17 with fail
        go_cut [87] from 73 to 87 (fun vb wx => ∃ bb : Bool, vb = .bool bb ∧ Hid (Sd .u64 31 w0 wx g rest xs zs))
        case first =>
          by_cases ha0 : 0 < a'
          · have hd : decide ((0 : Int) < (a' : Int)) = true := decide_eq_true (by omega)
            have hd2 : decide (0 < a') = true := decide_eq_true ha0
            obtain ⟨am, ham⟩ : ∃ am, am = a' - 1 := ⟨_, rfl⟩
            have hwam : IntKind.i64.wrap ((a' : Int) - 1) = (am : Int) := by rw [IntKind.wrap_i64]; omega
            have hl := HS.out.len
            have gl := HS.out.blk.lt
            have hzam : am < zs.length := by omega
            have hnam : (am : Int) < (xs.length : Int) := by omega
            have c_am := HS.out.cell hzam
            have f_am := HS.out.blk.frozen am
            have hzpv : pv < zs.length := by omega
            have hnpv : (pv : Int) < (xs.length : Int) := by omega
            have c_pv := HS.out.cell hzpv
            have f_pv := HS.out.blk.frozen pv
            generalize zs.getD am 0 = x_am at *
            generalize zs.getD pv 0 = x_pv at *
            clear hl ham hzam hzpv
            by_cases hxy : x_am < x_pv
            · have hdx : decide (x_am < x_pv) = true := decide_eq_true hxy
              go_quiet ((go_at_call 28; first | exact Calls.quiet_of (LESS.out _ _ _) | (refine (LESS.out _ _ _).mono ?_; rintro e w'' ⟨rfl, q, rfl⟩; exact ⟨rfl, _, drewN3 _ _ _ _⟩)))
              go_wp2
              go_meet
              exact ⟨_, rfl, (show Hid _ from HS.out.same _ rfl rfl rfl rfl)⟩
            · have hdx : decide (x_am < x_pv) = false := decide_eq_false hxy
              go_quiet ((go_at_call 28; first | exact Calls.quiet_of (LESS.out _ _ _) | (refine (LESS.out _ _ _).mono ?_; rintro e w'' ⟨rfl, q, rfl⟩; exact ⟨rfl, _, drewN3 _ _ _ _⟩)))
              go_wp2
              go_meet
              exact ⟨_, rfl, (show Hid _ from HS.out.same _ rfl rfl rfl rfl)⟩
          · have hd : decide ((0 : Int) < (a' : Int)) = false := decide_eq_false (by omega)
            have hd2 : decide (0 < a') = false := decide_eq_false ha0
            go_quiet ((go_at_call 28; first | exact Calls.quiet_of (LESS.out _ _ _) | (refine (LESS.out _ _ _).mono ?_; rintro e w'' ⟨rfl, q, rfl⟩; exact ⟨rfl, _, drewN3 _ _ _ _⟩)))
            go_wp2
            go_meet
            exact ⟨_, rfl, (show Hid _ from HS.out.same _ rfl rfl rfl rfl)⟩
        case rest =>
        clear HS
        obtain ⟨bb, rfl, HS⟩ := hcut
        cases bb
        · have H := Lib.hid (PRT.out a' b' pv zs _ HS.out hbn (by omega) hp1 hp2)
          go_wp2_with fail
          refine H.out.mono ?_
          rintro e w6 ⟨m, al, rfl, hm1, hm2, zs6, hS6⟩
          have HS6 := Lib.hid hS6; clear hS6 H HS
          have hw1 : IntKind.i64.wrap ((m : Int) - (a' : Int)) = ((m - a' : Nat) : Int) := by rw [IntKind.wrap_i64]; omega
          have hw2 : IntKind.i64.wrap ((b' : Int) - (m : Int)) = ((b' - m : Nat) : Int) := by rw [IntKind.wrap_i64]; omega
          have hw3 : IntKind.i64.wrap ((m : Int) + 1) = ((m + 1 : Nat) : Int) := by rw [IntKind.wrap_i64]; omega
          have hdv : (l : Int) / 8 = ((l / 8 : Nat) : Int) := by omega
          obtain ⟨ll, hll⟩ : ∃ ll, ll = m - a' := ⟨_, rfl⟩
          obtain ⟨rl, hrl⟩ : ∃ rl, rl = b' - m := ⟨_, rfl⟩
          obtain ⟨th, hth⟩ : ∃ th, th = l / 8 := ⟨_, rfl⟩
          obtain ⟨m1, hm1'⟩ : ∃ m1, m1 = m + 1 := ⟨_, rfl⟩
          rw [← hll] at hw1
          rw [← hrl] at hw2
          rw [← hth] at hdv
          rw [← hm1'] at hw3
          have hma : m < m1 := by omega
          have hmb : m1 ≤ m + 1 := by omega
          clear hll hrl hth hm1'
          by_cases hlr : ll < rl
          · have hlr' : (ll : Int) < (rl : Int) := by omega
            have H := Lib.hid (IH.out a' m lim2 zs6 w6 HS6.out (by omega) hm1 (by omega) hlim)
            go_wp2_with fail
            refine H.out.mono ?_
            rintro e w7 ⟨rfl, zs7, hS7⟩
            have HS7 := Lib.hid hS7; clear hS7 H HS6
            go_wp2_with fail
            go_roundg (b' - m1 + 1)
            case measure => omega
            case rel => exact ⟨m1, b', lim2, _, al, zs7, by omega, hb', by omega, hlim, rfl, rfl, rfl, rfl, rfl, rfl, HS7⟩
          · have hlr' : ¬ (ll : Int) < (rl : Int) := by omega
            have H := Lib.hid (IH.out m1 b' lim2 zs6 w6 HS6.out hbn (by omega) (by omega) hlim)
            go_wp2_with fail
            refine H.out.mono ?_
            rintro e w7 ⟨rfl, zs7, hS7⟩
            have HS7 := Lib.hid hS7; clear hS7 H HS6
            go_wp2_with fail
            go_roundg (m - a' + 1)
            case measure => omega
            case rel => exact ⟨a', m, lim2, _, al, zs7, ha', by omega, hm1, hlim, rfl, rfl, rfl, rfl, rfl, rfl, HS7⟩
        · have H := Lib.hid (PEQ.out a' b' pv zs _ HS.out hbn (by omega) hp1 hp2)
          go_wp2_with fail
          refine H.out.mono ?_
          rintro e w6 ⟨m, rfl, hm1, hm2, zs6, hS6⟩
          have HS6 := Lib.hid hS6; clear hS6 H HS
          go_wp2_with fail
          go_roundg (b' - m + 1)
          case measure => omega
          case rel => exact ⟨m, b', lim2, wb, wp, zs6, by omega, hb', hm2, hlim, rfl, rfl, rfl, rfl, rfl, rfl, HS6⟩
end Go.Proofs.Ythjefbfhpdbcjaa
