/- Sorting of numbers: breaking patterns. -/
import Derived.Test.YthjefbfhpdbcjaaSoC
import Derived.Shelf.SlSortCmp.Xorshift
import Derived.Shelf.Small.Bits
import Derived.Laws.Bits64b
import Derived.Deep.CutRange
import Derived.Deep.CutBlock
namespace Go.Proofs
open Go.RowKit Go.Shelf
def Try.xorL_ren : Go.Shelf.Ren := ⟨fun | 48 => 38 | n => n, fun | 76 => 79 | 55 => 31 | 0 => 0 | 66 => 62 | 39 => 45 | n => n, fun | n => n⟩
theorem Try.xorL : Go.Proofs.SlLaysF0.n48 Try.prog Try.xorL_ren := {
  mixed := by kernel_rfl
  f48 := Try.func38.trans (congrArg some (by kernel_rfl))
  t0 := Try.underlying0
  a0 := Try.isAgg0
  z0 := Try.sizeOf0
  v0 := Try.zeroValue0
  t39 := Try.underlying45
  a39 := Try.isAgg45
  z39 := Try.sizeOf45
  v39 := Try.zeroValue45
  t55 := Try.underlying31
  a55 := Try.isAgg31
  z55 := Try.sizeOf31
  v55 := Try.zeroValue31
  t66 := Try.underlying62
  a66 := Try.isAgg62
  z66 := Try.sizeOf62
  v66 := Try.zeroValue62
  t76 := Try.underlying79
  a76 := Try.isAgg79
  z76 := Try.sizeOf79
  v76 := Try.zeroValue79 }
def Try.npL_ren : Go.Shelf.Ren := ⟨fun | 47 => 37 | 15 => 20 | 28 => 31 | 29 => 32 | n => n, fun | 3 => 3 | 39 => 45 | 53 => 56 | 55 => 31 | 4 => 4 | 5 => 5 | 9 => 9 | n => n, fun | n => n⟩
theorem Try.npL : Go.Proofs.SlLaysF0.n47 Try.prog Try.npL_ren := {
  mixed := by kernel_rfl
  f15 := Try.func20.trans (congrArg some (by kernel_rfl))
  f28 := Try.func31.trans (congrArg some (by kernel_rfl))
  f29 := Try.func32.trans (congrArg some (by kernel_rfl))
  f47 := Try.func37.trans (congrArg some (by kernel_rfl))
  t3 := Try.underlying3
  a3 := Try.isAgg3
  z3 := Try.sizeOf3
  v3 := Try.zeroValue3
  t4 := Try.underlying4
  a4 := Try.isAgg4
  z4 := Try.sizeOf4
  v4 := Try.zeroValue4
  t5 := Try.underlying5
  a5 := Try.isAgg5
  z5 := Try.sizeOf5
  v5 := Try.zeroValue5
  t9 := Try.underlying9
  a9 := Try.isAgg9
  z9 := Try.sizeOf9
  v9 := Try.zeroValue9
  t39 := Try.underlying45
  a39 := Try.isAgg45
  z39 := Try.sizeOf45
  v39 := Try.zeroValue45
  t53 := Try.underlying56
  a53 := Try.isAgg56
  z53 := Try.sizeOf56
  v53 := Try.zeroValue56
  t55 := Try.underlying31
  a55 := Try.isAgg31
  z55 := Try.sizeOf31
  v55 := Try.zeroValue31 }
def Try.bitsL_ren : Go.Shelf.Ren := ⟨fun | 125 => 20 | 128 => 31 | 129 => 32 | n => n, fun | 46 => 45 | 3 => 3 | 51 => 56 | 53 => 31 | 4 => 4 | 5 => 5 | 9 => 9 | n => n, fun | n => n⟩
theorem Try.bitsL : Go.Proofs.Lays.n125 Try.prog Try.bitsL_ren := {
  mixed := by kernel_rfl
  f125 := Try.func20.trans (congrArg some (by kernel_rfl))
  f128 := Try.func31.trans (congrArg some (by kernel_rfl))
  f129 := Try.func32.trans (congrArg some (by kernel_rfl))
  t3 := Try.underlying3
  a3 := Try.isAgg3
  z3 := Try.sizeOf3
  v3 := Try.zeroValue3
  t4 := Try.underlying4
  a4 := Try.isAgg4
  z4 := Try.sizeOf4
  v4 := Try.zeroValue4
  t5 := Try.underlying5
  a5 := Try.isAgg5
  z5 := Try.sizeOf5
  v5 := Try.zeroValue5
  t9 := Try.underlying9
  a9 := Try.isAgg9
  z9 := Try.sizeOf9
  v9 := Try.zeroValue9
  t46 := Try.underlying45
  a46 := Try.isAgg45
  z46 := Try.sizeOf45
  v46 := Try.zeroValue45
  t51 := Try.underlying56
  a51 := Try.isAgg56
  z51 := Try.sizeOf56
  v51 := Try.zeroValue56
  t53 := Try.underlying31
  a53 := Try.isAgg31
  z53 := Try.sizeOf31
  v53 := Try.zeroValue31 }
end Go.Proofs
namespace Go.Proofs.Ythjefbfhpdbcjaa
open Go.RowKit
set_option linter.unusedVariables false
set_option linter.unusedSimpArgs false
theorem xor_next (bs X : Nat) (hX : X < 18446744073709551616) (w : World) (hc : w.cell? ⟨bs, 0, none⟩ = some (.int .u64 X)) (hf : w.frozen? ⟨bs, 0, none⟩ = false) :
    Calls Try.prog 38 #[.pointer (some ⟨bs, 0, none⟩)] w fun e w' => e = .returned (.int .u64 (Go.Sort.xorNextN X : Nat)) ∧ w' = (w.setCell ⟨bs, 0, none⟩ (.int .u64 (Go.Sort.xorNextN X : Nat))).drewN 3 := AnyF.xorshift_Next Try.xorL bs 0 X hX w hc hf
theorem next_pow (n : Nat) (hn : n < 4611686018427387904) (w : World) :
    Calls Try.prog 37 #[.int .i64 n] w fun e w' => e = .returned (.int .u64 ((1 <<< Go.Sort.bitsLen n : Nat) : Int)) ∧ w' = w := AnyF.nextPowerOfTwo Try.npL n hn w
theorem bits_len (x : Int) (w : World) (h0 : 0 ≤ x) (h1 : x ≤ 18446744073709551615) :
    Calls Try.prog 20 #[.int .u64 x] w fun e w' => e = .returned (.int .i64 (Lib.bitLen x.toNat)) ∧ w' = w := Any.bits_Len Try.bitsL x w h0 h1
theorem pow_bounds (n : Nat) (h1 : 1 ≤ n) : n < 1 <<< Go.Sort.bitsLen n ∧ 1 <<< Go.Sort.bitsLen n ≤ 2 * n := by
  rw [Nat.one_shiftLeft]
  have h := (Go.Sort.bitsLen_le_iff n (Go.Sort.bitsLen n)).1 (Nat.le_refl _)
  refine ⟨h, ?_⟩
  generalize hk : Go.Sort.bitsLen n = k at *
  rcases k with _ | k
  · simp at h; omega
  · have h2 : ¬ n < 2 ^ k := fun hlt => by
      have := (Go.Sort.bitsLen_le_iff n k).2 hlt
      omega
    rw [Nat.pow_succ]; omega
set_option maxRecDepth 100000 in
set_option maxHeartbeats 8000000 in
theorem break_ (g c a b : Nat) (rest : List Value) (xs ys : List Int) (w0 w : World) (h : Sd .u64 31 w0 w g rest xs ys) (hb : b ≤ xs.length) (hn : xs.length ≤ 100000) (hab : a + 13 ≤ b) :
    Calls Try.prog 24 #[.slice (some ⟨g, 0, none⟩) xs.length c, .int .i64 a, .int .i64 b] w fun e w' => e = .returned (.tuple #[]) ∧ So .u64 31 w0 g rest xs w' := by
  have hgB := h.blk.lt
  have hw0 := h.gr.size
  obtain ⟨l, hl⟩ : ∃ l, l = b - a := ⟨_, rfl⟩
  obtain ⟨q2, hq2⟩ : ∃ q2, q2 = l / 4 * 2 := ⟨_, rfl⟩
  obtain ⟨q, hq⟩ : ∃ q, q = l / 4 := ⟨_, rfl⟩
  have hwl : IntKind.i64.wrap ((b : Int) - (a : Int)) = (l : Int) := by rw [IntKind.wrap_i64]; omega
  have hdv : (l : Int) / 4 = (q : Int) := by omega
  have hwu : IntKind.u64.wrap (l : Int) = (l : Int) := by rw [IntKind.wrap_u64]; omega
  have hwq : IntKind.i64.wrap ((q : Int) * 2) = (q2 : Int) := by rw [IntKind.wrap_i64]; omega
  obtain ⟨s, hs⟩ : ∃ s, s = a + q2 := ⟨_, rfl⟩
  have hws : IntKind.i64.wrap ((a : Int) + (q2 : Int)) = (s : Int) := by rw [IntKind.wrap_i64]; omega
  obtain ⟨s1, hs1⟩ : ∃ s1, s1 = s + 1 := ⟨_, rfl⟩
  obtain ⟨s0, hs0⟩ : ∃ s0, s0 = s - 1 := ⟨_, rfl⟩
  have hws1 : IntKind.i64.wrap ((s : Int) + 1) = (s1 : Int) := by rw [IntKind.wrap_i64]; omega
  have hws0 : IntKind.i64.wrap ((s : Int) - 1) = (s0 : Int) := by rw [IntKind.wrap_i64]; omega
  have hl8 : (8 : Int) ≤ (l : Int) := by omega
  have hs1b : s1 < b := by omega
  have hs0a : a ≤ s0 := by omega
  have hs01 : s0 ≤ s1 := by omega
  have hs03 : s1 ≤ s0 + 2 := by omega
  have hal : a + l ≤ b := by omega
  have hl13 : 1 ≤ l := by omega
  have hll : l ≤ 100000 := by omega
  clear hl hq hq2 hs hs1 hs0
  obtain ⟨hm1, hm2⟩ := pow_bounds l hl13
  have NP := Lib.hid (fun W => next_pow l (by omega) W)
  have HS : Hid (Sd .u64 31 w0 (w.alloc (.cells #[.int .u64 l] 62)) g rest xs ys) := h.below ((RowKit.Below.refl w.heap.size w).alloc (Nat.le_refl _) _)
  have HX : Hid (Blk (w.alloc (.cells #[.int .u64 l] 62)) w.heap.size 62 #[.int .u64 ((l : Nat) : Int)]) := Blk.new _ _ _
  clear h
  generalize 1 <<< Go.Sort.bitsLen l = M at *
  have hwM : IntKind.u64.wrap ((M : Int) - 1) = ((M - 1 : Nat) : Int) := by rw [IntKind.wrap_u64]; omega
  obtain ⟨M1, hM1⟩ : ∃ M1, M1 = M - 1 := ⟨_, rfl⟩
  rw [← hM1] at hwM
  have hM2 : M1 < 2 * l := by omega
  clear hM1 hm1 hm2
  have hlw : l < 18446744073709551616 := by omega
  go_enter Try.func24, Try.ntmps24
  go_wp2_with fail
  refine (NP.out _).mono ?_
  rintro e w1 ⟨rfl, rfl⟩
  go_wp2_with fail
  generalize w.alloc (.cells #[.int .u64 l] 62) = w1 at *
  generalize w.heap.size = bs at *
  go_loopg [9] (s1 + 1 - s0) (fun gh v9 wr => ∃ (i X : Nat) (zs : List Int), s0 ≤ i ∧ i ≤ s1 + 1 ∧ gh = s1 + 1 - i ∧ v9 = .int .i64 i ∧ X < 18446744073709551616 ∧ Hid (Sd .u64 31 w0 wr g rest xs zs) ∧ Hid (Blk wr bs 62 #[.int .u64 ((X : Nat) : Int)]))
  case atStart => exact ⟨s0, l, ys, Nat.le_refl _, by omega, rfl, rfl, hlw, HS, HX⟩
  case round =>
    clear HS HX
    obtain ⟨i, X, zs, hi0, hi1, rfl, rfl, hX, HS, HX⟩ := hrel
    by_cases hle : i ≤ s1
    · have hle' : (i : Int) ≤ (s1 : Int) := by omega
      have hcx := HX.out.cell 0
      simp only [List.getElem?_toArray, List.getElem?_cons_zero] at hcx
      have hnx := xor_next bs X hX wr hcx (HX.out.frozen 0)
      have hXl := Go.Sort.xorNextN_lt X hX
      have HX2 := Lib.hid (HX.out.put 0 (.int .u64 (Go.Sort.xorNextN X : Nat)))
      have HNX := Lib.hid hnx; clear hnx hcx
      generalize Go.Sort.xorNextN X = R at *
      have HB2 := Lib.hid (show RowKit.Below bs wr ((wr.setCell ⟨bs, 0, none⟩ (.int .u64 (R : Int))).drewN 3) from below_drewN ((RowKit.Below.refl bs wr).setCell (p := ⟨bs, 0, none⟩) (Nat.le_refl _) _) 3)
      have HS2 := Lib.hid (HS.out.keepB HB2.out hgB hw0)
      have hand : bits .and .u64 (R : Int) (M1 : Int) = ((R &&& M1 : Nat) : Int) := bits_and_u64_nat R M1 hXl (by omega)
      have hO : R &&& M1 ≤ M1 := Nat.and_le_right
      generalize R &&& M1 = O at *
      have hwO : IntKind.i64.wrap (O : Int) = (O : Int) := by rw [IntKind.wrap_i64]; omega
      go_wp2_with fail
      refine HNX.out.mono ?_
      rintro e w2 ⟨rfl, hw2⟩
      have hw2' : w2 = (wr.setCell ⟨bs, 0, none⟩ (.int .u64 (R : Int))).drewN 3 := hw2
      have HS3 := Lib.hid (show Sd .u64 31 w0 w2 g rest xs zs from hw2' ▸ HS2.out)
      have HX3 := Lib.hid (show Blk w2 bs 62 #[.int .u64 ((R : Nat) : Int)] from by rw [hw2']; exact HX2.out)
      clear hw2 hw2' HS HX HS2 HX2 HB2 HNX
      have HS := HS3
      have HX := HX3
      clear HS3 HX3
      have hbg : bs ≠ g := by omega
      by_cases hge : l ≤ O
      · have hge' : (l : Int) ≤ (O : Int) := by omega
        have hwo : IntKind.i64.wrap ((O : Int) - (l : Int)) = ((O - l : Nat) : Int) := by rw [IntKind.wrap_i64]; omega
        obtain ⟨o, ho⟩ : ∃ o, o = O - l := ⟨_, rfl⟩
        rw [← ho] at hwo
        have hol : o < l := by omega
        obtain ⟨p, hp⟩ : ∃ p, p = a + o := ⟨_, rfl⟩
        have hwp : IntKind.i64.wrap ((a : Int) + (o : Int)) = (p : Int) := by rw [IntKind.wrap_i64]; omega
        have hpb : p < b := by omega
        clear ho hp
        have hl := HS.out.len
        have gl := HS.out.blk.lt
        have hzi : i < zs.length := by omega
        have hzp : p < zs.length := by omega
        have hni : (i : Int) < (xs.length : Int) := by omega
        have hnp : (p : Int) < (xs.length : Int) := by omega
        have c_i := HS.out.cell hzi
        have c_p := HS.out.cell hzp
        have f_i := HS.out.blk.frozen i
        have f_p := HS.out.blk.frozen p
        have HSW := Lib.hid (HS.out.swap hzi hzp)
        have HSE := Lib.hid (HS.out.swap hzi hzi)
        clear hl hzi hzp
        by_cases heq : i = p
        · subst heq
          generalize zs.getD i 0 = x_i at *
          go_wp2_with fail
          go_region
          all_goals (
            go_wp2_with fail
            go_roundg (s1 + 1 - (i + 1))
            case measure => omega
            case rel => exact ⟨i + 1, R, _, by omega, by omega, rfl, by go_num, hXl, (show Hid _ from HSE.out.same _ rfl rfl rfl rfl), (show Hid _ from (HX.out.far (p := ⟨g, i, none⟩) hbg _).far (p := ⟨g, i, none⟩) hbg _)⟩)
        · have hne : ¬ p = i := fun e => heq e.symm
          generalize zs.getD i 0 = x_i at *
          generalize zs.getD p 0 = x_p at *
          go_wp2_with fail
          go_region
          all_goals (
            go_wp2_with fail
            go_roundg (s1 + 1 - (i + 1))
            case measure => omega
            case rel => exact ⟨i + 1, R, _, by omega, by omega, rfl, by go_num, hXl, (show Hid _ from HSW.out.same _ rfl rfl rfl rfl), (show Hid _ from (HX.out.far (p := ⟨g, i, none⟩) hbg _).far (p := ⟨g, p, none⟩) hbg _)⟩)
      · have hge' : ¬ (l : Int) ≤ (O : Int) := by omega
        obtain ⟨p, hp⟩ : ∃ p, p = a + O := ⟨_, rfl⟩
        have hwp : IntKind.i64.wrap ((a : Int) + (O : Int)) = (p : Int) := by rw [IntKind.wrap_i64]; omega
        have hpb : p < b := by omega
        clear hp
        have hl := HS.out.len
        have gl := HS.out.blk.lt
        have hzi : i < zs.length := by omega
        have hzp : p < zs.length := by omega
        have hni : (i : Int) < (xs.length : Int) := by omega
        have hnp : (p : Int) < (xs.length : Int) := by omega
        have c_i := HS.out.cell hzi
        have c_p := HS.out.cell hzp
        have f_i := HS.out.blk.frozen i
        have f_p := HS.out.blk.frozen p
        have HSW := Lib.hid (HS.out.swap hzi hzp)
        have HSE := Lib.hid (HS.out.swap hzi hzi)
        clear hl hzi hzp
        by_cases heq : i = p
        · subst heq
          generalize zs.getD i 0 = x_i at *
          go_wp2_with fail
          go_region
          all_goals (
            go_wp2_with fail
            go_roundg (s1 + 1 - (i + 1))
            case measure => omega
            case rel => exact ⟨i + 1, R, _, by omega, by omega, rfl, by go_num, hXl, (show Hid _ from HSE.out.same _ rfl rfl rfl rfl), (show Hid _ from (HX.out.far (p := ⟨g, i, none⟩) hbg _).far (p := ⟨g, i, none⟩) hbg _)⟩)
        · have hne : ¬ p = i := fun e => heq e.symm
          generalize zs.getD i 0 = x_i at *
          generalize zs.getD p 0 = x_p at *
          go_wp2_with fail
          go_region
          all_goals (
            go_wp2_with fail
            go_roundg (s1 + 1 - (i + 1))
            case measure => omega
            case rel => exact ⟨i + 1, R, _, by omega, by omega, rfl, by go_num, hXl, (show Hid _ from HSW.out.same _ rfl rfl rfl rfl), (show Hid _ from (HX.out.far (p := ⟨g, i, none⟩) hbg _).far (p := ⟨g, p, none⟩) hbg _)⟩)
    · have hle' : ¬ (i : Int) ≤ (s1 : Int) := by omega
      go_wp2
      go_end0
      exact ⟨rfl, zs, HS.out⟩
end Go.Proofs.Ythjefbfhpdbcjaa
