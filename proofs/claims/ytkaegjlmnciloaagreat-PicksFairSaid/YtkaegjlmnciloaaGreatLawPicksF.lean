/- The walk of layer 8's law PicksFair. -/
import Derived.Test.YtkaegjlmnciloaaGreatPicksPlain
import Derived.Test.YtkaegjlmnciloaaGreatOpen
import Derived.Shelf.SortM.Plain
import Derived.Lib.SlKeysI
namespace Go.Proofs
open Go.RowKit Go.Sort Go.Shelf
def Tryz.sortI_ren : Go.Shelf.Ren := ⟨fun | 5 => 7 | 8 => 13 | 7 => 12 | 19 => 24 | 20 => 25 | 10 => 15 | 11 => 16 | 12 => 17 | 13 => 18 | 14 => 19 | 15 => 20 | 16 => 21 | 17 => 22 | 18 => 23 | 30 => 30 | 31 => 31 | 32 => 32 | 33 => 33 | 34 => 34 | 35 => 35 | 40 => 38 | n => n, fun | 23 => 22 | 25 => 3 | 3 => 3 | 32 => 38 | 22 => 22 | 0 => 0 | 44 => 48 | 46 => 31 | 4 => 4 | 36 => 41 | 35 => 40 | 41 => 34 | 5 => 5 | 9 => 9 | 53 => 53 | 57 => 57 | 63 => 65 | 64 => 66 | n => n, fun | n => n⟩
theorem Tryz.sortI : Go.Proofs.SlLaysM.n5 Tryz.prog Tryz.sortI_ren := {
  mixed := by kernel_rfl
  f5 := ⟨Tryz.f7.name, by decide, Tryz.func7.trans (congrArg some (by kernel_rfl))⟩
  f7 := ⟨Tryz.f12.name, by decide, Tryz.func12.trans (congrArg some (by kernel_rfl))⟩
  f8 := Tryz.func13.trans (congrArg some (by kernel_rfl))
  f10 := ⟨Tryz.f15.name, by decide, Tryz.func15.trans (congrArg some (by kernel_rfl))⟩
  f11 := ⟨Tryz.f16.name, by decide, Tryz.func16.trans (congrArg some (by kernel_rfl))⟩
  f12 := ⟨Tryz.f17.name, by decide, Tryz.func17.trans (congrArg some (by kernel_rfl))⟩
  f13 := ⟨Tryz.f18.name, by decide, Tryz.func18.trans (congrArg some (by kernel_rfl))⟩
  f14 := ⟨Tryz.f19.name, by decide, Tryz.func19.trans (congrArg some (by kernel_rfl))⟩
  f15 := ⟨Tryz.f20.name, by decide, Tryz.func20.trans (congrArg some (by kernel_rfl))⟩
  f16 := ⟨Tryz.f21.name, by decide, Tryz.func21.trans (congrArg some (by kernel_rfl))⟩
  f17 := ⟨Tryz.f22.name, by decide, Tryz.func22.trans (congrArg some (by kernel_rfl))⟩
  f18 := ⟨Tryz.f23.name, by decide, Tryz.func23.trans (congrArg some (by kernel_rfl))⟩
  f19 := Tryz.func24.trans (congrArg some (by kernel_rfl))
  f20 := Tryz.func25.trans (congrArg some (by kernel_rfl))
  f30 := ⟨Tryz.f30.name, by decide, Tryz.func30.trans (congrArg some (by kernel_rfl))⟩
  f31 := Tryz.func31.trans (congrArg some (by kernel_rfl))
  f32 := Tryz.func32.trans (congrArg some (by kernel_rfl))
  f33 := ⟨Tryz.f33.name, by decide, Tryz.func33.trans (congrArg some (by kernel_rfl))⟩
  f34 := ⟨Tryz.f34.name, by decide, Tryz.func34.trans (congrArg some (by kernel_rfl))⟩
  f35 := ⟨Tryz.f35.name, by decide, Tryz.func35.trans (congrArg some (by kernel_rfl))⟩
  f40 := ⟨Tryz.f38.name, by decide, Tryz.func38.trans (congrArg some (by kernel_rfl))⟩
  t0 := Tryz.underlying0
  a0 := Tryz.isAgg0
  z0 := Tryz.sizeOf0
  v0 := Tryz.zeroValue0
  t3 := Tryz.underlying3
  a3 := Tryz.isAgg3
  z3 := Tryz.sizeOf3
  v3 := Tryz.zeroValue3
  t4 := Tryz.underlying4
  a4 := Tryz.isAgg4
  z4 := Tryz.sizeOf4
  v4 := Tryz.zeroValue4
  t5 := Tryz.underlying5
  a5 := Tryz.isAgg5
  z5 := Tryz.sizeOf5
  v5 := Tryz.zeroValue5
  t9 := Tryz.underlying9
  a9 := Tryz.isAgg9
  z9 := Tryz.sizeOf9
  v9 := Tryz.zeroValue9
  t22 := Tryz.underlying22
  a22 := Tryz.isAgg22
  z22 := Tryz.sizeOf22
  v22 := Tryz.zeroValue22
  t23 := Tryz.underlying22
  a23 := Tryz.isAgg22
  z23 := Tryz.sizeOf22
  v23 := Tryz.zeroValue22
  t25 := Tryz.underlying3
  a25 := Tryz.isAgg3
  z25 := Tryz.sizeOf3
  v25 := Tryz.zeroValue3
  t32 := Tryz.underlying38
  a32 := Tryz.isAgg38
  z32 := Tryz.sizeOf38
  v32 := Tryz.zeroValue38
  t35 := Tryz.underlying40
  a35 := Tryz.isAgg40
  z35 := Tryz.sizeOf40
  v35 := Tryz.zeroValue40
  t36 := Tryz.underlying41
  a36 := Tryz.isAgg41
  z36 := Tryz.sizeOf41
  v36 := Tryz.zeroValue41
  t41 := Tryz.underlying34
  a41 := Tryz.isAgg34
  z41 := Tryz.sizeOf34
  v41 := Tryz.zeroValue34
  t44 := Tryz.underlying48
  a44 := Tryz.isAgg48
  z44 := Tryz.sizeOf48
  v44 := Tryz.zeroValue48
  t46 := Tryz.underlying31
  a46 := Tryz.isAgg31
  z46 := Tryz.sizeOf31
  v46 := Tryz.zeroValue31
  t53 := Tryz.underlying53
  a53 := Tryz.isAgg53
  z53 := Tryz.sizeOf53
  v53 := Tryz.zeroValue53
  t57 := Tryz.underlying57
  a57 := Tryz.isAgg57
  z57 := Tryz.sizeOf57
  v57 := Tryz.zeroValue57
  t63 := Tryz.underlying65
  a63 := Tryz.isAgg65
  z63 := Tryz.sizeOf65
  v63 := Tryz.zeroValue65
  t64 := Tryz.underlying66
  a64 := Tryz.isAgg66
  z64 := Tryz.sizeOf66
  v64 := Tryz.zeroValue66 }
end Go.Proofs
namespace Go.Proofs.YtkaegjlmnciloaaGreat
open Go.RowKit Go.Sort Go.Shelf
set_option linter.unusedVariables false
set_option linter.unusedSimpArgs false

theorem pkL_turn (f : Int) (k : Nat) : pkL [] f k k = (List.range k).map fun (i : Nat) => ((f + (i : Int)) % (k : Int)) := by
  unfold pkL
  refine List.map_congr_left fun i _ => ?_
  unfold pkV
  rw [if_neg (by simp)]; simp
theorem nums_encZ (xs : List Int) : nums .i64 xs = xs.map encZ := rfl

set_option maxRecDepth 100000 in
set_option maxHeartbeats 4000000 in
theorem law_PicksFair (a : Option Addr) (len cap : Nat) (zs : List Int) (nn ff : Int) (w : World) (hz : Nums .i64 w a len cap zs) (h0 : 0 ≤ nn) (h1 : nn < 256) (h2 : 0 ≤ ff) (h3 : ff < 256) :
    Calls Tryz.prog 3 #[.slice a len cap, .int .u8 nn, .int .u8 ff] w fun e w' => e = .returned (.bool true) ∧ RowKit.Below w.heap.size w w' := by
  obtain ⟨rfl, hn2, hwf, hsl⟩ := hz
  by_cases hbig : 200 < zs.length
  · go_enter Tryz.func3, Tryz.ntmps3
    go_wp2_with (first | (go_at_call 4; refine (law08_awake _).mono ?_; rintro e w' ⟨rfl, hb⟩))
    go_ret
    exact ⟨rfl, hb⟩
  obtain ⟨K, hK⟩ : ∃ K : Nat, nn % 50 + 1 = (K : Int) := ⟨(nn % 50 + 1).toNat, by omega⟩
  obtain ⟨F, rfl⟩ : ∃ F : Nat, ff = (F : Int) := ⟨ff.toNat, by omega⟩
  have hK1 : 1 ≤ K := by omega
  have hK2 : K ≤ 50 := by omega
  have hF : F < 256 := by omega
  have hI : ∀ x ∈ zs, I64 x := fun x hx => bounds_i64 (hwf x hx)
  have HI := Lib.hid hI; clear hI hwf
  have HSL := Lib.hid hsl; clear hsl
  have hadd : RowKit.wrap64 ((zs.length : Int) + (F : Int)) = ((zs.length + F : Nat) : Int) := by rw [wrap64_in (by omega) (by omega)]; omega
  have hadd2 : IntKind.i64.wrap ((zs.length : Int) + (F : Int)) = ((zs.length + F : Nat) : Int) := by rw [IntKind.wrap_i64]; omega
  have hsrt : (pkL [] (F : Int) K K).mergeSort (fun x y => decide (x ≤ y)) = (List.range K).map fun (i : Nat) => (i : Int) := by
    rw [pkL_turn]; exact sorted_range _ K (turnF_perm F K hK1)
  have HSRT := Lib.hid hsrt; clear hsrt
  go_enter Tryz.func3, Tryz.ntmps3
  go_wp2_with (first | (go_at_call 4; refine (law08_awake _).mono ?_; rintro e w0 ⟨rfl, hb0⟩) | (go_at_call 5; refine (picks_New a cap zs _ (HSL.out.below hb0) HI.out (by omega)).mono ?_; rintro e w2 ⟨g, an, cn, rfl, pn, hgn, bn⟩; have PN := Lib.hid pn; clear pn))
  have hB2 := below_step hb0 hb0.size bn
  have hgw : w.heap.size ≤ g := by have := hb0.size; omega
  refine (picks_Some g an cn zs 0 K (zs.length + F) w2 PN.out (by omega) (by omega) (by omega) (by omega)).mono ?_
  rintro e w3 ⟨a3, c3, A3, d3, rfl, o3, p3, g3, -⟩
  rw [List.drop_of_length_le (by omega), show pkT zs 0 (zs.length + F) = (F : Int) by unfold pkT; omega] at p3
  have hB3 := hB2.grown g3 hB2.size (fun z hz => by cases hz; exact hgw)
  have P3 := Lib.hid p3; clear p3 o3 PN
  clear hadd hadd2
  go_wp2_with fail
  refine (picks_Some g a3 c3 [] F K K w3 P3.out (by omega) (by omega) (by omega) (by omega)).mono ?_
  rintro e w4 ⟨a4, c4, A4, d4, rfl, o4, p4, g4, -⟩
  have hB4 := hB3.grown g4 hB3.size (fun z hz => by cases hz; exact hgw)
  clear p4
  have hlen : (pkL [] (F : Int) K K).length = K := pkL_length _ _ _ _
  rcases o4.2 with ⟨hv, hz⟩ | ⟨gb, cp, cur, hv, hbase, hgb, r1, r2, r3, r4⟩
  · omega
  · simp only [Value.slice.injEq] at hv
    obtain ⟨rfl, _, rfl⟩ := hv
    rw [Nat.mul_one] at r4
    have hH : Holds encZ w4 gb 0 (pkL [] (F : Int) K K).toArray := holds_of_block_i hgb (by rw [hlen]; exact r4)
    have hgl : gb < w4.heap.size := (Array.getElem?_eq_some_iff.1 hgb).1
    have cS := AnyM.slices_Sort_int Tryz.sortI gb 0 d4 (pkL [] (F : Int) K K) w4 hH hgl (by rw [hlen]; omega)
    change Calls Tryz.prog 7 _ _ _ at cS
    rw [hlen, HSRT.out] at cS
    have CS := Lib.hid cS; clear cS
    have HGB := Lib.hid hgb; clear hgb r4
    have R3 := Lib.hid r3; clear r3
    clear o4 hlen
    go_wp2_with fail
    refine CS.out.mono ?_
    rintro e w5 ⟨rfl, n5, os5, hw5⟩
    have hrow : w5.ownsRow w3.heap.size 3 1 (.slice (some ⟨gb, 0, none⟩) K d4) K (nums .i64 ((List.range K).map fun (i : Nat) => (i : Int))) := by
      have := ownsRow_sorted_i (n := n5) (os := os5) (ss := pkL [] (F : Int) K K) (ts := (List.range K).map fun (i : Nat) => (i : Int)) (by rw [pkL_length]; simp) hbase HGB.out (by rw [pkL_length]; exact r1) r2 R3.out
      rw [pkL_length] at this
      rw [hw5]; exact this
    have hB5 : RowKit.Below w.heap.size w w5 := by
      rw [hw5]; exact hB4.grown (grownBy_sorted_i _) hB4.size (fun j hj => by cases hj; have := hB3.size; omega)
    clear hw5
    have hsl : Sl .i64 w5 (some ⟨gb, 0, none⟩) d4 ((List.range K).map fun (i : Nat) => (i : Int)) := by
      have := own_rd hrow
      unfold Sl; rw [List.length_map, List.length_range]; exact this
    clear hrow CS HSRT P3 hH R3 hB2 hB3 hB4 g3 g4 HI HSL HGB
    obtain ⟨b, off, hbo, hbl, hc⟩ := hsl.at_ (by rw [List.length_map, List.length_range]; omega)
    rw [List.length_map, List.length_range] at hc
    cases hbo
    have hcc : ∀ i, i < K → w5.cell? ⟨gb, 0 + i, none⟩ = some (.int .i64 (i : Int)) := fun i hi => by
      rw [hc i hi, List.getD_eq_getElem?_getD, List.getElem?_map, List.getElem?_range hi]; rfl
    have HC := Lib.hid hcc; clear hcc hc hsl
    have HB5 := Lib.hid hB5; clear hB5
    go_wp2
    go_loopg [37] K (fun gh iv wr => ∃ (i : Nat), gh = K - i ∧ i ≤ K ∧ iv = .int .i64 i ∧ wr = w5)
    case atStart => exact ⟨0, by omega, by omega, rfl, rfl⟩
    case round =>
      obtain ⟨i, rfl, hi, rfl, rfl⟩ := hrel
      by_cases hlt : i < K
      · have c0 := HC.out i hlt
        rw [Nat.zero_add] at c0
        have hlt' : (i : Int) < (K : Int) := by omega
        go_wp2
        go_roundg (K - (i + 1))
        case measure => omega
        case rel => exact ⟨i + 1, rfl, by omega, by go_num, rfl⟩
      · have hlt' : ¬ (i : Int) < (K : Int) := by omega
        go_wp2
        go_ret
        exact ⟨rfl, HB5.out⟩
end Go.Proofs.YtkaegjlmnciloaaGreat
