/- The walk of layer 8's law PicksFair. -/
import Derived.Test.YtkaegjlmnciloaaGreatPicksPlain
import Derived.Test.YtkaegjlmnciloaaGreatOpen
import Derived.Shelf.SortM.Plain
import Derived.Shelf.Lay
import Derived.Ground.SlgmProg
import Derived.Lib.SlKeysI
namespace Go.Proofs
open Go.RowKit Go.Sort Go.Shelf
shelf_lay_g SlLaysM.n5 Slgm 5 at Tryz 7 as Tryz.sortI
end Go.Proofs
namespace Go.Proofs.YtkaegjlmnciloaaGreat
open Go.RowKit Go.Sort Go.Shelf
set_option linter.unusedVariables false
set_option linter.unusedSimpArgs false

theorem pkL_turn (f : Int) (k : Nat) : pkL [] f k k = (List.range k).map fun (i : Nat) => ((f + (i : Int)) % (k : Int)) := by
  unfold pkL
  refine List.map_congr_left fun i _ => ?_
  unfold pkV
  rw [if_neg (by simp)]; simp
theorem nums_encZ (xs : List Int) : nums .i64 xs = xs.map encZ := rfl

set_option maxRecDepth 100000 in
set_option maxHeartbeats 4000000 in
theorem law_PicksFair (a : Option Addr) (len cap : Nat) (zs : List Int) (nn ff : Int) (w : World) (hz : Nums .i64 w a len cap zs) (h0 : 0 ≤ nn) (h1 : nn < 256) (h2 : 0 ≤ ff) (h3 : ff < 256) :
    Calls Tryz.prog 3 #[.slice a len cap, .int .u8 nn, .int .u8 ff] w fun e w' => e = .returned (.bool true) ∧ RowKit.Below w.heap.size w w' := by
  obtain ⟨rfl, hn2, hwf, hsl⟩ := hz
  by_cases hbig : 200 < zs.length
  · go_enter Tryz.func3, Tryz.ntmps3
    go_wp2_with (first | (go_at_call 4; refine (law08_awake _).mono ?_; rintro e w' ⟨rfl, hb⟩))
    go_ret
    exact ⟨rfl, hb⟩
  obtain ⟨K, hK⟩ : ∃ K : Nat, nn % 50 + 1 = (K : Int) := ⟨(nn % 50 + 1).toNat, by omega⟩
  obtain ⟨F, rfl⟩ : ∃ F : Nat, ff = (F : Int) := ⟨ff.toNat, by omega⟩
  have hK1 : 1 ≤ K := by omega
  have hK2 : K ≤ 50 := by omega
  have hF : F < 256 := by omega
  have hI : ∀ x ∈ zs, I64 x := fun x hx => bounds_i64 (hwf x hx)
  have HI := Lib.hid hI; clear hI hwf
  have HSL := Lib.hid hsl; clear hsl
  have hadd : RowKit.wrap64 ((zs.length : Int) + (F : Int)) = ((zs.length + F : Nat) : Int) := by rw [wrap64_in (by omega) (by omega)]; omega
  have hadd2 : IntKind.i64.wrap ((zs.length : Int) + (F : Int)) = ((zs.length + F : Nat) : Int) := by rw [IntKind.wrap_i64]; omega
  have hsrt : (pkL [] (F : Int) K K).mergeSort (fun x y => decide (x ≤ y)) = (List.range K).map fun (i : Nat) => (i : Int) := by
    rw [pkL_turn]; exact sorted_range _ K (turnF_perm F K hK1)
  have HSRT := Lib.hid hsrt; clear hsrt
  go_enter Tryz.func3, Tryz.ntmps3
  go_wp2_with (first | (go_at_call 4; refine (law08_awake _).mono ?_; rintro e w0 ⟨rfl, hb0⟩) | (go_at_call 5; refine (picks_New a cap zs _ (HSL.out.below hb0) HI.out (by omega)).mono ?_; rintro e w2 ⟨g, an, cn, rfl, pn, hgn, bn⟩; have PN := Lib.hid pn; clear pn))
  have hB2 := below_step hb0 hb0.size bn
  have hgw : w.heap.size ≤ g := by have := hb0.size; omega
  refine (picks_Some g an cn zs 0 K (zs.length + F) w2 PN.out (by omega) (by omega) (by omega) (by omega)).mono ?_
  rintro e w3 ⟨a3, c3, A3, d3, rfl, o3, p3, g3, -⟩
  rw [List.drop_of_length_le (by omega), show pkT zs 0 (zs.length + F) = (F : Int) by unfold pkT; omega] at p3
  have hB3 := hB2.grown g3 hB2.size (fun z hz => by cases hz; exact hgw)
  have P3 := Lib.hid p3; clear p3 o3 PN
  clear hadd hadd2
  go_wp2_with fail
  refine (picks_Some g a3 c3 [] F K K w3 P3.out (by omega) (by omega) (by omega) (by omega)).mono ?_
  rintro e w4 ⟨a4, c4, A4, d4, rfl, o4, p4, g4, -⟩
  have hB4 := hB3.grown g4 hB3.size (fun z hz => by cases hz; exact hgw)
  clear p4
  have hlen : (pkL [] (F : Int) K K).length = K := pkL_length _ _ _ _
  rcases o4.2 with ⟨hv, hz⟩ | ⟨gb, cp, cur, hv, hbase, hgb, r1, r2, r3, r4⟩
  · omega
  · simp only [Value.slice.injEq] at hv
    obtain ⟨rfl, _, rfl⟩ := hv
    rw [Nat.mul_one] at r4
    have hH : Holds encZ w4 gb 0 (pkL [] (F : Int) K K).toArray := holds_of_block_i hgb (by rw [hlen]; exact r4)
    have hgl : gb < w4.heap.size := (Array.getElem?_eq_some_iff.1 hgb).1
    have cS := AnyM.slices_Sort_int Tryz.sortI gb 0 d4 (pkL [] (F : Int) K K) w4 hH hgl (by rw [hlen]; omega)
    change Calls Tryz.prog 7 _ _ _ at cS
    rw [hlen, HSRT.out] at cS
    have CS := Lib.hid cS; clear cS
    have HGB := Lib.hid hgb; clear hgb r4
    have R3 := Lib.hid r3; clear r3
    clear o4 hlen
    go_wp2_with fail
    refine CS.out.mono ?_
    rintro e w5 ⟨rfl, n5, os5, hw5⟩
    have hrow : w5.ownsRow w3.heap.size 3 1 (.slice (some ⟨gb, 0, none⟩) K d4) K (nums .i64 ((List.range K).map fun (i : Nat) => (i : Int))) := by
      have := ownsRow_sorted_i (n := n5) (os := os5) (ss := pkL [] (F : Int) K K) (ts := (List.range K).map fun (i : Nat) => (i : Int)) (by rw [pkL_length]; simp) hbase HGB.out (by rw [pkL_length]; exact r1) r2 R3.out
      rw [pkL_length] at this
      rw [hw5]; exact this
    have hB5 : RowKit.Below w.heap.size w w5 := by
      rw [hw5]; exact hB4.grown (grownBy_sorted_i _) hB4.size (fun j hj => by cases hj; have := hB3.size; omega)
    clear hw5
    have hsl : Sl .i64 w5 (some ⟨gb, 0, none⟩) d4 ((List.range K).map fun (i : Nat) => (i : Int)) := by
      have := own_rd hrow
      unfold Sl; rw [List.length_map, List.length_range]; exact this
    clear hrow CS HSRT P3 hH R3 hB2 hB3 hB4 g3 g4 HI HSL HGB
    obtain ⟨b, off, hbo, hbl, hc⟩ := hsl.at_ (by rw [List.length_map, List.length_range]; omega)
    rw [List.length_map, List.length_range] at hc
    cases hbo
    have hcc : ∀ i, i < K → w5.cell? ⟨gb, 0 + i, none⟩ = some (.int .i64 (i : Int)) := fun i hi => by
      rw [hc i hi, List.getD_eq_getElem?_getD, List.getElem?_map, List.getElem?_range hi]; rfl
    have HC := Lib.hid hcc; clear hcc hc hsl
    have HB5 := Lib.hid hB5; clear hB5
    go_wp2
    go_loopg [37] K (fun gh iv wr => ∃ (i : Nat), gh = K - i ∧ i ≤ K ∧ iv = .int .i64 i ∧ wr = w5)
    case atStart => exact ⟨0, by omega, by omega, rfl, rfl⟩
    case round =>
      obtain ⟨i, rfl, hi, rfl, rfl⟩ := hrel
      by_cases hlt : i < K
      · have c0 := HC.out i hlt
        rw [Nat.zero_add] at c0
        have hlt' : (i : Int) < (K : Int) := by omega
        go_wp2
        go_roundg (K - (i + 1))
        case measure => omega
        case rel => exact ⟨i + 1, rfl, by omega, by go_num, rfl⟩
      · have hlt' : ¬ (i : Int) < (K : Int) := by omega
        go_wp2
        go_ret
        exact ⟨rfl, HB5.out⟩
end Go.Proofs.YtkaegjlmnciloaaGreat
