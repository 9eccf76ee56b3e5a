/- The walk of CellSwaps. -/
import Derived.Test.YtebifndgdfalnaaCell
import Derived.Test.YtebifndgdfalnaaOpen
import Derived.Lib.Hide
namespace Go.Proofs.Ytebifndgdfalnaa
open Go.RowKit
set_option linter.unusedVariables false

set_option maxHeartbeats 1000000 in
theorem law_CellSwaps (v0 : Int) (a : Option Addr) (n cap : Nat) (xs : List CAct) (w : World) (h0 : 0 ≤ v0) (h1 : v0 < 18446744073709551616) (hx : ActsIn w a n xs) :
    Calls Try.prog 6 #[.int .u64 v0, .slice a n cap] w fun e w' => e = .returned (.bool true) ∧ Below w.heap.size w w' := by
  obtain ⟨hxl, hn, hwf, hcells⟩ := hx
  by_cases hbig : 80 < n
  · go_enter Try.func6, Try.ntmps6
    go_wp2_with (first | (go_at_call 34; refine (law02_awake _).mono ?_; rintro e w' ⟨rfl, hb⟩))
    go_ret
    exact ⟨rfl, hb⟩
  · go_enter Try.func6, Try.ntmps6
    go_wp2_with (first | (go_at_call 34; refine (law02_awake _).mono ?_; rintro e w1 ⟨rfl, hb⟩) | (go_at_call 35; refine (cell_New _ _).mono ?_; rintro e w' ⟨rfl, rfl⟩))
    go_loopw [5, 6, 25] (fun c d i wr => ∃ (k b : Nat) (v : Int), k ≤ n ∧ i = .int .i64 k ∧ c = .pointer (some ⟨b, 0, none⟩) ∧ d = .int .u64 v ∧ 0 ≤ v ∧ v < 18446744073709551616 ∧ Blk wr b 150 #[.int .u64 v] ∧ w.heap.size ≤ b ∧ Below w.heap.size w wr) (fun _ _ i _ => (n - intOf i).toNat)
    case atStart => exact ⟨0, w1.heap.size, v0, by omega, rfl, rfl, rfl, h0, h1, Blk.new _ _ _, hb.size, hb.alloc hb.size _⟩
    case round =>
      obtain ⟨k, b, v, hk, rfl, rfl, rfl, hv0, hv1, hc, hbl, hB⟩ := hrel
      by_cases hlt : k < n
      · obtain ⟨ab, aoff, rfl, hab, hcs⟩ := hcells (by omega)
        obtain ⟨c0', c1', c2', c3'⟩ := hcs k hlt
        have c0 := (hB.cell (p := ⟨ab, aoff + k * 4, none⟩) hab).trans c0'
        have c1 := (hB.cell (p := ⟨ab, aoff + k * 4 + 1, none⟩) hab).trans c1'
        have c2 := (hB.cell (p := ⟨ab, aoff + k * 4 + 2, none⟩) hab).trans c2'
        have c3 := (hB.cell (p := ⟨ab, aoff + k * 4 + 3, none⟩) hab).trans c3'
        obtain ⟨g0, g1, g2, g3⟩ := hwf (xs.getD k default) (by rw [List.getD_eq_getElem?_getD, List.getElem?_eq_getElem (by omega)]; exact List.getElem_mem _)
        clear c0' c1' c2' c3' hcs hcells hwf
        generalize xs.getD k default = A at *
        obtain ⟨ao, as_, al, ac⟩ := A
        have hcb := hc.lt
        have hsz := hB.size
        dsimp only at c0 c1 c2 c3 g0 g1 g2 g3
        cases ac with
        | false =>
          cases al with
          | false =>
            obtain ⟨r0, r1⟩ := cSwap_range (d := v) (o := ao) (s := as_) (by omega) (by omega) hv0 hv1
            have q0 := hc.isCell.1
            have q1 := hc.isCell.2
            go_wp2_with (first | (go_at_call 37; refine (cell_Swap _ v _ _ _ ⟨by go_simp, by go_simp⟩ (by omega) (by omega)).mono ?_; rintro e w' ⟨rfl, rfl⟩) | (go_at_call 39; refine (ref02_Swap _ _ _ _ (by omega) (by omega) (by omega) (by omega)).mono ?_; rintro e w' ⟨rfl, rfl⟩) | (go_at_call 38; refine (cell_Load _ (cSwap v ao as_) _ ⟨by go_simp, by go_simp⟩).mono ?_; rintro e w' ⟨rfl, rfl⟩))
            go_roundw
            case rel => exact ⟨k + 1, b, cSwap v ao as_, by omega, by go_num, rfl, rfl, r0, r1, (hc.put 0 _).alloc _, hbl, (hB.setCell (p := ⟨b, 0, none⟩) hbl _).alloc (by simp [World.size_setCell]; omega) _⟩
            case measure => simp [intOf]; omega
          | true =>
            obtain ⟨r0, r1⟩ := cSwap_range (d := v) (o := v) (s := as_) (by omega) (by omega) hv0 hv1
            have q0 := hc.isCell.1
            have q1 := hc.isCell.2
            go_wp2_with (first | (go_at_call 37; refine (cell_Swap _ v _ _ _ ⟨by go_simp, by go_simp⟩ (by omega) (by omega)).mono ?_; rintro e w' ⟨rfl, rfl⟩) | (go_at_call 39; refine (ref02_Swap _ _ _ _ (by omega) (by omega) (by omega) (by omega)).mono ?_; rintro e w' ⟨rfl, rfl⟩) | (go_at_call 38; refine (cell_Load _ (cSwap v v as_) _ ⟨by go_simp, by go_simp⟩).mono ?_; rintro e w' ⟨rfl, rfl⟩))
            go_roundw
            case rel => exact ⟨k + 1, b, cSwap v v as_, by omega, by go_num, rfl, rfl, r0, r1, (hc.put 0 _).alloc _, hbl, (hB.setCell (p := ⟨b, 0, none⟩) hbl _).alloc (by simp [World.size_setCell]; omega) _⟩
            case measure => simp [intOf]; omega
        | true =>
          cases al with
          | false =>
            have q0 := hc.isCell.1
            have q1 := hc.isCell.2
            go_wp2_with (first | (go_at_call 36; refine (cell_Clone _ v _ ⟨by go_simp, by go_simp⟩).mono ?_; rintro e w' ⟨rfl, rfl⟩))
            obtain ⟨wo, rfl⟩ : ∃ wo : World, wo = wr := ⟨_, rfl⟩
            go_loopw [33] (fun i wx => ∃ (s : Nat) (u : Int), s ≤ 4 ∧ i = .int .i64 s ∧ 0 ≤ u ∧ u < 18446744073709551616 ∧ Blk wx b 150 #[.int .u64 u] ∧ Blk wx wo.heap.size 41 #[.int .u64 ao, .int .i64 as_, .bool false, .bool true] ∧ Blk wx (wo.heap.size + 1) 150 #[.int .u64 v] ∧ Below w.heap.size w wx) (fun i _ => (4 - intOf i).toNat)
            case atStart => exact ⟨0, v, by omega, rfl, hv0, hv1, (hc.alloc _).alloc _, (Blk.new _ _ _).alloc _, by have := Blk.new (wo.alloc (.cells #[.int .u64 ao, .int .i64 as_, .bool false, .bool true] 41)) 150 #[.int .u64 v]; rwa [World.size_alloc] at this, (hB.alloc hsz _).alloc (by simp; omega) _⟩
            case round =>
              obtain ⟨s, u, hs, rfl, hu0, hu1, k1, k2, k3, hBx⟩ := hrel
              have d0 := k1.isCell.1
              have d1 := k1.isCell.2
              clear q0 q1
              by_cases hs4 : s < 4
              · obtain ⟨r0, r1⟩ := cSwap_range (d := u) (o := u) (s := s) hu0 hu1 hu0 hu1
                go_wp2_with (first | (go_at_call 37; refine (cell_Swap _ u _ _ _ ⟨by go_simp, by go_simp⟩ (by omega) (by omega)).mono ?_; rintro e w' ⟨rfl, rfl⟩) | (go_at_call 38; refine (cell_Load _ u _ ⟨by go_simp, by go_simp⟩).mono ?_; rintro e w' ⟨rfl, rfl⟩))
                go_roundw
                case rel => exact ⟨s + 1, _, by omega, by go_num, r0, r1, k1.put 0 _, k2.far (p := ⟨b, 0, none⟩) (by simp; omega) _, k3.far (p := ⟨b, 0, none⟩) (by simp; omega) _, hBx.setCell (p := ⟨b, 0, none⟩) hbl _⟩
                case measure => simp [intOf]; omega
              · obtain ⟨r0, r1⟩ := cSwap_range (d := v) (o := ao) (s := as_) (by omega) (by omega) hv0 hv1
                have p0 := k3.isCell.1
                have p1 := k3.isCell.2
                have p2 := k2.cell 0
                have p3 := k2.cell 1
                have p4 := k2.cell 2
                have p5 := k2.cell 3
                have p6 := k2.frozen 0
                have k2l := k2.lt
                have k3l := k3.lt
                simp only [List.getElem?_toArray, List.getElem?_cons_zero, List.getElem?_cons_succ] at p2 p3 p4 p5
                go_wp2_with (first | (go_at_call 37; refine (cell_Swap _ v _ _ _ ⟨by go_simp, by go_simp⟩ (by omega) (by omega)).mono ?_; rintro e w' ⟨rfl, rfl⟩) | (go_at_call 39; refine (ref02_Swap _ _ _ _ (by omega) (by omega) (by omega) (by omega)).mono ?_; rintro e w' ⟨rfl, rfl⟩) | (go_at_call 38; refine (cell_Load _ (cSwap v ao as_) _ ⟨by go_simp, by go_simp⟩).mono ?_; rintro e w' ⟨rfl, rfl⟩))
                go_roundw
                case rel => exact ⟨k + 1, wo.heap.size + 1, cSwap v ao as_, by omega, by go_num, rfl, rfl, r0, r1, k3.put 0 _, by omega, (hBx.setCell (p := ⟨wo.heap.size + 1, 0, none⟩) (by simp; omega) _)⟩
                case measure => simp [intOf]; omega
          | true =>
            have q0 := hc.isCell.1
            have q1 := hc.isCell.2
            go_wp2_with (first | (go_at_call 36; refine (cell_Clone _ v _ ⟨by go_simp, by go_simp⟩).mono ?_; rintro e w' ⟨rfl, rfl⟩))
            obtain ⟨wo, rfl⟩ : ∃ wo : World, wo = wr := ⟨_, rfl⟩
            go_loopw [33] (fun i wx => ∃ (s : Nat) (u : Int), s ≤ 4 ∧ i = .int .i64 s ∧ 0 ≤ u ∧ u < 18446744073709551616 ∧ Blk wx b 150 #[.int .u64 u] ∧ Blk wx wo.heap.size 41 #[.int .u64 ao, .int .i64 as_, .bool true, .bool true] ∧ Blk wx (wo.heap.size + 1) 150 #[.int .u64 v] ∧ Below w.heap.size w wx) (fun i _ => (4 - intOf i).toNat)
            case atStart => exact ⟨0, v, by omega, rfl, hv0, hv1, (hc.alloc _).alloc _, (Blk.new _ _ _).alloc _, by have := Blk.new (wo.alloc (.cells #[.int .u64 ao, .int .i64 as_, .bool true, .bool true] 41)) 150 #[.int .u64 v]; rwa [World.size_alloc] at this, (hB.alloc hsz _).alloc (by simp; omega) _⟩
            case round =>
              obtain ⟨s, u, hs, rfl, hu0, hu1, k1, k2, k3, hBx⟩ := hrel
              have d0 := k1.isCell.1
              have d1 := k1.isCell.2
              clear q0 q1
              by_cases hs4 : s < 4
              · obtain ⟨r0, r1⟩ := cSwap_range (d := u) (o := u) (s := s) hu0 hu1 hu0 hu1
                go_wp2_with (first | (go_at_call 37; refine (cell_Swap _ u _ _ _ ⟨by go_simp, by go_simp⟩ (by omega) (by omega)).mono ?_; rintro e w' ⟨rfl, rfl⟩) | (go_at_call 38; refine (cell_Load _ u _ ⟨by go_simp, by go_simp⟩).mono ?_; rintro e w' ⟨rfl, rfl⟩))
                go_roundw
                case rel => exact ⟨s + 1, _, by omega, by go_num, r0, r1, k1.put 0 _, k2.far (p := ⟨b, 0, none⟩) (by simp; omega) _, k3.far (p := ⟨b, 0, none⟩) (by simp; omega) _, hBx.setCell (p := ⟨b, 0, none⟩) hbl _⟩
                case measure => simp [intOf]; omega
              · obtain ⟨r0, r1⟩ := cSwap_range (d := v) (o := v) (s := as_) (by omega) (by omega) hv0 hv1
                have p0 := k3.isCell.1
                have p1 := k3.isCell.2
                have p2 := k2.cell 0
                have p3 := k2.cell 1
                have p4 := k2.cell 2
                have p5 := k2.cell 3
                have p6 := k2.frozen 0
                have k2l := k2.lt
                have k3l := k3.lt
                simp only [List.getElem?_toArray, List.getElem?_cons_zero, List.getElem?_cons_succ] at p2 p3 p4 p5
                go_wp2_with (first | (go_at_call 37; refine (cell_Swap _ v _ _ _ ⟨by go_simp, by go_simp⟩ (by omega) (by omega)).mono ?_; rintro e w' ⟨rfl, rfl⟩) | (go_at_call 39; refine (ref02_Swap _ _ _ _ (by omega) (by omega) (by omega) (by omega)).mono ?_; rintro e w' ⟨rfl, rfl⟩) | (go_at_call 38; refine (cell_Load _ (cSwap v v as_) _ ⟨by go_simp, by go_simp⟩).mono ?_; rintro e w' ⟨rfl, rfl⟩))
                go_roundw
                case rel => exact ⟨k + 1, wo.heap.size + 1, cSwap v v as_, by omega, by go_num, rfl, rfl, r0, r1, (k3.far (p := ⟨wo.heap.size, 0, none⟩) (by simp) _).put 0 _, by omega, ((hBx.setCell (p := ⟨wo.heap.size, 0, none⟩) (by simp; omega) _).setCell (p := ⟨wo.heap.size + 1, 0, none⟩) (by simp; omega) _)⟩
                case measure => simp [intOf]; omega
      · obtain rfl : k = n := by omega
        clear hcells hwf
        go_wp2
        go_ret
        exact ⟨rfl, hB⟩
end Go.Proofs.Ytebifndgdfalnaa
