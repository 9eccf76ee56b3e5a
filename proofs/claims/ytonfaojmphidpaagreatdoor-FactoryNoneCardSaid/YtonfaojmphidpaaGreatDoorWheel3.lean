/- The wheel's order on keys: the walk of the closure that SortedFunc calls. -/
import Derived.Test.YtonfaojmphidpaaGreatDoorWheel2
import Derived.Test.YtonfaojmphidpaaGreatDoorCmp
import Derived.Sort.Grow
namespace Go.Proofs.YtonfaojmphidpaaGreatDoor
open Go.RowKit Go.Maps Go.Sort
set_option linter.unusedVariables false
set_option linter.unusedSimpArgs false

def keyCmp (L : List (Int × Int)) (x y : Int) : Int := if cmpI (valOf L x) (valOf L y) = 0 then cmpI x y else cmpI (valOf L x) (valOf L y)
theorem Wh.look {w : World} {g b : Nat} {L : List (Int × Int)} (h : Wh w g b L) {k : Int} (hk : In64 k) : (Instr.lookup 234 (.map (some b)) (.int .u64 k) false).run Tryz.prog w = .ok (.int .u64 (valOf L k)) w := by
  obtain ⟨D, hown, hT⟩ := h.map_
  obtain ⟨c, hrun, hat, -⟩ := hown.lookup_int lawU Tryz.underlying234 Tryz.underlying28 (zeroU64 _) (keyOf_int_mk Tryz.underlying28 hk.wf)
  rw [hrun, hT.val hat]
theorem below_growN (w : World) (q : Nat) (os : Array Obj) : Below w.heap.size w (grow (w.drewN q) os) :=
  ⟨rfl, rfl, rfl, by simp [grow, World.drewN], fun k hk => Array.getElem?_append_left hk⟩

set_option maxRecDepth 100000 in
set_option maxHeartbeats 1000000 in
theorem wheel_keys_cmp (bx g b : Nat) (L : List (Int × Int)) (x y : Int) (w : World) (h : Wh w g b L) (hx : In64 x) (hy : In64 y) (hbx : w.cell? ⟨bx, 0, none⟩ = some (.pointer (some ⟨g, 0, none⟩))) (hlt : bx < w.heap.size) :
    Calls Tryz.prog 181 #[.int .u64 x, .int .u64 y, .pointer (some ⟨bx, 0, none⟩)] w fun e w' => e = .returned (.int .i64 (keyCmp L x y)) ∧ ∃ q os, w' = grow (w.drewN q) os := by
  have hC : ∀ w' : World, (∃ q os, w' = grow (w.drewN q) os) → w'.cell? ⟨bx, 0, none⟩ = some (.pointer (some ⟨g, 0, none⟩)) ∧ w'.cell? ⟨g, 0, none⟩ = some (.map (some b)) ∧
      (Instr.lookup 234 (.map (some b)) (.int .u64 x) false).run Tryz.prog w' = .ok (.int .u64 (valOf L x)) w' ∧
      (Instr.lookup 234 (.map (some b)) (.int .u64 y) false).run Tryz.prog w' = .ok (.int .u64 (valOf L y)) w' := by
    rintro w' ⟨q, os, rfl⟩
    have hb := below_growN w q os
    have h' := h.of_below hb
    exact ⟨(hb.cell (p := ⟨bx, 0, none⟩) hlt).trans hbx, h'.cell, h'.look hx, h'.look hy⟩
  go_enter Tryz.func181, Tryz.ntmps181
  go_wp2_with fail
  refine wp_region_mix_tail (fun w' => ∃ q os, w' = grow (w.drewN q) os) 16 [(0, true), (1, true), (2, true), (3, true), (4, true), (5, true), (6, true), (7, true), (8, true), (9, true), (10, true), (11, true), (13, true), (14, true), (12, false), (15, false)] (by kernel_rfl) (by kernel_rfl) (⟨1, #[], (grow_empty _).symm⟩) ?_
  refine ord_still rfl rfl (fun K hK => ?_); apply Exists.intro; refine ⟨fun w' hw' => ?_, ?_⟩; (obtain ⟨hc1, hc2, hl1, hl2⟩ := hC w' hw'; go_simp; first | done | exact ⟨rfl, rfl⟩ | exact rfl); (go_simp; refine hK _ ?_; clear hK K)
  refine ord_still rfl rfl (fun K hK => ?_); apply Exists.intro; refine ⟨fun w' hw' => ?_, ?_⟩; (obtain ⟨hc1, hc2, hl1, hl2⟩ := hC w' hw'; go_simp; first | done | exact ⟨rfl, rfl⟩ | exact rfl); (go_simp; refine hK _ ?_; clear hK K)
  refine ord_still rfl rfl (fun K hK => ?_); apply Exists.intro; refine ⟨fun w' hw' => ?_, ?_⟩; (obtain ⟨hc1, hc2, hl1, hl2⟩ := hC w' hw'; go_simp; first | done | exact ⟨rfl, rfl⟩ | exact rfl); (go_simp; refine hK _ ?_; clear hK K)
  refine ord_still rfl rfl (fun K hK => ?_); apply Exists.intro; refine ⟨fun w' hw' => ?_, ?_⟩; (obtain ⟨hc1, hc2, hl1, hl2⟩ := hC w' hw'; go_simp; first | done | exact ⟨rfl, rfl⟩ | exact rfl); (go_simp; refine hK _ ?_; clear hK K)
  refine ord_still rfl rfl (fun K hK => ?_); apply Exists.intro; refine ⟨fun w' hw' => ?_, ?_⟩; (obtain ⟨hc1, hc2, hl1, hl2⟩ := hC w' hw'; go_simp; first | done | exact ⟨rfl, rfl⟩ | exact rfl); (go_simp; refine hK _ ?_; clear hK K)
  refine ord_still rfl rfl (fun K hK => ?_); apply Exists.intro; refine ⟨fun w' hw' => ?_, ?_⟩; (obtain ⟨hc1, hc2, hl1, hl2⟩ := hC w' hw'; go_simp; first | done | exact ⟨rfl, rfl⟩ | exact rfl); (go_simp; refine hK _ ?_; clear hK K)
  refine ord_still rfl rfl (fun K hK => ?_); apply Exists.intro; refine ⟨fun w' hw' => ?_, ?_⟩; (obtain ⟨hc1, hc2, hl1, hl2⟩ := hC w' hw'; go_simp; first | done | exact ⟨rfl, rfl⟩ | exact rfl); (go_simp; refine hK _ ?_; clear hK K)
  refine ord_still rfl rfl (fun K hK => ?_); apply Exists.intro; refine ⟨fun w' hw' => ?_, ?_⟩; (obtain ⟨hc1, hc2, hl1, hl2⟩ := hC w' hw'; go_simp; first | done | exact ⟨rfl, rfl⟩ | exact rfl); (go_simp; refine hK _ ?_; clear hK K)
  refine ord_still rfl rfl (fun K hK => ?_); apply Exists.intro; refine ⟨fun w' hw' => ?_, ?_⟩; (obtain ⟨hc1, hc2, hl1, hl2⟩ := hC w' hw'; go_simp; first | done | exact ⟨rfl, rfl⟩ | exact rfl); (go_simp; refine hK _ ?_; clear hK K)
  refine ord_still rfl rfl (fun K hK => ?_); apply Exists.intro; refine ⟨fun w' hw' => ?_, ?_⟩; (obtain ⟨hc1, hc2, hl1, hl2⟩ := hC w' hw'; go_simp; first | done | exact ⟨rfl, rfl⟩ | exact rfl); (go_simp; refine hK _ ?_; clear hK K)
  refine ord_still rfl rfl (fun K hK => ?_); apply Exists.intro; refine ⟨fun w' hw' => ?_, ?_⟩; (obtain ⟨hc1, hc2, hl1, hl2⟩ := hC w' hw'; go_simp; first | done | exact ⟨rfl, rfl⟩ | exact rfl); (go_simp; refine hK _ ?_; clear hK K)
  refine ord_still rfl rfl (fun K hK => ?_); apply Exists.intro; refine ⟨fun w' hw' => ?_, ?_⟩; (obtain ⟨hc1, hc2, hl1, hl2⟩ := hC w' hw'; go_simp; first | done | exact ⟨rfl, rfl⟩ | exact rfl); (go_simp; refine hK _ ?_; clear hK K)
  refine ord_still rfl rfl (fun K hK => ?_); apply Exists.intro; refine ⟨fun w' hw' => ?_, ?_⟩; (obtain ⟨hc1, hc2, hl1, hl2⟩ := hC w' hw'; go_simp; first | done | exact ⟨rfl, rfl⟩ | exact rfl); (go_simp; refine hK _ ?_; clear hK K)
  refine ord_still rfl rfl (fun K hK => ?_); apply Exists.intro; refine ⟨fun w' hw' => ?_, ?_⟩; (obtain ⟨hc1, hc2, hl1, hl2⟩ := hC w' hw'; go_simp; first | done | exact ⟨rfl, rfl⟩ | exact rfl); (go_simp; refine hK _ ?_; clear hK K)
  refine ord_sole rfl rfl (fun K hK => ?_); go_simp
  refine (cmp_Compare_u64 _ _ _).mono ?_
  rintro e w3 ⟨rfl, rfl⟩
  refine ⟨_, rfl, ⟨1, #[], (grow_empty _).symm⟩, ?_⟩
  go_simp
  refine hK _ _ ?_; clear hK K
  refine ord_sole rfl rfl (fun K hK => ?_); go_simp
  refine (cmp_Compare_u64 _ _ _).mono ?_
  rintro e w3 ⟨rfl, rfl⟩
  refine ⟨_, rfl, ⟨1, #[], (grow_empty _).symm⟩, ?_⟩
  go_simp
  refine hK _ _ ?_; clear hK K
  refine ord_nil ?_
  intro hCx
  clear hCx hC
  simp only [List.drop_succ_cons, List.drop_zero]
  go_wp2_with fail
  refine (cmp_Or_int _ 2 [cmpI (valOf L x) (valOf L y), cmpI x y] _ (sl_new w.drew .i64 3 [cmpI (valOf L x) (valOf L y), cmpI x y]) (by simp)).mono ?_
  rintro e w3 ⟨rfl, rfl⟩
  rw [show orI [cmpI (valOf L x) (valOf L y), cmpI x y] = keyCmp L x y from orI_two _ _]
  go_wp2_with fail
  go_ret
  exact ⟨rfl, 1, _, alloc_eq_grow w.drew (.cells #[.int .i64 (cmpI (valOf L x) (valOf L y)), .int .i64 (cmpI x y)] 3)⟩
end Go.Proofs.YtonfaojmphidpaaGreatDoor
