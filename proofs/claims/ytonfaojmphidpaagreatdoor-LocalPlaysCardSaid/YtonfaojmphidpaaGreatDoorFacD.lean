/- Chapter 10's example: awake; nil factories; FactoryNone. -/
import Derived.Test.YtonfaojmphidpaaGreatDoorFacC
import Derived.Test.YtonfaojmphidpaaGreatDoorZA4
namespace Go.Proofs.YtonfaojmphidpaaGreatDoor
open Go.RowKit Go.Maps
set_option linter.unusedVariables false
set_option linter.unusedSimpArgs false

theorem Bs.one {w : World} {b : Nat} {t : TypeId} {x : Bool} (h : Blk w b t #[.bool x]) : Bs w (some ⟨b, 0, none⟩) 1 [x] :=
  ⟨rfl, Nat.le_refl _, (fun e => by cases e), fun _ => ⟨b, 0, rfl, h.lt, fun i v hi => by
    rw [Nat.zero_add, h.cell]; simpa [bools] using hi⟩⟩
set_option maxRecDepth 100000 in
set_option maxHeartbeats 2000000 in
theorem law10_awake (w : World) :
    Calls Tryz.prog 14 #[] w fun e w' => e = .returned (.bool true) ∧ RowKit.Below w.heap.size w w' := by
  have hal := (RowKit.Below.refl w.heap.size w).alloc (Nat.le_refl _) (.cells #[.bool false] 4)
  have hnew : Calls Tryz.prog 15 #[.slice (some ⟨w.heap.size, 0, none⟩) 1 1, .slice none 0 0] (w.alloc (.cells #[.bool false] 4)) _ := factory_New (some ⟨w.heap.size, 0, none⟩) 1 [false] none 0 [] _ (Bs.one (Blk.new _ _ _)) (Bs.nil_ _ _ _ (fun _ => rfl)) (by decide) (by decide)
  have HNEW := Lib.hid hnew; clear hnew
  have HAL := Lib.hid hal; clear hal
  go_enter Tryz.func14, Tryz.ntmps14
  go_wp2_with fail
  refine HNEW.out.mono ?_
  rintro e w1 ⟨g, b, a1, c1, a2, c2, rfl, hF, hg, hb, hB⟩
  have hB1 := below_step HAL.out HAL.out.size hB
  have hsz := HAL.out.size
  have h1 := factory_Open g b a1 c1 [false] a2 c2 [] 0 [] w1 hF (by decide)
  have H1 := Lib.hid h1; clear h1
  have HB1 := Lib.hid hB1; clear hB1 hB
  have hgw : w.heap.size ≤ g := by omega
  clear hF
  go_wp2_with fail
  refine H1.out.mono ?_
  rintro e w2 ⟨rfl, a1', c1', hF2, hg2⟩
  have hF2' : Fc w2 g b a1' c1' [] a2 c2 [] 0 [] := hF2
  have h2 := factory_Open g b a1' c1' [] a2 c2 [] 0 [] w2 hF2' (by decide)
  have H2 := Lib.hid h2; clear h2 hF2 hF2'
  have HB2 := Lib.hid (hg2.below HB1.out (fun z _ hz => by rw [hz]; exact hgw) HB1.out.size); clear hg2 H1
  go_wp2_with fail
  refine H2.out.mono ?_
  rintro e w3 ⟨rfl, a1'', c1'', hF3, hg3⟩
  have HB3 := Lib.hid (hg3.below HB2.out (fun z _ hz => by rw [hz]; exact hgw) HB2.out.size); clear hg3 hF3 H2
  go_wp2_with fail
  refine (law09_Awake _).mono ?_
  rintro e w4 ⟨rfl, hb4⟩
  have HB4 := Lib.hid (below_step HB3.out HB3.out.size hb4); clear hb4
  go_wp2_with fail
  go_ret
  exact ⟨rfl, HB4.out⟩
set_option maxHeartbeats 400000 in
theorem law10_Awake (w : World) :
    Calls Tryz.prog 83 #[] w fun e w' => e = .returned (.bool true) ∧ RowKit.Below w.heap.size w w' := by
  go_enter Tryz.func83, Tryz.ntmps83
  go_wp2_with (first | (go_at_call 14; refine (law10_awake _).mono ?_; rintro e w' ⟨rfl, hb⟩))
  go_ret
  exact ⟨rfl, hb⟩
end Go.Proofs.YtonfaojmphidpaaGreatDoor
