/- Chapter 9's example, whole: awake. -/
import Derived.Test.YtonfaojmphidpaaGreatDoorHistB
import Derived.Test.YtonfaojmphidpaaGreatDoorHistC
import Derived.Test.YtonfaojmphidpaaGreatDoorGrew
namespace Go.Proofs.YtonfaojmphidpaaGreatDoor
open Go.RowKit
set_option linter.unusedVariables false
set_option linter.unusedSimpArgs false

set_option maxHeartbeats 400000 in
theorem hist_All (g : Nat) (s : Int) (a : Option Addr) (n c : Nat) (cs : List Value) (w : World) (h : Blk w g 151 #[.int .u64 s, .slice a n c]) (hr : Rd 6 w a n c cs) (ho : ∀ u ∈ cs, u.oneCell' = true) (hl : n ≤ 1000000) :
    Calls Tryz.prog 67 #[.pointer (some ⟨g, 0, none⟩)] w fun e w' => ∃ a' c', e = .returned (.slice a' n c') ∧ w'.ownsRow w.heap.size 108 6 (.slice a' n c') n cs ∧ RowKit.Below w.heap.size w w' := by
  have c1 := h.cell 1
  have hlt := h.lt
  simp only [List.getElem?_toArray, List.getElem?_cons_zero, List.getElem?_cons_succ] at c1
  have hcl := slices_Clone_event a n c cs w hr ho hl
  have HCL := Lib.hid hcl; clear hcl hr ho
  go_enter Tryz.func67, Tryz.ntmps67
  go_wp2_with (go_at_call 93; refine HCL.out.mono ?_; rintro e w' ⟨a', c', rfl, h1, h2, h3⟩)
  go_ret
  exact ⟨a', c', rfl, h1, h3⟩

set_option maxRecDepth 100000 in
set_option maxHeartbeats 2000000 in
theorem law09_awake (w : World) :
    Calls Tryz.prog 59 #[] w fun e w' => e = .returned (.bool true) ∧ RowKit.Below w.heap.size w w' := by
  go_enter Tryz.func59, Tryz.ntmps59
  go_wp2_with fail
  refine (hist_New _).mono ?_
  rintro e w1 ⟨rfl, rfl⟩
  have k0 := Blk.new w 151 #[.int .u64 0, .slice none 0 0]
  have hB1 := (RowKit.Below.refl w.heap.size w).alloc (Nat.le_refl _) (.cells #[.int .u64 0, .slice none 0 0] 151)
  go_wp2_with fail
  refine (hist_Advance0 w.heap.size _ k0).mono ?_
  rintro e w2 ⟨rfl, rfl⟩
  have k1 : Blk ((w.alloc (.cells #[.int .u64 0, .slice none 0 0] 151)).setCell ⟨w.heap.size, 0, none⟩ (.int .u64 1)) w.heap.size 151 #[.int .u64 1, .slice none 0 0] := k0.put 0 (.int .u64 1)
  have hB2 := hB1.setCell (p := ⟨w.heap.size, 0, none⟩) (Nat.le_refl _) (.int .u64 1)
  generalize ((w.alloc (.cells #[.int .u64 0, .slice none 0 0] 151)).setCell ⟨w.heap.size, 0, none⟩ (.int .u64 1)) = W2 at *
  have K1 := Lib.hid k1; clear k1 k0 hB1
  have HB2 := Lib.hid hB2; clear hB2
  have hadd := hist_Add_first w.heap.size W2 K1.out
  have HADD := Lib.hid hadd; clear hadd
  go_wp2_with fail
  refine HADD.out.mono ?_
  rintro e w3 ⟨rfl, A3, c3, k3, ho3, hg3⟩
  have hB3 := HB2.out.grown hg3 HB2.out.size (fun z hz => by cases hz; exact Nat.le_refl _)
  have hall := hist_All w.heap.size 1 A3 1 c3 _ w3 k3 (own_rd ho3) (by simp [Value.oneCell']) (by decide)
  have HALL := Lib.hid hall; clear hall HADD
  have HB3 := Lib.hid hB3; clear hB3 ho3 hg3 k3
  go_wp2_with fail
  refine HALL.out.mono ?_
  rintro e w4 ⟨a4, c4, rfl, ho4, hb4⟩
  have HB4 := Lib.hid (below_step HB3.out HB3.out.size hb4); clear hb4 HALL
  obtain ⟨b, cur, rfl, hbB, hbb, hcs, hlc, hcm, hcur⟩ := own_at ho4 (by decide)
  have HBB := Lib.hid hbb; clear hbb ho4
  have HCUR := Lib.hid hcur; clear hcur hcs hcm
  go_wp2_with fail
  refine (law08_Awake _).mono ?_
  rintro e w5 ⟨rfl, hb5⟩
  have k5 := HBB.out.of_below hb5
  have g0 : w5.cell? ⟨b, 0, none⟩ = some (.int .u64 1) := by rw [k5.cell, HCUR.out 0 (by decide)]; rfl
  have g1 : w5.cell? ⟨b, 1, none⟩ = some (.int .i64 2) := by rw [k5.cell, HCUR.out 1 (by decide)]; rfl
  have g2 : w5.cell? ⟨b, 2, none⟩ = some (.int .i64 0) := by rw [k5.cell, HCUR.out 2 (by decide)]; rfl
  have g3 : w5.cell? ⟨b, 3, none⟩ = some (.int .i64 0) := by rw [k5.cell, HCUR.out 3 (by decide)]; rfl
  have g4 : w5.cell? ⟨b, 4, none⟩ = some (.int .u64 0) := by rw [k5.cell, HCUR.out 4 (by decide)]; rfl
  have g5 : w5.cell? ⟨b, 5, none⟩ = some (.int .i64 0) := by rw [k5.cell, HCUR.out 5 (by decide)]; rfl
  have HB5 := Lib.hid (below_step HB4.out HB4.out.size hb5); clear hb5 k5
  go_wp2_with fail
  refine (event_Text _).mono ?_
  rintro e w6 ⟨rfl, hb6⟩
  have HB6 := Lib.hid (below_step HB5.out HB5.out.size hb6); clear hb6
  go_wp2_with fail
  go_ret
  exact ⟨rfl, HB6.out⟩
set_option maxHeartbeats 400000 in
theorem law09_Awake (w : World) :
    Calls Tryz.prog 75 #[] w fun e w' => e = .returned (.bool true) ∧ RowKit.Below w.heap.size w w' := by
  go_enter Tryz.func75, Tryz.ntmps75
  go_wp2_with (first | (go_at_call 59; refine (law09_awake _).mono ?_; rintro e w' ⟨rfl, hb⟩))
  go_ret
  exact ⟨rfl, hb⟩
end Go.Proofs.YtonfaojmphidpaaGreatDoor
