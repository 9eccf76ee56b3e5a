/- Chapter 9's example: New, Advance, Add, All. -/
import Derived.Test.YtonfaojmphidpaaGreatDoorHistA
import Derived.Deep.AppendLies
import Derived.Deep.RegionLaw
namespace Go.Proofs.YtonfaojmphidpaaGreatDoor
open Go.RowKit
set_option linter.unusedVariables false
set_option linter.unusedSimpArgs false

set_option maxRecDepth 100000 in
set_option maxHeartbeats 1000000 in
theorem hist_Add_first (g : Nat) (w : World) (h : Blk w g 151 #[.int .u64 1, .slice none 0 0]) :
    Calls Tryz.prog 63 #[.pointer (some ⟨g, 0, none⟩), .int .i64 2, .int .i64 0, .int .i64 0, .int .u64 0, .int .i64 0] w fun e w' => e = .returned (.tuple #[]) ∧ ∃ A c, Blk w' g 151 #[.int .u64 1, .slice A 1 c] ∧
      w'.ownsRow w.heap.size 108 6 (.slice A 1 c) 1 [.int .u64 1, .int .i64 2, .int .i64 0, .int .i64 0, .int .u64 0, .int .i64 0] ∧ w.grownBy w' (some g) := by
  have c0 := h.cell 0
  have c1 := h.cell 1
  have f1 := h.frozen 1
  have hl := h.lt
  simp only [List.getElem?_toArray, List.getElem?_cons_zero, List.getElem?_cons_succ] at c0 c1
  obtain ⟨i0, hinf, hz0, hz1, hz2⟩ := info_parts Tryz.infoEv
  have HINF := Lib.hid hinf; clear hinf
  have HZ0 := Lib.hid hz0; clear hz0
  have HZ1 := Lib.hid hz1; clear hz1
  have HZ2 := Lib.hid hz2; clear hz2
  have HOA := Lib.hid (World.ownsRow_nil (w.drew.alloc (.cells #[.int .u64 1, .int .i64 2, .int .i64 0, .int .i64 0, .int .u64 0, .int .i64 0] 108)) w.heap.size 108 6)
  have HNEWS := Lib.hid (show ∀ (j : Nat) u, ([.int .u64 1, .int .i64 2, .int .i64 0, .int .i64 0, .int .u64 0, .int .i64 0] : List Value)[j]? = some u → (w.drew.alloc (.cells #[.int .u64 1, .int .i64 2, .int .i64 0, .int .i64 0, .int .u64 0, .int .i64 0] 108)).cell? ((⟨w.heap.size, 0, none⟩ : Addr).add j) = some u from fun j u hu => by
    have := (Blk.new w.drew 108 #[.int .u64 1, .int .i64 2, .int .i64 0, .int .i64 0, .int .u64 0, .int .i64 0]).cell (0 + j)
    have ha : (⟨w.heap.size, 0, none⟩ : Addr).add j = ⟨w.heap.size, 0 + j, none⟩ := by unfold Addr.add; split <;> simp_all
    rw [ha]; refine this.trans ?_
    rw [Nat.zero_add]; simpa using hu)
  have HH := Lib.hid h; clear h
  go_enter Tryz.func63, Tryz.ntmps63
  go_wp2_with fail
  go_region_law (refine step_append_lies (w.drew.alloc (.cells #[.int .u64 1, .int .i64 2, .int .i64 0, .int .i64 0, .int .u64 0, .int .i64 0] 108)) rfl (.tmp 18) (.tmp 29) 106 rfl w.heap.size 108 i0 (.agg #[.int .u64 0, .int .i64 0, .int .i64 0, .int .i64 0, .int .u64 0, .int .i64 0]) 6 48 Tryz.underlying106 HINF.out HZ0.out HZ1.out HZ2.out rfl (by decide) (.slice none 0 0) 0 _ rfl HOA.out ⟨w.heap.size, 0, none⟩ 1 1 [.int .u64 1, .int .i64 2, .int .i64 0, .int .i64 0, .int .u64 0, .int .i64 0] rfl rfl HNEWS.out (by simp [Value.oneCell']) (by decide) (by decide) (by decide) (by rw [size_alloc]; exact Nat.le_succ _) _ rfl ?_
                 intro gA capA wA hownA hgrowA hatA hltA
                 have knA : Blk wA g 151 #[.int .u64 1, .slice none 0 0] := (hgrowA.block g (by rw [size_alloc]; exact Nat.lt_succ_of_lt hl) (by simp [Value.ownBlock])).trans (HH.out.drew.alloc _)
                 have ka1 := knA.cell 1
                 have kf1 := knA.frozen 1
                 have kal := knA.lt
                 simp only [List.getElem?_toArray, List.getElem?_cons_zero, List.getElem?_cons_succ] at ka1)
  all_goals (go_end0; refine ⟨rfl, some ⟨gA, 0, none⟩, capA, by simpa using knA.put 1 (.slice (some ⟨gA, 0, none⟩) 1 capA), ?_, ?_⟩)
  all_goals first
    | exact ownsRow_setCell_below (a := ⟨g, 1, none⟩) hownA hl _
    | (have hbd : RowKit.Below w.heap.size w (w.drew.alloc (.cells #[.int .u64 1, .int .i64 2, .int .i64 0, .int .i64 0, .int .u64 0, .int .i64 0] 108)) := ((RowKit.Below.refl w.heap.size w).drew).alloc (Nat.le_refl _) _
       have hg1 : w.grownBy (w.drew.alloc (.cells #[.int .u64 1, .int .i64 2, .int .i64 0, .int .i64 0, .int .u64 0, .int .i64 0] 108)) (some g) := ⟨hbd.os, hbd.tape, hbd.output, hbd.size, fun i hi _ => hbd.block i hi⟩
       exact (hg1.andThen hgrowA (fun j hj => by simp [Value.ownBlock] at hj)).trans ⟨rfl, rfl, rfl, by rw [size_setCell]; exact Nat.le_refl _, fun k _ hk => RowKit.Below.heap_setCell _ _ _ k (fun e => hk (by rw [e]))⟩)
end Go.Proofs.YtonfaojmphidpaaGreatDoor
