/- Chapter 11: the law's To. -/
import Derived.Test.YtonfaojmphidpaaGreatDoorRef11
namespace Go.Proofs.YtonfaojmphidpaaGreatDoor
open Go.RowKit
set_option linter.unusedVariables false
set_option linter.unusedSimpArgs false

set_option maxHeartbeats 2000000 in
theorem law11_To (a : Option Addr) (cap : Nat) (L : List Sv) (w : World) (h : Rw Sv.cells 3 w a cap L) (hl : L.length ≤ 1000) :
    Calls Tryz.prog 42 #[.slice a L.length cap] w fun e w' => ∃ a' c', e = .returned (.slice a' L.length c') ∧ Rr w' w.heap.size a' c' L ∧ RowKit.Below w.heap.size w w' := by
  have HR := Lib.hid h; clear h
  go_enter Tryz.func42, Tryz.ntmps42
  go_wp2
  go_loopg [3, 8] L.length (fun gh v i wr => ∃ (k : Nat) (A1 : Option Addr) (c1 : Nat), gh = L.length - k ∧ k ≤ L.length ∧ i = .int .i64 k ∧ v = .slice A1 k c1 ∧ wr.ownsRow w.heap.size 79 3 (.slice A1 k c1) k (cellsOf Sv.cells (L.take k)) ∧ RowKit.Below w.heap.size w wr)
  case atStart => exact ⟨0, none, 0, rfl, by omega, rfl, rfl, World.ownsRow_nil _ _ _ _, Below.refl _ _⟩
  case round =>
    obtain ⟨k, A1, c1, rfl, hk, rfl, rfl, ho, hB⟩ := hrel
    have HO := Lib.hid ho; clear ho
    by_cases hlt : k < L.length
    · obtain ⟨b, off, rfl, hb, hc⟩ := HR.out.at_ Sv.cells_length (by omega)
      obtain ⟨y, hy⟩ : ∃ y, L[k]? = some y := ⟨_, List.getElem?_eq_getElem hlt⟩
      have htk := take_snoc2 hy
      obtain ⟨ya, yb, yc⟩ := y
      have c0 : wr.cell? ⟨b, off + k * 3, none⟩ = some (.int .i64 ya) := (hB.cell (p := ⟨b, off + k * 3, none⟩) hb).trans (hc k _ hy 0 _ rfl)
      have c1' : wr.cell? ⟨b, off + k * 3 + 1, none⟩ = some (.int .u64 yb) := (hB.cell (p := ⟨b, off + k * 3 + 1, none⟩) hb).trans (hc k _ hy 1 _ rfl)
      have c2 : wr.cell? ⟨b, off + k * 3 + 2, none⟩ = some (.int .u64 yc) := (hB.cell (p := ⟨b, off + k * 3 + 2, none⟩) hb).trans (hc k _ hy 2 _ rfl)
      have hcl : cellsOf Sv.cells (L.take (k + 1)) = cellsOf Sv.cells (L.take k) ++ [.int .i64 ya, .int .u64 yb, .int .u64 yc] := by rw [htk, cellsOf_snoc]; rfl
      clear hc hy htk
      have HCL := Lib.hid hcl; clear hcl
      have HBL := Lib.hid hB; clear hB
      have hws : w.heap.size ≤ wr.heap.size := HBL.out.size
      have HOA := Lib.hid (HO.out.alloc (.cells #[.int .i64 ya, .int .u64 yb, .int .u64 yc] 75))
      have hwa : w.heap.size ≤ (wr.alloc (.cells #[.int .i64 ya, .int .u64 yb, .int .u64 yc] 75)).heap.size := by rw [size_alloc]; omega
      go_wp2_with (at_builtin; refine app_one (wr.alloc (.cells #[.int .i64 ya, .int .u64 yb, .int .u64 yc] 75)) rfl (.tmp 12) (.tmp 14) 65 rfl w.heap.size 79 (.agg #[.int .i64 0, .int .u64 0, .int .u64 0]) 3 24 Tryz.underlying65 Tryz.infoRSlot rfl (by decide) (.slice A1 k c1) k _ rfl HOA.out [.int .i64 ya, .int .u64 yb, .int .u64 yc] rfl (by rw [size_alloc]; rfl) (by simp [Value.oneCell']) (by omega) (by omega) hwa ?_; intro A2 c2 w2 h5 h6 h7)
      go_roundg (L.length - (k + 1))
      case measure => omega
      case rel => exact ⟨k + 1, A2, c2, rfl, by omega, by go_num, rfl, by rw [HCL.out]; exact h5, (HBL.out.alloc hws _).grown h6 hwa (fun z hz => own_base HO.out z hz)⟩
    · have : k = L.length := by omega
      subst this
      go_wp2
      go_ret
      refine ⟨A1, c1, rfl, ?_, hB⟩
      have := HO.out
      rwa [List.take_of_length_le (Nat.le_refl _)] at this
end Go.Proofs.YtonfaojmphidpaaGreatDoor
