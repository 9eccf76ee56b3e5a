/- Chapter 9: hist in general: Add, Advance, Now, All, Clone, and nothing at all. -/
import Derived.Test.YtonfaojmphidpaaGreatDoorEvEq
namespace Go.Proofs.YtonfaojmphidpaaGreatDoor
open Go.RowKit
set_option linter.unusedVariables false
set_option linter.unusedSimpArgs false

/-- Block g is a history: the step, and events that read as L, in a row of their own, B or above. -/
structure Hs (w : World) (B g : Nat) (s : Int) (A : Option Addr) (c : Nat) (L : List Ev) : Prop where
  blk : Blk w g 151 #[.int .u64 s, .slice A L.length c]
  row : w.ownsRow B 108 6 (.slice A L.length c) L.length (cellsOf Ev.cells L)
  len : L.length ≤ 1000
theorem Hs.ne {w : World} {B g : Nat} {s : Int} {A : Option Addr} {c : Nat} {L : List Ev} (h : Hs w B g s A c L) : (Value.slice A L.length c).ownBlock ≠ some g := own_apart h.row h.blk (by decide)
theorem Hs.rw {w : World} {B g : Nat} {s : Int} {A : Option Addr} {c : Nat} {L : List Ev} (h : Hs w B g s A c L) : Rw Ev.cells 6 w A c L := own_rw h.row
theorem Hs.of_below {w w' : World} {B g : Nat} {s : Int} {A : Option Addr} {c : Nat} {L : List Ev} (h : Hs w B g s A c L) (hb : RowKit.Below w.heap.size w w') : Hs w' B g s A c L := ⟨h.blk.of_below hb, own_below h.row hb, h.len⟩
theorem Hs.new (w : World) (s : Int) : Hs (w.alloc (.cells #[.int .u64 s, .slice none 0 0] 151)) w.heap.size w.heap.size s none 0 [] := ⟨Blk.new _ _ _, World.ownsRow_nil _ _ _ _, by simp⟩
theorem Hs.step {w : World} {B g : Nat} {s : Int} {A : Option Addr} {c : Nat} {L : List Ev} (h : Hs w B g s A c L) (s' : Int) : Hs (w.setCell ⟨g, 0, none⟩ (.int .u64 s')) B g s' A c L :=
  ⟨h.blk.put 0 _, own_grew h.row (Grew.set w ⟨g, 0, none⟩ _) (fun k hk e => h.ne (by rw [hk, e])), h.len⟩
/-- A history that has become L', where it was n events in a row at A. -/
def HsTo (w : World) (B g : Nat) (s : Int) (A : Option Addr) (n c : Nat) (L' : List Ev) (w' : World) : Prop := ∃ A' c', Hs w' B g s A' c' L' ∧ Grew w w' (fun k => k = g ∨ (Value.slice A n c).ownBlock = some k)
theorem HsTo.below {B0 : Nat} {w0 w w' : World} {B g : Nat} {s : Int} {A : Option Addr} {c : Nat} {L : List Ev} (h : Hs w B g s A c L) (hb : RowKit.Below B0 w0 w) (hg : Grew w w' (fun k => k = g ∨ (Value.slice A L.length c).ownBlock = some k)) (h1 : B0 ≤ g) (h2 : B0 ≤ B) (h3 : B0 ≤ w.heap.size) : RowKit.Below B0 w0 w' :=
  hg.below hb (fun k _ hk => by
    rcases hk with rfl | hk
    · exact h1
    · have := own_base h.row k hk; omega) h3

set_option maxHeartbeats 400000 in
theorem hist_Advance (g : Nat) (s : Int) (x : Value) (w : World) (h : Blk w g 151 #[.int .u64 s, x]) :
    Calls Tryz.prog 61 #[.pointer (some ⟨g, 0, none⟩)] w fun e w' => e = .returned (.int .u64 (IntKind.wrap .u64 (s + 1))) ∧ w' = w.setCell ⟨g, 0, none⟩ (.int .u64 (IntKind.wrap .u64 (s + 1))) := by
  have c0 := h.cell 0
  have f0 := h.frozen 0
  have hl := h.lt
  simp only [List.getElem?_toArray, List.getElem?_cons_zero] at c0
  go_enter Tryz.func61, Tryz.ntmps61
  go_wp2_with go_in
  go_ret
  exact ⟨rfl, rfl⟩
set_option maxHeartbeats 400000 in
theorem hist_Now (g : Nat) (s : Int) (x : Value) (w : World) (h : Blk w g 151 #[.int .u64 s, x]) :
    Calls Tryz.prog 68 #[.pointer (some ⟨g, 0, none⟩)] w fun e w' => e = .returned (.int .u64 s) ∧ w = w' := by
  have c0 := h.cell 0
  have hl := h.lt
  simp only [List.getElem?_toArray, List.getElem?_cons_zero] at c0
  go_enter Tryz.func68, Tryz.ntmps68
  go_wp2_with go_in
  go_ret
  exact ⟨rfl, rfl⟩
theorem hist_All2 (B g : Nat) (s : Int) (A : Option Addr) (c : Nat) (L : List Ev) (w : World) (h : Hs w B g s A c L) :
    Calls Tryz.prog 67 #[.pointer (some ⟨g, 0, none⟩)] w fun e w' => ∃ a' c', e = .returned (.slice a' L.length c') ∧ w'.ownsRow w.heap.size 108 6 (.slice a' L.length c') L.length (cellsOf Ev.cells L) ∧ RowKit.Below w.heap.size w w' :=
  hist_All g s A L.length c _ w h.blk h.rw.rd (cellsOf_one Ev.cells_one L) (by have := h.len; omega)

set_option maxRecDepth 100000 in
set_option maxHeartbeats 2000000 in
theorem hist_Add (B g : Nat) (s : Int) (A : Option Addr) (c : Nat) (L : List Ev) (th kd op id er : Int) (w : World) (h : Hs w B g s A c L) (hB : B ≤ w.heap.size) (hl : L.length < 1000) :
    Calls Tryz.prog 63 #[.pointer (some ⟨g, 0, none⟩), .int .i64 th, .int .i64 kd, .int .i64 op, .int .u64 id, .int .i64 er] w fun e w' => e = .returned (.tuple #[]) ∧ HsTo w B g s A L.length c (L ++ [⟨s, th, kd, op, id, er⟩]) w' := by
  have c0 := h.blk.cell 0
  have c1 := h.blk.cell 1
  have f1 := h.blk.frozen 1
  have hlt := h.blk.lt
  simp only [List.getElem?_toArray, List.getElem?_cons_zero, List.getElem?_cons_succ] at c0 c1
  obtain ⟨i0, hinf, hz0, hz1, hz2⟩ := info_parts Tryz.infoEv
  have HINF := Lib.hid hinf; clear hinf
  have HZ0 := Lib.hid hz0; clear hz0
  have HZ1 := Lib.hid hz1; clear hz1
  have HZ2 := Lib.hid hz2; clear hz2
  have hal := ((RowKit.Below.refl w.heap.size w).drew).alloc (Nat.le_refl _) (.cells #[.int .u64 s, .int .i64 th, .int .i64 kd, .int .i64 op, .int .u64 id, .int .i64 er] 108)
  have HOA := Lib.hid (own_below h.row hal)
  have HKA := Lib.hid (h.blk.of_below hal)
  have HNE := Lib.hid h.ne
  have HNEWS := Lib.hid (show ∀ (j : Nat) u, ([.int .u64 s, .int .i64 th, .int .i64 kd, .int .i64 op, .int .u64 id, .int .i64 er] : List Value)[j]? = some u → (w.drew.alloc (.cells #[.int .u64 s, .int .i64 th, .int .i64 kd, .int .i64 op, .int .u64 id, .int .i64 er] 108)).cell? ((⟨w.heap.size, 0, none⟩ : Addr).add j) = some u from fun j u hu => by
    have := (Blk.new w.drew 108 #[.int .u64 s, .int .i64 th, .int .i64 kd, .int .i64 op, .int .u64 id, .int .i64 er]).cell (0 + j)
    have ha : (⟨w.heap.size, 0, none⟩ : Addr).add j = ⟨w.heap.size, 0 + j, none⟩ := by unfold Addr.add; split <;> simp_all
    rw [ha]; refine this.trans ?_
    rw [Nat.zero_add]; simpa using hu)
  have hg0 : Grew w (w.drew.alloc (.cells #[.int .u64 s, .int .i64 th, .int .i64 kd, .int .i64 op, .int .u64 id, .int .i64 er] 108)) (fun k => k = g ∨ (Value.slice A L.length c).ownBlock = some k) := Grew.of_below hal _
  have HG0 := Lib.hid hg0; clear hg0 hal h
  have hn1 : L.length + 1 ≤ maxLen := by unfold maxLen; omega
  have hn2 : (L.length + 1) * 48 ≤ 140737488355328 := by omega
  have hB' : B ≤ (w.drew.alloc (.cells #[.int .u64 s, .int .i64 th, .int .i64 kd, .int .i64 op, .int .u64 id, .int .i64 er] 108)).heap.size := by rw [size_alloc]; exact Nat.le_succ_of_le hB
  go_enter Tryz.func63, Tryz.ntmps63
  go_wp2_with fail
  go_region_law (refine step_append_lies (w.drew.alloc (.cells #[.int .u64 s, .int .i64 th, .int .i64 kd, .int .i64 op, .int .u64 id, .int .i64 er] 108)) rfl (.tmp 18) (.tmp 29) 106 rfl B 108 i0 (.agg #[.int .u64 0, .int .i64 0, .int .i64 0, .int .i64 0, .int .u64 0, .int .i64 0]) 6 48 Tryz.underlying106 HINF.out HZ0.out HZ1.out HZ2.out rfl (by decide) (.slice A L.length c) L.length _ rfl HOA.out ⟨w.heap.size, 0, none⟩ 1 1 [.int .u64 s, .int .i64 th, .int .i64 kd, .int .i64 op, .int .u64 id, .int .i64 er] rfl rfl HNEWS.out (by simp [Value.oneCell']) (by decide) hn1 hn2 hB' _ rfl ?_
                 intro gA capA wA hownA hgrowA hatA hltA
                 have knA : Blk wA g 151 #[.int .u64 s, .slice A L.length c] := (hgrowA.block g HKA.out.lt (fun e => HNE.out e.symm)).trans HKA.out
                 have ka1 := knA.cell 1
                 have kf1 := knA.frozen 1
                 have kal := knA.lt
                 simp only [List.getElem?_toArray, List.getElem?_cons_zero, List.getElem?_cons_succ] at ka1)
  all_goals (
    go_end0
    have e1 : (L ++ [(⟨s, th, kd, op, id, er⟩ : Ev)]).length = L.length + 1 := by simp
    have e2 : cellsOf Ev.cells (L ++ [(⟨s, th, kd, op, id, er⟩ : Ev)]) = cellsOf Ev.cells L ++ [.int .u64 s, .int .i64 th, .int .i64 kd, .int .i64 op, .int .u64 id, .int .i64 er] := by rw [cellsOf_snoc]; rfl
    have hap := own_apart hownA knA (by decide)
    have hg2 : Grew _ wA (fun k => k = g ∨ (Value.slice A L.length c).ownBlock = some k) := Grew.of_grown hgrowA (fun k hk => .inr hk)
    have hg3 := Grew.set wA ⟨g, 1, none⟩ (.slice (some ⟨gA, 0, none⟩) (L.length + 1) capA)
    refine ⟨rfl, some ⟨gA, 0, none⟩, capA, ⟨?_, ?_, by rw [e1]; omega⟩, (HG0.out.trans hg2 (fun k _ hk => hk)).trans hg3 (fun k _ hk => .inl hk)⟩
    · rw [e1]; exact knA.put 1 _
    · rw [e1, e2]; exact own_grew hownA hg3 (fun k hk e => hap (by rw [hk, e])))

set_option maxHeartbeats 400000 in
theorem hist_Add_nil (th kd op id er : Int) (w : World) : Calls Tryz.prog 63 #[.pointer none, .int .i64 th, .int .i64 kd, .int .i64 op, .int .u64 id, .int .i64 er] w fun e w' => e = .returned (.tuple #[]) ∧ w = w' := by
  go_enter Tryz.func63, Tryz.ntmps63
  go_wp2_with go_in
  go_end0
  exact ⟨rfl, rfl⟩
set_option maxHeartbeats 400000 in
theorem hist_Now_nil (w : World) : Calls Tryz.prog 68 #[.pointer none] w fun e w' => e = .returned (.int .u64 0) ∧ w = w' := by
  go_enter Tryz.func68, Tryz.ntmps68
  go_wp2_with go_in
  go_ret
  exact ⟨rfl, rfl⟩
set_option maxHeartbeats 400000 in
theorem hist_Advance_nil (w : World) : Calls Tryz.prog 61 #[.pointer none] w fun e w' => e = .returned (.int .u64 0) ∧ w = w' := by
  go_enter Tryz.func61, Tryz.ntmps61
  go_wp2_with go_in
  go_ret
  exact ⟨rfl, rfl⟩
set_option maxHeartbeats 400000 in
theorem hist_All_nil (w : World) : Calls Tryz.prog 67 #[.pointer none] w fun e w' => e = .returned (.slice none 0 0) ∧ w = w' := by
  go_enter Tryz.func67, Tryz.ntmps67
  go_wp2_with go_in
  go_ret
  exact ⟨rfl, rfl⟩
set_option maxHeartbeats 400000 in
theorem hist_Clone_nil (w : World) : Calls Tryz.prog 62 #[.pointer none] w fun e w' => e = .returned (.pointer none) ∧ w = w' := by
  go_enter Tryz.func62, Tryz.ntmps62
  go_wp2_with go_in
  go_ret
  exact ⟨rfl, rfl⟩
end Go.Proofs.YtonfaojmphidpaaGreatDoor
