/- slices.Delete of one slot, on a row of the call's own (turned from SlDel). -/
import Derived.Test.YtonfaojmphidpaaGreatDoorSlotsA
import Derived.Test.YtonfaojmphidpaaGreatDoorZA1
namespace Go.Proofs.YtonfaojmphidpaaGreatDoor
open Go.RowKit
set_option linter.unusedVariables false
set_option linter.unusedSimpArgs false

/-- clear(s) of one element of some cells. -/
theorem run_clear_one {P : Program} (w : World) (t e ty : TypeId) (z : Value) (vs : List Value) (ht : P.underlying t = some (.slice e)) (hv : ∀ w, (zeroValue e).run P w = .ok z w) (hz : z.cells = vs.toArray) (h1 : ∀ v ∈ vs, v.oneCell' = true) (b o c : Nat)
    (hc : ∀ j, j < vs.length → (w.cell? ⟨b, o + j, none⟩).isSome = true) (hf : ∀ j, j < vs.length → w.frozen? ⟨b, o + j, none⟩ = false) :
    (Builtin.clear_ #[t] ty #[.slice (some ⟨b, o, none⟩) 1 c]).run P w = .ok (.tuple #[]) (w.setCells b o vs) := by
  have hzc : (Builtin.zeroCells z.cells 1).toList = vs := by
    rw [hz]
    apply List.ext_getElem
    · simp [Builtin.zeroCells]
    · intro i h1 h2
      simp [Builtin.zeroCells, Nat.mod_eq_of_lt h2, h2]
  have hst := run_storeCells_cells (P := P) b o vs 0 w (by simpa using hc) (by simpa using hf) h1
  simp only [Nat.add_zero] at hst
  simp [Builtin.clear_, run_underlying ht, hv, hzc, hst]

theorem zeroSlot (w : World) : (zeroValue 75).run Tryz.prog w = .ok (.agg #[.int .i64 0, .int .u64 0, .int .u64 0]) w := by kernel_rfl
def movedS (xs : List Sv) (i : Nat) : List Value := cellsOf Sv.cells (xs.drop (i + 1))

set_option maxHeartbeats 1600000 in
set_option maxRecDepth 1000000 in
theorem slices_Delete_slot (g cap i : Nat) (cur : Array Value) (xs : List Sv) (w : World) (hb : Blk w g 75 cur) (hsz : cur.size = cap * 3) (hxs : ∀ j, j < xs.length * 3 → cur[j]? = (cellsOf Sv.cells xs)[j]?)
    (hi : i < xs.length) (hcap : xs.length ≤ cap) (hc : cap ≤ 9223372036854775807) :
    Calls Tryz.prog 87 #[.slice (some ⟨g, 0, none⟩) xs.length cap, .int .i64 i, .int .i64 ((i : Int) + 1)] w fun e w' => e = .returned (.slice (some ⟨g, 0, none⟩) (xs.length - 1) cap) ∧
      (∃ cur', Blk w' g 75 cur' ∧ cur'.size = cap * 3 ∧ ∀ j, j < (xs.length - 1) * 3 → cur'[j]? = (cellsOf Sv.cells (xs.eraseIdx i))[j]?) ∧ w.grownBy w' (some g) := by
  obtain ⟨i0, hi0, hz0, hz1, hz2⟩ := info_parts Tryz.infoSlot
  have hcl3 : (cellsOf Sv.cells xs).length = xs.length * 3 := cellsOf_length Sv.cells_length xs
  have hml : (movedS xs i).length = (xs.length - (i + 1)) * 3 := by unfold movedS; rw [cellsOf_length Sv.cells_length, List.length_drop]
  have hmg : ∀ j, (movedS xs i)[j]? = (cellsOf Sv.cells xs)[(i + 1) * 3 + j]? := by
    intro j; unfold movedS; rw [cellsOf_drop Sv.cells_length, List.getElem?_drop]
  obtain ⟨A, hA, hnews⟩ : ∃ A : Addr, (if cap = i + 1 then some (⟨g, 0, none⟩ : Addr) else some ⟨g, (i + 1) * 3, none⟩) = some A ∧ Hid (∀ j u, (movedS xs i)[j]? = some u → w.drew.cell? (A.add j) = some u) := by
    by_cases h : cap = i + 1
    · refine ⟨⟨g, 0, none⟩, by simp [h], fun j u hu => ?_⟩
      have h0 : (movedS xs i).length = 0 := by rw [hml]; omega
      rw [List.length_eq_zero_iff.1 h0] at hu
      simp at hu
    · refine ⟨⟨g, (i + 1) * 3, none⟩, by simp [h], fun j u hu => ?_⟩
      have hj : j < (xs.length - (i + 1)) * 3 := by
        have := (List.getElem?_eq_some_iff.1 hu).1
        rwa [hml] at this
      rw [hmg j] at hu
      rw [Addr.add_lit]
      rw [(hb.drew).cell, hxs ((i + 1) * 3 + j) (by omega)]
      exact hu
  have s1 : Hid ((movedS xs i).length = (xs.length - (i + 1)) * 3) := hml
  have s2 : Hid (∀ u ∈ movedS xs i, u.oneCell' = true) := cellsOf_one Sv.cells_one _
  have s3 : Hid (∀ j, j < (movedS xs i).length → (w.drew.cell? ⟨g, 0 + i * 3 + j, none⟩).isSome = true ∧ w.drew.frozen? ⟨g, 0 + i * 3 + j, none⟩ = false) := by
    intro j hj
    rw [hml] at hj
    refine ⟨?_, hb.drew.frozen _⟩
    rw [hb.drew.cell, hxs (0 + i * 3 + j) (by omega), List.getElem?_eq_getElem (by rw [hcl3]; omega)]; rfl
  have HML := Lib.hid hml; clear hml
  have HMG := Lib.hid hmg; clear hmg
  have HXS := Lib.hid hxs; clear hxs
  have HSZ := Lib.hid hsz; clear hsz
  have HCL3 := Lib.hid hcl3; clear hcl3
  have hwr : IntKind.i64.wrap ((i : Int) + 1) = (i : Int) + 1 := by rw [IntKind.wrap_i64]; omega
  have hp0 : (0 : Int) ≤ (i : Int) + 1 := by omega
  have hp1 : (i : Int) + 1 ≤ (xs.length : Int) := by omega
  have hp2 : ((i : Int) + 1).toNat = i + 1 := by omega
  have hic : i ≤ cap := by omega
  have hne : ((i : Int) == (i : Int) + 1) = false := by simp; omega
  obtain ⟨W1, hW1⟩ : ∃ W1, W1 = w.drew.setCells g (0 + i * 3) (movedS xs i) := ⟨_, rfl⟩
  have hb1 : Blk W1 g 75 (setAll cur (0 + i * 3) (movedS xs i)) := by rw [hW1]; exact Blk.putAll (w := w) _ _ _ _ hb.drew
  have hn1 : xs.length - (i + (xs.length - (i + 1))) = 1 := by omega
  have hcl : ∀ ty, (Builtin.clear_ #[60] ty #[.slice (some ⟨g, (i + (xs.length - (i + 1))) * 3, none⟩) (xs.length - (i + (xs.length - (i + 1)))) (cap - (i + (xs.length - (i + 1))))]).run Tryz.prog W1 = .ok (.tuple #[]) (W1.setCells g ((i + (xs.length - (i + 1))) * 3) [.int .i64 0, .int .u64 0, .int .u64 0]) := fun ty => by
    rw [hn1]
    exact run_clear_one W1 _ _ ty _ [.int .i64 0, .int .u64 0, .int .u64 0] Tryz.underlying60 zeroSlot rfl (by simp [Value.oneCell']) g ((i + (xs.length - (i + 1))) * 3) _ (fun t ht => by
      have hs := size_setAll (movedS xs i) cur (0 + i * 3)
      simp only [List.length_cons, List.length_nil] at ht
      rw [hb1.cell, Array.getElem?_eq_getElem (by rw [hs, HSZ.out]; omega)]; rfl) (fun t ht => hb1.frozen _)
  have HW := Lib.hid hW1; clear hW1
  have HB := Lib.hid hb; clear hb
  have HB1 := Lib.hid hb1; clear hb1
  clear hn1
  go_enter Tryz.func87, Tryz.ntmps87
  go_wp2_with fail
  go_region_law (refine step_append_room rfl (.tmp 22) (.tmp 25) 60 rfl 75 i0 3 Tryz.underlying60 hi0 hz1 g 0 i cap (by simp [Act.eval, Act.put]) A (xs.length - (i + 1)) (cap - (i + 1)) (movedS xs i) (by simp [Act.eval, Act.put]) s1.out hnews.out s2.out (by omega) s3.out ?_; rw [← HW.out])
  go_wp2
  go_ret
  have hn : i + (xs.length - (i + 1)) = xs.length - 1 := by omega
  have hs1 : (setAll cur (0 + i * 3) (movedS xs i)).size = cap * 3 := (size_setAll _ _ _).trans HSZ.out
  refine ⟨by rw [← hn]; rfl, ⟨_, Blk.putAll (w := w) _ _ _ _ HB1.out, (size_setAll _ _ _).trans hs1, fun j hj => ?_⟩, ?_⟩
  · rw [setAll_lt _ _ _ _ (by omega)]
    have her : cellsOf Sv.cells (xs.eraseIdx i) = (cellsOf Sv.cells xs).take (i * 3) ++ (cellsOf Sv.cells xs).drop ((i + 1) * 3) := by
      rw [List.eraseIdx_eq_take_drop_succ, cellsOf_append, cellsOf_take Sv.cells_length, cellsOf_drop Sv.cells_length]
    rw [her]
    have htl : ((cellsOf Sv.cells xs).take (i * 3)).length = i * 3 := by rw [List.length_take, HCL3.out]; omega
    by_cases hji : j < i * 3
    · rw [setAll_lt _ _ _ _ (by omega), HXS.out j (by omega), List.getElem?_append_left (by rw [htl]; exact hji), List.getElem?_take, if_pos hji]
    · have := setAll_in (movedS xs i) cur (0 + i * 3) (j - i * 3) (by rw [HML.out, HSZ.out]; omega) (by rw [HML.out]; omega)
      rw [show 0 + i * 3 + (j - i * 3) = j by omega] at this
      rw [this, HMG.out, List.getElem?_append_right (by rw [htl]; omega), htl, List.getElem?_drop]
  · rw [HW.out]
    have hg0 : g < w.drew.heap.size := HB.out.drew.lt
    have g1 : w.grownBy w.drew (some g) := ⟨rfl, rfl, rfl, Nat.le_refl _, fun _ _ _ => rfl⟩
    have g2 := grown_setCells w.drew g (0 + i * 3) (movedS xs i) hg0
    have hsz2 : g < (w.drew.setCells g (0 + i * 3) (movedS xs i)).heap.size := by rw [← HW.out]; exact HB1.out.lt
    exact (g1.trans g2).trans (grown_setCells _ g _ _ hsz2)
end Go.Proofs.YtonfaojmphidpaaGreatDoor
