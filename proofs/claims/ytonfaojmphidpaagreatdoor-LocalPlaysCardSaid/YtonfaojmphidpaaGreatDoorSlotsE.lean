/- Chapter 11: slots: Of, Take, Waiting, Clone. -/
import Derived.Test.YtonfaojmphidpaaGreatDoorSlotsC
namespace Go.Proofs.YtonfaojmphidpaaGreatDoor
open Go.RowKit
set_option linter.unusedVariables false
set_option linter.unusedSimpArgs false

set_option maxHeartbeats 1000000 in
theorem slots_Of_no (B g : Nat) (A : Option Addr) (c : Nat) (L : List Sv) (th : Int) (w : World) (h : Sk w B g A c L) (hx : fidx (fun x : Sv => x.th == th) L < 0) :
    Calls Tryz.prog 39 #[.pointer (some ⟨g, 0, none⟩), .int .i64 th] w fun e w' => e = .returned (.tuple #[.agg #[.int .i64 0, .int .u64 0, .int .u64 0], .bool false]) ∧ RowKit.Below w.heap.size w w' := by
  have hal := (RowKit.Below.refl w.heap.size w).alloc (Nat.le_refl _) (.cells #[.int .i64 0, .int .u64 0, .int .u64 0] 75)
  have hk := Blk.new w 75 #[.int .i64 0, .int .u64 0, .int .u64 0]
  have hidx := slots_index B g A c L th _ (h.of_below hal)
  generalize fidx (fun x : Sv => x.th == th) L = r at hidx hx
  have HIDX := Lib.hid hidx; clear hidx h
  have HAL := Lib.hid hal; clear hal
  have HK := Lib.hid hk; clear hk
  go_enter Tryz.func39, Tryz.ntmps39
  go_wp2_with fail
  refine HIDX.out.mono ?_
  rintro e w2 ⟨rfl, hb⟩
  have k2 := HK.out.of_below hb
  have c0 := k2.cell 0
  have c1 := k2.cell 1
  have c2 := k2.cell 2
  have f0 := k2.frozen 0
  have f1 := k2.frozen 1
  have f2 := k2.frozen 2
  have hlt := k2.lt
  simp only [List.getElem?_toArray, List.getElem?_cons_zero, List.getElem?_cons_succ] at c0 c1 c2
  have HB := Lib.hid (below_step HAL.out HAL.out.size hb); clear hb k2 HIDX
  go_wp2_with fail
  refine bodyPost_ret (v := .tuple #[.agg #[.int .i64 0, .int .u64 0, .int .u64 0], .bool false]) (by simp [results, Tryz.results39, go_sem, c0, c1, c2]) rfl ⟨rfl, ?_⟩
  exact ((HB.out.setCell (Nat.le_refl _) _).setCell (Nat.le_refl _) _).setCell (Nat.le_refl _) _

set_option maxHeartbeats 1000000 in
theorem slots_Of_yes (B g : Nat) (A : Option Addr) (c : Nat) (L : List Sv) (th : Int) (k : Nat) (x : Sv) (w : World) (h : Sk w B g A c L) (hx : fidx (fun x : Sv => x.th == th) L = k) (hkx : L[k]? = some x) :
    Calls Tryz.prog 39 #[.pointer (some ⟨g, 0, none⟩), .int .i64 th] w fun e w' => e = .returned (.tuple #[.agg #[.int .i64 x.th, .int .u64 x.dl, .int .u64 x.id], .bool true]) ∧ RowKit.Below w.heap.size w w' := by
  have hkl : k < L.length := (List.getElem?_eq_some_iff.1 hkx).1
  have hal := (RowKit.Below.refl w.heap.size w).alloc (Nat.le_refl _) (.cells #[.int .i64 0, .int .u64 0, .int .u64 0] 75)
  have hk := Blk.new w 75 #[.int .i64 0, .int .u64 0, .int .u64 0]
  have hidx := slots_index B g A c L th _ (h.of_below hal)
  rw [hx] at hidx
  obtain ⟨b, cur, rfl, hbB, hbb, hcs, hlc, hcm, hcur⟩ := own_at h.row (by omega)
  have hget : ∀ j, j < 3 → cur[k * 3 + j]? = x.cells[j]? := fun j hj => by rw [hcur _ (by omega), cellsOf_get Sv.cells_length hkx hj]
  have g0 := hget 0 (by omega)
  have g1 := hget 1 (by omega)
  have g2 := hget 2 (by omega)
  simp only [Sv.cells, List.getElem?_cons_zero, List.getElem?_cons_succ, Nat.add_zero] at g0 g1 g2
  have HIDX := Lib.hid hidx; clear hidx
  have HAL := Lib.hid hal; clear hal
  have HK := Lib.hid hk; clear hk
  have HG0 := Lib.hid g0; clear g0
  have HG1 := Lib.hid g1; clear g1
  have HG2 := Lib.hid g2; clear g2
  have HH := Lib.hid h; clear h
  have HBB := Lib.hid hbb; clear hbb
  have hbw := HBB.out.lt
  clear hx hkx hcur hget hcs
  obtain ⟨xa, xb, xc⟩ := x
  go_enter Tryz.func39, Tryz.ntmps39
  go_wp2_with fail
  refine HIDX.out.mono ?_
  rintro e w2 ⟨rfl, hb⟩
  have k2 := HK.out.of_below hb
  have c0 := k2.cell 0
  have c1 := k2.cell 1
  have c2 := k2.cell 2
  have f0 := k2.frozen 0
  have f1 := k2.frozen 1
  have f2 := k2.frozen 2
  have hlt := k2.lt
  simp only [List.getElem?_toArray, List.getElem?_cons_zero, List.getElem?_cons_succ] at c0 c1 c2
  have HB := Lib.hid (below_step HAL.out HAL.out.size hb); clear hb k2 HIDX
  have h3 := HH.out.of_below HB.out
  have p0 := h3.blk.cell 0
  have p1 := h3.blk.lt
  simp only [List.getElem?_toArray, List.getElem?_cons_zero] at p0
  have hb3 := HBB.out.of_below HB.out
  have r0 : w2.cell? ⟨b, k * 3, none⟩ = some (.int .i64 xa) := by rw [hb3.cell]; exact HG0.out
  have r1 : w2.cell? ⟨b, k * 3 + 1, none⟩ = some (.int .u64 xb) := by rw [hb3.cell]; exact HG1.out
  have r2 : w2.cell? ⟨b, k * 3 + 2, none⟩ = some (.int .u64 xc) := by rw [hb3.cell]; exact HG2.out
  clear h3 hb3
  go_wp2_with fail
  refine bodyPost_ret (v := .tuple #[.agg #[.int .i64 xa, .int .u64 xb, .int .u64 xc], .bool true]) (by simp [results, Tryz.results39, go_sem, c0, c1, c2]) rfl ⟨rfl, ?_⟩
  exact ((HB.out.setCell (Nat.le_refl _) _).setCell (Nat.le_refl _) _).setCell (Nat.le_refl _) _

set_option maxHeartbeats 1000000 in
theorem slots_Take_no (B g : Nat) (A : Option Addr) (c : Nat) (L : List Sv) (th : Int) (w : World) (h : Sk w B g A c L) (hx : fidx (fun x : Sv => x.th == th) L < 0) :
    Calls Tryz.prog 32 #[.pointer (some ⟨g, 0, none⟩), .int .i64 th] w fun e w' => e = .returned (.tuple #[.int .u64 0, .bool false]) ∧ RowKit.Below w.heap.size w w' := by
  have hof := slots_Of_no B g A c L th w h hx
  have HOF := Lib.hid hof; clear hof h hx
  go_enter Tryz.func32, Tryz.ntmps32
  go_wp2_with fail
  refine HOF.out.mono ?_
  rintro e w2 ⟨rfl, hb⟩
  have HB := Lib.hid hb; clear hb
  go_wp2_with fail
  go_ret2
  exact ⟨rfl, HB.out.alloc HB.out.size _⟩

set_option maxHeartbeats 2000000 in
theorem slots_Take_yes (B g : Nat) (A : Option Addr) (c : Nat) (L : List Sv) (th : Int) (k : Nat) (x : Sv) (w : World) (h : Sk w B g A c L) (hx : fidx (fun x : Sv => x.th == th) L = k) (hkx : L[k]? = some x) :
    Calls Tryz.prog 32 #[.pointer (some ⟨g, 0, none⟩), .int .i64 th] w fun e w' => e = .returned (.tuple #[.int .u64 x.id, .bool true]) ∧ Sk w' B g A c (L.eraseIdx k) ∧ Grew w w' (fun j => j = g ∨ (Value.slice A L.length c).ownBlock = some j) := by
  have hkl : k < L.length := (List.getElem?_eq_some_iff.1 hkx).1
  have hof := slots_Of_yes B g A c L th k x w h hx hkx
  have HOF := Lib.hid hof; clear hof
  have hidx := fun w' (hb : RowKit.Below w.heap.size w w') => slots_index B g A c L th w' (h.of_below hb)
  rw [hx] at hidx
  have HIDX := Lib.hid hidx; clear hidx
  obtain ⟨b, cur, rfl, hbB, hbb, hcs, hlc, hcm, hcur⟩ := own_at h.row (by omega)
  have hbg : b ≠ g := fun e => h.ne (by rw [e]; rfl)
  have hgb : g ≠ b := fun e => hbg e.symm
  have hlen := h.len
  have hdel := fun w' (hb : RowKit.Below w.heap.size w w') => slices_Delete_slot b c k cur L w' (hbb.of_below hb) hcs hcur hkl hlc (by unfold maxLen at hcm; omega)
  have HDEL := Lib.hid hdel; clear hdel
  have HH := Lib.hid h; clear h
  have HCUR := Lib.hid hcur; clear hcur hcs
  have HBB := Lib.hid hbb; clear hbb
  have hcc : c ≤ maxLen := hcm
  clear hx hkx hcm
  obtain ⟨xa, xb, xc⟩ := x
  have hwr : IntKind.i64.wrap ((k : Int) + 1) = (k : Int) + 1 := by rw [IntKind.wrap_i64]; omega
  go_enter Tryz.func32, Tryz.ntmps32
  go_wp2_with fail
  refine HOF.out.mono ?_
  rintro e w2 ⟨rfl, hb⟩
  have hba := hb.alloc hb.size (.cells #[.int .i64 xa, .int .u64 xb, .int .u64 xc] 75)
  have hkn := Blk.new w2 75 #[.int .i64 xa, .int .u64 xb, .int .u64 xc]
  have hw2 := hb.size
  have HBA := Lib.hid hba; clear hba hb HOF
  have HKN := Lib.hid hkn; clear hkn
  go_wp2_with fail
  refine (HIDX.out _ HBA.out).mono ?_
  rintro e w3 ⟨rfl, hb3⟩
  have k3 := HKN.out.of_below hb3
  have hw3 := k3.lt
  have HB3 := Lib.hid (below_step HBA.out HBA.out.size hb3); clear hb3 HIDX HBA
  have HK3 := Lib.hid k3; clear k3 HKN
  have h3 := HH.out.of_below HB3.out
  have p0 := h3.blk.cell 0
  have p1 := h3.blk.lt
  simp only [List.getElem?_toArray, List.getElem?_cons_zero] at p0
  have HH3 := Lib.hid h3; clear h3
  go_wp2_with fail
  refine (HDEL.out _ HB3.out).mono ?_
  rintro e w4 ⟨rfl, ⟨cur4, hk4, hs4, hc4⟩, hg4⟩
  have hbw := HBB.out.lt
  have k4 : Blk w4 g 141 #[.slice (some ⟨b, 0, none⟩) L.length c] := (hg4.block g p1 (fun e => hgb (Option.some.inj e))).trans HH3.out.blk
  have n4 : Blk w4 w2.heap.size 75 #[.int .i64 xa, .int .u64 xb, .int .u64 xc] := (hg4.block _ hw3 (fun e => by have := Option.some.inj e; omega)).trans HK3.out
  have q0 := k4.cell 0
  have q1 := k4.frozen 0
  have q2 := k4.lt
  have q3 := n4.cell 2
  have q4 := n4.lt
  simp only [List.getElem?_toArray, List.getElem?_cons_zero, List.getElem?_cons_succ] at q0 q3
  have hng : w2.heap.size ≠ g := by have := HH.out.blk.lt; omega
  have hgn : g ≠ w2.heap.size := fun e => hng e.symm
  have HK4 := Lib.hid k4; clear k4 n4
  have HS4 := Lib.hid hs4; clear hs4
  have HC4 := Lib.hid hc4; clear hc4
  have HKK4 := Lib.hid hk4; clear hk4
  clear HDEL
  go_wp2_with fail
  go_ret2
  have hel : (L.eraseIdx k).length = L.length - 1 := List.length_eraseIdx_of_lt hkl
  have hs := Grew.set w4 ⟨g, 0, none⟩ (.slice (some ⟨b, 0, none⟩) (L.length - 1) c)
  have hg34 : Grew w3 w4 (fun j => j = g ∨ (Value.slice (some ⟨b, 0, none⟩) L.length c).ownBlock = some j) := Grew.of_grown hg4 (fun j hj => .inr hj)
  refine ⟨rfl, ⟨?_, ?_, by rw [hel]; omega⟩, ((Grew.of_below HB3.out _).trans hg34 (fun j _ hj => hj)).trans hs (fun j _ hj => .inl hj)⟩
  · rw [hel]; exact HK4.out.put 0 _
  · rw [hel]
    refine ⟨by rw [cellsOf_length Sv.cells_length, hel], .inr ⟨b, c, cur4, rfl, hbB, (HKK4.out.far hbg _), by omega, hcc, HS4.out, ?_⟩⟩
    apply List.ext_getElem?
    intro j
    rw [List.getElem?_take]
    by_cases hj : j < (L.length - 1) * 3
    · rw [if_pos hj, ← HC4.out j hj]; simp
    · rw [if_neg hj, List.getElem?_eq_none]
      rw [cellsOf_length Sv.cells_length, hel]; omega

def waitS (L : List Sv) : Nat := (L.filter fun x => x.id == 0).length
theorem waitS_le (L : List Sv) : waitS L ≤ L.length := List.length_filter_le _ _
theorem waitS_snoc {L : List Sv} {k : Nat} {x : Sv} (h : L[k]? = some x) : waitS (L.take (k + 1)) = waitS (L.take k) + if x.id = 0 then 1 else 0 := by
  rw [take_snoc2 h]; unfold waitS; rw [List.filter_append, List.length_append]
  by_cases e : x.id = 0 <;> simp [e]
set_option maxHeartbeats 2000000 in
theorem slots_Waiting (B g : Nat) (A : Option Addr) (c : Nat) (L : List Sv) (w : World) (h : Sk w B g A c L) :
    Calls Tryz.prog 34 #[.pointer (some ⟨g, 0, none⟩)] w fun e w' => e = .returned (.int .i64 (waitS L)) ∧ RowKit.Below w.heap.size w w' := by
  have hall := slots_All B g A c L w h
  have HALL := Lib.hid hall; clear hall
  have hle : L.length ≤ 1000 := h.len
  clear h
  go_enter Tryz.func34, Tryz.ntmps34
  go_wp2_with fail
  refine HALL.out.mono ?_
  rintro e w2 ⟨a', c', rfl, ho, hb2⟩
  have HR := Lib.hid (own_rw ho); clear ho
  have HB2 := Lib.hid hb2; clear hb2 HALL
  go_wp2_with fail
  go_loopw [3, 9] (fun n i wr => ∃ k : Nat, k ≤ L.length ∧ i = .int .i64 k ∧ n = .int .i64 (waitS (L.take k)) ∧ RowKit.Below w2.heap.size w2 wr) (fun _ i _ => L.length - (intOf i).toNat)
  case atStart => exact ⟨0, Nat.zero_le _, rfl, rfl, Below.refl _ _⟩
  case round =>
    obtain ⟨k, hk, rfl, rfl, hB⟩ := hrel
    have hwl := waitS_le (L.take k)
    have hwl2 : (L.take k).length ≤ k := List.length_take_le _ _
    by_cases hlt : k < L.length
    · obtain ⟨b, off, rfl, hb, hc⟩ := HR.out.at_ Sv.cells_length (by omega)
      obtain ⟨y, hy⟩ : ∃ y, L[k]? = some y := ⟨_, List.getElem?_eq_getElem hlt⟩
      have hsn := waitS_snoc hy
      obtain ⟨ya, yb, yc⟩ := y
      have c0 : wr.cell? ⟨b, off + k * 3, none⟩ = some (.int .i64 ya) := (hB.cell (p := ⟨b, off + k * 3, none⟩) hb).trans (hc k _ hy 0 _ rfl)
      have c1 : wr.cell? ⟨b, off + k * 3 + 1, none⟩ = some (.int .u64 yb) := (hB.cell (p := ⟨b, off + k * 3 + 1, none⟩) hb).trans (hc k _ hy 1 _ rfl)
      have c2 : wr.cell? ⟨b, off + k * 3 + 2, none⟩ = some (.int .u64 yc) := (hB.cell (p := ⟨b, off + k * 3 + 2, none⟩) hb).trans (hc k _ hy 2 _ rfl)
      dsimp only at hsn
      clear hc hy
      have HSN := Lib.hid hsn; clear hsn
      have HBr := Lib.hid hB; clear hB
      by_cases hz : yc = 0
      · subst hz
        go_wp2
        go_roundw
        case rel => exact ⟨k + 1, by omega, by go_num, by rw [HSN.out, if_pos rfl]; go_num, HBr.out.alloc HBr.out.size _⟩
        case measure => simp [intOf]; omega
      · have hz' : (yc == 0) = false := by simpa using hz
        go_wp2
        go_roundw
        case rel => exact ⟨k + 1, by omega, by go_num, by rw [HSN.out, if_neg hz, Nat.add_zero], HBr.out.alloc HBr.out.size _⟩
        case measure => simp [intOf]; omega
    · go_wp2
      go_ret
      exact ⟨ret_int (by rw [List.take_of_length_le (by omega)]), below_step HB2.out HB2.out.size hB⟩

set_option maxHeartbeats 1000000 in
theorem slots_Clone (B g : Nat) (A : Option Addr) (c : Nat) (L : List Sv) (w : World) (h : Sk w B g A c L) :
    Calls Tryz.prog 35 #[.pointer (some ⟨g, 0, none⟩)] w fun e w' => ∃ g' A' c', e = .returned (.pointer (some ⟨g', 0, none⟩)) ∧ Sk w' w.heap.size g' A' c' L ∧ w.heap.size ≤ g' ∧ RowKit.Below w.heap.size w w' := by
  have c0 := h.blk.cell 0
  have hlt := h.blk.lt
  have hlen := h.len
  simp only [List.getElem?_toArray, List.getElem?_cons_zero] at c0
  have hcl := slices_Clone_slot A L.length c _ w h.rw.rd (cellsOf_one Sv.cells_one L) (by have := h.len; omega)
  have HCL := Lib.hid hcl; clear hcl h
  go_enter Tryz.func35, Tryz.ntmps35
  go_wp2_with (go_at_call 56; refine HCL.out.mono ?_; rintro e w' ⟨a', c', rfl, h1, h2, h3⟩)
  go_ret
  exact ⟨w'.heap.size, a', c', rfl, ⟨Blk.new _ _ _, h1.alloc _, hlen⟩, h3.size, h3.alloc h3.size _⟩
end Go.Proofs.YtonfaojmphidpaaGreatDoor
