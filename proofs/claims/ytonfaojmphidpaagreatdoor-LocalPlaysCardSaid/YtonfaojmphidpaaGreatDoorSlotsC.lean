/- Chapter 11: slots: Fill, Of, Take, Waiting, Clone. -/
import Derived.Test.YtonfaojmphidpaaGreatDoorSlotsB
namespace Go.Proofs.YtonfaojmphidpaaGreatDoor
open Go.RowKit
set_option linter.unusedVariables false
set_option linter.unusedSimpArgs false

set_option maxHeartbeats 1000000 in
theorem slots_Fill_no (B g : Nat) (A : Option Addr) (c : Nat) (L : List Sv) (id : Int) (w : World) (h : Sk w B g A c L) (hx : fidx (fun x : Sv => x.id == 0) L < 0 ∨ id = 0) :
    Calls Tryz.prog 31 #[.pointer (some ⟨g, 0, none⟩), .int .u64 id] w fun e w' => e = .returned (.tuple #[.int .i64 0, .bool false]) ∧ RowKit.Below w.heap.size w w' := by
  have eg : ∀ args w, (callFunc 86 args).run Tryz.prog w = .ok (.enter 86 args) w := enters_of Tryz.func86 (by kernel_rfl) rfl
  have hall := slots_All B g A c L w h
  have HALL := Lib.hid hall; clear hall
  have hle : L.length ≤ 1000000 := by have := h.len; omega
  clear h
  obtain ⟨r, hr⟩ : ∃ r, r = fidx (fun x : Sv => x.id == 0) L := ⟨_, rfl⟩
  rw [← hr] at hx
  have HR := Lib.hid hr; clear hr
  have fin : ∀ w2 a' c', w2.ownsRow w.heap.size 75 3 (.slice a' L.length c') L.length (cellsOf Sv.cells L) → Calls Tryz.prog 85 #[.slice a' L.length c', .func (.func 86) #[] #[]] w2 fun e w' => e = .returned (.int .i64 r) ∧ RowKit.Below w2.heap.size w2 w' := by
    intro w2 a' c' ho
    have := slices_IndexFunc_slot (fun x => x.id == 0) 86 #[] eg a' c' L w2 (own_rw ho) hle (fun W x hW => (fill1 W x).mono fun e w' ⟨he, hb'⟩ => ⟨he, below_step hW hW.size hb'⟩)
    rwa [← HR.out] at this
  by_cases hr0 : r < 0
  · clear hx
    go_enter Tryz.func31, Tryz.ntmps31
    go_wp2_with fail
    refine HALL.out.mono ?_
    rintro e w2 ⟨a', c', rfl, ho, hb2⟩
    have HF := Lib.hid (fin w2 a' c' ho); clear fin ho
    have HB2 := Lib.hid hb2; clear hb2
    go_wp2_with fail
    refine HF.out.mono ?_
    rintro e w3 ⟨rfl, hb3⟩
    go_wp2_with fail
    go_ret2
    exact ⟨rfl, below_step HB2.out HB2.out.size hb3⟩
  · have hid : id = 0 := hx.resolve_left hr0
    subst hid
    go_enter Tryz.func31, Tryz.ntmps31
    go_wp2_with fail
    refine HALL.out.mono ?_
    rintro e w2 ⟨a', c', rfl, ho, hb2⟩
    have HF := Lib.hid (fin w2 a' c' ho); clear fin ho
    have HB2 := Lib.hid hb2; clear hb2
    go_wp2_with fail
    refine HF.out.mono ?_
    rintro e w3 ⟨rfl, hb3⟩
    go_wp2_with fail
    go_ret2
    exact ⟨rfl, below_step HB2.out HB2.out.size hb3⟩

set_option maxHeartbeats 1000000 in
theorem slots_Fill_yes (B g : Nat) (A : Option Addr) (c : Nat) (L : List Sv) (id : Int) (k : Nat) (x : Sv) (w : World) (h : Sk w B g A c L) (hx : fidx (fun x : Sv => x.id == 0) L = k) (hk : L[k]? = some x) (hid : id ≠ 0) :
    Calls Tryz.prog 31 #[.pointer (some ⟨g, 0, none⟩), .int .u64 id] w fun e w' => e = .returned (.tuple #[.int .i64 x.th, .bool true]) ∧ Sk w' B g A c (L.set k ⟨x.th, x.dl, id⟩) ∧ Grew w w' (fun k => (Value.slice A L.length c).ownBlock = some k) := by
  have eg : ∀ args w, (callFunc 86 args).run Tryz.prog w = .ok (.enter 86 args) w := enters_of Tryz.func86 (by kernel_rfl) rfl
  have hkl : k < L.length := (List.getElem?_eq_some_iff.1 hk).1
  have hall := slots_All B g A c L w h
  have HALL := Lib.hid hall; clear hall
  have hle : L.length ≤ 1000000 := by have := h.len; omega
  have fin : ∀ w2 a' c', w2.ownsRow w.heap.size 75 3 (.slice a' L.length c') L.length (cellsOf Sv.cells L) → Calls Tryz.prog 85 #[.slice a' L.length c', .func (.func 86) #[] #[]] w2 fun e w' => e = .returned (.int .i64 k) ∧ RowKit.Below w2.heap.size w2 w' := by
    intro w2 a' c' ho
    have := slices_IndexFunc_slot (fun x => x.id == 0) 86 #[] eg a' c' L w2 (own_rw ho) hle (fun W x hW => (fill1 W x).mono fun e w' ⟨he, hb'⟩ => ⟨he, below_step hW hW.size hb'⟩)
    rwa [hx] at this
  have FIN := Lib.hid fin; clear fin
  have hid' : (id == 0) = false := by simpa using hid
  obtain ⟨b, cur, rfl, hbB, hbb, hcs, hlc, hcm, hcur⟩ := own_at h.row (by omega)
  have hbg : b ≠ g := fun e => h.ne (by rw [e]; rfl)
  have hgb : g ≠ b := fun e => hbg e.symm
  have hget : ∀ j, j < 3 → cur[k * 3 + j]? = x.cells[j]? := fun j hj => by rw [hcur _ (by omega), cellsOf_get Sv.cells_length hk hj]
  have g0 := hget 0 (by omega)
  have g2 := hget 2 (by omega)
  simp only [Sv.cells, List.getElem?_cons_zero, List.getElem?_cons_succ, Nat.add_zero] at g0 g2
  have HX := Lib.hid hx; clear hx hid hget
  have HK := Lib.hid hk; clear hk
  have HG0 := Lib.hid g0; clear g0
  have HG2 := Lib.hid g2; clear g2
  have HCUR := Lib.hid hcur; clear hcur
  have HH := Lib.hid h; clear h
  have HBB := Lib.hid hbb; clear hbb
  have HCS := Lib.hid hcs; clear hcs
  obtain ⟨xa, xb, xc⟩ := x
  go_enter Tryz.func31, Tryz.ntmps31
  go_wp2_with fail
  refine HALL.out.mono ?_
  rintro e w2 ⟨a', c', rfl, ho, hb2⟩
  have HF := Lib.hid (FIN.out w2 a' c' ho); clear FIN ho
  have HB2 := Lib.hid hb2; clear hb2
  go_wp2_with fail
  refine HF.out.mono ?_
  rintro e w3 ⟨rfl, hb3⟩
  have HB3 := Lib.hid (below_step HB2.out HB2.out.size hb3); clear hb3 HB2
  have h3 := HH.out.of_below HB3.out
  have p0 := h3.blk.cell 0
  have p1 := h3.blk.lt
  simp only [List.getElem?_toArray, List.getElem?_cons_zero] at p0
  have hb3 := HBB.out.of_below HB3.out
  have c0 : w3.cell? ⟨b, k * 3, none⟩ = some (.int .i64 xa) := by rw [hb3.cell]; exact HG0.out
  have c2 : w3.cell? ⟨b, k * 3 + 2, none⟩ = some (.int .u64 xc) := by rw [hb3.cell]; exact HG2.out
  have f2 := hb3.frozen (k * 3 + 2)
  have HH3 := Lib.hid h3; clear h3 hb3 HALL HF
  go_wp2_with fail
  go_ret2
  have hs := Grew.set w3 ⟨b, k * 3 + 2, none⟩ (.int .u64 id)
  refine ⟨rfl, ⟨?_, ?_, ?_⟩, ?_⟩
  · rw [List.length_set]; exact HH3.out.blk.far hgb _
  · have := own_set HH3.out.row (k * 3 + 2) (by omega) (.int .u64 id)
    rw [cellsOf_set Sv.cells_length HK.out (y := ⟨xa, xb, id⟩) (by omega) rfl] at this
    rw [List.length_set]; exact this
  · rw [List.length_set]; exact HH3.out.len
  · exact (Grew.of_below HB3.out _).trans hs (fun j _ hj => by rw [hj]; rfl)
end Go.Proofs.YtonfaojmphidpaaGreatDoor
