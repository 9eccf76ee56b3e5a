/- slices.DeleteFunc of at most one slot, on a row of the call's own. -/
import Derived.Test.YtonfaojmphidpaaGreatDoorSlEq
namespace Go.Proofs.YtonfaojmphidpaaGreatDoor
open Go.RowKit
set_option linter.unusedVariables false
set_option linter.unusedSimpArgs false

set_option maxHeartbeats 1000000 in
theorem slices_DeleteFunc_no (p : Sv → Bool) (g : Nat) (lb : Array Value) (eg : ∀ args w, (callFunc g args).run Tryz.prog w = .ok (.enter g args) w) (a : Option Addr) (cap : Nat) (L : List Sv) (w : World) (h : Rw Sv.cells 3 w a cap L) (hl : L.length ≤ 1000000)
    (hp : ∀ (W : World) (x : Sv), RowKit.Below w.heap.size w W → Calls Tryz.prog g (#[.agg x.cells.toArray] ++ lb) W fun e w' => e = .returned (.bool (p x)) ∧ RowKit.Below w.heap.size w w') (hno : fidx p L = -1) :
    Calls Tryz.prog 55 #[.slice a L.length cap, .func (.func g) #[] lb] w fun e w' => e = .returned (.slice a L.length cap) ∧ RowKit.Below w.heap.size w w' := by
  have hix := slices_IndexFunc_slot p g lb eg a cap L w h hl hp
  rw [hno] at hix
  have HIX := Lib.hid hix; clear hix hp h hno
  go_enter Tryz.func55, Tryz.ntmps55
  go_wp2_with fail
  refine HIX.out.mono ?_
  rintro e w2 ⟨rfl, hb⟩
  go_wp2_with fail
  go_ret
  exact ⟨rfl, hb⟩
/-- The row at the round's head: what has been shifted, then what stood there. -/
def shiftL (L : List Sv) (i j : Nat) : List Sv := (L.eraseIdx i).take (j - 1) ++ L.drop (j - 1)
theorem shiftL_start (L : List Sv) (i : Nat) (hi : i < L.length) : shiftL L i (i + 1) = L := by
  unfold shiftL
  rw [Nat.add_sub_cancel, List.eraseIdx_eq_take_drop_succ, List.take_append_of_le_length (by rw [List.length_take]; omega), List.take_take, Nat.min_self, List.take_append_drop]
theorem shiftL_length (L : List Sv) (i j : Nat) (hi : i < L.length) (hj : j ≤ L.length) : (shiftL L i j).length = L.length := by
  unfold shiftL
  rw [List.length_append, List.length_take, List.length_eraseIdx_of_lt hi, List.length_drop]; omega
theorem shiftL_get (L : List Sv) (i j : Nat) (hi : i < j) (hj : j < L.length) : (shiftL L i j)[j]? = L[j]? := by
  unfold shiftL
  have hl : ((L.eraseIdx i).take (j - 1)).length = j - 1 := by rw [List.length_take, List.length_eraseIdx_of_lt (by omega)]; omega
  rw [List.getElem?_append_right (by omega), hl, List.getElem?_drop, show j - 1 + (j - (j - 1)) = j by omega]
theorem shiftL_set (L : List Sv) (i j : Nat) (x : Sv) (hi : i < j) (hj : j < L.length) (hx : L[j]? = some x) : (shiftL L i j).set (j - 1) x = shiftL L i (j + 1) := by
  unfold shiftL
  have hl : ((L.eraseIdx i).take (j - 1)).length = j - 1 := by rw [List.length_take, List.length_eraseIdx_of_lt (by omega)]; omega
  have h1 : L.drop (j - 1) = L[j - 1] :: L.drop j := by
    rw [List.drop_eq_getElem_cons (by omega), show j - 1 + 1 = j by omega]
  rw [List.set_append_right _ _ (by omega), hl, Nat.sub_self, h1, List.set_cons_zero, Nat.add_sub_cancel]
  have h2 : (L.eraseIdx i)[j - 1]? = some x := by
    rw [List.getElem?_eraseIdx, if_neg (by omega), show j - 1 + 1 = j by omega]; exact hx
  obtain ⟨h3, h4⟩ := List.getElem?_eq_some_iff.1 h2
  have h5 : (L.eraseIdx i).take j = (L.eraseIdx i).take (j - 1) ++ [x] := by
    conv => lhs; rw [show j = j - 1 + 1 by omega]
    rw [List.take_succ_eq_append_getElem h3, h4]
  rw [h5, List.append_assoc]; rfl
theorem shiftL_end (L : List Sv) (i : Nat) (hi : i < L.length) : (shiftL L i L.length).take (L.length - 1) = L.eraseIdx i := by
  unfold shiftL
  have hl : ((L.eraseIdx i).take (L.length - 1)).length = L.length - 1 := by rw [List.length_take, List.length_eraseIdx_of_lt hi]; omega
  rw [List.take_append_of_le_length (by omega), List.take_take, Nat.min_self, List.take_of_length_le (by rw [List.length_eraseIdx_of_lt hi]; omega)]

set_option maxRecDepth 100000 in
set_option maxHeartbeats 2000000 in
theorem slices_DeleteFunc_one (p : Sv → Bool) (g : Nat) (lb : Array Value) (eg : ∀ args w, (callFunc g args).run Tryz.prog w = .ok (.enter g args) w) (B b cap : Nat) (L : List Sv) (w : World) (h : w.ownsRow B 75 3 (.slice (some ⟨b, 0, none⟩) L.length cap) L.length (cellsOf Sv.cells L)) (hl : L.length ≤ 1000000)
    (hp : ∀ (W : World) (x : Sv), Grew w W (· = b) → Calls Tryz.prog g (#[.agg x.cells.toArray] ++ lb) W fun e w' => e = .returned (.bool (p x)) ∧ RowKit.Below W.heap.size W w') (i : Nat) (hil : i < L.length) (hi : fidx p L = i) (hone : ∀ (j : Nat) (y : Sv), i < j → L[j]? = some y → p y = false) :
    Calls Tryz.prog 55 #[.slice (some ⟨b, 0, none⟩) L.length cap, .func (.func g) #[] lb] w fun e w' => e = .returned (.slice (some ⟨b, 0, none⟩) (L.length - 1) cap) ∧
      w'.ownsRow B 75 3 (.slice (some ⟨b, 0, none⟩) (L.length - 1) cap) (L.length - 1) (cellsOf Sv.cells (L.eraseIdx i)) ∧ Grew w w' (· = b) := by
  have hix := slices_IndexFunc_slot p g lb eg _ cap L w (own_rw h) hl (fun W x hW => (hp W x (Grew.of_below hW _)).mono fun e w' ⟨he, hb⟩ => ⟨he, below_step hW hW.size hb⟩)
  rw [hi] at hix
  have HIX := Lib.hid hix; clear hix hi
  have HP := Lib.hid hp; clear hp
  have HONE := Lib.hid hone; clear hone
  have HO := Lib.hid h; clear h
  go_enter Tryz.func55, Tryz.ntmps55
  go_wp2_with fail
  refine HIX.out.mono ?_
  rintro e w2 ⟨rfl, hb2⟩
  have ho2 := own_below HO.out hb2
  have HO2 := Lib.hid ho2; clear ho2
  have HB2 := Lib.hid hb2; clear hb2
  go_wp2_with fail
  go_loopg [5, 6] (L.length - (i + 1)) (fun gh iv jv wr => ∃ j : Nat, gh = L.length - j ∧ i < j ∧ j ≤ L.length ∧ iv = .int .i64 ((j : Int) - 1) ∧ jv = .int .i64 j ∧ wr.ownsRow B 75 3 (.slice (some ⟨b, 0, none⟩) L.length cap) L.length (cellsOf Sv.cells (shiftL L i j)) ∧ Grew w wr (· = b))
  case atStart => exact ⟨i + 1, by omega, by omega, by omega, by (show Value.int .i64 _ = Value.int .i64 _; congr 1; omega), by go_num, by rw [shiftL_start L i hil]; exact HO2.out, Grew.of_below HB2.out _⟩
  case round =>
    clear HO2 HB2
    obtain ⟨j, rfl, hij, hj, rfl, rfl, ho, hg⟩ := hrel
    have hob := own_at ho (by omega)
    obtain ⟨b', cur, hbe, hbB, hbb, hcs, hlc, hcm, hcur⟩ := hob
    obtain rfl : b = b' := by injection hbe with hbe; injection hbe
    have HO' := Lib.hid ho; clear ho
    have HG := Lib.hid hg; clear hg
    by_cases hlt : j < L.length
    · obtain ⟨x, hx⟩ : ∃ x, L[j]? = some x := ⟨_, List.getElem?_eq_getElem hlt⟩
      have hsx := shiftL_get L i j hij hlt
      rw [hx] at hsx
      have hcl := fun (q : Nat) (hq : q < 3) => (hcur (j * 3 + q) (by omega)).trans (cellsOf_get Sv.cells_length hsx hq)
      have hst := shiftL_set L i j x hij hlt hx
      have hpx := HONE.out j x hij hx
      have hcall := HP.out
      obtain ⟨xa, xb, xc⟩ := x
      have g0 := hcl 0 (by omega)
      have g1 := hcl 1 (by omega)
      have g2 := hcl 2 (by omega)
      simp only [Sv.cells, List.getElem?_cons_zero, List.getElem?_cons_succ, Nat.add_zero] at g0 g1 g2
      have c0 : wr.cell? ⟨b, j * 3, none⟩ = some (.int .i64 xa) := by rw [hbb.cell]; exact g0
      have c1 : wr.cell? ⟨b, j * 3 + 1, none⟩ = some (.int .u64 xb) := by rw [hbb.cell]; exact g1
      have c2 : wr.cell? ⟨b, j * 3 + 2, none⟩ = some (.int .u64 xc) := by rw [hbb.cell]; exact g2
      have hGW : Grew w (wr.alloc (.cells #[.int .i64 xa, .int .u64 xb, .int .u64 xc] 75)) (· = b) := HG.out.trans (Grew.of_below ((Below.refl _ wr).alloc (Nat.le_refl _) _) (· = b)) (fun k _ hk => hk)
      have hc5 := hcall _ ⟨xa, xb, xc⟩ hGW
      rw [hpx] at hc5
      simp only [Sv.cells] at hc5
      have HC5 := Lib.hid hc5; clear hc5 hcall hGW
      have hkn := Blk.new wr 75 #[.int .i64 xa, .int .u64 xb, .int .u64 xc]
      obtain ⟨z, hz⟩ : ∃ z, (shiftL L i j)[j - 1]? = some z := ⟨_, List.getElem?_eq_getElem (by rw [shiftL_length L i j hil hj]; omega)⟩
      obtain ⟨za, zb, zc⟩ := z
      have hzl := fun (q : Nat) (hq : q < 3) => (hcur ((j - 1) * 3 + q) (by omega)).trans (cellsOf_get Sv.cells_length hz hq)
      have z0 := hzl 0 (by omega)
      have z1 := hzl 1 (by omega)
      have z2 := hzl 2 (by omega)
      simp only [Sv.cells, List.getElem?_cons_zero, List.getElem?_cons_succ, Nat.add_zero] at z0 z1 z2
      have hbw := hbb.lt
      have HZ := Lib.hid hz; clear hz hzl
      have Z0 := Lib.hid z0; clear z0
      have Z1 := Lib.hid z1; clear z1
      have Z2 := Lib.hid z2; clear z2
      have HBB := Lib.hid hbb; clear hbb
      have HKN := Lib.hid hkn; clear hkn
      have HST := Lib.hid hst; clear hst
      clear hx hsx hcl g0 g1 g2 hpx hcur hcs hbe
      go_wp2_with fail
      refine HC5.out.mono ?_
      rintro e w5 ⟨rfl, hb5⟩
      have n5 := HKN.out.of_below hb5
      have m5 := (HBB.out.alloc (.cells #[.int .i64 xa, .int .u64 xb, .int .u64 xc] 75)).of_below hb5
      have n0 := n5.cell 0
      have n1 := n5.cell 1
      have n2 := n5.cell 2
      have nl := n5.lt
      simp only [List.getElem?_toArray, List.getElem?_cons_zero, List.getElem?_cons_succ] at n0 n1 n2
      have r0 : w5.cell? ⟨b, (j - 1) * 3, none⟩ = some (.int .i64 za) := by rw [m5.cell]; exact Z0.out
      have r1 : w5.cell? ⟨b, (j - 1) * 3 + 1, none⟩ = some (.int .u64 zb) := by rw [m5.cell]; exact Z1.out
      have r2 : w5.cell? ⟨b, (j - 1) * 3 + 2, none⟩ = some (.int .u64 zc) := by rw [m5.cell]; exact Z2.out
      have f0 := m5.frozen ((j - 1) * 3)
      have f1 := m5.frozen ((j - 1) * 3 + 1)
      have f2 := m5.frozen ((j - 1) * 3 + 2)
      have ho5 := own_below (HO'.out.alloc (.cells #[.int .i64 xa, .int .u64 xb, .int .u64 xc] 75)) hb5
      have hg5 : Grew w w5 (· = b) := (HG.out.trans (Grew.of_below ((Below.refl _ wr).alloc (Nat.le_refl _) _) (· = b)) (fun k _ hk => hk)).trans (Grew.of_below hb5 (· = b)) (fun k _ hk => hk)
      have HO5 := Lib.hid ho5; clear ho5
      have HG5 := Lib.hid hg5; clear hg5 n5 m5 hb5 HC5
      have e0 : (0 : Int) ≤ (j : Int) - 1 := by omega
      have e1 : ((j : Int) - 1).toNat = j - 1 := by omega
      have e2 : (j : Int) - 1 < (L.length : Int) := by omega
      go_wp2_with fail
      go_roundg (L.length - (j + 1))
      case measure => omega
      case rel =>
        have hjl : j - 1 < (shiftL L i j).length := by rw [shiftL_length L i j hil hj]; omega
        have s0 := own_set HO5.out ((j - 1) * 3 + 0) (by omega) (.int .i64 xa)
        rw [cellsOf_set Sv.cells_length HZ.out (y := ⟨xa, zb, zc⟩) (by omega) rfl] at s0
        have s1 := own_set s0 ((j - 1) * 3 + 1) (by omega) (.int .u64 xb)
        rw [cellsOf_set Sv.cells_length (x := ⟨xa, zb, zc⟩) (by rw [List.getElem?_set_self hjl]) (y := ⟨xa, xb, zc⟩) (by omega) rfl] at s1
        have s2 := own_set s1 ((j - 1) * 3 + 2) (by omega) (.int .u64 xc)
        rw [cellsOf_set Sv.cells_length (x := ⟨xa, xb, zc⟩) (by rw [List.getElem?_set_self (by rw [List.length_set]; exact hjl)]) (y := ⟨xa, xb, xc⟩) (by omega) rfl, List.set_set, List.set_set, HST.out] at s2
        refine ⟨j + 1, rfl, by omega, by omega, by (show Value.int .i64 _ = Value.int .i64 _; congr 1; omega), by go_num, s2, ?_⟩
        exact ((HG5.out.trans (Grew.set _ _ _) (fun k _ hk => hk)).trans (Grew.set _ _ _) (fun k _ hk => hk)).trans (Grew.set _ _ _) (fun k _ hk => hk)
    · obtain rfl : j = L.length := by omega
      have hend := shiftL_end L i hil
      have hz := zeroSlot
      have hclr : ∀ ty, (Builtin.clear_ #[60] ty #[.slice (some ⟨b, (L.length - 1) * 3, none⟩) 1 (cap - (L.length - 1))]).run Tryz.prog wr = .ok (.tuple #[]) (wr.setCells b ((L.length - 1) * 3) [.int .i64 0, .int .u64 0, .int .u64 0]) := fun ty =>
        run_clear_one wr _ _ ty _ [.int .i64 0, .int .u64 0, .int .u64 0] Tryz.underlying60 zeroSlot rfl (by simp [Value.oneCell']) b ((L.length - 1) * 3) _ (fun q hq => by
          simp only [List.length_cons, List.length_nil] at hq
          rw [hbb.cell, Array.getElem?_eq_getElem (by rw [hcs]; omega)]; rfl) (fun q hq => hbb.frozen _)
      have HEND := Lib.hid hend; clear hend
      have HBB := Lib.hid hbb; clear hbb
      have HCUR := Lib.hid hcur; clear hcur
      have HCS := Lib.hid hcs; clear hcs hz hbe
      have e0 : (0 : Int) ≤ (L.length : Int) - 1 := by omega
      have e1 : ((L.length : Int) - 1).toNat = L.length - 1 := by omega
      have e2 : (L.length : Int) - 1 ≤ (L.length : Int) := by omega
      have e3 : ¬ cap = L.length - 1 := by omega
      have e4 : L.length - (L.length - 1) = 1 := by omega
      have e5 : L.length - 1 ≤ cap := by omega
      have e6 : (L.length : Int) - 1 ≤ (cap : Int) := by omega
      go_wp2_with fail
      go_ret
      have hk := HBB.out.putAll (w := wr) [.int .i64 0, .int .u64 0, .int .u64 0] ((L.length - 1) * 3)
      refine ⟨rfl, ⟨?_, .inr ⟨b, cap, setAll cur ((L.length - 1) * 3) [.int .i64 0, .int .u64 0, .int .u64 0], rfl, hbB, Blk.putAll (w := wr) _ _ _ _ HBB.out, by omega, hcm, by rw [size_setAll]; exact HCS.out, ?_⟩⟩, ?_⟩
      · rw [cellsOf_length Sv.cells_length, List.length_eraseIdx_of_lt hil]
      · rw [← HEND.out, cellsOf_take Sv.cells_length]
        apply List.ext_getElem?
        intro q
        rw [List.getElem?_take, List.getElem?_take]
        by_cases hq : q < (L.length - 1) * 3
        · rw [if_pos hq, if_pos hq, ← HCUR.out q (by omega)]
          simp only [Array.getElem?_toList]
          exact setAll_lt _ _ _ _ hq
        · rw [if_neg hq, if_neg hq]
      · exact HG.out.trans (Grew.of_grown (r := some b) (grown_setCells wr b _ _ HBB.out.lt) (fun k hk => (Option.some.inj hk).symm)) (fun k _ hk => hk)
end Go.Proofs.YtonfaojmphidpaaGreatDoor
