/- slices.Equal at rows of structs: events. -/
import Derived.Test.YtonfaojmphidpaaGreatDoorZA4
import Derived.Laws.StructEq
import Derived.Deep.QuietTactic
import Derived.BigQuiet
namespace Go.Proofs.YtonfaojmphidpaaGreatDoor
open Go.RowKit
set_option linter.unusedVariables false
set_option linter.unusedSimpArgs false

/-- An event: step, thread, kind, op, id, code. -/
structure Ev where
  step : Int
  thread : Int
  kind : Int
  op : Int
  id : Int
  err : Int
deriving DecidableEq
instance : Inhabited Ev := ⟨⟨0, 0, 0, 0, 0, 0⟩⟩
def Ev.cells (x : Ev) : List Value := [.int .u64 x.step, .int .i64 x.thread, .int .i64 x.kind, .int .i64 x.op, .int .u64 x.id, .int .i64 x.err]
theorem Ev.cells_length (x : Ev) : x.cells.length = 6 := rfl
theorem Ev.cells_one (x : Ev) : ∀ u ∈ x.cells, u.oneCell' = true := by intro u hu; simp [Ev.cells] at hu; rcases hu with rfl | rfl | rfl | rfl | rfl | rfl <;> rfl

set_option maxRecDepth 100000 in
theorem neq_event (x0 x1 x2 x3 x4 x5 y0 y1 y2 y3 y4 y5 : Int) (W : World) : (binOp .neq 108 (.agg #[.int .u64 x0, .int .i64 x1, .int .i64 x2, .int .i64 x3, .int .u64 x4, .int .i64 x5]) (.agg #[.int .u64 y0, .int .i64 y1, .int .i64 y2, .int .i64 y3, .int .u64 y4, .int .i64 y5])).run Tryz.prog W = .ok (.bool (!decide ((⟨x0, x1, x2, x3, x4, x5⟩ : Ev) = ⟨y0, y1, y2, y3, y4, y5⟩))) W := by
  have hS : Tryz.prog.underlying 108 = some (.struct (Tryz.prog.fieldsOf 108)) := by kernel_rfl
  have hp : Tryz.prog.stoodInHeld 108 = false := by kernel_rfl
  have ui64 := Tryz.underlying3
  have uu64 := Tryz.underlying28
  have v0 := Tryz.underlying33
  rw [run_neq_struct, show (10000 : Nat) = 9999 + 1 from rfl, run_equalIn_agg W 9999 108 _ _ hS hp]
  simp only [Program.fieldsOf, Tryz.underlying108]
  have hd : decide ((⟨x0, x1, x2, x3, x4, x5⟩ : Ev) = ⟨y0, y1, y2, y3, y4, y5⟩) = ((decide (x0 = y0) && (decide (x1 = y1) && (decide (x2 = y2) && (decide (x3 = y3) && (decide (x4 = y4) && decide (x5 = y5))))))) := by
    rw [Bool.eq_iff_iff]
    simp [Ev.mk.injEq]
  rw [hd]
  go_simp
  by_cases h0 : x0 = y0 <;> by_cases h1 : x1 = y1 <;> by_cases h2 : x2 = y2 <;> by_cases h3 : x3 = y3 <;> by_cases h4 : x4 = y4 <;> by_cases h5 : x5 = y5 <;> simp [h0, h1, h2, h3, h4, h5]
theorem guard_event : Tryz.prog.eqGuardType Tryz.prog.depth 108 = false := by kernel_rfl

set_option maxRecDepth 100000 in
set_option maxHeartbeats 2000000 in
theorem slices_Equal_event (a a' : Option Addr) (cap cap' : Nat) (xs ys : List Ev) (w : World) (h : Rw Ev.cells 6 w a cap xs) (h' : Rw Ev.cells 6 w a' cap' ys) (hl : xs.length ≤ 1000000) (hl' : ys.length ≤ 1000000) :
    Calls Tryz.prog 74 #[.slice a xs.length cap, .slice a' ys.length cap'] w fun e w' => e = .returned (.bool (decide (xs = ys))) ∧ ∃ q, w' = w.drewN q := by
  by_cases hlen : xs.length = ys.length
  · have hne : ((xs.length : Int) != (ys.length : Int)) = false := by simp [hlen]
    have HL := Lib.hid hlen; clear hlen
    go_enter Tryz.func74, Tryz.ntmps74
    go_wp2
    go_loopw [13] (fun i wr => ∃ k : Nat, k ≤ xs.length ∧ i = .int .i64 k ∧ Hid (∀ (j : Nat), j < k → xs[j]? = ys[j]?) ∧ ∃ q, wr = w.drewN q) (fun i _ => xs.length - (intOf i).toNat)
    case atStart => exact ⟨0, by omega, rfl, (show Hid _ from fun j hj => absurd hj (by omega)), 0, rfl⟩
    case round =>
      obtain ⟨k, hk, rfl, HN, q, rfl⟩ := hrel
      by_cases hlt : k < xs.length
      · have hlt' : k < ys.length := by rw [← HL.out]; exact hlt
        obtain ⟨b, off, rfl, hbs, hc⟩ := h.at_ Ev.cells_length (by omega)
        obtain ⟨b', off', rfl, hbs', hc'⟩ := h'.at_ Ev.cells_length (by omega)
        obtain ⟨x, hx⟩ : ∃ x, xs[k]? = some x := ⟨_, List.getElem?_eq_getElem hlt⟩
        obtain ⟨y, hy⟩ : ∃ y, ys[k]? = some y := ⟨_, List.getElem?_eq_getElem hlt'⟩
        obtain ⟨x0, x1, x2, x3, x4, x5⟩ := x
        obtain ⟨y0, y1, y2, y3, y4, y5⟩ := y
        have c0 : w.cell? ⟨b, off + k * 6, none⟩ = some (.int .u64 x0) := hc k _ hx 0 _ rfl
        have c1 : w.cell? ⟨b, off + k * 6 + 1, none⟩ = some (.int .i64 x1) := hc k _ hx 1 _ rfl
        have c2 : w.cell? ⟨b, off + k * 6 + 2, none⟩ = some (.int .i64 x2) := hc k _ hx 2 _ rfl
        have c3 : w.cell? ⟨b, off + k * 6 + 3, none⟩ = some (.int .i64 x3) := hc k _ hx 3 _ rfl
        have c4 : w.cell? ⟨b, off + k * 6 + 4, none⟩ = some (.int .u64 x4) := hc k _ hx 4 _ rfl
        have c5 : w.cell? ⟨b, off + k * 6 + 5, none⟩ = some (.int .i64 x5) := hc k _ hx 5 _ rfl
        have d0 : w.cell? ⟨b', off' + k * 6, none⟩ = some (.int .u64 y0) := hc' k _ hy 0 _ rfl
        have d1 : w.cell? ⟨b', off' + k * 6 + 1, none⟩ = some (.int .i64 y1) := hc' k _ hy 1 _ rfl
        have d2 : w.cell? ⟨b', off' + k * 6 + 2, none⟩ = some (.int .i64 y2) := hc' k _ hy 2 _ rfl
        have d3 : w.cell? ⟨b', off' + k * 6 + 3, none⟩ = some (.int .i64 y3) := hc' k _ hy 3 _ rfl
        have d4 : w.cell? ⟨b', off' + k * 6 + 4, none⟩ = some (.int .u64 y4) := hc' k _ hy 4 _ rfl
        have d5 : w.cell? ⟨b', off' + k * 6 + 5, none⟩ = some (.int .i64 y5) := hc' k _ hy 5 _ rfl
        have HX := Lib.hid hx; clear hx
        have HY := Lib.hid hy; clear hy
        clear hc hc'
        have hneq := fun W => neq_event x0 x1 x2 x3 x4 x5 y0 y1 y2 y3 y4 y5 W
        have hgd := guard_event
        have e1 : (0 : Int) ≤ (k : Int) := by omega
        have e2 : (k : Int) < (xs.length : Int) := by omega
        have e3 : (k : Int) < (ys.length : Int) := by omega
        by_cases hxy : (⟨x0, x1, x2, x3, x4, x5⟩ : Ev) = ⟨y0, y1, y2, y3, y4, y5⟩
        · rw [decide_eq_true hxy] at hneq
          have HXY := Lib.hid hxy; clear hxy
          go_wp2
          go_quiet (fail)
          go_wp2
          go_roundw
          case rel => exact ⟨k + 1, by omega, by go_num, (show Hid _ from fun j hj => by
            by_cases e : j = k
            · subst e; rw [HX.out, HY.out, HXY.out]
            · exact HN.out j (by omega)), _, rfl⟩
          case measure => simp [intOf]; omega
        · rw [decide_eq_false hxy] at hneq
          have HXY := Lib.hid hxy; clear hxy
          go_wp2
          go_quiet (fail)
          go_wp2
          go_ret
          exact ⟨ret_bool (by
            symm
            rw [decide_eq_false_iff_not]
            intro e; subst e; rw [HX.out] at HY; exact HXY.out (Option.some.inj HY.out)), _, World.drewN_drewN _ _ _⟩
      · go_wp2
        go_ret
        have : xs = ys := List.ext_getElem? fun i => by
          by_cases hi : i < k
          · exact HN.out i hi
          · rw [List.getElem?_eq_none (by omega), List.getElem?_eq_none (by have := HL.out; omega)]
        exact ⟨ret_bool (by rw [this]; simp), q, rfl⟩
  · have hne : ((xs.length : Int) != (ys.length : Int)) = true := by simp; omega
    go_enter Tryz.func74, Tryz.ntmps74
    go_wp2
    go_ret
    exact ⟨ret_bool (by
      symm
      rw [decide_eq_false_iff_not]
      intro e; subst e; exact hlen rfl), 0, rfl⟩

set_option maxRecDepth 100000 in
theorem neq_revent (x0 x1 x2 x3 x4 x5 y0 y1 y2 y3 y4 y5 : Int) (W : World) : (binOp .neq 118 (.agg #[.int .u64 x0, .int .i64 x1, .int .i64 x2, .int .i64 x3, .int .u64 x4, .int .i64 x5]) (.agg #[.int .u64 y0, .int .i64 y1, .int .i64 y2, .int .i64 y3, .int .u64 y4, .int .i64 y5])).run Tryz.prog W = .ok (.bool (!decide ((⟨x0, x1, x2, x3, x4, x5⟩ : Ev) = ⟨y0, y1, y2, y3, y4, y5⟩))) W := by
  have hS : Tryz.prog.underlying 118 = some (.struct (Tryz.prog.fieldsOf 118)) := by kernel_rfl
  have hp : Tryz.prog.stoodInHeld 118 = false := by kernel_rfl
  have ui64 := Tryz.underlying3
  have uu64 := Tryz.underlying28
  rw [run_neq_struct, show (10000 : Nat) = 9999 + 1 from rfl, run_equalIn_agg W 9999 118 _ _ hS hp]
  simp only [Program.fieldsOf, Tryz.underlying118]
  have hd : decide ((⟨x0, x1, x2, x3, x4, x5⟩ : Ev) = ⟨y0, y1, y2, y3, y4, y5⟩) = ((decide (x0 = y0) && (decide (x1 = y1) && (decide (x2 = y2) && (decide (x3 = y3) && (decide (x4 = y4) && decide (x5 = y5))))))) := by
    rw [Bool.eq_iff_iff]
    simp [Ev.mk.injEq]
  rw [hd]
  go_simp
  by_cases h0 : x0 = y0 <;> by_cases h1 : x1 = y1 <;> by_cases h2 : x2 = y2 <;> by_cases h3 : x3 = y3 <;> by_cases h4 : x4 = y4 <;> by_cases h5 : x5 = y5 <;> simp [h0, h1, h2, h3, h4, h5]
theorem guard_revent : Tryz.prog.eqGuardType Tryz.prog.depth 118 = false := by kernel_rfl

set_option maxRecDepth 100000 in
set_option maxHeartbeats 2000000 in
theorem slices_Equal_revent (a a' : Option Addr) (cap cap' : Nat) (xs ys : List Ev) (w : World) (h : Rw Ev.cells 6 w a cap xs) (h' : Rw Ev.cells 6 w a' cap' ys) (hl : xs.length ≤ 1000000) (hl' : ys.length ≤ 1000000) :
    Calls Tryz.prog 65 #[.slice a xs.length cap, .slice a' ys.length cap'] w fun e w' => e = .returned (.bool (decide (xs = ys))) ∧ ∃ q, w' = w.drewN q := by
  by_cases hlen : xs.length = ys.length
  · have hne : ((xs.length : Int) != (ys.length : Int)) = false := by simp [hlen]
    have HL := Lib.hid hlen; clear hlen
    go_enter Tryz.func65, Tryz.ntmps65
    go_wp2
    go_loopw [13] (fun i wr => ∃ k : Nat, k ≤ xs.length ∧ i = .int .i64 k ∧ Hid (∀ (j : Nat), j < k → xs[j]? = ys[j]?) ∧ ∃ q, wr = w.drewN q) (fun i _ => xs.length - (intOf i).toNat)
    case atStart => exact ⟨0, by omega, rfl, (show Hid _ from fun j hj => absurd hj (by omega)), 0, rfl⟩
    case round =>
      obtain ⟨k, hk, rfl, HN, q, rfl⟩ := hrel
      by_cases hlt : k < xs.length
      · have hlt' : k < ys.length := by rw [← HL.out]; exact hlt
        obtain ⟨b, off, rfl, hbs, hc⟩ := h.at_ Ev.cells_length (by omega)
        obtain ⟨b', off', rfl, hbs', hc'⟩ := h'.at_ Ev.cells_length (by omega)
        obtain ⟨x, hx⟩ : ∃ x, xs[k]? = some x := ⟨_, List.getElem?_eq_getElem hlt⟩
        obtain ⟨y, hy⟩ : ∃ y, ys[k]? = some y := ⟨_, List.getElem?_eq_getElem hlt'⟩
        obtain ⟨x0, x1, x2, x3, x4, x5⟩ := x
        obtain ⟨y0, y1, y2, y3, y4, y5⟩ := y
        have c0 : w.cell? ⟨b, off + k * 6, none⟩ = some (.int .u64 x0) := hc k _ hx 0 _ rfl
        have c1 : w.cell? ⟨b, off + k * 6 + 1, none⟩ = some (.int .i64 x1) := hc k _ hx 1 _ rfl
        have c2 : w.cell? ⟨b, off + k * 6 + 2, none⟩ = some (.int .i64 x2) := hc k _ hx 2 _ rfl
        have c3 : w.cell? ⟨b, off + k * 6 + 3, none⟩ = some (.int .i64 x3) := hc k _ hx 3 _ rfl
        have c4 : w.cell? ⟨b, off + k * 6 + 4, none⟩ = some (.int .u64 x4) := hc k _ hx 4 _ rfl
        have c5 : w.cell? ⟨b, off + k * 6 + 5, none⟩ = some (.int .i64 x5) := hc k _ hx 5 _ rfl
        have d0 : w.cell? ⟨b', off' + k * 6, none⟩ = some (.int .u64 y0) := hc' k _ hy 0 _ rfl
        have d1 : w.cell? ⟨b', off' + k * 6 + 1, none⟩ = some (.int .i64 y1) := hc' k _ hy 1 _ rfl
        have d2 : w.cell? ⟨b', off' + k * 6 + 2, none⟩ = some (.int .i64 y2) := hc' k _ hy 2 _ rfl
        have d3 : w.cell? ⟨b', off' + k * 6 + 3, none⟩ = some (.int .i64 y3) := hc' k _ hy 3 _ rfl
        have d4 : w.cell? ⟨b', off' + k * 6 + 4, none⟩ = some (.int .u64 y4) := hc' k _ hy 4 _ rfl
        have d5 : w.cell? ⟨b', off' + k * 6 + 5, none⟩ = some (.int .i64 y5) := hc' k _ hy 5 _ rfl
        have HX := Lib.hid hx; clear hx
        have HY := Lib.hid hy; clear hy
        clear hc hc'
        have hneq := fun W => neq_revent x0 x1 x2 x3 x4 x5 y0 y1 y2 y3 y4 y5 W
        have hgd := guard_revent
        have e1 : (0 : Int) ≤ (k : Int) := by omega
        have e2 : (k : Int) < (xs.length : Int) := by omega
        have e3 : (k : Int) < (ys.length : Int) := by omega
        by_cases hxy : (⟨x0, x1, x2, x3, x4, x5⟩ : Ev) = ⟨y0, y1, y2, y3, y4, y5⟩
        · rw [decide_eq_true hxy] at hneq
          have HXY := Lib.hid hxy; clear hxy
          go_wp2
          go_quiet (fail)
          go_wp2
          go_roundw
          case rel => exact ⟨k + 1, by omega, by go_num, (show Hid _ from fun j hj => by
            by_cases e : j = k
            · subst e; rw [HX.out, HY.out, HXY.out]
            · exact HN.out j (by omega)), _, rfl⟩
          case measure => simp [intOf]; omega
        · rw [decide_eq_false hxy] at hneq
          have HXY := Lib.hid hxy; clear hxy
          go_wp2
          go_quiet (fail)
          go_wp2
          go_ret
          exact ⟨ret_bool (by
            symm
            rw [decide_eq_false_iff_not]
            intro e; subst e; rw [HX.out] at HY; exact HXY.out (Option.some.inj HY.out)), _, World.drewN_drewN _ _ _⟩
      · go_wp2
        go_ret
        have : xs = ys := List.ext_getElem? fun i => by
          by_cases hi : i < k
          · exact HN.out i hi
          · rw [List.getElem?_eq_none (by omega), List.getElem?_eq_none (by have := HL.out; omega)]
        exact ⟨ret_bool (by rw [this]; simp), q, rfl⟩
  · have hne : ((xs.length : Int) != (ys.length : Int)) = true := by simp; omega
    go_enter Tryz.func65, Tryz.ntmps65
    go_wp2
    go_ret
    exact ⟨ret_bool (by
      symm
      rw [decide_eq_false_iff_not]
      intro e; subst e; exact hlen rfl), 0, rfl⟩
end Go.Proofs.YtonfaojmphidpaaGreatDoor
