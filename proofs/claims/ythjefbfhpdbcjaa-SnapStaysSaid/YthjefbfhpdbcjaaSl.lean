/- A slice of whole numbers that reads as a list; the library's functions on such slices. -/
import Derived.Test.YthjefbfhpdbcjaaProg
import Derived.Test.YthjefbfhpdbcjaaApp
import Derived.Test.YthjefbfhpdbcjaaNum
import Derived.Deep.QuietTactic
import Derived.BigQuiet
namespace Go.Proofs.Ythjefbfhpdbcjaa
open Go.RowKit
set_option linter.unusedVariables false

def nums (k : IntKind) (xs : List Int) : List Value := xs.map fun x => .int k x
theorem nums_length (k : IntKind) (xs : List Int) : (nums k xs).length = xs.length := by simp [nums]
theorem nums_get {k : IntKind} {xs : List Int} {i : Nat} (h : i < xs.length) : (nums k xs)[i]? = some (.int k (xs.getD i 0)) := by
  simp [nums, List.getD_eq_getElem?_getD, h]
/-- The slice at a, of xs.length numbers, reads as xs. -/
def Sl (k : IntKind) (w : World) (a : Option Addr) (cap : Nat) (xs : List Int) : Prop := Rd 1 w a xs.length cap (nums k xs)
theorem Sl.at_ {k : IntKind} {w : World} {a : Option Addr} {cap : Nat} {xs : List Int} (h : Sl k w a cap xs) (h0 : 0 < xs.length) :
    ∃ b off, a = some ⟨b, off, none⟩ ∧ b < w.heap.size ∧ ∀ i, i < xs.length → w.cell? ⟨b, off + i, none⟩ = some (.int k (xs.getD i 0)) := by
  obtain ⟨b, off, ha, hb, hc⟩ := h.2.2.2 h0
  exact ⟨b, off, ha, hb, fun i hi => hc i _ (nums_get hi)⟩
theorem Sl.le {k : IntKind} {w : World} {a : Option Addr} {cap : Nat} {xs : List Int} (h : Sl k w a cap xs) : xs.length ≤ cap := h.2.1
theorem Sl.below {k : IntKind} {w w' : World} {a : Option Addr} {cap : Nat} {xs : List Int} (h : Sl k w a cap xs) (hb : Below w.heap.size w w') : Sl k w' a cap xs := Rd.below h hb
theorem Sl.clip {k : IntKind} {w : World} {a : Option Addr} {cap : Nat} {xs : List Int} (h : Sl k w a cap xs) : Rd 1 w a xs.length xs.length (nums k xs) :=
  ⟨h.1, Nat.le_refl _, fun ha => by have := h.2.2.1 ha; have := h.2.1; omega, h.2.2.2⟩
theorem Sl.of_own {k : IntKind} {w : World} {base : Nat} {e : TypeId} {v : Value} {xs : List Int} (h : w.ownsRow base e 1 v xs.length (nums k xs)) : ∃ a cap, v = .slice a xs.length cap ∧ Sl k w a cap xs := Rd.of_own h
theorem bcell {W w1 : World} (hb : Below W.heap.size W w1) : (∀ b o, b < W.heap.size → w1.cell? ⟨b, o, none⟩ = W.cell? ⟨b, o, none⟩) ∧ (∀ b o, b < W.heap.size → w1.frozen? ⟨b, o, none⟩ = W.frozen? ⟨b, o, none⟩) :=
  ⟨fun b o h => hb.cell (p := ⟨b, o, none⟩) h, fun b o h => hb.frozen (p := ⟨b, o, none⟩) h⟩
theorem below_drewN {B : Nat} {w W : World} (h : Below B w W) (n : Nat) : Below B w (W.drewN n) := ⟨h.os, h.tape, h.output, h.size, h.block⟩

theorem ret_int {k : IntKind} {a b : Int} (h : a = b) : Ending.returned (.int k a) = .returned (.int k b) := by rw [h]
theorem ret_bool {a b : Bool} (h : a = b) : Ending.returned (.bool a) = .returned (.bool b) := by rw [h]

/-- The first place of n in xs, or -1. -/
def idxI (xs : List Int) (n : Int) : Int := match xs.findIdx? (· == n) with | some i => i | none => -1
theorem idxI_found {xs : List Int} {n : Int} {i : Nat} (hi : i < xs.length) (h : xs.getD i 0 = n) (hb : ∀ j, j < i → xs.getD j 0 ≠ n) : idxI xs n = i := by
  have : xs.findIdx? (· == n) = some i := by
    rw [List.findIdx?_eq_some_iff_getElem]
    refine ⟨hi, by simpa [List.getD_eq_getElem?_getD, hi] using h, fun j hj => ?_⟩
    have hjl : j < xs.length := by omega
    have := hb j hj
    simpa [List.getD_eq_getElem?_getD, hjl] using this
  unfold idxI; rw [this]
theorem idxI_none {xs : List Int} {n : Int} (hb : ∀ j, j < xs.length → xs.getD j 0 ≠ n) : idxI xs n = -1 := by
  have : xs.findIdx? (· == n) = none := by
    rw [List.findIdx?_eq_none_iff]
    intro x hx
    obtain ⟨j, hj, rfl⟩ := List.mem_iff_getElem.1 hx
    have := hb j hj
    simpa [List.getD_eq_getElem?_getD, hj] using this
  unfold idxI; rw [this]

set_option maxHeartbeats 400000 in
theorem slices_Index_u64 (a : Option Addr) (cap : Nat) (xs : List Int) (n : Int) (w : World) (h : Sl .u64 w a cap xs) (hl : xs.length ≤ 4611686018427387904) :
    Calls Try.prog 18 #[.slice a xs.length cap, .int .u64 n] w fun e w' => e = .returned (.int .i64 (idxI xs n)) ∧ w = w' := by
  go_enter Try.func18, Try.ntmps18
  go_wp2
  go_loop [8] (fun i => ∃ k : Nat, k ≤ xs.length ∧ i = .int .i64 k ∧ ∀ j, j < k → xs.getD j 0 ≠ n) (fun i => xs.length - (intOf i).toNat)
  case atStart => exact ⟨0, by omega, rfl, fun j hj => absurd hj (by omega)⟩
  case round =>
    obtain ⟨k, hk, rfl, hno⟩ := hrel
    have HN := Lib.hid hno; clear hno
    by_cases hlt : k < xs.length
    · obtain ⟨b, off, rfl, hbs, hc⟩ := h.at_ (by omega)
      have c0 := hc k hlt
      clear hc
      by_cases hx : xs.getD k 0 = n
      · rw [hx] at c0
        have HX := Lib.hid hx; clear hx
        go_wp2
        go_ret
        exact ⟨ret_int (idxI_found hlt HX.out HN.out).symm, rfl⟩
      · have hx' : (n == xs.getD k 0) = false := by simpa using fun h => hx h.symm
        have HX := Lib.hid hx; clear hx
        generalize hxx : xs.getD k 0 = x at c0 hx'
        have HXX := Lib.hid hxx; clear hxx
        go_wp2
        go_round
        case rel => exact ⟨k + 1, by omega, by go_num, fun j hj => by
          by_cases e : j = k
          · subst e; exact HX.out
          · exact HN.out j (by omega)⟩
        case measure => simp [intOf]; omega
    · go_wp2
      go_ret
      exact ⟨ret_int (idxI_none fun j hj => HN.out j (by omega)).symm, rfl⟩

theorem list_ext_getD {xs ys : List Int} (hl : xs.length = ys.length) (h : ∀ i, i < xs.length → xs.getD i 0 = ys.getD i 0) : xs = ys := by
  apply List.ext_getElem hl
  intro i h1 h2
  have := h i h1
  simpa [List.getD_eq_getElem?_getD, h1, h2] using this
theorem Sl.drewN {k : IntKind} {w : World} {a : Option Addr} {cap : Nat} {xs : List Int} (h : Sl k w a cap xs) (n : Nat) : Sl k (w.drewN n) a cap xs := h

set_option maxHeartbeats 400000 in
theorem slices_Equal_u64 (a a' : Option Addr) (cap cap' : Nat) (xs ys : List Int) (w : World) (h : Sl .u64 w a cap xs) (h' : Sl .u64 w a' cap' ys) (hl : xs.length ≤ 4611686018427387904) (hl' : ys.length ≤ 4611686018427387904) :
    Calls Try.prog 11 #[.slice a xs.length cap, .slice a' ys.length cap'] w fun e w' => e = .returned (.bool (xs == ys)) ∧ ∃ q, w' = w.drewN q := by
  by_cases hlen : xs.length = ys.length
  · go_enter Try.func11, Try.ntmps11
    have hne : ((xs.length : Int) != (ys.length : Int)) = false := by simp [hlen]
    have HL := Lib.hid hlen; clear hlen
    go_wp2
    go_loopw [13] (fun i wr => ∃ k : Nat, k ≤ xs.length ∧ i = .int .i64 k ∧ (∀ j, j < k → xs.getD j 0 = ys.getD j 0) ∧ ∃ q, wr = w.drewN q) (fun i _ => xs.length - (intOf i).toNat)
    case atStart => exact ⟨0, by omega, rfl, fun j hj => absurd hj (by omega), 0, rfl⟩
    case round =>
      obtain ⟨k, hk, rfl, hno, q, rfl⟩ := hrel
      have HN := Lib.hid hno; clear hno
      by_cases hlt : k < xs.length
      · have hlt' : k < ys.length := by rw [← HL.out]; exact hlt
        obtain ⟨b, off, rfl, hbs, hc⟩ := h.at_ (by omega)
        obtain ⟨b', off', rfl, hbs', hc'⟩ := h'.at_ (by omega)
        have c0 := hc k hlt
        have c0' := hc' k hlt'
        clear hc hc'
        have e1 : (0 : Int) ≤ (k : Int) := by omega
        have e2 : (k : Int) < (xs.length : Int) := by omega
        have e3 : (k : Int) < (ys.length : Int) := by omega
        by_cases hx : xs.getD k 0 = ys.getD k 0
        · have hx' : (xs.getD k 0 != ys.getD k 0) = false := by simpa using hx
          have HX := Lib.hid hx; clear hx
          generalize hxx : xs.getD k 0 = x at c0 hx'
          generalize hyy : ys.getD k 0 = y at c0' hx'
          have HXX := Lib.hid hxx; clear hxx
          have HYY := Lib.hid hyy; clear hyy
          go_wp2
          go_quiet (fail)
          go_wp2
          go_roundw
          case rel => exact ⟨k + 1, by omega, by go_num, fun j hj => by
            by_cases e : j = k
            · subst e; exact HX.out
            · exact HN.out j (by omega), _, rfl⟩
          case measure => simp [intOf]; omega
        · have hx' : (xs.getD k 0 != ys.getD k 0) = true := by simpa using hx
          have HX := Lib.hid hx; clear hx
          generalize hxx : xs.getD k 0 = x at c0 hx'
          generalize hyy : ys.getD k 0 = y at c0' hx'
          have HXX := Lib.hid hxx; clear hxx
          have HYY := Lib.hid hyy; clear hyy
          go_wp2
          go_quiet (fail)
          go_wp2
          go_ret
          exact ⟨ret_bool (by
            symm
            rw [beq_eq_false_iff_ne]
            intro e; subst e; exact HX.out rfl), _, World.drewN_drewN _ _ _⟩
      · go_wp2
        go_ret
        have : xs = ys := list_ext_getD HL.out fun i hi => HN.out i (by omega)
        exact ⟨ret_bool (by rw [this]; simp), q, rfl⟩
  · go_enter Try.func11, Try.ntmps11
    have hne : ((xs.length : Int) != (ys.length : Int)) = true := by simp; omega
    go_wp2
    go_ret
    exact ⟨ret_bool (by
      symm
      rw [beq_eq_false_iff_ne]
      intro e; subst e; exact hlen rfl), 0, rfl⟩
end Go.Proofs.Ythjefbfhpdbcjaa
