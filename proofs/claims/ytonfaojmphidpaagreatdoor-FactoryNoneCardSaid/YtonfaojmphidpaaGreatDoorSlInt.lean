/- Slices of ints: slices.Equal, slices.Clone (turned from those of uint64). -/
import Derived.Test.YtonfaojmphidpaaGreatDoorSlFn
namespace Go.Proofs.YtonfaojmphidpaaGreatDoor
open Go.RowKit
set_option linter.unusedVariables false
set_option linter.unusedSimpArgs false

theorem Tryz.infoI : (Tryz.prog.info? 3).map (fun i => (i.zero, i.size, i.bytes)) = some (some (.int .i64 0), 1, 8) := by kernel_rfl
set_option maxHeartbeats 400000 in
theorem slices_Equal_i64 (a a' : Option Addr) (cap cap' : Nat) (xs ys : List Int) (w : World) (h : Sl .i64 w a cap xs) (h' : Sl .i64 w a' cap' ys) (hl : xs.length ≤ 4611686018427387904) (hl' : ys.length ≤ 4611686018427387904) :
    Calls Tryz.prog 69 #[.slice a xs.length cap, .slice a' ys.length cap'] w fun e w' => e = .returned (.bool (xs == ys)) ∧ ∃ q, w' = w.drewN q := by
  by_cases hlen : xs.length = ys.length
  · go_enter Tryz.func69, Tryz.ntmps69
    have hne : ((xs.length : Int) != (ys.length : Int)) = false := by simp [hlen]
    have HL := Lib.hid hlen; clear hlen
    go_wp2
    go_loopw [13] (fun i wr => ∃ k : Nat, k ≤ xs.length ∧ i = .int .i64 k ∧ (∀ j, j < k → xs.getD j 0 = ys.getD j 0) ∧ ∃ q, wr = w.drewN q) (fun i _ => xs.length - (intOf i).toNat)
    case atStart => exact ⟨0, by omega, rfl, fun j hj => absurd hj (by omega), 0, rfl⟩
    case round =>
      obtain ⟨k, hk, rfl, hno, q, rfl⟩ := hrel
      have HN := Lib.hid hno; clear hno
      by_cases hlt : k < xs.length
      · have hlt' : k < ys.length := by rw [← HL.out]; exact hlt
        obtain ⟨b, off, rfl, hbs, hc⟩ := h.at_ (by omega)
        obtain ⟨b', off', rfl, hbs', hc'⟩ := h'.at_ (by omega)
        have c0 := hc k hlt
        have c0' := hc' k hlt'
        clear hc hc'
        have e1 : (0 : Int) ≤ (k : Int) := by omega
        have e2 : (k : Int) < (xs.length : Int) := by omega
        have e3 : (k : Int) < (ys.length : Int) := by omega
        by_cases hx : xs.getD k 0 = ys.getD k 0
        · have hx' : (xs.getD k 0 != ys.getD k 0) = false := by simpa using hx
          have HX := Lib.hid hx; clear hx
          generalize hxx : xs.getD k 0 = x at c0 hx'
          generalize hyy : ys.getD k 0 = y at c0' hx'
          have HXX := Lib.hid hxx; clear hxx
          have HYY := Lib.hid hyy; clear hyy
          go_wp2
          go_quiet (fail)
          go_wp2
          go_roundw
          case rel => exact ⟨k + 1, by omega, by go_num, fun j hj => by
            by_cases e : j = k
            · subst e; exact HX.out
            · exact HN.out j (by omega), _, rfl⟩
          case measure => simp [intOf]; omega
        · have hx' : (xs.getD k 0 != ys.getD k 0) = true := by simpa using hx
          have HX := Lib.hid hx; clear hx
          generalize hxx : xs.getD k 0 = x at c0 hx'
          generalize hyy : ys.getD k 0 = y at c0' hx'
          have HXX := Lib.hid hxx; clear hxx
          have HYY := Lib.hid hyy; clear hyy
          go_wp2
          go_quiet (fail)
          go_wp2
          go_ret
          exact ⟨ret_bool (by
            symm
            rw [beq_eq_false_iff_ne]
            intro e; subst e; exact HX.out rfl), _, World.drewN_drewN _ _ _⟩
      · go_wp2
        go_ret
        have : xs = ys := list_ext_getD HL.out fun i hi => HN.out i (by omega)
        exact ⟨ret_bool (by rw [this]; simp), q, rfl⟩
  · go_enter Tryz.func69, Tryz.ntmps69
    have hne : ((xs.length : Int) != (ys.length : Int)) = true := by simp; omega
    go_wp2
    go_ret
    exact ⟨ret_bool (by
      symm
      rw [beq_eq_false_iff_ne]
      intro e; subst e; exact hlen rfl), 0, rfl⟩
set_option maxHeartbeats 400000 in
theorem slices_Clone_i64 (a : Option Addr) (cap : Nat) (xs : List Int) (w : World) (h : Sl .i64 w a cap xs) (hl : xs.length ≤ 1000000) :
    Calls Tryz.prog 127 #[.slice a xs.length cap] w fun e w' => ∃ a' cap', e = .returned (.slice a' xs.length cap') ∧ w'.ownsRow w.heap.size 3 1 (.slice a' xs.length cap') xs.length (nums .i64 xs) ∧ (a = none ↔ a' = none) ∧ Below w.heap.size w w' := by
  cases a with
  | none =>
    have h0 : cap = 0 := h.2.2.1 rfl
    have h1 : xs.length = 0 := by have := h.le; omega
    have h2 : xs = [] := List.eq_nil_of_length_eq_zero h1
    subst h2 h0
    clear h h1
    have hn := fun (x : World) => Lib.run_eql_slice_nil (P := Tryz.prog) x 53 3 none 0 0 0 0 Tryz.underlying53
    go_enter Tryz.func127, Tryz.ntmps127
    go_wp2
    go_ret
    exact ⟨none, 0, rfl, World.ownsRow_nil _ _ _ _, by simp, Below.refl _ _⟩
  | some ad =>
    have hn := fun (x : World) => Lib.run_eql_slice_nil (P := Tryz.prog) x 53 3 (some ad) xs.length cap 0 0 Tryz.underlying53
    have HO := World.ownsRow_made (base := w.heap.size) (e := 3) (size := 1) w #[] 0 (Nat.le_refl _) (Nat.zero_le _) rfl
    have HS := Lib.hid (Rd.alloc h (.cells #[] 3)); clear h
    go_enter Tryz.func127, Tryz.ntmps127
    go_wp2_with (at_builtin; refine app_own _ rfl _ _ 53 rfl w.heap.size 3 (.int .i64 0) 1 8 Tryz.underlying53 Tryz.infoI rfl (by decide) (.slice (some ⟨w.heap.size, 0, none⟩) 0 0) 0 [] rfl HO _ xs.length cap (nums .i64 xs) rfl HS.out (nums_one _ _) (by omega) (by omega) (by simp) ?_; intro A1 c1 w1 h2 h3 h4)
    go_ret
    simp only [Nat.zero_add, List.nil_append] at h2 h4
    refine ⟨A1, c1, by simp, h2, ⟨(fun h => by cases h), (fun h => by subst h; simp [Value.ownBlock] at h4)⟩, ((Below.refl w.heap.size w).alloc (Nat.le_refl _) _).grown h3 (by simp) (fun k hk => by simp [Value.ownBlock] at hk; omega)⟩
end Go.Proofs.YtonfaojmphidpaaGreatDoor
