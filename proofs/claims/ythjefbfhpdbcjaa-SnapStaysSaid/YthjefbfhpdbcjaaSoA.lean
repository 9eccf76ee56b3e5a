/- Sorting of numbers: rows that are only permuted; cmp.Less; the insertion sort. -/
import Derived.Test.YthjefbfhpdbcjaaSnB
import Derived.BigQuiet
import Derived.Deep.QuietTactic
import Derived.Deep.LoopGhost
namespace Go.Proofs.Ythjefbfhpdbcjaa
open Go.RowKit
set_option linter.unusedVariables false
set_option linter.unusedSimpArgs false
/-- Block g holds the numbers ys, then rest: a permutation of xs; nothing else of w0 has turned. -/
structure Sd (k : IntKind) (t : TypeId) (w0 w : World) (g : Nat) (rest : List Value) (xs ys : List Int) : Prop where
  blk : Blk w g t (nums k ys ++ rest).toArray
  perm : ys.Perm xs
  gr : Grew w0 w (· = g)
section
variable {k : IntKind} {t : TypeId} {w0 w w' : World} {g : Nat} {rest : List Value} {xs ys : List Int}
theorem Sd.len (h : Sd k t w0 w g rest xs ys) : ys.length = xs.length := h.perm.length_eq
theorem Sd.cell (h : Sd k t w0 w g rest xs ys) {i : Nat} (hi : i < ys.length) : w.cell? ⟨g, i, none⟩ = some (.int k (ys.getD i 0)) := by
  rw [h.blk.cell, List.getElem?_toArray, List.getElem?_append_left (by simpa [nums] using hi)]
  simp [nums, hi]
theorem Sd.same (h : Sd k t w0 w g rest xs ys) (w' : World) (h1 : w'.heap = w.heap) (h2 : w'.os = w.os) (h3 : w'.tape = w.tape) (h4 : w'.output = w.output) : Sd k t w0 w' g rest xs ys :=
  ⟨by unfold Blk; rw [h1]; exact h.blk, h.perm, ⟨h2.trans h.gr.os, h3.trans h.gr.tape, h4.trans h.gr.output, by rw [h1]; exact h.gr.size, fun j hj hn => by rw [h1]; exact h.gr.block j hj hn⟩⟩
theorem Sd.below (h : Sd k t w0 w g rest xs ys) (hb : RowKit.Below w.heap.size w w') : Sd k t w0 w' g rest xs ys :=
  ⟨h.blk.of_below hb, h.perm, h.gr.trans (Grew.of_below hb _) (fun j _ hj => hj)⟩
theorem Sd.keepB (h : Sd k t w0 w g rest xs ys) {B : Nat} (hb : RowKit.Below B w w') (hg : g < B) (hw0 : w0.heap.size ≤ B) : Sd k t w0 w' g rest xs ys :=
  ⟨h.blk.below hb hg, h.perm, ⟨hb.os.trans h.gr.os, hb.tape.trans h.gr.tape, hb.output.trans h.gr.output, Nat.le_trans h.gr.size hb.size, fun j hj hn => (hb.block j (by omega)).trans (h.gr.block j hj hn)⟩⟩
theorem swap_perm (l : List Int) {i j : Nat} (hi : i < l.length) (hj : j < l.length) : ((l.set i (l.getD j 0)).set j (l.getD i 0)).Perm l := by
  rw [List.getD_eq_getElem?_getD, List.getD_eq_getElem?_getD, List.getElem?_eq_getElem hi, List.getElem?_eq_getElem hj]
  exact List.set_set_perm hi hj
theorem Blk.num (h : Blk w g t (nums k ys ++ rest).toArray) {i : Nat} (hi : i < ys.length) (x : Int) : Blk (w.setCell ⟨g, i, none⟩ (.int k x)) g t (nums k (ys.set i x) ++ rest).toArray := by
  have := h.put i (.int k x)
  have e : (nums k ys ++ rest).toArray.setIfInBounds i (.int k x) = (nums k (ys.set i x) ++ rest).toArray := by
    apply Array.ext'
    rw [Array.toList_setIfInBounds]
    show (nums k ys ++ rest).set i _ = nums k (ys.set i x) ++ rest
    rw [List.set_append_left _ _ (by simpa [nums] using hi)]
    unfold nums; rw [List.map_set]
  rw [← e]; exact this
theorem Sd.swap (h : Sd k t w0 w g rest xs ys) {i j : Nat} (hi : i < ys.length) (hj : j < ys.length) : Sd k t w0 ((w.setCell ⟨g, i, none⟩ (.int k (ys.getD j 0))).setCell ⟨g, j, none⟩ (.int k (ys.getD i 0))) g rest xs ((ys.set i (ys.getD j 0)).set j (ys.getD i 0)) :=
  ⟨(h.blk.num hi _).num (by rw [List.length_set]; exact hj) _, (swap_perm ys hi hj).trans h.perm, h.gr.trans ((Grew.set w ⟨g, i, none⟩ _).trans (Grew.set _ ⟨g, j, none⟩ _) (fun j _ hj => hj)) (fun j _ hj => hj)⟩
end
/-- The row has become another order of the same numbers. -/
def So (k : IntKind) (t : TypeId) (w0 : World) (g : Nat) (rest : List Value) (xs : List Int) (w' : World) : Prop := ∃ ys, Sd k t w0 w' g rest xs ys

theorem drewN3 (w : World) (a b c : Nat) : (w.drewN (a + b)).drewN c = w.drewN (a + (b + c)) := by simp [World.drewN, Nat.add_assoc]

set_option maxHeartbeats 400000 in
theorem isNaN_ (x : Int) (w : World) : Calls Try.prog 41 #[.int .u64 x] w fun e w' => e = .returned (.bool false) ∧ w' = w := by
  go_enter Try.func41, Try.ntmps41
  go_wp2
  go_ret
  exact ⟨ret_bool (by simp), rfl⟩
set_option maxHeartbeats 400000 in
theorem less_ (x y : Int) (w : World) : Calls Try.prog 28 #[.int .u64 x, .int .u64 y] w fun e w' => e = .returned (.bool (decide (x < y))) ∧ ∃ q, w' = w.drewN q := by
  have HN := Lib.hid (fun W => isNaN_ x W)
  go_enter Try.func28, Try.ntmps28
  go_wp2_with (go_at_call 41; refine (HN.out _).mono ?_; rintro e w' ⟨rfl, rfl⟩)
  go_ret
  exact ⟨rfl, 0, rfl⟩

set_option maxRecDepth 100000 in
set_option maxHeartbeats 4000000 in
theorem insertion_ (g c a b : Nat) (rest : List Value) (xs ys : List Int) (w0 w : World) (h : Sd .u64 31 w0 w g rest xs ys) (hb : b ≤ xs.length) (hn : xs.length ≤ 100000) (hab : a ≤ b) :
    Calls Try.prog 22 #[.slice (some ⟨g, 0, none⟩) xs.length c, .int .i64 a, .int .i64 b] w fun e w' => e = .returned (.tuple #[]) ∧ So .u64 31 w0 g rest xs w' := by
  have LESS := Lib.hid (fun x y W => less_ x y W)
  have HS := Lib.hid h; clear h
  go_enter Try.func22, Try.ntmps22
  go_wp2_with fail
  go_loopg [6] (b - a) (fun gh v6 wr => ∃ (i : Nat) (zs : List Int), a + 1 ≤ i ∧ i ≤ b + 1 ∧ gh = b + 1 - i ∧ v6 = .int .i64 i ∧ Hid (Sd .u64 31 w0 wr g rest xs zs))
  case atStart => exact ⟨a + 1, ys, Nat.le_refl _, by omega, by omega, by go_num, HS⟩
  case round =>
    clear HS
    obtain ⟨i, zs, hi1, hi2, rfl, rfl, HS⟩ := hrel
    by_cases hib : i < b
    · go_wp2_with fail
      go_loopg [7] (i + 1) (fun gh v7 wx => ∃ (j : Nat) (zs : List Int), a ≤ j ∧ j ≤ i ∧ gh = j + 1 ∧ v7 = .int .i64 j ∧ Hid (Sd .u64 31 w0 wx g rest xs zs))
      case atStart => exact ⟨i, zs, by omega, by omega, rfl, rfl, HS⟩
      case round =>
        clear HS
        obtain ⟨j, zs, hj1, hj2, rfl, rfl, HS⟩ := hrel
        by_cases hja : a < j
        · have hl := HS.out.len
          have hj3 : j < zs.length := by omega
          have hj4 : j - 1 < zs.length := by omega
          have hcj := HS.out.cell hj3
          have hck := HS.out.cell hj4
          have hsw := HS.out.swap hj3 hj4
          have hsw2 := HS.out.swap hj4 hj3
          have fj := HS.out.blk.frozen j
          have fk := HS.out.blk.frozen (j - 1)
          have gl := HS.out.blk.lt
          have hw1 : IntKind.i64.wrap ((j : Int) - 1) = ((j - 1 : Nat) : Int) := by rw [IntKind.wrap_i64]; omega
          have hd : decide ((a : Int) < (j : Int)) = true := decide_eq_true (by omega)
          have hd2 : decide (a < j) = true := decide_eq_true hja
          have hnj : (j : Int) < (xs.length : Int) := by omega
          have hnk : ((j - 1 : Nat) : Int) < (xs.length : Int) := by omega
          have HSW := Lib.hid hsw; clear hsw
          have HSW2 := Lib.hid hsw2; clear hsw2
          have HLL := Lib.hid hl; clear hl hj3 hj4
          generalize zs.getD j 0 = x at *
          generalize zs.getD (j - 1) 0 = y at *
          generalize hkk : j - 1 = k at *
          have hne1 : ¬ j = k := by omega
          have hne2 : ¬ k = j := by omega
          by_cases hxy : x < y
          · have hdx : decide (x < y) = true := decide_eq_true hxy
            go_wp2_with fail
            go_quiet ((go_at_call 28; first | exact Calls.quiet_of (LESS.out _ _ _) | (refine (LESS.out _ _ _).mono ?_; rintro e w'' ⟨rfl, q, rfl⟩; exact ⟨rfl, _, drewN3 _ _ _ _⟩)))
            go_wp2_with fail
            go_region
            all_goals (
              go_wp2_with fail
              go_roundg (k + 1)
              case measure => omega
              case rel => exact ⟨k, _, by omega, by omega, rfl, by go_num, (show Hid _ from HSW.out.same _ rfl rfl rfl rfl)⟩)
          · have hdx : decide (x < y) = false := decide_eq_false hxy
            go_wp2_with fail
            go_quiet ((go_at_call 28; first | exact Calls.quiet_of (LESS.out _ _ _) | (refine (LESS.out _ _ _).mono ?_; rintro e w'' ⟨rfl, q, rfl⟩; exact ⟨rfl, _, drewN3 _ _ _ _⟩)))
            go_wp2_with fail
            go_roundg (b + 1 - (i + 1))
            case measure => omega
            case rel => exact ⟨i + 1, zs, by omega, by omega, rfl, by go_num, (show Hid _ from HS.out.same _ rfl rfl rfl rfl)⟩
        · have hd : decide ((a : Int) < (j : Int)) = false := decide_eq_false (by omega)
          have hd2 : decide (a < j) = false := decide_eq_false hja
          go_wp2_with fail
          go_quiet ((go_at_call 28; first | exact Calls.quiet_of (LESS.out _ _ _) | (refine (LESS.out _ _ _).mono ?_; rintro e w'' ⟨rfl, q, rfl⟩; exact ⟨rfl, _, drewN3 _ _ _ _⟩)))
          go_wp2_with fail
          go_roundg (b + 1 - (i + 1))
          case measure => omega
          case rel => exact ⟨i + 1, zs, by omega, by omega, rfl, by go_num, (show Hid _ from HS.out.same _ rfl rfl rfl rfl)⟩
    · go_wp2
      go_end0
      exact ⟨rfl, zs, HS.out⟩
end Go.Proofs.Ythjefbfhpdbcjaa
