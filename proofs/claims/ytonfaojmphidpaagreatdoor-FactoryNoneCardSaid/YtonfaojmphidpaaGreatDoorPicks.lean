/- Package picks: whose turn it is. -/
import Derived.Test.YtonfaojmphidpaaGreatDoorSlInt
import Derived.Test.YtonfaojmphidpaaGreatDoorMix
namespace Go.Proofs.YtonfaojmphidpaaGreatDoor
open Go.RowKit
set_option linter.unusedVariables false
set_option linter.unusedSimpArgs false

def I64 (x : Int) : Prop := -9223372036854775808 ≤ x ∧ x ≤ 9223372036854775807
/-- Block g is picks: the numbers xs are left; it went in turn t times. -/
structure Pk (w : World) (g : Nat) (a : Option Addr) (c : Nat) (xs : List Int) (t : Int) : Prop where
  blk : Blk w g 192 #[.slice a xs.length c, .int .u64 t]
  sl : Sl .i64 w a c xs
  t0 : 0 ≤ t
  t1 : t < 1000000000000
  in_ : ∀ x ∈ xs, I64 x
  len : xs.length ≤ 1000000
theorem Pk.of_below {w w' : World} {g : Nat} {a : Option Addr} {c : Nat} {xs : List Int} {t : Int} (h : Pk w g a c xs t) (hb : Below w.heap.size w w') : Pk w' g a c xs t := ⟨h.blk.of_below hb, h.sl.below hb, h.t0, h.t1, h.in_, h.len⟩
/-- The slice's cells lie in another block. -/
theorem Sl.apart {w : World} {a : Option Addr} {c : Nat} {xs : List Int} (h : Sl .i64 w a c xs) {g : Nat} {t : TypeId} {x : Option Addr} {y z : Nat} {u : Int} (hb : Blk w g t #[.slice x y z, .int .u64 u]) (h0 : 0 < xs.length) : ∀ q, a = some q → q.block ≠ g := by
  intro q hq e
  obtain ⟨b, off, ha, hb', hc⟩ := h.at_ h0
  rw [ha] at hq; cases hq
  dsimp only at e; subst e
  have h1 := hb.cell off
  have h2 := hc 0 h0
  rw [Nat.add_zero, h1] at h2
  match off, h2 with
  | 0, h2 => simp at h2
  | 1, h2 => simp at h2
  | (n + 2), h2 => simp at h2
theorem Sl.keptI {w w' : World} {a : Option Addr} {c : Nat} {xs : List Int} (h : Sl .i64 w a c xs) {g : Nat} {t : TypeId} {x : Option Addr} {y z : Nat} {u : Int} (hb : Blk w g t #[.slice x y z, .int .u64 u]) (hg : w.grownBy w' (some g)) : Sl .i64 w' a c xs := by
  by_cases h0 : 0 < xs.length
  · exact Rd.keep h hg.size (r := g) (fun k hk hne => hg.block k hk (fun e => hne (Option.some.inj e))) (h.apart hb h0)
  · exact ⟨h.1, h.2.1, h.2.2.1, fun h1 => absurd h1 h0⟩

set_option maxHeartbeats 400000 in
theorem picks_New (a : Option Addr) (c : Nat) (xs : List Int) (w : World) (h : Sl .i64 w a c xs) (hin : ∀ x ∈ xs, I64 x) (hl : xs.length ≤ 1000000) :
    Calls Tryz.prog 114 #[.slice a xs.length c] w fun e w' => ∃ g a' c', e = .returned (.pointer (some ⟨g, 0, none⟩)) ∧ Pk w' g a' c' xs 0 ∧ w.heap.size ≤ g ∧ Below w.heap.size w w' := by
  go_enter Tryz.func114, Tryz.ntmps114
  go_wp2_with (go_at_call 127; refine (slices_Clone_i64 a c xs w h hl).mono ?_; rintro e w1 ⟨a', c', rfl, ho, hn, hb⟩)
  go_ret
  exact ⟨w1.heap.size, a', c', rfl, ⟨Blk.new _ _ _, Sl.below (own_rd ho) ((Below.refl _ _).alloc (Nat.le_refl _) _), Int.le_refl _, by decide, hin, hl⟩, hb.size, hb.alloc hb.size _⟩

theorem emod_tmod (x n : Int) (hn : 1 ≤ n) : x % n = if x.tmod n < 0 then x.tmod n + n else x.tmod n := by
  rcases Int.le_total 0 x with hx | hx
  · have h2 := Int.emod_nonneg x (show n ≠ 0 by omega)
    rw [Int.tmod_eq_emod_of_nonneg hx, if_neg (by omega)]
  · obtain ⟨y, rfl⟩ : ∃ y, x = -y := ⟨-x, by omega⟩
    have hy : 0 ≤ y := by omega
    have h2 := Int.emod_nonneg y (show n ≠ 0 by omega)
    have h3 := Int.emod_lt_of_pos y (show 0 < n by omega)
    have h4 : (-y) % n = (-(y % n)) % n := by
      have e : -y = -(y % n) + n * (-(y / n)) := by
        have := Int.emod_add_mul_ediv y n
        rw [Int.mul_neg]; omega
      conv => lhs; rw [e]
      rw [Int.add_mul_emod_self_left]
    rw [Int.neg_tmod, Int.tmod_eq_emod_of_nonneg hy, h4]
    generalize y % n = r at *
    by_cases h0 : r = 0
    · subst h0; simp
    · rw [if_pos (by omega)]
      have e : -r = (-r + n) + n * (-1) := by rw [Int.mul_neg]; omega
      conv => lhs; rw [e]
      rw [Int.add_mul_emod_self_left]
      exact Int.emod_eq_of_lt (by omega) (by omega)
theorem grown_set (w : World) (g i : Nat) (u : Value) : w.grownBy (w.setCell ⟨g, i, none⟩ u) (some g) :=
  ⟨rfl, rfl, rfl, by rw [size_setCell]; exact Nat.le_refl _, fun k hk hne => Below.heap_setCell w _ u k (fun e => hne (by rw [e]))⟩
theorem Sl.tail1 {k : IntKind} {w : World} {b off c : Nat} {x : Int} {xs : List Int} (h : Sl k w (some ⟨b, off, none⟩) c (x :: xs)) : Sl k w (some ⟨b, off + 1, none⟩) (c - 1) xs := by
  refine ⟨by rw [nums_length, Nat.mul_one], by have := h.le; simp at this; omega, (fun e => by cases e), fun h0 => ?_⟩
  obtain ⟨b', off', ha, hb, hc⟩ := h.2.2.2 (by simp)
  cases ha
  refine ⟨b, off + 1, rfl, hb, fun i v hi => ?_⟩
  rw [Nat.add_assoc, Nat.add_comm 1 i]; exact hc (i + 1) v (by simpa [nums] using hi)
theorem wrap64_in {x : Int} (h0 : -9223372036854775808 ≤ x) (h1 : x ≤ 9223372036854775807) : RowKit.wrap64 x = x := by unfold RowKit.wrap64; omega

set_option maxHeartbeats 400000 in
theorem picks_Next_bad (g : Nat) (n : Int) (hn : n < 1) (w : World) :
    Calls Tryz.prog 128 #[.pointer (some ⟨g, 0, none⟩), .int .i64 n] w fun e w' => e = .returned (.tuple #[.int .i64 0, .bool false]) ∧ w = w' := by
  go_enter Tryz.func128, Tryz.ntmps128
  go_wp2
  go_ret2
  exact ⟨rfl, rfl⟩
set_option maxHeartbeats 400000 in
theorem picks_Next_nil (n : Int) (w : World) :
    Calls Tryz.prog 128 #[.pointer none, .int .i64 n] w fun e w' => e = .returned (.tuple #[.int .i64 0, .bool false]) ∧ w = w' := by
  go_enter Tryz.func128, Tryz.ntmps128
  go_wp2
  go_ret2
  exact ⟨rfl, rfl⟩
set_option maxHeartbeats 1000000 in
theorem picks_Next_turn (g : Nat) (a : Option Addr) (c : Nat) (t n : Int) (w : World) (h : Pk w g a c [] t) (hn : 1 ≤ n) (hn2 : n ≤ 9223372036854775807) (ht : t + 1 < 1000000000000) :
    Calls Tryz.prog 128 #[.pointer (some ⟨g, 0, none⟩), .int .i64 n] w fun e w' => e = .returned (.tuple #[.int .i64 (t % n), .bool true]) ∧ Pk w' g a c [] (t + 1) ∧ w.grownBy w' (some g) := by
  have p0 := h.blk.cell 0
  have p1 := h.blk.cell 1
  have p2 := h.blk.frozen 1
  have h0 := h.t0
  simp only [List.getElem?_toArray, List.getElem?_cons_zero, List.getElem?_cons_succ, List.length_nil] at p0 p1
  have hr0 := Int.emod_nonneg t (show n ≠ 0 by omega)
  have hr1 := Int.emod_lt_of_pos t (show 0 < n by omega)
  have hw : RowKit.wrap64 (t % n) = t % n := wrap64_in (by omega) (by omega)
  clear hr0 hr1
  go_enter Tryz.func128, Tryz.ntmps128
  go_wp2
  go_ret2
  refine ⟨?_, ⟨(h.blk.put 1 (.int .u64 (t + 1))), h.sl.keptI h.blk (grown_set _ _ _ _), by omega, ht, h.in_, h.len⟩, grown_set _ _ _ _⟩
  show Ending.returned (.tuple #[.int .i64 (RowKit.wrap64 (t % n)), .bool true]) = _
  rw [hw]
set_option maxHeartbeats 1000000 in
theorem picks_Next_pick (g : Nat) (a : Option Addr) (c : Nat) (x : Int) (xs : List Int) (t n : Int) (w : World) (h : Pk w g a c (x :: xs) t) (hn : 1 ≤ n) (hn2 : n ≤ 9223372036854775807) :
    Calls Tryz.prog 128 #[.pointer (some ⟨g, 0, none⟩), .int .i64 n] w fun e w' => ∃ a' c', e = .returned (.tuple #[.int .i64 (x % n), .bool true]) ∧ Pk w' g a' c' xs t ∧ w.grownBy w' (some g) ∧ (∀ q', a' = some q' → ∃ q, a = some q ∧ q'.block = q.block) := by
  obtain ⟨b, off, rfl, hb, hc⟩ := h.sl.at_ (by simp)
  have c0 := hc 0 (by simp)
  have p0 := h.blk.cell 0
  have p1 := h.blk.frozen 0
  simp only [List.getElem?_toArray, List.getElem?_cons_zero, List.getElem?_cons_succ, List.length_cons, Nat.add_zero, List.getD_cons_zero] at p0 c0
  have hle := h.sl.le
  have hx := h.in_ x List.mem_cons_self
  unfold I64 at hx
  rw [emod_tmod x n hn]
  clear hc
  have HH := Lib.hid h; clear h
  by_cases hneg : x.tmod n < 0
  · rw [if_pos hneg]
    have hlt := Int.lt_tmod_of_pos x (show 0 < n by omega)
    have hw : RowKit.wrap64 (x.tmod n + n) = x.tmod n + n := wrap64_in (by omega) (by omega)
    clear hlt
    go_enter Tryz.func128, Tryz.ntmps128
    go_wp2
    · have h := HH.out
      have hxs : xs = [] := List.eq_nil_of_length_eq_zero (by simp at hle; omega)
      subst hxs
      go_ret2
      exact ⟨rfl, some ⟨b, off, none⟩, ⟨0, ⟨h.blk.put 0 _, ⟨rfl, Nat.le_refl _, (fun e => by cases e), fun h0 => absurd h0 (by simp)⟩, h.t0, h.t1, (fun y hy => by cases hy), by simp⟩⟩, grown_set _ _ _ _, fun q' hq => by cases hq; rfl⟩
    · have h := HH.out
      go_ret2
      exact ⟨rfl, some ⟨b, off + 1, none⟩, ⟨c - 1, ⟨h.blk.put 0 _, (h.sl.keptI h.blk (grown_set w g 0 _)).tail1, h.t0, h.t1, (fun y hy => h.in_ y (List.mem_cons_of_mem _ hy)), by have := h.len; simp at this; omega⟩⟩, grown_set _ _ _ _, fun q' hq => by cases hq; rfl⟩
  · rw [if_neg hneg]
    have hneg' : decide (x.tmod n < 0) = false := decide_eq_false hneg
    go_enter Tryz.func128, Tryz.ntmps128
    go_wp2
    · have h := HH.out
      have hxs : xs = [] := List.eq_nil_of_length_eq_zero (by simp at hle; omega)
      subst hxs
      go_ret2
      exact ⟨rfl, some ⟨b, off, none⟩, ⟨0, ⟨h.blk.put 0 _, ⟨rfl, Nat.le_refl _, (fun e => by cases e), fun h0 => absurd h0 (by simp)⟩, h.t0, h.t1, (fun y hy => by cases hy), by simp⟩⟩, grown_set _ _ _ _, fun q' hq => by cases hq; rfl⟩
    · have h := HH.out
      go_ret2
      exact ⟨rfl, some ⟨b, off + 1, none⟩, ⟨c - 1, ⟨h.blk.put 0 _, (h.sl.keptI h.blk (grown_set w g 0 _)).tail1, h.t0, h.t1, (fun y hy => h.in_ y (List.mem_cons_of_mem _ hy)), by have := h.len; simp at this; omega⟩⟩, grown_set _ _ _ _, fun q' hq => by cases hq; rfl⟩
end Go.Proofs.YtonfaojmphidpaaGreatDoor
