/- The document's Next of layer 8. -/
import Derived.Test.YtlfnoailaoiedaaPicks3
namespace Go.Proofs.Ytlfnoailaoiedaa
open Go.RowKit
set_option linter.unusedVariables false
set_option linter.unusedSimpArgs false

set_option maxRecDepth 100000 in
set_option maxHeartbeats 1000000 in
theorem ref08_Next_turn (a : Option Addr) (c : Nat) (t n : Int) (w : World) (ht0 : 0 ≤ t) (ht : t + 1 < 1000000000000) (hn : 1 ≤ n) (hn2 : n ≤ 9223372036854775807) :
    Calls Try.prog 71 #[.agg #[.slice a 0 c, .int .i64 t], .int .i64 n] w fun e w' => e = .returned (.tuple #[.agg #[.slice none 0 0, .int .i64 (t + 1)], .int .i64 (t % n)]) ∧ Below w.heap.size w w' := by
  have htm : t.tmod n = t % n := Int.tmod_eq_emod_of_nonneg ht0
  have hne : n ≠ 0 := by omega
  have hB0 : Below w.heap.size w ((w.alloc (.cells #[.slice a 0 c, .int .i64 t] 118)).alloc (.cells #[.slice none 0 0, .int .i64 0] 118)) := ((Below.refl _ _).alloc (Nat.le_refl _) _).alloc (by simp) _
  have k1 := (Blk.new w 118 #[.slice a 0 c, .int .i64 t]).alloc (.cells #[.slice none 0 0, .int .i64 0] 118)
  have k2 := Blk.new (w.alloc (.cells #[.slice a 0 c, .int .i64 t] 118)) 118 #[.slice none 0 0, .int .i64 0]
  rw [size_alloc] at k2
  go_enter Try.func71, Try.ntmps71
  go_wp2_with fail
  generalize hW : (w.alloc (.cells #[.slice a 0 c, .int .i64 t] 118)).alloc (.cells #[.slice none 0 0, .int .i64 0] 118) = W at *
  have p0 := k1.cell 0
  have p1 := k1.cell 1
  have pl := k1.lt
  have q0 := k2.cell 0
  have q1 := k2.cell 1
  have q2 := k2.frozen 0
  have q3 := k2.frozen 1
  simp only [List.getElem?_toArray, List.getElem?_cons_zero, List.getElem?_cons_succ] at p0 p1 q0 q1
  clear hW
  go_region
  go_wp2_with fail
  have k3 := ((k2.put 0 (.slice none 0 0)).put 1 (.int .i64 (t + 1))).drew
  have r0 := k3.cell 0
  have r1 := k3.cell 1
  simp only [List.setIfInBounds_toArray, List.set_cons_zero, List.set_cons_succ, List.getElem?_toArray, List.getElem?_cons_zero, List.getElem?_cons_succ] at r0 r1
  refine bodyPost_ret (v := .tuple #[.agg #[.slice none 0 0, .int .i64 (t + 1)], .int .i64 (t % n)]) (by simp [results, Try.results71, go_sem, r0, r1]) rfl ?_
  exact ⟨rfl, ((hB0.setCell (by simp) _).setCell (by simp) _).drew⟩

set_option maxRecDepth 100000 in
set_option maxHeartbeats 1000000 in
theorem ref08_Next_pick (a : Option Addr) (c : Nat) (x : Int) (xs : List Int) (t n : Int) (w : World) (h : Sl .i64 w a c (x :: xs)) (hx : I64 x) (hl : xs.length ≤ 100000) (hn : 1 ≤ n) (hn2 : n ≤ 9223372036854775807) :
    Calls Try.prog 71 #[.agg #[.slice a (xs.length + 1) c, .int .i64 t], .int .i64 n] w fun e w' => ∃ a' c', e = .returned (.tuple #[.agg #[.slice a' xs.length c', .int .i64 t], .int .i64 (x % n)]) ∧ Sl .i64 w' a' c' xs ∧ Below w.heap.size w w' ∧ (∀ q', a' = some q' → ∃ q, a = some q ∧ q'.block = q.block) := by
  obtain ⟨b, off, rfl, hb, hc⟩ := h.at_ (by simp)
  have c0' := hc 0 (by simp)
  simp only [List.getD_cons_zero, Nat.add_zero] at c0'
  clear hc
  have hle : xs.length + 1 ≤ c := by have := h.le; simpa using this
  unfold I64 at hx
  rw [emod_tmod x n hn]
  have hne : n ≠ 0 := by omega
  have HH := Lib.hid h; clear h
  have hB0 : Below w.heap.size w ((w.alloc (.cells #[.slice (some ⟨b, off, none⟩) (xs.length + 1) c, .int .i64 t] 118)).alloc (.cells #[.slice none 0 0, .int .i64 0] 118)) := ((Below.refl _ _).alloc (Nat.le_refl _) _).alloc (by simp) _
  have k1 := (Blk.new w 118 #[.slice (some ⟨b, off, none⟩) (xs.length + 1) c, .int .i64 t]).alloc (.cells #[.slice none 0 0, .int .i64 0] 118)
  have k2 := Blk.new (w.alloc (.cells #[.slice (some ⟨b, off, none⟩) (xs.length + 1) c, .int .i64 t] 118)) 118 #[.slice none 0 0, .int .i64 0]
  rw [size_alloc] at k2
  have c0 := (hB0.cell (p := ⟨b, off, none⟩) hb).trans c0'
  clear c0'
  by_cases hneg : x.tmod n < 0
  · rw [if_pos hneg]
    by_cases hc1 : c = 1
    · have hlt := Int.lt_tmod_of_pos x (show 0 < n by omega)
      have hw : RowKit.wrap64 (x.tmod n + n) = x.tmod n + n := wrap64_in (by omega) (by omega)
      clear hlt
      have hxs := Lib.hid (show xs = [] from List.eq_nil_of_length_eq_zero (by omega))
      subst hc1
      go_enter Try.func71, Try.ntmps71
      go_wp2_with fail
      generalize hW : (w.alloc _).alloc (.cells #[.slice none 0 0, .int .i64 0] 118) = W at *
      have p0 := k1.cell 0
      have p1 := k1.cell 1
      have pl := k1.lt
      have q0 := k2.cell 0
      have q1 := k2.cell 1
      have q2 := k2.frozen 0
      have q3 := k2.frozen 1
      simp only [List.getElem?_toArray, List.getElem?_cons_zero, List.getElem?_cons_succ] at p0 p1 q0 q1
      clear hW
      go_region
      go_wp2_with fail
      have k3 := ((k2.put 0 (.slice (some ⟨b, off, none⟩) 0 0)).put 1 (.int .i64 t)).drew
      have r0 := k3.cell 0
      have r1 := k3.cell 1
      simp only [List.setIfInBounds_toArray, List.set_cons_zero, List.set_cons_succ, List.getElem?_toArray, List.getElem?_cons_zero, List.getElem?_cons_succ] at r0 r1
      refine bodyPost_ret (v := .tuple #[.agg #[.slice (some ⟨b, off, none⟩) 0 0, .int .i64 t], .int .i64 (x.tmod n + n)]) (by simp [results, Try.results71, go_sem, r0, r1]; try exact hw) rfl ?_
      have HBF := ((hB0.setCell (p := ⟨w.heap.size + 1, 0, none⟩) (by simp) (.slice (some ⟨b, off, none⟩) 0 0)).setCell (p := ⟨w.heap.size + 1, 1, none⟩) (by simp) (.int .i64 t)).drew
      exact ⟨some ⟨b, off, none⟩, 0, (by rw [hxs.out]; rfl), (by rw [hxs.out]; exact ⟨rfl, Nat.le_refl _, (fun e => by cases e), fun h0 => absurd h0 (by simp)⟩), HBF, fun q' hq => by cases hq; exact ⟨_, rfl, rfl⟩⟩
    · have hlt := Int.lt_tmod_of_pos x (show 0 < n by omega)
      have hw : RowKit.wrap64 (x.tmod n + n) = x.tmod n + n := wrap64_in (by omega) (by omega)
      clear hlt
      have hc1' : ¬ (c = 1) := hc1
      go_enter Try.func71, Try.ntmps71
      go_wp2_with fail
      generalize hW : (w.alloc _).alloc (.cells #[.slice none 0 0, .int .i64 0] 118) = W at *
      have p0 := k1.cell 0
      have p1 := k1.cell 1
      have pl := k1.lt
      have q0 := k2.cell 0
      have q1 := k2.cell 1
      have q2 := k2.frozen 0
      have q3 := k2.frozen 1
      simp only [List.getElem?_toArray, List.getElem?_cons_zero, List.getElem?_cons_succ] at p0 p1 q0 q1
      clear hW
      go_region
      go_wp2_with fail
      have k3 := ((k2.put 0 (.slice (some ⟨b, off + 1, none⟩) xs.length (c - 1))).put 1 (.int .i64 t)).drew
      have r0 := k3.cell 0
      have r1 := k3.cell 1
      simp only [List.setIfInBounds_toArray, List.set_cons_zero, List.set_cons_succ, List.getElem?_toArray, List.getElem?_cons_zero, List.getElem?_cons_succ] at r0 r1
      refine bodyPost_ret (v := .tuple #[.agg #[.slice (some ⟨b, off + 1, none⟩) xs.length (c - 1), .int .i64 t], .int .i64 (x.tmod n + n)]) (by simp [results, Try.results71, go_sem, r0, r1]; try exact hw) rfl ?_
      have HBF := ((hB0.setCell (p := ⟨w.heap.size + 1, 0, none⟩) (by simp) (.slice (some ⟨b, off + 1, none⟩) xs.length (c - 1))).setCell (p := ⟨w.heap.size + 1, 1, none⟩) (by simp) (.int .i64 t)).drew
      exact ⟨some ⟨b, off + 1, none⟩, c - 1, rfl, (HH.out.tail1).below HBF, HBF, fun q' hq => by cases hq; exact ⟨_, rfl, rfl⟩⟩
  · rw [if_neg hneg]
    by_cases hc1 : c = 1
    · have hneg' : decide (x.tmod n < 0) = false := decide_eq_false hneg
      have hxs := Lib.hid (show xs = [] from List.eq_nil_of_length_eq_zero (by omega))
      subst hc1
      go_enter Try.func71, Try.ntmps71
      go_wp2_with fail
      generalize hW : (w.alloc _).alloc (.cells #[.slice none 0 0, .int .i64 0] 118) = W at *
      have p0 := k1.cell 0
      have p1 := k1.cell 1
      have pl := k1.lt
      have q0 := k2.cell 0
      have q1 := k2.cell 1
      have q2 := k2.frozen 0
      have q3 := k2.frozen 1
      simp only [List.getElem?_toArray, List.getElem?_cons_zero, List.getElem?_cons_succ] at p0 p1 q0 q1
      clear hW
      go_region
      go_wp2_with fail
      have k3 := ((k2.put 0 (.slice (some ⟨b, off, none⟩) 0 0)).put 1 (.int .i64 t)).drew
      have r0 := k3.cell 0
      have r1 := k3.cell 1
      simp only [List.setIfInBounds_toArray, List.set_cons_zero, List.set_cons_succ, List.getElem?_toArray, List.getElem?_cons_zero, List.getElem?_cons_succ] at r0 r1
      refine bodyPost_ret (v := .tuple #[.agg #[.slice (some ⟨b, off, none⟩) 0 0, .int .i64 t], .int .i64 (x.tmod n)]) (by simp [results, Try.results71, go_sem, r0, r1]; try exact hw) rfl ?_
      have HBF := ((hB0.setCell (p := ⟨w.heap.size + 1, 0, none⟩) (by simp) (.slice (some ⟨b, off, none⟩) 0 0)).setCell (p := ⟨w.heap.size + 1, 1, none⟩) (by simp) (.int .i64 t)).drew
      exact ⟨some ⟨b, off, none⟩, 0, (by rw [hxs.out]; rfl), (by rw [hxs.out]; exact ⟨rfl, Nat.le_refl _, (fun e => by cases e), fun h0 => absurd h0 (by simp)⟩), HBF, fun q' hq => by cases hq; exact ⟨_, rfl, rfl⟩⟩
    · have hneg' : decide (x.tmod n < 0) = false := decide_eq_false hneg
      have hc1' : ¬ (c = 1) := hc1
      go_enter Try.func71, Try.ntmps71
      go_wp2_with fail
      generalize hW : (w.alloc _).alloc (.cells #[.slice none 0 0, .int .i64 0] 118) = W at *
      have p0 := k1.cell 0
      have p1 := k1.cell 1
      have pl := k1.lt
      have q0 := k2.cell 0
      have q1 := k2.cell 1
      have q2 := k2.frozen 0
      have q3 := k2.frozen 1
      simp only [List.getElem?_toArray, List.getElem?_cons_zero, List.getElem?_cons_succ] at p0 p1 q0 q1
      clear hW
      go_region
      go_wp2_with fail
      have k3 := ((k2.put 0 (.slice (some ⟨b, off + 1, none⟩) xs.length (c - 1))).put 1 (.int .i64 t)).drew
      have r0 := k3.cell 0
      have r1 := k3.cell 1
      simp only [List.setIfInBounds_toArray, List.set_cons_zero, List.set_cons_succ, List.getElem?_toArray, List.getElem?_cons_zero, List.getElem?_cons_succ] at r0 r1
      refine bodyPost_ret (v := .tuple #[.agg #[.slice (some ⟨b, off + 1, none⟩) xs.length (c - 1), .int .i64 t], .int .i64 (x.tmod n)]) (by simp [results, Try.results71, go_sem, r0, r1]; try exact hw) rfl ?_
      have HBF := ((hB0.setCell (p := ⟨w.heap.size + 1, 0, none⟩) (by simp) (.slice (some ⟨b, off + 1, none⟩) xs.length (c - 1))).setCell (p := ⟨w.heap.size + 1, 1, none⟩) (by simp) (.int .i64 t)).drew
      exact ⟨some ⟨b, off + 1, none⟩, c - 1, rfl, (HH.out.tail1).below HBF, HBF, fun q' hq => by cases hq; exact ⟨_, rfl, rfl⟩⟩
theorem ref08_Next (a : Option Addr) (c : Nat) (xs : List Int) (t n : Int) (w : World) (h : Sl .i64 w a c xs) (hin : ∀ x ∈ xs, I64 x) (hl : xs.length ≤ 100000) (ht0 : 0 ≤ t) (ht : t + 1 < 1000000000000) (hn : 1 ≤ n) (hn2 : n ≤ 9223372036854775807) :
    Calls Try.prog 71 #[.agg #[.slice a xs.length c, .int .i64 t], .int .i64 n] w fun e w' => ∃ a' c', e = .returned (.tuple #[.agg #[.slice a' (xs.drop 1).length c', .int .i64 (pkT xs t 1)], .int .i64 (pkV xs t n 0)]) ∧
      Sl .i64 w' a' c' (xs.drop 1) ∧ Below w.heap.size w w' ∧ (∀ q', a' = some q' → ∃ q, a = some q ∧ q'.block = q.block) := by
  cases xs with
  | nil => exact (ref08_Next_turn a c t n w ht0 ht hn hn2).mono fun e w' ⟨h1, h2⟩ => ⟨none, 0, by rw [h1]; simp [pkT, pkV], Rd.nil_ _ _, h2, fun q hq => by cases hq⟩
  | cons x xs => exact (ref08_Next_pick a c x xs t n w h (hin x List.mem_cons_self) (by simp at hl; omega) hn hn2).mono fun e w' ⟨a', c', h1, h2, h3, h4⟩ => ⟨a', c', by rw [h1]; simp [pkT, pkV], h2, h3, h4⟩
end Go.Proofs.Ytlfnoailaoiedaa
