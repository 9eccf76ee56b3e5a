/- Chapter 12: lists of each thread: Put. -/
import Derived.Test.YtonfaojmphidpaaGreatDoorLocA
namespace Go.Proofs.YtonfaojmphidpaaGreatDoor
open Go.RowKit
set_option linter.unusedVariables false
set_option linter.unusedSimpArgs false

def last4 (xs : List Int) : List Int := xs.drop (xs.length - 4)
theorem last4_len (xs : List Int) : (last4 xs).length = min xs.length 4 := by unfold last4; rw [List.length_drop]; omega
theorem Sl.dropN {k : IntKind} {w : World} {b off c : Nat} {xs : List Int} (h : Sl k w (some ⟨b, off, none⟩) c xs) (n : Nat) (hn : n ≤ xs.length) : Sl k w (some ⟨b, off + n, none⟩) (c - n) (xs.drop n) := by
  refine ⟨by rw [nums_length, Nat.mul_one], by have := h.le; rw [List.length_drop]; omega, (fun e => by cases e), fun h0 => ?_⟩
  rw [List.length_drop] at h0
  obtain ⟨b', off', ha, hb, hc⟩ := h.2.2.2 (by omega)
  cases ha
  refine ⟨b, off + n, rfl, hb, fun i v hi => ?_⟩
  rw [Nat.add_assoc]; exact hc (n + i) v (by simpa [nums] using hi)
theorem Sl.takeN {k : IntKind} {w : World} {a : Option Addr} {c : Nat} {xs : List Int} (h : Sl k w a c xs) (n : Nat) (hn : n ≤ xs.length) : Sl k w a c (xs.take n) := by
  refine ⟨by rw [nums_length, Nat.mul_one], by have := h.le; rw [List.length_take]; omega, h.2.2.1, fun h0 => ?_⟩
  rw [List.length_take] at h0
  obtain ⟨b, off, ha, hb, hc⟩ := h.2.2.2 (by omega)
  refine ⟨b, off, ha, hb, fun i v hi => hc i v ?_⟩
  rw [nums, List.getElem?_map] at hi ⊢
  rw [List.getElem?_take] at hi
  split at hi
  · exact hi
  · simp at hi

set_option maxHeartbeats 400000 in
theorem local_Put_no (g : Nat) (t : Int) (ht : t < 0 ∨ 8 ≤ t) (v : Value) (w : World) :
    Calls Tryz.prog 48 #[.pointer (some ⟨g, 0, none⟩), .int .i64 t, v] w fun e w' => e = .returned (.int .i64 2) ∧ w = w' := by
  have hh := local_has_no g t ht w
  clear ht
  go_enter Tryz.func48, Tryz.ntmps48
  go_wp2_with (go_at_call 90; refine hh.mono ?_; rintro e w' ⟨rfl, rfl⟩)
  go_ret
  exact ⟨rfl, rfl⟩

/-- The list k is another one; what lies in w stays, but for block g. -/
def LsPut (g : Nat) (F : List Ln) (k : Nat) (xs : List Int) (w w' : World) : Prop := ∃ l : Ln, l.xs = xs ∧ Ls w' g (F.set k l) ∧ Grew w w' (· = g) ∧ ∀ q, l.a = some q → w.heap.size ≤ q.block

set_option maxHeartbeats 2000000 in
theorem local_Put (g : Nat) (F : List Ln) (k : Nat) (l : Ln) (hk : F[k]? = some l) (a : Option Addr) (c : Nat) (ys : List Int) (w : World) (h : Ls w g F) (hy : Sl .u64 w a c ys) (hyl : ys.length ≤ 1000) :
    Calls Tryz.prog 48 #[.pointer (some ⟨g, 0, none⟩), .int .i64 k, .slice a ys.length c] w fun e w' => e = .returned (.int .i64 0) ∧ LsPut g F k (last4 (l.xs ++ ys)) w w' := by
  have hk8 : k < 8 := by have := (List.getElem?_eq_some_iff.1 hk).1; rw [h.n8] at this; exact this
  have hh := local_has_yes g k hk8 w
  have p0 := h.at_ hk
  have hm : l ∈ F := List.mem_of_getElem? hk
  have hll := h.len l hm
  have hcl := slices_Clone_u64 l.a l.c l.xs w (h.sl l hm) (by omega)
  have HCL := Lib.hid hcl; clear hcl
  have hlt := h.blk.lt
  have HY := Lib.hid hy; clear hy
  have HH := Lib.hid h; clear h hm hk
  go_enter Tryz.func48, Tryz.ntmps48
  go_wp2_with (go_at_call 90; refine hh.mono ?_; rintro e w' ⟨rfl, rfl⟩)
  refine HCL.out.mono ?_
  rintro e w1 ⟨a1, c1, rfl, ho1, -, hb1⟩
  have HO1 := Lib.hid ho1; clear ho1
  have HY1 := Lib.hid (HY.out.below hb1)
  have HB1 := Lib.hid hb1; clear hb1 HCL
  have hsz := HB1.out.size
  go_wp2_with (at_builtin; refine app_own _ rfl _ _ 39 rfl w.heap.size 28 (.int .u64 0) 1 8 Tryz.underlying39 Tryz.infoU rfl (by decide) (.slice a1 l.xs.length c1) l.xs.length (nums .u64 l.xs) rfl HO1.out _ ys.length c (nums .u64 ys) rfl HY1.out (nums_one _ _) (by omega) (by omega) hsz ?_; intro A2 c2 w2 h2 h3 h4)
  have hb2 : RowKit.Below w.heap.size w w2 := HB1.out.grown h3 hsz (fun z hz => own_base HO1.out z hz)
  have hm : (l.xs ++ ys).length = l.xs.length + ys.length := by simp
  have hown : w2.ownsRow w.heap.size 28 1 (.slice A2 (l.xs.length + ys.length) c2) (l.xs.length + ys.length) (nums .u64 (l.xs ++ ys)) := by
    rw [show nums .u64 (l.xs ++ ys) = nums .u64 l.xs ++ nums .u64 ys by simp [nums]]; exact h2
  have h2w := HH.out.of_below hb2
  have q0 : w2.cell? ⟨g, k, none⟩ = some (.slice l.a l.xs.length l.c) := by rw [hb2.cell (p := ⟨g, k, none⟩) hlt]; exact p0
  have q1 := h2w.blk.frozen k
  have q2 := h2w.blk.lt
  have HB2 := Lib.hid hb2; clear hb2 h2w
  clear h2 h3 h4
  have hs2 : Sl .u64 w2 A2 c2 (l.xs ++ ys) := by unfold Sl; rw [hm]; exact own_rd hown
  have HS2 := Lib.hid hs2; clear hs2
  have hbase : ∀ q, A2 = some q → w.heap.size ≤ q.block := fun q hq => by subst hq; exact (own_addr hown).1
  have HBASE := Lib.hid hbase; clear hbase
  by_cases hn : l.xs.length + ys.length ≤ 4
  · have hl4 : last4 (l.xs ++ ys) = l.xs ++ ys := by unfold last4; rw [hm, show l.xs.length + ys.length - 4 = 0 by omega, List.drop_zero]
    have HL4 := Lib.hid hl4; clear hl4
    have HM := Lib.hid hm; clear hm
    have HOWN := Lib.hid hown; clear hown
    generalize hnn : l.xs.length + ys.length = n at *
    have HNN := Lib.hid hnn; clear hnn
    have hwr : IntKind.i64.wrap ((n : Int) - 4) = (n : Int) - 4 := by rw [IntKind.wrap_i64]; omega
    have hmx : max (0 : Int) ((n : Int) - 4) = 0 := by omega
    go_region
    go_wp2
    go_ret
    have hl : (⟨A2, c2, l.xs ++ ys⟩ : Ln).val = .slice A2 n c2 := by unfold Ln.val; rw [HM.out]
    have ht := HH.out.turn HB2.out hk8 ⟨A2, c2, l.xs ++ ys⟩ HS2.out (by rw [HM.out]; exact hn)
    rw [hl] at ht
    exact ⟨rfl, ⟨A2, c2, l.xs ++ ys⟩, HL4.out.symm, ht.of_below (Below.refl _ _).drew, ((Grew.of_below HB2.out _).trans (Grew.set w2 ⟨g, k, none⟩ _) (fun z _ hz => hz)).drew, fun q hq => HBASE.out q hq⟩
  · have hl4 : last4 (l.xs ++ ys) = (l.xs ++ ys).drop (l.xs.length + ys.length - 4) := by unfold last4; rw [hm]
    have HL4 := Lib.hid hl4; clear hl4
    have HOWN := Lib.hid hown; clear hown
    obtain ⟨b2, off2, rfl, -, -⟩ := HS2.out.at_ (by rw [hm]; omega)
    have hle := HS2.out.le
    rw [hm] at hle
    have HM := Lib.hid hm; clear hm
    have hnb : l.xs.length + ys.length ≤ 1004 := by omega
    generalize hnn : l.xs.length + ys.length = n at *
    have HNN := Lib.hid hnn; clear hnn
    have hwr : IntKind.i64.wrap ((n : Int) - 4) = (n : Int) - 4 := by rw [IntKind.wrap_i64]; omega
    have hmx : max (0 : Int) ((n : Int) - 4) = (n : Int) - 4 := by omega
    have e0 : (0 : Int) ≤ (n : Int) - 4 := by omega
    have e1 : ((n : Int) - 4).toNat = n - 4 := by omega
    have e2 : (n : Int) - 4 ≤ (n : Int) := by omega
    have e3 : ¬ c2 = n - 4 := by clear hwr hmx e1; omega
    have e4 : n - (n - 4) = 4 := by omega
    have e5 : n - 4 ≤ c2 := by omega
    have e6 : n - 4 ≤ n := by omega
    go_region
    go_wp2
    go_ret
    have hl : (⟨some ⟨b2, off2 + (n - 4), none⟩, c2 - (n - 4), (l.xs ++ ys).drop (n - 4)⟩ : Ln).val = .slice (some ⟨b2, off2 + (n - 4), none⟩) 4 (c2 - (n - 4)) := by unfold Ln.val; rw [List.length_drop, HM.out, e4]
    have ht := HH.out.turn HB2.out hk8 ⟨some ⟨b2, off2 + (n - 4), none⟩, c2 - (n - 4), (l.xs ++ ys).drop (n - 4)⟩ (HS2.out.dropN (n - 4) (by rw [HM.out]; omega)) (by rw [List.length_drop, HM.out, e4]; omega)
    rw [hl] at ht
    exact ⟨rfl, ⟨some ⟨b2, off2 + (n - 4), none⟩, c2 - (n - 4), (l.xs ++ ys).drop (n - 4)⟩, HL4.out.symm, ht.of_below (Below.refl _ _).drew, ((Grew.of_below HB2.out _).trans (Grew.set w2 ⟨g, k, none⟩ _) (fun z _ hz => hz)).drew, fun q hq => by cases hq; exact HBASE.out ⟨b2, off2, none⟩ rfl⟩

set_option maxHeartbeats 400000 in
theorem local_Take_no (g : Nat) (t : Int) (ht : t < 0 ∨ 8 ≤ t) (w : World) :
    Calls Tryz.prog 49 #[.pointer (some ⟨g, 0, none⟩), .int .i64 t] w fun e w' => e = .returned (.tuple #[.int .u64 0, .bool false]) ∧ w = w' := by
  have hh := local_has_no g t ht w
  clear ht
  go_enter Tryz.func49, Tryz.ntmps49
  go_wp2_with (go_at_call 90; refine hh.mono ?_; rintro e w' ⟨rfl, rfl⟩)
  go_ret2
  exact ⟨rfl, rfl⟩
set_option maxHeartbeats 1000000 in
theorem local_Take_empty (g : Nat) (F : List Ln) (k : Nat) (l : Ln) (hk : F[k]? = some l) (w : World) (h : Ls w g F) (he : l.xs = []) :
    Calls Tryz.prog 49 #[.pointer (some ⟨g, 0, none⟩), .int .i64 k] w fun e w' => e = .returned (.tuple #[.int .u64 0, .bool false]) ∧ w = w' := by
  have hk8 : k < 8 := by have := (List.getElem?_eq_some_iff.1 hk).1; rw [h.n8] at this; exact this
  have hh := local_has_yes g k hk8 w
  have p0 := h.at_ hk
  have hlt := h.blk.lt
  rw [he] at p0
  clear he hk h
  go_enter Tryz.func49, Tryz.ntmps49
  go_wp2_with (go_at_call 90; refine hh.mono ?_; rintro e w' ⟨rfl, rfl⟩)
  go_ret2
  exact ⟨rfl, rfl⟩

/-- The list k has lost its last number. -/
def LsTaken (g : Nat) (F : List Ln) (k : Nat) (l : Ln) (w w' : World) : Prop := Ls w' g (F.set k ⟨l.a, l.c, l.xs.dropLast⟩) ∧ Grew w w' (· = g)
set_option maxHeartbeats 2000000 in
theorem local_Take (g : Nat) (F : List Ln) (k : Nat) (l : Ln) (x : Int) (hk : F[k]? = some l) (w : World) (h : Ls w g F) (hx : l.xs.getLast? = some x) :
    Calls Tryz.prog 49 #[.pointer (some ⟨g, 0, none⟩), .int .i64 k] w fun e w' => e = .returned (.tuple #[.int .u64 x, .bool true]) ∧ LsTaken g F k l w w' := by
  have hk8 : k < 8 := by have := (List.getElem?_eq_some_iff.1 hk).1; rw [h.n8] at this; exact this
  have hh := local_has_yes g k hk8 w
  have p0 := h.at_ hk
  have hlt := h.blk.lt
  have p1 := h.blk.frozen k
  have hm : l ∈ F := List.mem_of_getElem? hk
  have hl4 := h.len l hm
  have hs := h.sl l hm
  have hn0 : l.xs ≠ [] := by intro e; rw [e] at hx; cases hx
  have hpos : 0 < l.xs.length := List.length_pos_iff.2 hn0
  obtain ⟨la, lc, xs⟩ := l
  dsimp only at *
  obtain ⟨b, off, rfl, hb, hc⟩ := hs.at_ hpos
  have c0 := hc (xs.length - 1) (by omega)
  have hxg : xs.getD (xs.length - 1) 0 = x := by
    rw [List.getLast?_eq_getElem?] at hx
    rw [List.getD_eq_getElem?_getD, hx]; rfl
  rw [hxg] at c0
  have hdl : xs.dropLast = xs.take (xs.length - 1) := List.dropLast_eq_take
  have hle := hs.le
  have HDL := Lib.hid hdl; clear hdl
  have HS := Lib.hid hs; clear hs
  have HH := Lib.hid h; clear h hk hm hx hxg hc hn0
  have HLT : Hid ((xs.take (xs.length - 1)).length = xs.length - 1) := by unfold Hid; rw [List.length_take]; omega
  generalize hnn : xs.length = n at *
  have HNN := Lib.hid hnn; clear hnn
  have hwr : IntKind.i64.wrap ((n : Int) - 1) = (n : Int) - 1 := by rw [IntKind.wrap_i64]; omega
  have e0 : (0 : Int) ≤ (n : Int) - 1 := by omega
  have e1 : ((n : Int) - 1).toNat = n - 1 := by omega
  have e2 : (n : Int) - 1 < (n : Int) := by omega
  have e3 : n - 1 ≤ lc := by omega
  have e4 : (n : Int) - 1 ≤ (lc : Int) := by omega
  have e5 : ((n : Int) == 0) = false := by simp; omega
  go_enter Tryz.func49, Tryz.ntmps49
  go_wp2_with (go_at_call 90; refine hh.mono ?_; rintro e w' ⟨rfl, rfl⟩)
  go_region
  go_wp2
  go_ret2
  have hlv : (⟨some ⟨b, off, none⟩, lc, xs.dropLast⟩ : Ln).val = .slice (some ⟨b, off, none⟩) (n - 1) lc := by unfold Ln.val; rw [HDL.out]; show Value.slice _ (xs.take (n - 1)).length _ = _; rw [HLT.out]
  have hsl : Sl .u64 w (some ⟨b, off, none⟩) lc xs.dropLast := by rw [HDL.out]; exact HS.out.takeN (n - 1) (by rw [HNN.out]; omega)
  have ht := HH.out.turn (Below.refl _ _) hk8 ⟨some ⟨b, off, none⟩, lc, xs.dropLast⟩ hsl (by show xs.dropLast.length ≤ 4; rw [HDL.out, HLT.out]; omega)
  rw [hlv] at ht
  exact ⟨rfl, ht.of_below (Below.refl _ _).drew, (Grew.set w ⟨g, k, none⟩ _).drew⟩
end Go.Proofs.YtonfaojmphidpaaGreatDoor
