/- Chapter 11: slots: Park, Fill, Of, Take, Waiting, Clone. -/
import Derived.Test.YtonfaojmphidpaaGreatDoorSlotsD
namespace Go.Proofs.YtonfaojmphidpaaGreatDoor
open Go.RowKit
set_option linter.unusedVariables false
set_option linter.unusedSimpArgs false

theorem cellsOf_set {α : Type} {f : α → List Value} {s : Nat} (hf : ∀ x, (f x).length = s) {L : List α} {k j : Nat} {x y : α} {u : Value} (hk : L[k]? = some x) (hj : j < s) (hy : f y = (f x).set j u) : (cellsOf f L).set (k * s + j) u = cellsOf f (L.set k y) := by
  induction L generalizing k with
  | nil => simp at hk
  | cons z L ih =>
    cases k with
    | zero =>
      simp at hk; subst hk
      rw [Nat.zero_mul, Nat.zero_add, List.set_cons_zero, cellsOf_cons, cellsOf_cons, hy, List.set_append_left _ _ (by rw [hf]; exact hj)]
    | succ k =>
      rw [List.set_cons_succ, cellsOf_cons, cellsOf_cons, List.set_append_right _ _ (by rw [hf, Nat.succ_mul]; omega), hf, show (k + 1) * s + j - s = k * s + j by rw [Nat.succ_mul]; omega, ih (by simpa using hk)]
/-- One cell of a row of one's own is set. -/
theorem own_set {w : World} {base n c : Nat} {e : TypeId} {size : Nat} {b : Nat} {xs : List Value} (h : w.ownsRow base e size (.slice (some ⟨b, 0, none⟩) n c) n xs) (i : Nat) (hi : i < n * size) (u : Value) : (w.setCell ⟨b, i, none⟩ u).ownsRow base e size (.slice (some ⟨b, 0, none⟩) n c) n (xs.set i u) := by
  obtain ⟨hl, hv⟩ := h
  rcases hv with ⟨hv, _⟩ | ⟨g, cap, cur, hv, hb, hg, hn, hm, hs, ht⟩
  · cases hv
  · simp only [Value.slice.injEq, Option.some.injEq, Addr.mk.injEq, true_and, and_true] at hv
    obtain ⟨rfl, rfl⟩ := hv
    refine ⟨by rw [List.length_set]; exact hl, .inr ⟨b, c, cur.setIfInBounds i u, rfl, hb, (show Blk w b e cur from hg).put i u, hn, hm, by simpa using hs, ?_⟩⟩
    rw [← ht, Array.toList_setIfInBounds, List.take_set]

/-- Slots that have become L', where they were n in a row at A. -/
def SkTo (w : World) (B g : Nat) (A : Option Addr) (n c : Nat) (L' : List Sv) (w' : World) : Prop := ∃ A' c', Sk w' B g A' c' L' ∧ Grew w w' (fun k => k = g ∨ (Value.slice A n c).ownBlock = some k) ∧
  ((Value.slice A' L'.length c').ownBlock = (Value.slice A n c).ownBlock ∨ ∃ b, (Value.slice A' L'.length c').ownBlock = some b ∧ w.heap.size ≤ b)

set_option maxHeartbeats 1000000 in
theorem slots_Park_had (B g : Nat) (A : Option Addr) (c : Nat) (L : List Sv) (th d : Int) (w : World) (h : Sk w B g A c L) (hx : 0 ≤ fidx (fun x : Sv => x.th == th) L) :
    Calls Tryz.prog 30 #[.pointer (some ⟨g, 0, none⟩), .int .i64 th, .int .u64 d] w fun e w' => e = .returned (.int .i64 10) ∧ RowKit.Below w.heap.size w w' := by
  have hidx := slots_index B g A c L th w h
  generalize fidx (fun x : Sv => x.th == th) L = r at hidx hx
  have HIDX := Lib.hid hidx; clear hidx h
  go_enter Tryz.func30, Tryz.ntmps30
  go_wp2_with (go_at_call 84; refine HIDX.out.mono ?_; rintro e w1 ⟨rfl, hb⟩)
  go_ret
  exact ⟨rfl, hb⟩
set_option maxHeartbeats 1000000 in
theorem slots_Park_new (B g : Nat) (A : Option Addr) (c : Nat) (L : List Sv) (th d : Int) (w : World) (h : Sk w B g A c L) (hB : B ≤ w.heap.size) (hl : L.length < 1000) (hx : fidx (fun x : Sv => x.th == th) L < 0) :
    Calls Tryz.prog 30 #[.pointer (some ⟨g, 0, none⟩), .int .i64 th, .int .u64 d] w fun e w' => e = .returned (.int .i64 0) ∧ SkTo w B g A L.length c (L ++ [⟨th, d, 0⟩]) w' := by
  have hidx := slots_index B g A c L th w h
  generalize fidx (fun x : Sv => x.th == th) L = r at hidx hx
  have HIDX := Lib.hid hidx; clear hidx
  have HH := Lib.hid h; clear h
  go_enter Tryz.func30, Tryz.ntmps30
  go_wp2_with fail
  refine HIDX.out.mono ?_
  rintro e w1 ⟨rfl, hb⟩
  have hk1 := HH.out.of_below hb
  have p0 := hk1.blk.cell 0
  have p1 := hk1.blk.lt
  have hsz := hb.size
  simp only [List.getElem?_toArray, List.getElem?_cons_zero] at p0
  have HK1 := Lib.hid hk1; clear hk1
  have HB1 := Lib.hid hb; clear hb
  go_wp2_with (at_builtin; refine app_one w1 rfl (.tmp 19) (.tmp 23) 60 rfl B 75 (.agg #[.int .i64 0, .int .u64 0, .int .u64 0]) 3 24 Tryz.underlying60 Tryz.infoSlot rfl (by decide) (.slice A L.length c) L.length _ rfl HK1.out.row [.int .i64 th, .int .u64 d, .int .u64 0] rfl rfl (by simp [Value.oneCell']) (by omega) (by omega) (by omega) ?_; intro A2 c2 w2 h5 h6 h7; have k2 : Blk w2 g 141 #[.slice A L.length c] := (h6.block g p1 (fun e => HK1.out.ne e.symm)).trans HK1.out.blk; have q0 := k2.cell 0; have q1 := k2.frozen 0; have q2 := k2.lt; simp only [List.getElem?_toArray, List.getElem?_cons_zero] at q0; have H5 := Lib.hid h5; clear h5; have H7 := Lib.hid h7; clear h7; have K2 := Lib.hid k2; clear k2)
  go_ret
  have e1 : (L ++ [(⟨th, d, 0⟩ : Sv)]).length = L.length + 1 := by simp
  have e2 : cellsOf Sv.cells (L ++ [(⟨th, d, 0⟩ : Sv)]) = cellsOf Sv.cells L ++ [.int .i64 th, .int .u64 d, .int .u64 0] := by rw [cellsOf_snoc]; rfl
  have hap := own_apart H5.out K2.out (by decide)
  have hg1 : Grew w w1 (fun k => k = g ∨ (Value.slice A L.length c).ownBlock = some k) := Grew.of_below HB1.out _
  have hg2 : Grew w1 w2 (fun k => k = g ∨ (Value.slice A L.length c).ownBlock = some k) := Grew.of_grown h6 (fun k hk => .inr hk)
  have hg3 := Grew.set w2 ⟨g, 0, none⟩ (.slice A2 (L.length + 1) c2)
  refine ⟨rfl, A2, c2, ⟨?_, ?_, by rw [e1]; omega⟩, (hg1.trans hg2 (fun k _ hk => hk)).trans hg3 (fun k _ hk => .inl hk), ?_⟩
  · rw [e1]; exact K2.out.put 0 _
  · rw [e1, e2]; exact own_grew H5.out hg3 (fun k hk e => hap (by rw [hk, e]))
  · rw [e1]
    rcases H7.out with h7 | ⟨b, h7, h8⟩
    · exact .inl h7
    · exact .inr ⟨b, h7, by omega⟩
end Go.Proofs.YtonfaojmphidpaaGreatDoor
