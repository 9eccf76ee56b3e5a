/- Package picks: Left, Clone, Some of nobody; layer 8's example; the document's Next. -/
import Derived.Test.YtlfnoailaoiedaaPicks2
namespace Go.Proofs.Ytlfnoailaoiedaa
open Go.RowKit
set_option linter.unusedVariables false
set_option linter.unusedSimpArgs false

set_option maxHeartbeats 400000 in
theorem picks_Left (g : Nat) (a : Option Addr) (c : Nat) (xs : List Int) (t : Int) (w : World) (h : Pk w g a c xs t) :
    Calls Try.prog 68 #[.pointer (some ⟨g, 0, none⟩)] w fun e w' => e = .returned (.int .i64 xs.length) ∧ w = w' := by
  have p0 := h.blk.cell 0
  simp only [List.getElem?_toArray, List.getElem?_cons_zero] at p0
  go_enter Try.func68, Try.ntmps68
  go_wp2
  go_ret
  exact ⟨rfl, rfl⟩
set_option maxHeartbeats 400000 in
theorem picks_Left_nil (w : World) :
    Calls Try.prog 68 #[.pointer none] w fun e w' => e = .returned (.int .i64 0) ∧ w = w' := by
  go_enter Try.func68, Try.ntmps68
  go_wp2
  go_ret
  exact ⟨rfl, rfl⟩
set_option maxHeartbeats 400000 in
theorem picks_Clone_nil (w : World) :
    Calls Try.prog 70 #[.pointer none] w fun e w' => e = .returned (.pointer none) ∧ w = w' := by
  go_enter Try.func70, Try.ntmps70
  go_wp2
  go_ret
  exact ⟨rfl, rfl⟩
set_option maxHeartbeats 400000 in
theorem picks_Some_nil (w : World) :
    Calls Try.prog 67 #[.pointer none, .int .i64 3, .int .i64 3] w fun e w' => e = .returned (.slice none 0 0) ∧ w = w' := by
  go_enter Try.func67, Try.ntmps67
  go_wp2
  refine wp_loop_rounds 1 ?_
  rw [rounds_succ]
  go_wp2_with (go_at_call 69; refine (picks_Next_nil _ _).mono ?_; rintro e w' ⟨rfl, rfl⟩)
  go_ret
  exact ⟨rfl, rfl⟩
set_option maxHeartbeats 400000 in
theorem picks_Some_bad (g : Nat) (w : World) :
    Calls Try.prog 67 #[.pointer (some ⟨g, 0, none⟩), .int .i64 0, .int .i64 3] w fun e w' => e = .returned (.slice none 0 0) ∧ w = w' := by
  go_enter Try.func67, Try.ntmps67
  go_wp2
  refine wp_loop_rounds 1 ?_
  rw [rounds_succ]
  go_wp2_with (go_at_call 69; refine (picks_Next_bad _ _ (by decide) _).mono ?_; rintro e w' ⟨rfl, rfl⟩)
  go_ret
  exact ⟨rfl, rfl⟩
set_option maxRecDepth 100000 in
set_option maxHeartbeats 1000000 in
theorem picks_Clone (g : Nat) (a : Option Addr) (c : Nat) (xs : List Int) (t : Int) (w : World) (h : Pk w g a c xs t) :
    Calls Try.prog 70 #[.pointer (some ⟨g, 0, none⟩)] w fun e w' => ∃ g' a' c', e = .returned (.pointer (some ⟨g', 0, none⟩)) ∧ Pk w' g' a' c' xs t ∧ w.heap.size ≤ g' ∧ Below w.heap.size w w' := by
  have p0 := h.blk.cell 0
  have p1 := h.blk.cell 1
  have pl := h.blk.lt
  simp only [List.getElem?_toArray, List.getElem?_cons_zero, List.getElem?_cons_succ] at p0 p1
  have HSL := Lib.hid h.sl
  have HLEN := Lib.hid h.len
  have HH := Lib.hid h; clear h
  go_enter Try.func70, Try.ntmps70
  go_wp2_with fail
  refine wp_region_mix_tail (fun w' => Below w.heap.size w w') 10 [(0, true), (1, true), (2, true), (3, true), (5, true), (6, true), (7, true), (8, true), (4, false), (9, true)] (by kernel_rfl) (by kernel_rfl) ((Below.refl _ _).drew) ?_
  refine ord_still rfl rfl (fun K hK => ?_); apply Exists.intro; refine ⟨fun w' hw' => ?_, ?_⟩; (obtain ⟨bc, bf⟩ := bcell hw'; go_simp; first | done | exact ⟨rfl, rfl⟩ | exact rfl); (go_simp; refine hK _ ?_; clear hK K)
  refine ord_still rfl rfl (fun K hK => ?_); apply Exists.intro; refine ⟨fun w' hw' => ?_, ?_⟩; (obtain ⟨bc, bf⟩ := bcell hw'; go_simp; first | done | exact ⟨rfl, rfl⟩ | exact rfl); (go_simp; refine hK _ ?_; clear hK K)
  refine ord_still rfl rfl (fun K hK => ?_); apply Exists.intro; refine ⟨fun w' hw' => ?_, ?_⟩; (obtain ⟨bc, bf⟩ := bcell hw'; go_simp; first | done | exact ⟨rfl, rfl⟩ | exact rfl); (go_simp; refine hK _ ?_; clear hK K)
  refine ord_still rfl rfl (fun K hK => ?_); apply Exists.intro; refine ⟨fun w' hw' => ?_, ?_⟩; (obtain ⟨bc, bf⟩ := bcell hw'; go_simp; first | done | exact ⟨rfl, rfl⟩ | exact rfl); (go_simp; refine hK _ ?_; clear hK K)
  refine ord_still rfl rfl (fun K hK => ?_); apply Exists.intro; refine ⟨fun w' hw' => ?_, ?_⟩; (obtain ⟨bc, bf⟩ := bcell hw'; go_simp; first | done | exact ⟨rfl, rfl⟩ | exact rfl); (go_simp; refine hK _ ?_; clear hK K)
  refine ord_still rfl rfl (fun K hK => ?_); apply Exists.intro; refine ⟨fun w' hw' => ?_, ?_⟩; (obtain ⟨bc, bf⟩ := bcell hw'; go_simp; first | done | exact ⟨rfl, rfl⟩ | exact rfl); (go_simp; refine hK _ ?_; clear hK K)
  refine ord_still rfl rfl (fun K hK => ?_); apply Exists.intro; refine ⟨fun w' hw' => ?_, ?_⟩; (obtain ⟨bc, bf⟩ := bcell hw'; go_simp; first | done | exact ⟨rfl, rfl⟩ | exact rfl); (go_simp; refine hK _ ?_; clear hK K)
  refine ord_still rfl rfl (fun K hK => ?_); apply Exists.intro; refine ⟨fun w' hw' => ?_, ?_⟩; (obtain ⟨bc, bf⟩ := bcell hw'; go_simp; first | done | exact ⟨rfl, rfl⟩ | exact rfl); (go_simp; refine hK _ ?_; clear hK K)
  refine ord_sole rfl rfl (fun K hK => ?_); go_simp
  refine (slices_Clone_i64 a c xs w.drew (HSL.out.below (Below.refl _ _).drew) HLEN.out).mono ?_
  rintro e w3 ⟨a3, c3, rfl, ho3, hn3, hb3⟩
  have hC1 : Below w.heap.size w w3 := below_step (Below.refl _ _).drew (Nat.le_refl _) hb3
  have HO3 := Lib.hid ho3; clear ho3
  clear hn3
  refine ⟨_, rfl, hC1, ?_⟩
  go_simp
  refine hK _ _ ?_; clear hK K
  refine ord_still rfl rfl (fun K hK => ?_); apply Exists.intro; refine ⟨fun w' hw' => ?_, ?_⟩; (obtain ⟨bc, bf⟩ := bcell hw'; go_simp; first | done | exact ⟨rfl, rfl⟩ | exact rfl); (go_simp; refine hK _ ?_; clear hK K)
  refine ord_nil ?_
  intro hC2
  simp only [List.drop_succ_cons, List.drop_zero]
  go_wp2_with fail
  go_ret
  exact ⟨w3.heap.size, a3, c3, rfl, ⟨Blk.new _ _ _, Sl.below (own_rd HO3.out) ((Below.refl _ _).alloc (Nat.le_refl _) _), HH.out.t0, HH.out.t1, HH.out.in_, HH.out.len⟩, hC1.size, hC1.alloc hC1.size _⟩

set_option maxRecDepth 100000 in
set_option maxHeartbeats 1000000 in
theorem law08_awake (w : World) :
    Calls Try.prog 64 #[] w fun e w' => e = .returned (.bool true) ∧ Below w.heap.size w w' := by
  have hof : pkL [7, -1] 0 3 6 = [1, 2, 0, 1, 2, 0] := by decide
  go_enter Try.func64, Try.ntmps64
  go_wp2_with (first | (go_at_call 111; refine (law07_Awake _).mono ?_; rintro e w1 ⟨rfl, hb⟩))
  refine (picks_New _ 2 [7, -1] _ (sl_new w1 .i64 3 [7, -1]) (by intro x hx; simp at hx; unfold I64; omega) (by decide)).mono ?_
  rintro e w2 ⟨g, a2, c2, rfl, hp, hg, hb2⟩
  have hb2' := below_step ((Below.refl w1.heap.size w1).alloc (Nat.le_refl _) (.cells (nums .i64 [7, -1]).toArray 3)) (by simp) hb2
  have hB2 := below_step hb hb.size hb2'
  have hgw : w.heap.size ≤ g := by have := hb.size; simp at hg; omega
  have hsome := picks_Some g a2 c2 [7, -1] 0 3 6 w2 hp (by decide) (by decide) (by decide) (by decide)
  rw [hof] at hsome
  go_wp2_with fail
  refine hsome.mono ?_
  rintro e w3 ⟨a3, c3, A4, c4, rfl, ho, hp3, hg3, -⟩
  have hB3 : Below w.heap.size w w3 := hB2.grown hg3 hB2.size (fun j hj => by cases hj; exact hgw)
  have hs3 : Sl .i64 w3 A4 c4 [1, 2, 0, 1, 2, 0] := own_rd ho
  clear hsome ho hp hp3
  go_wp2_with fail
  refine (slices_Equal_i64 _ _ _ 6 [1, 2, 0, 1, 2, 0] [1, 2, 0, 1, 2, 0] _ (hs3.below ((Below.refl _ _).alloc (Nat.le_refl _) _)) (sl_new w3 .i64 3 [1, 2, 0, 1, 2, 0]) (by decide) (by decide)).mono ?_
  rintro e w4 ⟨rfl, q, rfl⟩
  go_wp2
  go_ret
  exact ⟨rfl, below_drewN (hB3.alloc hB3.size _) q⟩

set_option maxRecDepth 100000 in
set_option maxHeartbeats 1000000 in
theorem law_PicksNone (w : World) :
    Calls Try.prog 13 #[] w fun e w' => e = .returned (.bool true) ∧ Below w.heap.size w w' := by
  go_enter Try.func13, Try.ntmps13
  go_wp2_with (first
    | (go_at_call 69; refine (picks_Next_nil _ _).mono ?_; rintro e w' ⟨rfl, rfl⟩)
    | (go_at_call 64; refine (law08_awake _).mono ?_; rintro e w1 ⟨rfl, hb⟩)
    | (go_at_call 68; refine (picks_Left_nil _).mono ?_; rintro e w' ⟨rfl, rfl⟩)
    | (go_at_call 67; refine (picks_Some_nil _).mono ?_; rintro e w' ⟨rfl, rfl⟩)
    | (go_at_call 70; refine (picks_Clone_nil _).mono ?_; rintro e w' ⟨rfl, rfl⟩))
  go_ret
  exact ⟨rfl, hb⟩
end Go.Proofs.Ytlfnoailaoiedaa
