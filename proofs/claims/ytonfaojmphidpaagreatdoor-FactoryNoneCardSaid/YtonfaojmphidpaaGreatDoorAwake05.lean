/- The wheel in order; the example of layer 5. -/
import Derived.Test.YtonfaojmphidpaaGreatDoorWheelDue
import Derived.Test.YtonfaojmphidpaaGreatDoorWheelClone
import Derived.Test.YtonfaojmphidpaaGreatDoorAwake03
namespace Go.Proofs.YtonfaojmphidpaaGreatDoor
open Go.RowKit Go.Maps
set_option linter.unusedVariables false
set_option linter.unusedSimpArgs false

theorem not_strike (T : List (Int × Int)) (k : Int) : k ∉ keysOf (strike T k) := by rw [keysOf_strike]; simp
def armT (T : List (Int × Int)) (k v : Int) : List (Int × Int) := insT (strike T k) (k, cAdd v 0)
theorem armT_perm (T : List (Int × Int)) (k v : Int) : ((k, cAdd v 0) :: strike T k).Perm (armT T k v) := insT_perm _ _
theorem armT_length (T : List (Int × Int)) (k v : Int) : (armT T k v).length = (strike T k).length + 1 := insT_length _ _
theorem armT_le (T : List (Int × Int)) (k v : Int) : (armT T k v).length ≤ T.length + 1 := by rw [armT_length]; have := List.length_filter_le (fun p : Int × Int => p.1 != k) T; unfold strike; omega
theorem armT_srt {T : List (Int × Int)} (h : Srt T) (k v : Int) : Srt (armT T k v) := insT_srt (h.strike k) (not_strike T k)
theorem wheel_NewS (w : World) :
    Calls Tryz.prog 166 #[] w fun e w' => ∃ g b, e = .returned (.pointer (some ⟨g, 0, none⟩)) ∧ Ws w' g b [] ∧ w.heap.size ≤ g ∧ w.heap.size ≤ b ∧ RowKit.Below w.heap.size w w' :=
  (wheel_New w).mono fun e w' ⟨g, b, h1, h2, h3, h4, h5⟩ => ⟨g, b, h1, ⟨h2, List.Pairwise.nil⟩, h3, h4, h5⟩
theorem wheel_ArmS (g b : Nat) (T : List (Int × Int)) (k v : Int) (w : World) (h : Ws w g b T) (hk : In64 k) (hv : In64 v) (hl : T.length ≤ 1024) (hf : k ∈ keysOf T ∨ T.length < 1024) :
    Calls Tryz.prog 167 #[.pointer (some ⟨g, 0, none⟩), .int .u64 k, .int .u64 v] w fun e w' => e = .returned (.int .i64 0) ∧ Ws w' g b (armT T k v) ∧ w.grownBy w' (some b) :=
  (wheel_Arm g b T k v w h.wh hk hv hl hf).mono fun e w' ⟨h1, h2, h3⟩ => ⟨h1, ⟨h2.perm (armT_perm T k v), armT_srt h.srt k v⟩, h3⟩
theorem wheel_ArmS_full (g b : Nat) (T : List (Int × Int)) (k v : Int) (w : World) (h : Ws w g b T) (hk : In64 k) (hv : In64 v) (hl : T.length ≤ 1024) (hf : k ∉ keysOf T ∧ 1024 ≤ T.length) :
    Calls Tryz.prog 167 #[.pointer (some ⟨g, 0, none⟩), .int .u64 k, .int .u64 v] w fun e w' => e = .returned (.int .i64 11) ∧ w = w' :=
  wheel_Arm_full g b T k v w h.wh hk hv hl hf
theorem wheel_LenS (g b : Nat) (T : List (Int × Int)) (w : World) (h : Ws w g b T) :
    Calls Tryz.prog 170 #[.pointer (some ⟨g, 0, none⟩)] w fun e w' => e = .returned (.int .i64 T.length) ∧ w = w' := wheel_Len g b T w h.wh
theorem in64_lit {x : Int} (h : 0 ≤ x ∧ x < 1000000) : In64 x := by unfold In64; omega
/-- The wheel's steps keep all that lay below. -/
theorem below_grown {w w1 w2 : World} (h : RowKit.Below w.heap.size w w1) {b : Nat} (hg : w1.grownBy w2 (some b)) (hb : w.heap.size ≤ b) : RowKit.Below w.heap.size w w2 := h.grown hg h.size (fun j hj => by cases hj; exact hb)

set_option maxRecDepth 100000 in
set_option maxHeartbeats 2000000 in
theorem law05_awake (w : World) :
    Calls Tryz.prog 165 #[] w fun e w' => e = .returned (.bool true) ∧ RowKit.Below w.heap.size w w' := by
  have a1 : armT [] 7 5 = [(7, 5)] := by decide
  have a2 : armT [(7, 5)] 3 5 = [(3, 5), (7, 5)] := by decide
  have a3 : armT [(3, 5), (7, 5)] 9 4 = [(9, 4), (3, 5), (7, 5)] := by decide
  have d1 : dueT [(9, 4), (3, 5), (7, 5)] 5 = [(9, 4), (3, 5), (7, 5)] := by decide
  have d2 : restT [(9, 4), (3, 5), (7, 5)] 5 = [] := by decide
  go_enter Tryz.func165, Tryz.ntmps165
  go_wp2_with fail
  refine (wheel_NewS _).mono ?_
  rintro e w1 ⟨g, b, rfl, s1, hg, hb, B1⟩
  go_wp2_with fail
  refine (wheel_ArmS g b _ _ _ _ s1 (in64_lit (by omega)) (in64_lit (by omega)) (by decide) (.inr (by decide))).mono ?_
  rintro e w2 ⟨rfl, s2, g2⟩
  rw [a1] at s2
  have B2 := below_grown B1 g2 hb
  go_wp2_with fail
  refine (wheel_ArmS g b _ _ _ _ s2 (in64_lit (by omega)) (in64_lit (by omega)) (by decide) (.inr (by decide))).mono ?_
  rintro e w3 ⟨rfl, s3, g3⟩
  rw [a2] at s3
  have B3 := below_grown B2 g3 hb
  go_wp2_with fail
  refine (wheel_ArmS g b _ _ _ _ s3 (in64_lit (by omega)) (in64_lit (by omega)) (by decide) (.inr (by decide))).mono ?_
  rintro e w4 ⟨rfl, s4, g4⟩
  rw [a3] at s4
  have B4 := below_grown B3 g4 hb
  go_wp2_with fail
  refine (law04_Awake _).mono ?_
  rintro e w5 ⟨rfl, b5⟩
  have s5 := s4.of_below b5
  have B5 := below_step B4 B4.size b5
  go_wp2_with fail
  refine (wheel_Due g b _ 5 _ s5 (by decide)).mono ?_
  rintro e w6 ⟨a, c, rfl, o6, s6, g6⟩
  rw [d1] at o6 ⊢
  rw [d2] at s6
  have B6 := below_grown B5 g6 hb
  have hs6 : Sl .u64 w6 a c [9, 3, 7] := own_rd o6
  clear s1 s2 s3 s4 s5 o6
  go_wp2_with fail
  refine (slices_Equal_u64 _ _ _ 3 [9, 3, 7] [9, 3, 7] _ (hs6.below ((RowKit.Below.refl _ _).alloc (Nat.le_refl _) _)) (sl_new w6 .u64 28 [9, 3, 7]) (by decide) (by decide)).mono ?_
  rintro e w7 ⟨rfl, q, rfl⟩
  have s7 := s6.of_below (below_drewN ((RowKit.Below.refl w6.heap.size w6).alloc (Nat.le_refl _) (.cells (nums .u64 [9, 3, 7]).toArray 28)) q)
  go_wp2_with fail
  refine (wheel_LenS g b _ _ s7).mono ?_
  rintro e w8 ⟨rfl, rfl⟩
  go_wp2_with fail
  go_ret
  exact ⟨rfl, below_drewN (B6.alloc B6.size _) q⟩
set_option maxHeartbeats 400000 in
theorem law05_Awake (w : World) :
    Calls Tryz.prog 161 #[] w fun e w' => e = .returned (.bool true) ∧ RowKit.Below w.heap.size w w' := by
  go_enter Tryz.func161, Tryz.ntmps161
  go_wp2_with (first | (go_at_call 165; refine (law05_awake _).mono ?_; rintro e w' ⟨rfl, hb⟩))
  go_ret
  exact ⟨rfl, hb⟩
end Go.Proofs.YtonfaojmphidpaaGreatDoor
