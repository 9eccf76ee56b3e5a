/- Chapter 10: the factory: IDs, New, Clone. -/
import Derived.Test.YtonfaojmphidpaaGreatDoorFacB
import Derived.Shelf.SlMaps.Clone
namespace Go.Proofs
open Go.RowKit Go.Shelf
def Tryz.cloneB_ren : Go.Shelf.Ren := ⟨fun | 5 => 79 | 7 => 102 | n => n, fun | 23 => 27 | 25 => 28 | 3 => 4 | 4 => 4 | 20 => 20 | n => n, fun | n => n⟩
theorem Tryz.cloneB : Go.Proofs.SlLaysW.n5 Tryz.prog Tryz.cloneB_ren := {
  mixed := by kernel_rfl
  f5 := ⟨Tryz.f79.name, by decide, Tryz.func79.trans (congrArg some (by kernel_rfl))⟩
  f7 := Tryz.func102.trans (congrArg some (by kernel_rfl))
  t4 := Tryz.underlying4
  a4 := Tryz.isAgg4
  z4 := Tryz.sizeOf4
  v4 := Tryz.zeroValue4
  t20 := Tryz.underlying20
  a20 := Tryz.isAgg20
  z20 := Tryz.sizeOf20
  v20 := Tryz.zeroValue20
  t23 := Tryz.underlying27
  a23 := Tryz.isAgg27
  z23 := Tryz.sizeOf27
  v23 := Tryz.zeroValue27 }
end Go.Proofs
namespace Go.Proofs.YtonfaojmphidpaaGreatDoor
open Go.RowKit Go.Maps
set_option linter.unusedVariables false
set_option linter.unusedSimpArgs false

/-- The ids from 1 to k that are not in S. -/
def openIds (S : List Int) : Nat → List Int
  | 0 => []
  | k + 1 => openIds S k ++ if ((k : Int) + 1) ∈ S then [] else [(k : Int) + 1]
theorem openIds_le (S : List Int) (k : Nat) : (openIds S k).length ≤ k := by
  induction k with
  | zero => simp [openIds]
  | succ k ih => rw [openIds, List.length_append]; split <;> simp <;> omega
theorem known_is (t : Nat) (S : List Int) (k : Nat) (hk : k < t) : (knownF t S ((k : Int) + 1) 10 == 0) = decide (((k : Int) + 1) ∉ S) := by
  unfold knownF
  rw [if_neg (by omega)]
  by_cases h : ((k : Int) + 1) ∈ S <;> simp [h]

set_option maxHeartbeats 2000000 in
theorem factory_IDs (g b : Nat) (a1 : Option Addr) (c1 : Nat) (xs : List Bool) (a2 : Option Addr) (c2 : Nat) (ys : List Bool) (t : Nat) (S : List Int) (w : World) (h : Fc w g b a1 c1 xs a2 c2 ys t S) :
    Calls Tryz.prog 22 #[.pointer (some ⟨g, 0, none⟩)] w fun e w' => ∃ A' c', e = .returned (.slice A' (openIds S t).length c') ∧ w'.ownsRow w.heap.size 28 1 (.slice A' (openIds S t).length c') (openIds S t).length (nums .u64 (openIds S t)) ∧ RowKit.Below w.heap.size w w' := by
  have hop := factory_Opened g b a1 c1 xs a2 c2 ys t S w h
  have ht1 := h.t1
  have HOP := Lib.hid hop; clear hop
  have HH := Lib.hid h; clear h
  go_enter Tryz.func22, Tryz.ntmps22
  go_wp2_with (go_at_call 20; refine HOP.out.mono ?_; rintro e w' ⟨rfl, rfl⟩)
  go_loopw [3, 7] (fun v i wr => ∃ (k : Nat) (Y : List Int) (A1 : Option Addr) (c1 : Nat), k ≤ t ∧ i = .int .u64 k ∧ Y = openIds S k ∧ v = .slice A1 Y.length c1 ∧ wr.ownsRow w.heap.size 28 1 (.slice A1 Y.length c1) Y.length (nums .u64 Y) ∧ RowKit.Below w.heap.size w wr) (fun _ i _ => t - (intOf i).toNat)
  case atStart => exact ⟨0, [], none, 0, Nat.zero_le _, rfl, rfl, rfl, World.ownsRow_nil _ _ _ _, Below.refl _ _⟩
  case round =>
    obtain ⟨k, Y, A1, c1', hk, rfl, hY, rfl, ho, hB⟩ := hrel
    have hyl : Y.length ≤ k := by rw [hY]; exact openIds_le S k
    have HY := Lib.hid hY; clear hY
    have HO := Lib.hid ho; clear ho
    have HB := Lib.hid hB; clear hB
    have hws := HB.out.size
    by_cases hlt : k < t
    · have hin : In64 ((k : Int) + 1) := ⟨by omega, by omega⟩
      have his := factory_IsOpen g b a1 c1 xs a2 c2 ys t S ((k : Int) + 1) wr (HH.out.of_below HB.out) hin
      rw [known_is t S k hlt] at his
      by_cases hm : ((k : Int) + 1) ∈ S
      · have hs : openIds S (k + 1) = Y := by rw [openIds, if_pos hm, List.append_nil, HY.out]
        have HS := Lib.hid hs; clear hs
        rw [decide_eq_false (by simpa using hm)] at his
        have HIS := Lib.hid his; clear his hm
        go_wp2_with (go_at_call 19; refine HIS.out.mono ?_; rintro e w' ⟨rfl, rfl⟩)
        go_roundw
        case rel => exact ⟨k + 1, Y, A1, c1', by omega, by go_num, HS.out.symm, rfl, HO.out, HB.out⟩
        case measure => simp [intOf]; omega
      · have hs : openIds S (k + 1) = Y ++ [(k : Int) + 1] := by rw [openIds, if_neg hm, HY.out]
        have HS := Lib.hid hs; clear hs
        rw [decide_eq_true hm] at his
        have HIS := Lib.hid his; clear his hm
        go_wp2_with (first
          | (go_at_call 19; refine HIS.out.mono ?_; rintro e w' ⟨rfl, rfl⟩)
          | (at_builtin; refine app_one wr rfl (.tmp 14) (.tmp 17) 39 rfl w.heap.size 28 (.int .u64 0) 1 8 Tryz.underlying39 Tryz.infoU rfl (by decide) (.slice A1 Y.length c1') Y.length _ rfl HO.out [.int .u64 ((k : Int) + 1)] rfl rfl (by simp [Value.oneCell']) (by omega) (by omega) hws ?_; intro A2 c2 w2 h5 h6 h7))
        have e1 : (Y ++ [(k : Int) + 1]).length = Y.length + 1 := by simp
        have e2 : nums .u64 (Y ++ [(k : Int) + 1]) = nums .u64 Y ++ [.int .u64 ((k : Int) + 1)] := by simp [nums]
        go_roundw
        case rel => exact ⟨k + 1, Y ++ [(k : Int) + 1], A2, c2, by omega, by go_num, HS.out.symm, by rw [e1], by rw [e1, e2]; exact h5, HB.out.grown h6 hws (fun z hz => own_base HO.out z hz)⟩
        case measure => simp [intOf]; omega
    · have : k = t := by omega
      subst this
      have HY2 := HY.out
      clear HY
      subst HY2
      go_wp2
      go_ret
      exact ⟨A1, c1', rfl, HO.out, HB.out⟩

set_option maxHeartbeats 1000000 in
theorem factory_New (a1 : Option Addr) (c1 : Nat) (xs : List Bool) (a2 : Option Addr) (c2 : Nat) (ys : List Bool) (w : World) (h1 : Bs w a1 c1 xs) (h2 : Bs w a2 c2 ys) (hl1 : xs.length ≤ 1000) (hl2 : ys.length ≤ 1000) :
    Calls Tryz.prog 15 #[.slice a1 xs.length c1, .slice a2 ys.length c2] w fun e w' => ∃ g b a1' c1' a2' c2', e = .returned (.pointer (some ⟨g, 0, none⟩)) ∧ Fc w' g b a1' c1' xs a2' c2' ys 0 [] ∧ w.heap.size ≤ g ∧ w.heap.size ≤ b ∧ RowKit.Below w.heap.size w w' := by
  have hmm := @run_makeMap Tryz.prog
  have hcl1 := slices_Clone_bool a1 xs.length c1 (bools xs) w h1 (bools_one xs) (by omega)
  have hcl2 := fun w' (hb : RowKit.Below w.heap.size w w') => slices_Clone_bool a2 ys.length c2 (bools ys) w' (h2.below hb) (bools_one ys) (by omega)
  have HC1 := Lib.hid hcl1; clear hcl1
  have HC2 := Lib.hid hcl2; clear hcl2
  go_enter Tryz.func15, Tryz.ntmps15
  go_wp2_with fail
  refine HC1.out.mono ?_
  rintro e w1 ⟨b1, d1, rfl, ho1, -, hb1⟩
  have HO1 := Lib.hid ho1; clear ho1
  have HB1 := Lib.hid hb1; clear hb1
  go_wp2_with fail
  refine (HC2.out _ HB1.out).mono ?_
  rintro e w2 ⟨b2, d2, rfl, ho2, -, hb2⟩
  have HO2 := Lib.hid ho2; clear ho2
  have HB2 := Lib.hid hb2; clear hb2
  go_wp2_with fail
  go_ret
  have hb02 := below_step HB1.out HB1.out.size HB2.out
  have hbm := (Below.refl w2.heap.size w2).alloc (Nat.le_refl _) (.map #[] 0)
  have hbf := hbm.alloc hbm.size (.cells #[.slice b1 xs.length d1, .slice b2 ys.length d2, .int .u64 0, .map (some w2.heap.size)] 131)
  have hkf := Blk.new (w2.alloc (.map #[] 0)) 131 #[.slice b1 xs.length d1, .slice b2 ys.length d2, .int .u64 0, .map (some w2.heap.size)]
  have hr1 : Bs w1 b1 d1 xs := own_rd HO1.out
  have hr2 : Bs w2 b2 d2 ys := own_rd HO2.out
  have hs := St.made w2
  have hsz := hb02.size
  refine ⟨(w2.alloc (.map #[] 0)).heap.size, w2.heap.size, b1, d1, b2, d2, by simp, ⟨hkf, (hr1.below HB2.out).below hbf, hr2.below hbf, hs.of_below ((Below.refl _ _).alloc (Nat.le_refl _) _), by omega, by omega, (fun k hk => by cases hk), hl1, hl2⟩, by rw [size_alloc]; omega, hsz, ?_⟩
  exact (hb02.alloc hsz _).alloc (by rw [size_alloc]; omega) _
end Go.Proofs.YtonfaojmphidpaaGreatDoor
