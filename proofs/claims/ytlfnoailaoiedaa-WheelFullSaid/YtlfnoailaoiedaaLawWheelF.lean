/- The walks of layer 5's laws: WheelFull, WheelAgain. -/
import Derived.Test.YtlfnoailaoiedaaLawWheel
namespace Go.Proofs.Ytlfnoailaoiedaa
open Go.RowKit Go.Maps
set_option linter.unusedVariables false
set_option linter.unusedSimpArgs false

/-! A nil wheel. -/
set_option maxHeartbeats 400000 in
theorem wheel_At_nil (k : Int) (w : World) :
    Calls Try.prog 40 #[.pointer none, .int .u64 k] w fun e w' => e = .returned (.tuple #[.int .u64 0, .bool false]) ∧ w = w' := by
  go_enter Try.func40, Try.ntmps40
  go_wp2
  go_ret2
  exact ⟨rfl, rfl⟩
set_option maxHeartbeats 400000 in
theorem wheel_Disarm_nil (k : Int) (w : World) :
    Calls Try.prog 41 #[.pointer none, .int .u64 k] w fun e w' => e = .returned (.bool false) ∧ w = w' := by
  go_enter Try.func41, Try.ntmps41
  go_wp2_with (go_at_call 40; refine (wheel_At_nil _ _).mono ?_; rintro e w' ⟨rfl, rfl⟩)
  go_ret
  exact ⟨rfl, rfl⟩
set_option maxHeartbeats 400000 in
theorem wheel_Arm_nil (k v : Int) (w : World) :
    Calls Try.prog 36 #[.pointer none, .int .u64 k, .int .u64 v] w fun e w' => e = .returned (.int .i64 1) ∧ w = w' := by
  go_enter Try.func36, Try.ntmps36
  go_wp2
  go_ret
  exact ⟨rfl, rfl⟩
set_option maxHeartbeats 400000 in
theorem wheel_Len_nil (w : World) :
    Calls Try.prog 38 #[.pointer none] w fun e w' => e = .returned (.int .i64 0) ∧ w = w' := by
  go_enter Try.func38, Try.ntmps38
  go_wp2
  go_ret
  exact ⟨rfl, rfl⟩
set_option maxHeartbeats 400000 in
theorem wheel_Clone_nil (w : World) :
    Calls Try.prog 39 #[.pointer none] w fun e w' => e = .returned (.pointer none) ∧ w = w' := by
  go_enter Try.func39, Try.ntmps39
  go_wp2
  go_ret
  exact ⟨rfl, rfl⟩
set_option maxHeartbeats 400000 in
theorem wheel_keys_nil (w : World) :
    Calls Try.prog 103 #[.pointer none] w fun e w' => e = .returned (.slice none 0 0) ∧ RowKit.Below w.heap.size w w' := by
  go_enter Try.func103, Try.ntmps103
  go_wp2
  go_ret
  exact ⟨rfl, (RowKit.Below.refl _ _).alloc (Nat.le_refl _) _⟩
set_option maxHeartbeats 400000 in
theorem wheel_Next_nil (w : World) :
    Calls Try.prog 46 #[.pointer none] w fun e w' => e = .returned (.tuple #[.int .u64 0, .bool false]) ∧ RowKit.Below w.heap.size w w' := by
  go_enter Try.func46, Try.ntmps46
  go_wp2_with (go_at_call 103; refine (wheel_keys_nil _).mono ?_; rintro e w1 ⟨rfl, hb⟩)
  go_ret2
  exact ⟨rfl, hb⟩
set_option maxHeartbeats 400000 in
theorem wheel_Due_nil (v : Int) (w : World) :
    Calls Try.prog 37 #[.pointer none, .int .u64 v] w fun e w' => e = .returned (.slice none 0 0) ∧ RowKit.Below w.heap.size w w' := by
  go_enter Try.func37, Try.ntmps37
  go_wp2_with (go_at_call 103; refine (wheel_keys_nil _).mono ?_; rintro e w1 ⟨rfl, hb⟩)
  refine wp_loop_rounds 1 ?_
  rw [rounds_succ]
  go_wp2
  go_ret
  exact ⟨rfl, hb⟩

theorem keysOf_append (A B : List (Int × Int)) : keysOf (A ++ B) = keysOf A ++ keysOf B := by simp [keysOf]
/-! The full wheel. -/
def idT (n : Nat) : List (Int × Int) := (List.range n).map fun (i : Nat) => ((i : Int), (i : Int))
theorem idT_length (n : Nat) : (idT n).length = n := by simp [idT]
theorem idT_succ (n : Nat) : idT (n + 1) = idT n ++ [((n : Int), (n : Int))] := by simp [idT, List.range_succ]
theorem mem_idT {n : Nat} {p : Int × Int} : p ∈ idT n ↔ ∃ i : Nat, i < n ∧ p = ((i : Int), (i : Int)) := by
  unfold idT; rw [List.mem_map]
  exact ⟨fun ⟨i, h1, h2⟩ => ⟨i, List.mem_range.1 h1, h2.symm⟩, fun ⟨i, h1, h2⟩ => ⟨i, List.mem_range.2 h1, h2.symm⟩⟩
theorem keys_idT {n : Nat} {k : Int} : k ∈ keysOf (idT n) ↔ 0 ≤ k ∧ k < n := by
  unfold keysOf; rw [List.mem_map]
  constructor
  · rintro ⟨p, hp, rfl⟩
    obtain ⟨i, hi, rfl⟩ := mem_idT.1 hp
    dsimp only; omega
  · rintro ⟨h0, h1⟩
    exact ⟨(k, k), mem_idT.2 ⟨k.toNat, by omega, by rw [Int.toNat_of_nonneg h0]⟩, rfl⟩
theorem armT_idT (n : Nat) (h : n ≤ 1024) : armT (idT n) n n = idT (n + 1) := by
  have hs : strike (idT n) n = idT n := strike_of_not fun hm => by have := (keys_idT.1 hm).2; omega
  have hc : cAdd (n : Int) 0 = n := by unfold cAdd; split <;> omega
  unfold armT
  rw [hs, hc, insT_of (k := (idT n).length) (fun p hp => ?_) (.inl (Nat.le_refl _)), List.take_length, List.drop_length, idT_succ]
  rw [List.take_length] at hp
  obtain ⟨i, hi, rfl⟩ := mem_idT.1 hp
  left; dsimp only; omega
theorem mem_keys_armT {T : List (Int × Int)} {k v x : Int} : x ∈ keysOf (armT T k v) ↔ x = k ∨ x ∈ keysOf T := by
  have hp : (keysOf ((k, cAdd v 0) :: strike T k)).Perm (keysOf (armT T k v)) := (armT_perm T k v).map _
  rw [← hp.mem_iff]
  show x ∈ k :: keysOf (strike T k) ↔ _
  rw [List.mem_cons, keysOf_strike, List.mem_filter]
  by_cases e : x = k <;> simp [e]
theorem mem_keys_strike {T : List (Int × Int)} {k x : Int} : x ∈ keysOf (strike T k) ↔ x ∈ keysOf T ∧ x ≠ k := by
  rw [keysOf_strike, List.mem_filter]; simp
theorem armT_len_in {T : List (Int × Int)} (h : (keysOf T).Nodup) {k : Int} (hk : k ∈ keysOf T) (v : Int) : (armT T k v).length = T.length := by
  have := length_strike h k; rw [if_pos hk] at this; rw [armT_length]; omega
theorem armT_len_out {T : List (Int × Int)} {k : Int} (hk : k ∉ keysOf T) (v : Int) : (armT T k v).length = T.length + 1 := by
  rw [armT_length, strike_of_not hk]
theorem strike_len_in {T : List (Int × Int)} (h : (keysOf T).Nodup) {k : Int} (hk : k ∈ keysOf T) : (strike T k).length + 1 = T.length := by
  have := length_strike h k; rw [if_pos hk] at this; exact this

set_option maxRecDepth 100000 in
set_option maxHeartbeats 2000000 in
theorem law_WheelFull (w : World) :
    Calls Try.prog 8 #[] w fun e w' => e = .returned (.bool true) ∧ RowKit.Below w.heap.size w w' := by
  go_enter Try.func8, Try.ntmps8
  go_wp2_with (first | (go_at_call 35; refine (wheel_NewS _).mono ?_; rintro e w1 ⟨g, b, rfl, s1, hg1, hb1, B1⟩) | (go_at_call 34; refine (law05_awake _).mono ?_; rintro e w0 ⟨rfl, hb0⟩))
  go_loopg [19] 1024 (fun gh iv wr => ∃ i : Nat, gh = 1024 - i ∧ i ≤ 1024 ∧ iv = .int .u64 i ∧ Ws wr g b (idT i) ∧ RowKit.Below w.heap.size w wr)
  case atStart => exact ⟨0, rfl, by omega, rfl, s1.of_below hb0, below_step B1 B1.size hb0⟩
  case round =>
    obtain ⟨i, rfl, hi, rfl, hS, hB⟩ := hrel
    clear s1 hb0 B1
    have HS := Lib.hid hS; clear hS
    by_cases hlt : i < 1024
    · have hlti : (i : Int) < 1024 := by omega
      have hil : (idT i).length < 1024 := by rw [idT_length]; exact hlt
      have hii : In64 (i : Int) := by unfold In64; omega
      have hc := wheel_ArmAny g b (idT i) i i wr HS.out hii hii hil
      rw [armT_idT i hi] at hc
      have HC := Lib.hid hc; clear hc
      go_wp2_with (go_at_call 36; refine HC.out.mono ?_; rintro e w2 ⟨rfl, s2, g2⟩)
      go_roundg (1024 - (i + 1))
      case measure => omega
      case rel => exact ⟨i + 1, rfl, by omega, by first | rfl | (go_num; done) | (simp; omega), s2, below_grown hB g2 hb1⟩
    · have hi' : i = 1024 := by omega
      subst hi'
      obtain ⟨T, hT⟩ : ∃ T, T = idT 1024 := ⟨_, rfl⟩
      have f1 : T.length = 1024 := by rw [hT]; exact idT_length _
      have f2 : 2000 ∉ keysOf T := by rw [hT, keys_idT]; omega
      have f3 : (5 : Int) ∈ keysOf T := by rw [hT, keys_idT]; omega
      have f4 : (7 : Int) ∈ keysOf T := by rw [hT, keys_idT]; omega
      have hS := HS.out
      rw [← hT] at hS
      have hnd := hS.nodup
      obtain ⟨A, hA⟩ : ∃ A, A = armT T 5 0 := ⟨_, rfl⟩
      have a1 : A.length = 1024 := by rw [hA, armT_len_in hnd f3]; exact f1
      have a2 : 7 ∈ keysOf A := by rw [hA, mem_keys_armT]; exact .inr f4
      have a3 : 2000 ∉ keysOf A := by rw [hA, mem_keys_armT]; exact fun h => h.elim (fun h => by omega) f2
      obtain ⟨B, hBd⟩ : ∃ B, B = strike A 7 := ⟨_, rfl⟩
      have b3 : 2000 ∉ keysOf B := by rw [hBd, mem_keys_strike]; exact fun h => a3 h.1
      clear HS hT
      have F1 := Lib.hid f1; clear f1
      have F2 := Lib.hid f2; clear f2
      have F3 := Lib.hid f3; clear f3
      have HA := Lib.hid hA; clear hA
      have A1 := Lib.hid a1; clear a1
      have A2 := Lib.hid a2; clear a2
      have HBd := Lib.hid hBd; clear hBd
      have HS := Lib.hid hS; clear hS
      have HN := Lib.hid hnd; clear hnd
      go_wp2_with fail
      refine (wheel_ArmS_full g b T 2000 1 wr HS.out (in64_lit (by omega)) (in64_lit (by omega)) (by rw [F1.out]; omega) ⟨F2.out, by rw [F1.out]; omega⟩).mono ?_
      rintro e w2 ⟨rfl, rfl⟩
      go_wp2_with fail
      refine (wheel_ArmS g b T 5 0 wr HS.out (in64_lit (by omega)) (in64_lit (by omega)) (by rw [F1.out]; omega) (.inl F3.out)).mono ?_
      rintro e w2 ⟨rfl, s2, g2⟩
      rw [← HA.out] at s2
      have B2 := below_grown hB g2 hb1
      go_wp2_with fail
      refine (wheel_DisarmS g b A 7 w2 s2 (in64_lit (by omega))).mono ?_
      rintro e w3 ⟨rfl, s3, g3⟩
      rw [← HBd.out] at s3
      have B3 := below_grown B2 g3 hb1
      have b1 : B.length = 1023 := by have := strike_len_in s2.nodup A2.out; rw [← HBd.out, A1.out] at this; omega
      rw [decide_eq_true A2.out]
      have B1' := Lib.hid b1; clear b1
      go_wp2_with fail
      refine (wheel_ArmS g b B 2000 1 w3 s3 (in64_lit (by omega)) (in64_lit (by omega)) (by rw [B1'.out]; omega) (.inr (by rw [B1'.out]; omega))).mono ?_
      rintro e w4 ⟨rfl, s4, g4⟩
      have B4 := below_grown B3 g4 hb1
      have c1 : (armT B 2000 1).length = 1024 := by rw [armT_len_out b3, B1'.out]
      clear s2 s3
      go_wp2_with fail
      refine (wheel_At_nil 1 w4).mono ?_
      rintro e w5 ⟨rfl, rfl⟩
      go_wp2_with fail
      refine (wheel_Next_nil w4).mono ?_
      rintro e w5 ⟨rfl, b5⟩
      have s5 := s4.of_below b5
      have hlen := wheel_LenS g b _ _ s5
      rw [c1] at hlen
      clear c1
      go_wp2_with (first
        | (go_at_call 38; refine hlen.mono ?_; clear hlen; rintro e w6 ⟨rfl, rfl⟩)
        | (go_at_call 38; refine (wheel_Len_nil _).mono ?_; rintro e w6 ⟨rfl, rfl⟩)
        | (go_at_call 36; refine (wheel_Arm_nil _ _ _).mono ?_; rintro e w6 ⟨rfl, rfl⟩)
        | (go_at_call 41; refine (wheel_Disarm_nil _ _).mono ?_; rintro e w6 ⟨rfl, rfl⟩)
        | (go_at_call 37; refine (wheel_Due_nil _ _).mono ?_; rintro e w7 ⟨rfl, b7⟩)
        | (go_at_call 39; refine (wheel_Clone_nil _).mono ?_; rintro e w8 ⟨rfl, rfl⟩))
      go_ret
      exact ⟨rfl, below_step (below_step B4 B4.size b5) (below_step B4 B4.size b5).size b7⟩
end Go.Proofs.Ytlfnoailaoiedaa
