/- The document's lists of layer 3. -/
import Derived.Test.YtebifndgdfalnaaSnap
namespace Go.Proofs.Ytebifndgdfalnaa
open Go.RowKit
set_option linter.unusedVariables false
set_option linter.unusedSimpArgs false

set_option maxHeartbeats 400000 in
theorem ref03_Index (a : Option Addr) (cap : Nat) (xs : List Int) (n : Int) (w : World) (h : Sl .u64 w a cap xs) (hl : xs.length ≤ 4611686018427387904) :
    Calls Try.prog 62 #[.slice a xs.length cap, .int .u64 n] w fun e w' => e = .returned (.int .i64 (idxI xs n)) ∧ w = w' := by
  go_enter Try.func62, Try.ntmps62
  go_wp2
  go_loop [9] (fun i => ∃ k : Nat, k ≤ xs.length ∧ i = .int .i64 k ∧ ∀ j, j < k → xs.getD j 0 ≠ n) (fun i => xs.length - (intOf i).toNat)
  case atStart => exact ⟨0, by omega, rfl, fun j hj => absurd hj (by omega)⟩
  case round =>
    obtain ⟨k, hk, rfl, hno⟩ := hrel
    have HN := Lib.hid hno; clear hno
    by_cases hlt : k < xs.length
    · obtain ⟨b, off, rfl, hbs, hc⟩ := h.at_ (by omega)
      have c0 := hc k hlt
      clear hc
      by_cases hx : xs.getD k 0 = n
      · rw [hx] at c0
        have HX := Lib.hid hx; clear hx
        go_wp2
        go_ret
        exact ⟨ret_int (idxI_found hlt HX.out HN.out).symm, rfl⟩
      · have hx' : (xs.getD k 0 == n) = false := by simpa using hx
        have HX := Lib.hid hx; clear hx
        generalize hxx : xs.getD k 0 = x at c0 hx'
        have HXX := Lib.hid hxx; clear hxx
        go_wp2
        go_round
        case rel => exact ⟨k + 1, by omega, by go_num, fun j hj => by
          by_cases e : j = k
          · subst e; exact HX.out
          · exact HN.out j (by omega)⟩
        case measure => simp [intOf]; omega
    · go_wp2
      go_ret
      exact ⟨ret_int (idxI_none fun j hj => HN.out j (by omega)).symm, rfl⟩

set_option maxHeartbeats 1000000 in
theorem ref03_With (a : Option Addr) (cap : Nat) (xs : List Int) (n : Int) (w : World) (h : Sl .u64 w a cap xs) (hl : xs.length ≤ 100000) :
    Calls Try.prog 56 #[.slice a xs.length cap, .int .u64 n] w fun e w' => ∃ a' cap', e = .returned (.slice a' (withL xs n).length cap') ∧ Sl .u64 w' a' cap' (withL xs n) ∧ Loc w.heap.size a a' ∧ Below w.heap.size w w' := by
  by_cases hm : n ∈ xs
  · have e : withL xs n = xs := if_pos hm
    rw [e]; clear e
    have hi : 0 ≤ idxI xs n := by have := (not_congr (idxI_neg (xs := xs) (n := n))).2 (by simpa using hm); omega
    go_enter Try.func56, Try.ntmps56
    go_wp2_with (go_at_call 62; refine (ref03_Index _ _ _ _ _ h (by omega)).mono ?_; rintro e w1 ⟨rfl, rfl⟩)
    go_ret
    exact ⟨a, cap, rfl, h, .inl rfl, Below.refl _ _⟩
  · have e : withL xs n = xs ++ [n] := if_neg hm
    have hlen : (xs ++ [n]).length = xs.length + 1 := by simp
    rw [e, hlen]; clear e
    have HL := Lib.hid hlen; clear hlen
    have hi : idxI xs n < 0 := idxI_neg.2 hm
    go_enter Try.func56, Try.ntmps56
    go_wp2_with (first | (go_at_call 62; refine (ref03_Index _ _ _ _ _ h (by omega)).mono ?_; rintro e w1 ⟨rfl, rfl⟩) | (at_builtin; refine app_own w rfl (.tmp 11) (.tmp 12) 54 rfl w.heap.size 22 (.int .u64 0) 1 8 Try.underlying54 Try.infoU rfl (by decide) (.slice none 0 0) 0 [] rfl (World.ownsRow_nil _ _ _ _) a xs.length cap (nums .u64 xs) rfl h (nums_one _ _) (by omega) (by omega) (Nat.le_refl _) ?_; intro A1 c1 w1 h2 h3 h4; simp only [Nat.zero_add, List.nil_append] at h2 h4) | (at_builtin; refine app_one w1 rfl (.tmp 14) (.tmp 16) 54 rfl w.heap.size 22 (.int .u64 0) 1 8 Try.underlying54 Try.infoU rfl (by decide) (.slice A1 xs.length c1) xs.length (nums .u64 xs) rfl h2 [.int .u64 n] rfl rfl (by simp [Value.oneCell']) (by omega) (by omega) ?hz ?_; (case hz => exact h3.size); intro A2 c2 w2 h5 h6 h7))
    go_ret
    have hB1 : Below w.heap.size w w1 := (Below.refl w.heap.size w).grown h3 (Nat.le_refl _) (fun k hk => by simp [Value.ownBlock] at hk)
    have hB2 : Below w.heap.size w w2 := hB1.grown h6 hB1.size (fun k hk => own_base h2 k hk)
    refine ⟨A2, c2, rfl, ?_, .inr fun q hq => by (subst hq; exact (own_addr h5).1), hB2⟩
    unfold Sl
    rw [HL.out, show nums .u64 (xs ++ [n]) = nums .u64 xs ++ [.int .u64 n] by simp [nums]]
    exact own_rd h5

theorem withoutL_snoc (xs : List Int) (k : Nat) (n : Int) (h : k < xs.length) : withoutL (xs.take (k + 1)) n = withoutL (xs.take k) n ++ (if xs.getD k 0 = n then [] else [xs.getD k 0]) := by
  rw [take_snoc xs k h]
  simp only [withoutL, List.filter_append]
  congr 1
  show List.filter _ [xs.getD k 0] = _
  generalize xs.getD k 0 = y
  by_cases e : y = n <;> simp [e]
theorem withoutL_length (xs : List Int) (n : Int) : (withoutL xs n).length ≤ xs.length := List.length_filter_le _ _

set_option maxHeartbeats 1000000 in
theorem ref03_Without (a : Option Addr) (cap : Nat) (xs : List Int) (n : Int) (w : World) (h : Sl .u64 w a cap xs) (hl : xs.length ≤ 100000) :
    Calls Try.prog 54 #[.slice a xs.length cap, .int .u64 n] w fun e w' => ∃ a' cap', e = .returned (.slice a' (withoutL xs n).length cap') ∧ Sl .u64 w' a' cap' (withoutL xs n) ∧ (∀ q, a' = some q → w.heap.size ≤ q.block) ∧ Below w.heap.size w w' := by
  go_enter Try.func54, Try.ntmps54
  go_wp2
  go_loopw [5, 10] (fun v i wr => ∃ (k : Nat) (ys : List Int) (A1 : Option Addr) (c1 : Nat), k ≤ xs.length ∧ i = .int .i64 k ∧ ys = withoutL (xs.take k) n ∧ v = .slice A1 ys.length c1 ∧ wr.ownsRow w.heap.size 22 1 (.slice A1 ys.length c1) ys.length (nums .u64 ys) ∧ Below w.heap.size w wr) (fun _ i _ => xs.length - (intOf i).toNat)
  case atStart => exact ⟨0, [], none, 0, by omega, rfl, by simp [withoutL], rfl, World.ownsRow_nil _ _ _ _, Below.refl _ _⟩
  case round =>
    obtain ⟨k, ys, A1, c1, hk, rfl, hys, rfl, hown, hB⟩ := hrel
    have hyl : ys.length ≤ k := by rw [hys]; have := withoutL_length (xs.take k) n; have := List.length_take_le k xs; omega
    have HYS := Lib.hid hys; clear hys
    by_cases hlt : k < xs.length
    · obtain ⟨b, off, rfl, hbs, hc⟩ := h.at_ (by omega)
      have c0 := (hB.cell (p := ⟨b, off + k, none⟩) hbs).trans (hc k hlt)
      clear hc
      have hsn := withoutL_snoc xs k n hlt
      by_cases hx : xs.getD k 0 = n
      · rw [if_pos hx, List.append_nil] at hsn
        have HS := Lib.hid hsn; clear hsn
        rw [hx] at c0
        clear hx
        go_wp2
        go_roundw
        case rel => exact ⟨k + 1, ys, A1, c1, by omega, by go_num, by rw [HS.out]; exact HYS.out, rfl, hown, hB⟩
        case measure => simp [intOf]; omega
      · rw [if_neg hx] at hsn
        generalize hxx : xs.getD k 0 = x at *
        have HS := Lib.hid hsn; clear hsn
        have HXX := Lib.hid hxx; clear hxx
        have hx' : (x != n) = true := by simpa using hx
        have HO := Lib.hid hown; clear hown
        go_wp2_with (at_builtin; refine app_one wr rfl (.tmp 17) (.tmp 19) 54 rfl w.heap.size 22 (.int .u64 0) 1 8 Try.underlying54 Try.infoU rfl (by decide) (.slice A1 ys.length c1) ys.length _ rfl HO.out [.int .u64 x] rfl rfl (by simp [Value.oneCell']) (by omega) (by omega) hB.size ?_; intro A2 c2 w2 h5 h6 h7)
        have e1 : (ys ++ [x]).length = ys.length + 1 := by simp
        have e2 : nums .u64 (ys ++ [x]) = nums .u64 ys ++ [.int .u64 x] := by simp [nums]
        go_roundw
        case rel => exact ⟨k + 1, ys ++ [x], A2, c2, by omega, by go_num, by rw [HS.out, ← HYS.out], by rw [e1], by rw [e1, e2]; exact h5, hB.grown h6 hB.size (fun k hk => own_base HO.out k hk)⟩
        case measure => simp [intOf]; omega
    · have e : ys = withoutL xs n := by rw [HYS.out, List.take_of_length_le (by omega)]
      have HE := Lib.hid e; clear e
      have HO := Lib.hid hown; clear hown
      go_wp2
      go_ret
      rw [← HE.out]
      exact ⟨A1, c1, rfl, own_rd HO.out, fun q hq => by (subst hq; exact (own_addr HO.out).1), hB⟩

set_option maxHeartbeats 1000000 in
theorem ref03_Of (a : Option Addr) (cap : Nat) (xs : List Int) (w : World) (h : Sl .u64 w a cap xs) (hl : xs.length ≤ 10000) :
    Calls Try.prog 52 #[.slice a xs.length cap] w fun e w' => ∃ a' cap', e = .returned (.slice a' (ofL xs).length cap') ∧ Sl .u64 w' a' cap' (ofL xs) ∧ (∀ q, a' = some q → w.heap.size ≤ q.block) ∧ Below w.heap.size w w' := by
  go_enter Try.func52, Try.ntmps52
  go_wp2
  go_loopw [3, 8] (fun v i wr => ∃ (k : Nat) (ys : List Int) (ay : Option Addr) (cy : Nat), k ≤ xs.length ∧ i = .int .i64 k ∧ ys = ofL (xs.take k) ∧ v = .slice ay ys.length cy ∧
    Sl .u64 wr ay cy ys ∧ (∀ q, ay = some q → w.heap.size ≤ q.block) ∧ Below w.heap.size w wr) (fun _ i _ => xs.length - (intOf i).toNat)
  case atStart => exact ⟨0, [], none, 0, by omega, rfl, by simp [ofL], rfl, Rd.nil_ 1 _, (fun q hq => by cases hq), Below.refl _ _⟩
  case round =>
    obtain ⟨k, ys, ay, cy, hk, rfl, hys, rfl, hsl, hloc, hB⟩ := hrel
    have hyl : ys.length ≤ k := by rw [hys]; exact ofL_length xs k
    have HYS := Lib.hid hys; clear hys
    by_cases hlt : k < xs.length
    · obtain ⟨b, off, rfl, hbs, hc⟩ := h.at_ (by omega)
      have c0 := (hB.cell (p := ⟨b, off + k, none⟩) hbs).trans (hc k hlt)
      clear hc
      generalize hx : xs.getD k 0 = x at c0
      have HX := Lib.hid hx; clear hx
      go_wp2_with (go_at_call 56; refine (ref03_With _ _ _ _ _ hsl (by omega)).mono ?_; rintro e w1 ⟨a1, cap1, rfl, hs1, hl1, hb⟩)
      go_roundw
      case rel =>
        refine ⟨k + 1, withL ys x, a1, cap1, by omega, by go_num, ?_, rfl, hs1, ?_, below_step hB hB.size hb⟩
        · rw [take_snoc xs k hlt, ofL_snoc, ← HYS.out, ← HX.out]; rfl
        · intro q hq
          rcases hl1 with e | e
          · rw [e] at hq; exact hloc q hq
          · have := e q hq; have := hB.size; omega
      case measure => simp [intOf]; omega
    · have e : ys = ofL xs := by rw [HYS.out, List.take_of_length_le (by omega)]
      have HE := Lib.hid e; clear e
      go_wp2
      go_ret
      rw [← HE.out]
      exact ⟨ay, cy, rfl, hsl, hloc, hB⟩
end Go.Proofs.Ytebifndgdfalnaa
