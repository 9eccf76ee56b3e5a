/- Package picks: Next at any state, Some, Left, Clone; layer 8's example. -/
import Derived.Test.YtonfaojmphidpaaGreatDoorPicks
import Derived.Test.YtonfaojmphidpaaGreatDoorAwake07
import Derived.Deep.LoopGhost
namespace Go.Proofs.YtonfaojmphidpaaGreatDoor
open Go.RowKit
set_option linter.unusedVariables false
set_option linter.unusedSimpArgs false

/-- The i-th of what it tells, of n. -/
def pkV (xs : List Int) (t n : Int) (i : Nat) : Int := if i < xs.length then xs.getD i 0 % n else (t + ((i - xs.length : Nat) : Int)) % n
def pkT (xs : List Int) (t : Int) (i : Nat) : Int := t + ((i - xs.length : Nat) : Int)
def pkL (xs : List Int) (t n : Int) (k : Nat) : List Int := (List.range k).map (pkV xs t n)
theorem pkL_length (xs : List Int) (t n : Int) (k : Nat) : (pkL xs t n k).length = k := by simp [pkL]
theorem pkL_succ (xs : List Int) (t n : Int) (k : Nat) : pkL xs t n (k + 1) = pkL xs t n k ++ [pkV xs t n k] := by simp [pkL, List.range_succ]
theorem pkV_drop (xs : List Int) (t n : Int) (i : Nat) : pkV (xs.drop i) (pkT xs t i) n 0 = pkV xs t n i := by
  unfold pkV pkT
  rw [List.length_drop]
  by_cases h : i < xs.length
  · rw [if_pos (by omega), if_pos h]
    simp [List.getD_eq_getElem?_getD]
  · rw [if_neg (by omega), if_neg h]
    congr 1; omega
theorem picks_Next (g : Nat) (a : Option Addr) (c : Nat) (xs : List Int) (t n : Int) (w : World) (h : Pk w g a c xs t) (hn : 1 ≤ n) (hn2 : n ≤ 9223372036854775807) (ht : t + 1 < 1000000000000) :
    Calls Tryz.prog 128 #[.pointer (some ⟨g, 0, none⟩), .int .i64 n] w fun e w' => ∃ a' c', e = .returned (.tuple #[.int .i64 (pkV xs t n 0), .bool true]) ∧ Pk w' g a' c' (xs.drop 1) (pkT xs t 1) ∧ w.grownBy w' (some g) ∧ (∀ q', a' = some q' → ∃ q, a = some q ∧ q'.block = q.block) := by
  cases xs with
  | nil => exact (picks_Next_turn g a c t n w h hn hn2 ht).mono fun e w' ⟨h1, h2, h3⟩ => ⟨a, c, by rw [h1]; simp [pkV], by simpa [pkT] using h2, h3, fun q hq => ⟨q, hq, rfl⟩⟩
  | cons x xs => exact (picks_Next_pick g a c x xs t n w h hn hn2).mono fun e w' ⟨a', c', h1, h2, h3, h4⟩ => ⟨a', c', by rw [h1]; simp [pkV], by simpa [pkT] using h2, h3, h4⟩
theorem own_ne {w : World} {base n : Nat} {e : TypeId} {size : Nat} {v : Value} {xs : List Value} {g : Nat} (h : w.ownsRow base e size v n xs) (hg : g < base) : v.ownBlock = none ∨ v.ownBlock ≠ some g := .inr fun e => by have := own_base h g e; omega
theorem drop_drop1 (xs : List Int) (i : Nat) : (xs.drop i).drop 1 = xs.drop (i + 1) := by rw [List.drop_drop]
theorem pkT_step (xs : List Int) (t : Int) (i : Nat) : pkT (xs.drop i) (pkT xs t i) 1 = pkT xs t (i + 1) := by
  unfold pkT; rw [List.length_drop]; omega

set_option maxHeartbeats 1000000 in
theorem picks_Some (g : Nat) (a : Option Addr) (c : Nat) (xs : List Int) (t n : Int) (k : Nat) (w : World) (h : Pk w g a c xs t) (hn : 1 ≤ n) (hn2 : n ≤ 9223372036854775807) (hk : k ≤ 10000) (ht : t + k + 1 < 1000000000000) :
    Calls Tryz.prog 115 #[.pointer (some ⟨g, 0, none⟩), .int .i64 n, .int .i64 k] w fun e w' => ∃ a' c' A1 c1, e = .returned (.slice A1 k c1) ∧ w'.ownsRow w.heap.size 3 1 (.slice A1 k c1) k (nums .i64 (pkL xs t n k)) ∧ Pk w' g a' c' (xs.drop k) (pkT xs t k) ∧ w.grownBy w' (some g) ∧ (∀ q', a' = some q' → ∃ q, a = some q ∧ q'.block = q.block) := by
  have hmin : min (k : Int) 10000 = k := by omega
  have hgl := h.blk.lt
  have HH := Lib.hid h; clear h
  go_enter Tryz.func115, Tryz.ntmps115
  go_wp2
  go_loopg [7, 12] k (fun gh v iv wr => ∃ (i : Nat) (a' : Option Addr) (c' : Nat) (A1 : Option Addr) (c1 : Nat), gh = k - i ∧ i ≤ k ∧ iv = .int .i64 i ∧ v = .slice A1 i c1 ∧ wr.ownsRow w.heap.size 3 1 (.slice A1 i c1) i (nums .i64 (pkL xs t n i)) ∧ Pk wr g a' c' (xs.drop i) (pkT xs t i) ∧ w.grownBy wr (some g) ∧ (∀ q', a' = some q' → ∃ q, a = some q ∧ q'.block = q.block))
  case atStart => exact ⟨0, a, c, none, 0, by omega, by omega, rfl, rfl, World.ownsRow_nil _ _ _ _, by simpa [pkT] using HH.out, World.grownBy.refl _ _, fun q hq => ⟨q, hq, rfl⟩⟩
  case round =>
    obtain ⟨i, a', c', A1, c1, rfl, hi, rfl, rfl, ho, hP, hg, hq0⟩ := hrel
    have HQ0 := Lib.hid hq0; clear hq0
    have HO := Lib.hid ho; clear ho
    have HP := Lib.hid hP; clear hP
    have hsz := hg.size
    clear hmin
    by_cases hlt : i < k
    · have htb : pkT xs t i + 1 < 1000000000000 := by unfold pkT; omega
      have hc := picks_Next g a' c' (xs.drop i) (pkT xs t i) n wr HP.out hn hn2 htb
      rw [pkV_drop, drop_drop1, pkT_step] at hc
      have HC := Lib.hid hc; clear hc
      have hb1 : (i + 1) * 8 ≤ 140737488355328 := by omega
      have hb2 : i + 1 ≤ 9223372036854775807 := by omega
      generalize hv : pkV xs t n i = v at *
      have HV := Lib.hid hv; clear hv
      go_wp2_with (first
        | (go_at_call 128; refine HC.out.mono ?_; rintro e w2 ⟨a2, c2, rfl, p2, g2, hq2⟩; have HQ2 := Lib.hid hq2; clear hq2; have P2 := Lib.hid p2; clear p2; have hz2 := g2.size; have hz3 : w.heap.size ≤ w2.heap.size := (by omega); have O2 := Lib.hid (HO.out.kept g2 (own_ne HO.out hgl)))
        | (at_builtin; refine app_one w2 rfl (.tmp 22) (.tmp 24) 53 rfl w.heap.size 3 (.int .i64 0) 1 8 Tryz.underlying53 Tryz.infoI rfl (by decide) (.slice A1 i c1) i _ rfl O2.out [.int .i64 v] rfl rfl (by simp [Value.oneCell']) hb2 hb1 hz3 ?_; intro A3 c3 w3 h3 g3 _; have H3 := Lib.hid h3; clear h3))
      go_roundg (k - (i + 1))
      case measure => omega
      case rel =>
        have hne : ∀ z, z < w.heap.size → some z ≠ (Value.slice A1 i c1).ownBlock := fun z hz e => by have := own_base O2.out z e.symm; omega
        have hq3 : ∀ q', a2 = some q' → ∃ q, a = some q ∧ q'.block = q.block := fun q' h1 => by
          obtain ⟨q1, h2, h3⟩ := HQ2.out q' h1
          obtain ⟨q, h4, h5⟩ := HQ0.out q1 h2
          exact ⟨q, h4, h3.trans h5⟩
        refine ⟨i + 1, a2, c2, A3, c3, rfl, by omega, by go_num, rfl, ?_, ?_, ?_, hq3⟩
        · rw [pkL_succ, HV.out, show nums .i64 (pkL xs t n i ++ [v]) = nums .i64 (pkL xs t n i) ++ [.int .i64 v] by simp [nums]]; exact H3.out
        · have hP2 := P2.out
          refine ⟨(g3.block g hP2.blk.lt (hne g hgl)).trans hP2.blk, ?_, hP2.t0, hP2.t1, hP2.in_, hP2.len⟩
          by_cases h0 : 0 < (xs.drop (i + 1)).length
          · obtain ⟨b, off, ha2, hb2', hc2⟩ := hP2.sl.at_ h0
            obtain ⟨q, hqa, hqb⟩ := hq3 _ ha2
            obtain ⟨b0, off0, ha0, hb0, -⟩ := HH.out.sl.at_ (by rw [List.length_drop] at h0; omega)
            have hbb : b < w.heap.size := by rw [ha0] at hqa; cases hqa; dsimp only at hqb; omega
            refine ⟨hP2.sl.1, hP2.sl.2.1, hP2.sl.2.2.1, fun _ => ?_⟩
            obtain ⟨b', off', ha', hb', hc'⟩ := hP2.sl.2.2.2 h0
            rw [ha2] at ha'; cases ha'
            exact ⟨b, off, ha2, Nat.lt_of_lt_of_le hb2' g3.size, fun z v hz => (World.cell?_of_block (w := w2) (a := ⟨b, off + z, none⟩) (g3.block b hb2' (hne b hbb))).trans (hc' z v hz)⟩
          · exact ⟨hP2.sl.1, hP2.sl.2.1, hP2.sl.2.2.1, fun h1 => absurd h1 h0⟩
        · exact (hg.trans g2).andThen g3 (fun j hj => .inl (own_base O2.out j hj))
    · have hik : i = k := by omega
      subst hik
      go_wp2
      go_ret
      exact ⟨a', c', A1, c1, rfl, HO.out, HP.out, hg, HQ0.out⟩
end Go.Proofs.YtonfaojmphidpaaGreatDoor
