/- Joined: Picks2, Picks3, HistA, HistB, HistC, Rows2, Grew, HistD, Open, Open2, SetU. -/
import Derived.Test.YtonfaojmphidpaaGreatDoorZA2
import Derived.Test.YtonfaojmphidpaaGreatDoorZA3
import Derived.Test.YtonfaojmphidpaaGreatDoorZA1
import Derived.Deep.LoopGhost
import Derived.Deep.RegionHeld3
import Derived.Deep.QuietTactic
import Derived.Deep.AppendLies
import Derived.Deep.RegionLaw
import Derived.Test.YtonfaojmphidpaaGreatDoorProg
import Derived.WalkKit
import Derived.ProofKit
import Derived.OpenShut
import Derived.Deep.Slices
import Derived.Deep.Fields

/- Package picks: Next at any state, Some, Left, Clone; layer 8's example. -/
namespace Go.Proofs.YtonfaojmphidpaaGreatDoor
open Go.RowKit
set_option linter.unusedVariables false
set_option linter.unusedSimpArgs false

/-- The i-th of what it tells, of n. -/
def pkV (xs : List Int) (t n : Int) (i : Nat) : Int := if i < xs.length then xs.getD i 0 % n else (t + ((i - xs.length : Nat) : Int)) % n
def pkT (xs : List Int) (t : Int) (i : Nat) : Int := t + ((i - xs.length : Nat) : Int)
def pkL (xs : List Int) (t n : Int) (k : Nat) : List Int := (List.range k).map (pkV xs t n)
theorem pkL_length (xs : List Int) (t n : Int) (k : Nat) : (pkL xs t n k).length = k := by simp [pkL]
theorem pkL_succ (xs : List Int) (t n : Int) (k : Nat) : pkL xs t n (k + 1) = pkL xs t n k ++ [pkV xs t n k] := by simp [pkL, List.range_succ]
theorem pkV_drop (xs : List Int) (t n : Int) (i : Nat) : pkV (xs.drop i) (pkT xs t i) n 0 = pkV xs t n i := by
  unfold pkV pkT
  rw [List.length_drop]
  by_cases h : i < xs.length
  · rw [if_pos (by omega), if_pos h]
    simp [List.getD_eq_getElem?_getD]
  · rw [if_neg (by omega), if_neg h]
    congr 1; omega
theorem picks_Next (g : Nat) (a : Option Addr) (c : Nat) (xs : List Int) (t n : Int) (w : World) (h : Pk w g a c xs t) (hn : 1 ≤ n) (hn2 : n ≤ 9223372036854775807) (ht : t + 1 < 1000000000000) :
    Calls Tryz.prog 128 #[.pointer (some ⟨g, 0, none⟩), .int .i64 n] w fun e w' => ∃ a' c', e = .returned (.tuple #[.int .i64 (pkV xs t n 0), .bool true]) ∧ Pk w' g a' c' (xs.drop 1) (pkT xs t 1) ∧ w.grownBy w' (some g) ∧ (∀ q', a' = some q' → ∃ q, a = some q ∧ q'.block = q.block) := by
  cases xs with
  | nil => exact (picks_Next_turn g a c t n w h hn hn2 ht).mono fun e w' ⟨h1, h2, h3⟩ => ⟨a, c, by rw [h1]; simp [pkV], by simpa [pkT] using h2, h3, fun q hq => ⟨q, hq, rfl⟩⟩
  | cons x xs => exact (picks_Next_pick g a c x xs t n w h hn hn2).mono fun e w' ⟨a', c', h1, h2, h3, h4⟩ => ⟨a', c', by rw [h1]; simp [pkV], by simpa [pkT] using h2, h3, h4⟩
theorem own_ne {w : World} {base n : Nat} {e : TypeId} {size : Nat} {v : Value} {xs : List Value} {g : Nat} (h : w.ownsRow base e size v n xs) (hg : g < base) : v.ownBlock = none ∨ v.ownBlock ≠ some g := .inr fun e => by have := own_base h g e; omega
theorem drop_drop1 (xs : List Int) (i : Nat) : (xs.drop i).drop 1 = xs.drop (i + 1) := by rw [List.drop_drop]
theorem pkT_step (xs : List Int) (t : Int) (i : Nat) : pkT (xs.drop i) (pkT xs t i) 1 = pkT xs t (i + 1) := by
  unfold pkT; rw [List.length_drop]; omega

set_option maxHeartbeats 1000000 in
theorem picks_Some (g : Nat) (a : Option Addr) (c : Nat) (xs : List Int) (t n : Int) (k : Nat) (w : World) (h : Pk w g a c xs t) (hn : 1 ≤ n) (hn2 : n ≤ 9223372036854775807) (hk : k ≤ 10000) (ht : t + k + 1 < 1000000000000) :
    Calls Tryz.prog 115 #[.pointer (some ⟨g, 0, none⟩), .int .i64 n, .int .i64 k] w fun e w' => ∃ a' c' A1 c1, e = .returned (.slice A1 k c1) ∧ w'.ownsRow w.heap.size 3 1 (.slice A1 k c1) k (nums .i64 (pkL xs t n k)) ∧ Pk w' g a' c' (xs.drop k) (pkT xs t k) ∧ w.grownBy w' (some g) ∧ (∀ q', a' = some q' → ∃ q, a = some q ∧ q'.block = q.block) := by
  have hmin : min (k : Int) 10000 = k := by omega
  have hgl := h.blk.lt
  have HH := Lib.hid h; clear h
  go_enter Tryz.func115, Tryz.ntmps115
  go_wp2
  go_loopg [7, 12] k (fun gh v iv wr => ∃ (i : Nat) (a' : Option Addr) (c' : Nat) (A1 : Option Addr) (c1 : Nat), gh = k - i ∧ i ≤ k ∧ iv = .int .i64 i ∧ v = .slice A1 i c1 ∧ wr.ownsRow w.heap.size 3 1 (.slice A1 i c1) i (nums .i64 (pkL xs t n i)) ∧ Pk wr g a' c' (xs.drop i) (pkT xs t i) ∧ w.grownBy wr (some g) ∧ (∀ q', a' = some q' → ∃ q, a = some q ∧ q'.block = q.block))
  case atStart => exact ⟨0, a, c, none, 0, by omega, by omega, rfl, rfl, World.ownsRow_nil _ _ _ _, by simpa [pkT] using HH.out, World.grownBy.refl _ _, fun q hq => ⟨q, hq, rfl⟩⟩
  case round =>
    obtain ⟨i, a', c', A1, c1, rfl, hi, rfl, rfl, ho, hP, hg, hq0⟩ := hrel
    have HQ0 := Lib.hid hq0; clear hq0
    have HO := Lib.hid ho; clear ho
    have HP := Lib.hid hP; clear hP
    have hsz := hg.size
    clear hmin
    by_cases hlt : i < k
    · have htb : pkT xs t i + 1 < 1000000000000 := by unfold pkT; omega
      have hc := picks_Next g a' c' (xs.drop i) (pkT xs t i) n wr HP.out hn hn2 htb
      rw [pkV_drop, drop_drop1, pkT_step] at hc
      have HC := Lib.hid hc; clear hc
      have hb1 : (i + 1) * 8 ≤ 140737488355328 := by omega
      have hb2 : i + 1 ≤ 9223372036854775807 := by omega
      generalize hv : pkV xs t n i = v at *
      have HV := Lib.hid hv; clear hv
      go_wp2_with (first
        | (go_at_call 128; refine HC.out.mono ?_; rintro e w2 ⟨a2, c2, rfl, p2, g2, hq2⟩; have HQ2 := Lib.hid hq2; clear hq2; have P2 := Lib.hid p2; clear p2; have hz2 := g2.size; have hz3 : w.heap.size ≤ w2.heap.size := (by omega); have O2 := Lib.hid (HO.out.kept g2 (own_ne HO.out hgl)))
        | (at_builtin; refine app_one w2 rfl (.tmp 22) (.tmp 24) 53 rfl w.heap.size 3 (.int .i64 0) 1 8 Tryz.underlying53 Tryz.infoI rfl (by decide) (.slice A1 i c1) i _ rfl O2.out [.int .i64 v] rfl rfl (by simp [Value.oneCell']) hb2 hb1 hz3 ?_; intro A3 c3 w3 h3 g3 _; have H3 := Lib.hid h3; clear h3))
      go_roundg (k - (i + 1))
      case measure => omega
      case rel =>
        have hne : ∀ z, z < w.heap.size → some z ≠ (Value.slice A1 i c1).ownBlock := fun z hz e => by have := own_base O2.out z e.symm; omega
        have hq3 : ∀ q', a2 = some q' → ∃ q, a = some q ∧ q'.block = q.block := fun q' h1 => by
          obtain ⟨q1, h2, h3⟩ := HQ2.out q' h1
          obtain ⟨q, h4, h5⟩ := HQ0.out q1 h2
          exact ⟨q, h4, h3.trans h5⟩
        refine ⟨i + 1, a2, c2, A3, c3, rfl, by omega, by go_num, rfl, ?_, ?_, ?_, hq3⟩
        · rw [pkL_succ, HV.out, show nums .i64 (pkL xs t n i ++ [v]) = nums .i64 (pkL xs t n i) ++ [.int .i64 v] by simp [nums]]; exact H3.out
        · have hP2 := P2.out
          refine ⟨(g3.block g hP2.blk.lt (hne g hgl)).trans hP2.blk, ?_, hP2.t0, hP2.t1, hP2.in_, hP2.len⟩
          by_cases h0 : 0 < (xs.drop (i + 1)).length
          · obtain ⟨b, off, ha2, hb2', hc2⟩ := hP2.sl.at_ h0
            obtain ⟨q, hqa, hqb⟩ := hq3 _ ha2
            obtain ⟨b0, off0, ha0, hb0, -⟩ := HH.out.sl.at_ (by rw [List.length_drop] at h0; omega)
            have hbb : b < w.heap.size := by rw [ha0] at hqa; cases hqa; dsimp only at hqb; omega
            refine ⟨hP2.sl.1, hP2.sl.2.1, hP2.sl.2.2.1, fun _ => ?_⟩
            obtain ⟨b', off', ha', hb', hc'⟩ := hP2.sl.2.2.2 h0
            rw [ha2] at ha'; cases ha'
            exact ⟨b, off, ha2, Nat.lt_of_lt_of_le hb2' g3.size, fun z v hz => (World.cell?_of_block (w := w2) (a := ⟨b, off + z, none⟩) (g3.block b hb2' (hne b hbb))).trans (hc' z v hz)⟩
          · exact ⟨hP2.sl.1, hP2.sl.2.1, hP2.sl.2.2.1, fun h1 => absurd h1 h0⟩
        · exact (hg.trans g2).andThen g3 (fun j hj => .inl (own_base O2.out j hj))
    · have hik : i = k := by omega
      subst hik
      go_wp2
      go_ret
      exact ⟨a', c', A1, c1, rfl, HO.out, HP.out, hg, HQ0.out⟩
end Go.Proofs.YtonfaojmphidpaaGreatDoor

/- Package picks: Left, Clone, Some of nobody; layer 8's example; the document's Next. -/
namespace Go.Proofs.YtonfaojmphidpaaGreatDoor
open Go.RowKit
set_option linter.unusedVariables false
set_option linter.unusedSimpArgs false

set_option maxHeartbeats 400000 in
theorem picks_Some_nil (w : World) :
    Calls Tryz.prog 115 #[.pointer none, .int .i64 3, .int .i64 3] w fun e w' => e = .returned (.slice none 0 0) ∧ w = w' := by
  go_enter Tryz.func115, Tryz.ntmps115
  go_wp2
  refine wp_loop_rounds 1 ?_
  rw [rounds_succ]
  go_wp2_with (go_at_call 128; refine (picks_Next_nil _ _).mono ?_; rintro e w' ⟨rfl, rfl⟩)
  go_ret
  exact ⟨rfl, rfl⟩
set_option maxHeartbeats 400000 in
theorem picks_Some_bad (g : Nat) (w : World) :
    Calls Tryz.prog 115 #[.pointer (some ⟨g, 0, none⟩), .int .i64 0, .int .i64 3] w fun e w' => e = .returned (.slice none 0 0) ∧ w = w' := by
  go_enter Tryz.func115, Tryz.ntmps115
  go_wp2
  refine wp_loop_rounds 1 ?_
  rw [rounds_succ]
  go_wp2_with (go_at_call 128; refine (picks_Next_bad _ _ (by decide) _).mono ?_; rintro e w' ⟨rfl, rfl⟩)
  go_ret
  exact ⟨rfl, rfl⟩
set_option maxRecDepth 100000 in
set_option maxHeartbeats 1000000 in
theorem law08_awake (w : World) :
    Calls Tryz.prog 104 #[] w fun e w' => e = .returned (.bool true) ∧ Below w.heap.size w w' := by
  have hof : pkL [7, -1] 0 3 6 = [1, 2, 0, 1, 2, 0] := by decide
  go_enter Tryz.func104, Tryz.ntmps104
  go_wp2_with (first | (go_at_call 113; refine (law07_Awake _).mono ?_; rintro e w1 ⟨rfl, hb⟩))
  refine (picks_New _ 2 [7, -1] _ (sl_new w1 .i64 3 [7, -1]) (by intro x hx; simp at hx; unfold I64; omega) (by decide)).mono ?_
  rintro e w2 ⟨g, a2, c2, rfl, hp, hg, hb2⟩
  have hb2' := below_step ((Below.refl w1.heap.size w1).alloc (Nat.le_refl _) (.cells (nums .i64 [7, -1]).toArray 3)) (by simp) hb2
  have hB2 := below_step hb hb.size hb2'
  have hgw : w.heap.size ≤ g := by have := hb.size; simp at hg; omega
  have hsome := picks_Some g a2 c2 [7, -1] 0 3 6 w2 hp (by decide) (by decide) (by decide) (by decide)
  rw [hof] at hsome
  go_wp2_with fail
  refine hsome.mono ?_
  rintro e w3 ⟨a3, c3, A4, c4, rfl, ho, hp3, hg3, -⟩
  have hB3 : Below w.heap.size w w3 := hB2.grown hg3 hB2.size (fun j hj => by cases hj; exact hgw)
  have hs3 : Sl .i64 w3 A4 c4 [1, 2, 0, 1, 2, 0] := own_rd ho
  clear hsome ho hp hp3
  go_wp2_with fail
  refine (slices_Equal_i64 _ _ _ 6 [1, 2, 0, 1, 2, 0] [1, 2, 0, 1, 2, 0] _ (hs3.below ((Below.refl _ _).alloc (Nat.le_refl _) _)) (sl_new w3 .i64 3 [1, 2, 0, 1, 2, 0]) (by decide) (by decide)).mono ?_
  rintro e w4 ⟨rfl, q, rfl⟩
  go_wp2
  go_ret
  exact ⟨rfl, below_drewN (hB3.alloc hB3.size _) q⟩

end Go.Proofs.YtonfaojmphidpaaGreatDoor

/- Chapter 9's example: the text of one event. -/
namespace Go.Proofs.YtonfaojmphidpaaGreatDoor
open Go.RowKit
set_option linter.unusedVariables false
set_option linter.unusedSimpArgs false

set_option maxHeartbeats 400000 in
theorem law08_Awake (w : World) :
    Calls Tryz.prog 92 #[] w fun e w' => e = .returned (.bool true) ∧ RowKit.Below w.heap.size w w' := by
  go_enter Tryz.func92, Tryz.ntmps92
  go_wp2_with (first | (go_at_call 104; refine (law08_awake _).mono ?_; rintro e w' ⟨rfl, hb⟩))
  go_ret
  exact ⟨rfl, hb⟩
set_option maxRecDepth 100000 in
set_option maxHeartbeats 1000000 in
theorem itoa_0 (w : World) : Calls Tryz.prog 100 #[.int .i64 0] w fun e w' => e = .returned (.string ⟨#[48]⟩) ∧ w = w' := by
  go_enter Tryz.func100, Tryz.ntmps100
  go_wp2_with go_in
  go_ret
  exact ⟨rfl, rfl⟩
set_option maxRecDepth 100000 in
set_option maxHeartbeats 1000000 in
theorem itoa_2 (w : World) : Calls Tryz.prog 100 #[.int .i64 2] w fun e w' => e = .returned (.string ⟨#[50]⟩) ∧ w = w' := by
  go_enter Tryz.func100, Tryz.ntmps100
  go_wp2_with go_in
  go_ret
  exact ⟨rfl, rfl⟩

set_option maxRecDepth 100000 in
set_option maxHeartbeats 2000000 in
theorem event_Text (w : World) :
    Calls Tryz.prog 72 #[.agg #[.int .u64 1, .int .i64 2, .int .i64 0, .int .i64 0, .int .u64 0, .int .i64 0]] w fun e w' => e = .returned (.string ⟨#[49, 32, 50, 32, 99, 97, 108, 108, 32, 103, 101, 116, 32, 48, 32, 48]⟩) ∧ RowKit.Below w.heap.size w w' := by
  have HI0 := Lib.hid (fun W => itoa_0 W)
  have HI2 := Lib.hid (fun W => itoa_2 W)
  go_enter Tryz.func72, Tryz.ntmps72
  go_wp2_with go_in
  have hb1 := RowKit.Below.refl (w.heap.size + 1) (w.alloc (.cells #[.int .u64 1, .int .i64 2, .int .i64 0, .int .i64 0, .int .u64 0, .int .i64 0] 108))
  have kb := Blk.new w 108 #[.int .u64 1, .int .i64 2, .int .i64 0, .int .i64 0, .int .u64 0, .int .i64 0]
  have hw01 := (RowKit.Below.refl w.heap.size w).alloc (Nat.le_refl _) (.cells #[.int .u64 1, .int .i64 2, .int .i64 0, .int .i64 0, .int .u64 0, .int .i64 0] 108)
  have hsz1 := size_alloc w (.cells #[.int .u64 1, .int .i64 2, .int .i64 0, .int .i64 0, .int .u64 0, .int .i64 0] 108)
  have hall : ∀ w', RowKit.Below (w.heap.size + 1) (w.alloc (.cells #[.int .u64 1, .int .i64 2, .int .i64 0, .int .i64 0, .int .u64 0, .int .i64 0] 108)) w' → Blk w' w.heap.size 108 #[.int .u64 1, .int .i64 2, .int .i64 0, .int .i64 0, .int .u64 0, .int .i64 0] := fun w' h => kb.below h (Nat.lt_succ_self _)
  have Q0 := Lib.hid (fun w' h => by simpa using (hall w' h).cell 0)
  have Q1 := Lib.hid (fun w' h => by simpa using (hall w' h).cell 1)
  have Q4 := Lib.hid (fun w' h => by simpa using (hall w' h).cell 4)
  have Q5 := Lib.hid (fun w' h => by simpa using (hall w' h).cell 5)
  refine wp_region_class_tail (fun w' => RowKit.Below (w.heap.size + 1) (w.alloc (.cells #[.int .u64 1, .int .i64 2, .int .i64 0, .int .i64 0, .int .u64 0, .int .i64 0] 108)) w') 14 (by kernel_rfl) (by kernel_rfl) ((hb1.alloc (by simp) _).alloc (by simp) _).drew ?_
  simp only [List.take_succ_cons, List.take_zero, List.drop_succ_cons, List.drop_zero]
  repeat (first | go_big_quiet_skip | (go_big_quiet_want; first | (go_big_quiet_op; go_big_quiet_on) | (apply Exists.intro; refine ⟨fun w' hw' => ?_, ?_⟩; (have hcl := hw'; have q0 := Q0.out _ hcl; have q1 := Q1.out _ hcl; have q4 := Q4.out _ hcl; have q5 := Q5.out _ hcl; unfold Oper.quietAt; go_simp; first | done | exact ⟨rfl, hcl⟩ | exact ⟨rfl, rfl⟩ | exact rfl | (first | (go_at_call 99; first | (refine (formatUint_0 _).mono ?_; rintro e wn ⟨rfl, rfl⟩; exact ⟨rfl, hcl⟩) | (refine (formatUint_1 _).mono ?_; rintro e wn ⟨rfl, rfl⟩; exact ⟨rfl, hcl⟩)) | (go_at_call 100; first | (refine (HI0.out _).mono ?_; rintro e wn ⟨rfl, rfl⟩; exact ⟨rfl, hcl⟩) | (refine (HI2.out _).mono ?_; rintro e wn ⟨rfl, rfl⟩; exact ⟨rfl, hcl⟩)))); (go_simp; go_big_quiet_on))))
  refine wpQuiet_nil ?_
  intro wq hcl
  clear HI0 HI2 Q0 Q1 Q4 Q5 hall
  have hj := strings_Join_ wq.heap.size 0 6 [⟨#[49]⟩, ⟨#[50]⟩, ⟨#[99, 97, 108, 108]⟩, ⟨#[103, 101, 116]⟩, ⟨#[48]⟩, ⟨#[48]⟩] ⟨#[32]⟩ (wq.alloc (.cells #[.string ⟨#[49]⟩, .string ⟨#[50]⟩, .string ⟨#[99, 97, 108, 108]⟩, .string ⟨#[103, 101, 116]⟩, .string ⟨#[48]⟩, .string ⟨#[48]⟩] 9))
    (fun j x hx => by
      have := (Blk.new wq 9 #[.string ⟨#[49]⟩, .string ⟨#[50]⟩, .string ⟨#[99, 97, 108, 108]⟩, .string ⟨#[103, 101, 116]⟩, .string ⟨#[48]⟩, .string ⟨#[48]⟩]).cell (0 + j)
      rw [this, Nat.zero_add]
      rcases j with _ | _ | _ | _ | _ | _ | j <;> simp at hx ⊢ <;> exact hx) (by simp) (by decide) (by decide) (by decide)
  have HJ := Lib.hid hj; clear hj
  have hev : (w.alloc (.cells #[.int .u64 1, .int .i64 2, .int .i64 0, .int .i64 0, .int .u64 0, .int .i64 0] 108)).heap.size = w.heap.size + 1 := size_alloc _ _
  have hBq : RowKit.Below w.heap.size w wq := below_step hw01 hw01.size (hev ▸ hcl)
  have HBQ := Lib.hid hBq; clear hBq hev hw01 hsz1 hcl kb hb1
  go_wp2_with fail
  refine HJ.out.mono ?_
  rintro e w5 ⟨rfl, hb5⟩
  have hal := HBQ.out.alloc HBQ.out.size (.cells #[.string ⟨#[49]⟩, .string ⟨#[50]⟩, .string ⟨#[99, 97, 108, 108]⟩, .string ⟨#[103, 101, 116]⟩, .string ⟨#[48]⟩, .string ⟨#[48]⟩] 9)
  have HB5 := Lib.hid (below_step hal hal.size hb5)
  clear hal hb5 HJ
  go_wp2_with fail
  go_ret
  exact ⟨rfl, HB5.out⟩
end Go.Proofs.YtonfaojmphidpaaGreatDoor

/- Chapter 9's example: New, Advance, Add, All. -/
namespace Go.Proofs.YtonfaojmphidpaaGreatDoor
open Go.RowKit
set_option linter.unusedVariables false
set_option linter.unusedSimpArgs false

set_option maxHeartbeats 400000 in
theorem hist_New (w : World) :
    Calls Tryz.prog 60 #[] w fun e w' => e = .returned (.pointer (some ⟨w.heap.size, 0, none⟩)) ∧ w' = w.alloc (.cells #[.int .u64 0, .slice none 0 0] 151) := by
  go_enter Tryz.func60, Tryz.ntmps60
  go_wp2
  go_ret
  exact ⟨rfl, rfl⟩
set_option maxHeartbeats 400000 in
theorem hist_Advance0 (g : Nat) (w : World) (h : Blk w g 151 #[.int .u64 0, .slice none 0 0]) :
    Calls Tryz.prog 61 #[.pointer (some ⟨g, 0, none⟩)] w fun e w' => e = .returned (.int .u64 1) ∧ w' = w.setCell ⟨g, 0, none⟩ (.int .u64 1) := by
  have c0 := h.cell 0
  have f0 := h.frozen 0
  have hl := h.lt
  simp only [List.getElem?_toArray, List.getElem?_cons_zero] at c0
  go_enter Tryz.func61, Tryz.ntmps61
  go_wp2_with go_in
  go_ret
  exact ⟨rfl, rfl⟩
end Go.Proofs.YtonfaojmphidpaaGreatDoor

/- Chapter 9's example: New, Advance, Add, All. -/
namespace Go.Proofs.YtonfaojmphidpaaGreatDoor
open Go.RowKit
set_option linter.unusedVariables false
set_option linter.unusedSimpArgs false

set_option maxRecDepth 100000 in
set_option maxHeartbeats 1000000 in
theorem hist_Add_first (g : Nat) (w : World) (h : Blk w g 151 #[.int .u64 1, .slice none 0 0]) :
    Calls Tryz.prog 63 #[.pointer (some ⟨g, 0, none⟩), .int .i64 2, .int .i64 0, .int .i64 0, .int .u64 0, .int .i64 0] w fun e w' => e = .returned (.tuple #[]) ∧ ∃ A c, Blk w' g 151 #[.int .u64 1, .slice A 1 c] ∧
      w'.ownsRow w.heap.size 108 6 (.slice A 1 c) 1 [.int .u64 1, .int .i64 2, .int .i64 0, .int .i64 0, .int .u64 0, .int .i64 0] ∧ w.grownBy w' (some g) := by
  have c0 := h.cell 0
  have c1 := h.cell 1
  have f1 := h.frozen 1
  have hl := h.lt
  simp only [List.getElem?_toArray, List.getElem?_cons_zero, List.getElem?_cons_succ] at c0 c1
  obtain ⟨i0, hinf, hz0, hz1, hz2⟩ := info_parts Tryz.infoEv
  have HINF := Lib.hid hinf; clear hinf
  have HZ0 := Lib.hid hz0; clear hz0
  have HZ1 := Lib.hid hz1; clear hz1
  have HZ2 := Lib.hid hz2; clear hz2
  have HOA := Lib.hid (World.ownsRow_nil (w.drew.alloc (.cells #[.int .u64 1, .int .i64 2, .int .i64 0, .int .i64 0, .int .u64 0, .int .i64 0] 108)) w.heap.size 108 6)
  have HNEWS := Lib.hid (show ∀ (j : Nat) u, ([.int .u64 1, .int .i64 2, .int .i64 0, .int .i64 0, .int .u64 0, .int .i64 0] : List Value)[j]? = some u → (w.drew.alloc (.cells #[.int .u64 1, .int .i64 2, .int .i64 0, .int .i64 0, .int .u64 0, .int .i64 0] 108)).cell? ((⟨w.heap.size, 0, none⟩ : Addr).add j) = some u from fun j u hu => by
    have := (Blk.new w.drew 108 #[.int .u64 1, .int .i64 2, .int .i64 0, .int .i64 0, .int .u64 0, .int .i64 0]).cell (0 + j)
    have ha : (⟨w.heap.size, 0, none⟩ : Addr).add j = ⟨w.heap.size, 0 + j, none⟩ := by unfold Addr.add; split <;> simp_all
    rw [ha]; refine this.trans ?_
    rw [Nat.zero_add]; simpa using hu)
  have HH := Lib.hid h; clear h
  go_enter Tryz.func63, Tryz.ntmps63
  go_wp2_with fail
  go_region_law (refine step_append_lies (w.drew.alloc (.cells #[.int .u64 1, .int .i64 2, .int .i64 0, .int .i64 0, .int .u64 0, .int .i64 0] 108)) rfl (.tmp 18) (.tmp 29) 106 rfl w.heap.size 108 i0 (.agg #[.int .u64 0, .int .i64 0, .int .i64 0, .int .i64 0, .int .u64 0, .int .i64 0]) 6 48 Tryz.underlying106 HINF.out HZ0.out HZ1.out HZ2.out rfl (by decide) (.slice none 0 0) 0 _ rfl HOA.out ⟨w.heap.size, 0, none⟩ 1 1 [.int .u64 1, .int .i64 2, .int .i64 0, .int .i64 0, .int .u64 0, .int .i64 0] rfl rfl HNEWS.out (by simp [Value.oneCell']) (by decide) (by decide) (by decide) (by rw [size_alloc]; exact Nat.le_succ _) _ rfl ?_
                 intro gA capA wA hownA hgrowA hatA hltA
                 have knA : Blk wA g 151 #[.int .u64 1, .slice none 0 0] := (hgrowA.block g (by rw [size_alloc]; exact Nat.lt_succ_of_lt hl) (by simp [Value.ownBlock])).trans (HH.out.drew.alloc _)
                 have ka1 := knA.cell 1
                 have kf1 := knA.frozen 1
                 have kal := knA.lt
                 simp only [List.getElem?_toArray, List.getElem?_cons_zero, List.getElem?_cons_succ] at ka1)
  all_goals (go_end0; refine ⟨rfl, some ⟨gA, 0, none⟩, capA, by simpa using knA.put 1 (.slice (some ⟨gA, 0, none⟩) 1 capA), ?_, ?_⟩)
  all_goals first
    | exact ownsRow_setCell_below (a := ⟨g, 1, none⟩) hownA hl _
    | (have hbd : RowKit.Below w.heap.size w (w.drew.alloc (.cells #[.int .u64 1, .int .i64 2, .int .i64 0, .int .i64 0, .int .u64 0, .int .i64 0] 108)) := ((RowKit.Below.refl w.heap.size w).drew).alloc (Nat.le_refl _) _
       have hg1 : w.grownBy (w.drew.alloc (.cells #[.int .u64 1, .int .i64 2, .int .i64 0, .int .i64 0, .int .u64 0, .int .i64 0] 108)) (some g) := ⟨hbd.os, hbd.tape, hbd.output, hbd.size, fun i hi _ => hbd.block i hi⟩
       exact (hg1.andThen hgrowA (fun j hj => by simp [Value.ownBlock] at hj)).trans ⟨rfl, rfl, rfl, by rw [size_setCell]; exact Nat.le_refl _, fun k _ hk => RowKit.Below.heap_setCell _ _ _ k (fun e => hk (by rw [e]))⟩)
end Go.Proofs.YtonfaojmphidpaaGreatDoor

/- Rows of structs: so many one-cell fields each. -/
namespace Go.Proofs.YtonfaojmphidpaaGreatDoor
open Go.RowKit
set_option linter.unusedVariables false

section
variable {α : Type} {f : α → List Value} {s : Nat}
def cellsOf (f : α → List Value) (L : List α) : List Value := L.flatMap f
theorem cellsOf_nil : cellsOf f [] = [] := rfl
theorem cellsOf_cons (x : α) (L : List α) : cellsOf f (x :: L) = f x ++ cellsOf f L := by simp [cellsOf]
theorem cellsOf_append (A B : List α) : cellsOf f (A ++ B) = cellsOf f A ++ cellsOf f B := by simp [cellsOf]
theorem cellsOf_snoc (A : List α) (x : α) : cellsOf f (A ++ [x]) = cellsOf f A ++ f x := by simp [cellsOf]
theorem cellsOf_length (hf : ∀ x, (f x).length = s) (L : List α) : (cellsOf f L).length = L.length * s := by
  induction L with
  | nil => simp [cellsOf]
  | cons x L ih => rw [cellsOf_cons, List.length_append, ih, hf, List.length_cons, Nat.succ_mul]; omega
theorem cellsOf_get (hf : ∀ x, (f x).length = s) {L : List α} {k : Nat} {x : α} (h : L[k]? = some x) {j : Nat} (hj : j < s) : (cellsOf f L)[k * s + j]? = (f x)[j]? := by
  induction L generalizing k with
  | nil => simp at h
  | cons y L ih =>
    rw [cellsOf_cons]
    cases k with
    | zero =>
      simp at h; subst h
      rw [Nat.zero_mul, Nat.zero_add, List.getElem?_append_left (by rw [hf]; exact hj)]
    | succ k =>
      rw [List.getElem?_append_right (by rw [hf, Nat.succ_mul]; omega), hf, show (k + 1) * s + j - s = k * s + j by rw [Nat.succ_mul]; omega]
      exact ih (by simpa using h)
theorem cellsOf_take (hf : ∀ x, (f x).length = s) (L : List α) (k : Nat) : cellsOf f (L.take k) = (cellsOf f L).take (k * s) := by
  induction k generalizing L with
  | zero => simp [cellsOf]
  | succ k ih =>
    cases L with
    | nil => simp [cellsOf]
    | cons x L => rw [List.take_succ_cons, cellsOf_cons, cellsOf_cons, ih, List.take_append, hf, Nat.succ_mul, List.take_of_length_le (l := f x) (by rw [hf]; omega), show k * s + s - s = k * s by omega]
theorem cellsOf_drop (hf : ∀ x, (f x).length = s) (L : List α) (k : Nat) : cellsOf f (L.drop k) = (cellsOf f L).drop (k * s) := by
  induction k generalizing L with
  | zero => simp
  | succ k ih =>
    cases L with
    | nil => simp [cellsOf]
    | cons x L => rw [List.drop_succ_cons, cellsOf_cons, ih, List.drop_append, hf, Nat.succ_mul, List.drop_of_length_le (l := f x) (by rw [hf]; omega), show k * s + s - s = k * s by omega]; rfl
theorem cellsOf_one (h1 : ∀ x, ∀ u ∈ f x, u.oneCell' = true) (L : List α) : ∀ u ∈ cellsOf f L, u.oneCell' = true := by
  intro u hu
  obtain ⟨x, _, hx⟩ := List.mem_flatMap.1 hu
  exact h1 x u hx
/-- The slice at a, of L.length structs, reads as L. -/
def Rw (f : α → List Value) (s : Nat) (w : World) (a : Option Addr) (cap : Nat) (L : List α) : Prop := Rd s w a L.length cap (cellsOf f L)
theorem Rw.rd {w : World} {a : Option Addr} {cap : Nat} {L : List α} (h : Rw f s w a cap L) : Rd s w a L.length cap (cellsOf f L) := h
theorem Rw.le {w : World} {a : Option Addr} {cap : Nat} {L : List α} (h : Rw f s w a cap L) : L.length ≤ cap := h.2.1
theorem Rw.below {w w' : World} {a : Option Addr} {cap : Nat} {L : List α} (h : Rw f s w a cap L) (hb : Below w.heap.size w w') : Rw f s w' a cap L := Rd.below h hb
theorem Rw.at_ {w : World} {a : Option Addr} {cap : Nat} {L : List α} (hf : ∀ x, (f x).length = s) (h : Rw f s w a cap L) (h0 : 0 < L.length) :
    ∃ b off, a = some ⟨b, off, none⟩ ∧ b < w.heap.size ∧ ∀ k x, L[k]? = some x → ∀ j v, (f x)[j]? = some v → w.cell? ⟨b, off + (k * s + j), none⟩ = some v := by
  obtain ⟨b, off, ha, hb, hc⟩ := h.2.2.2 h0
  exact ⟨b, off, ha, hb, fun k x hk j v hv => hc _ _ (by rw [cellsOf_get hf hk (by have := (List.getElem?_eq_some_iff.1 hv).1; rwa [hf] at this)]; exact hv)⟩
theorem Rw.take {w : World} {a : Option Addr} {cap cap' : Nat} {L : List α} (hf : ∀ x, (f x).length = s) (h : Rw f s w a cap L) {k : Nat} (hk : k ≤ L.length) (hc : k ≤ cap') (hn : a = none → cap' = 0) : Rw f s w a cap' (L.take k) := by
  have hl : (L.take k).length = k := by simp; omega
  unfold Rw
  rw [hl]
  refine ⟨by rw [cellsOf_length hf, hl], hc, hn, fun h0 => ?_⟩
  obtain ⟨b, off, ha, hb, hcs⟩ := h.2.2.2 (by omega)
  refine ⟨b, off, ha, hb, fun i v hi => hcs i v ?_⟩
  rw [cellsOf_take hf, List.getElem?_take] at hi
  split at hi
  · exact hi
  · cases hi
theorem Rw.drop {w : World} {b off cap : Nat} {L : List α} (hf : ∀ x, (f x).length = s) (h : Rw f s w (some ⟨b, off, none⟩) cap L) {k : Nat} (hk : k ≤ L.length) : Rw f s w (some ⟨b, off + k * s, none⟩) (cap - k) (L.drop k) := by
  refine ⟨by rw [cellsOf_length hf], by have := h.2.1; simp; omega, (fun e => by cases e), fun h0 => ?_⟩
  rw [List.length_drop] at h0
  obtain ⟨b', off', ha, hb, hc⟩ := h.2.2.2 (by omega)
  cases ha
  refine ⟨b, off + k * s, rfl, hb, fun i v hi => ?_⟩
  rw [cellsOf_drop hf, List.getElem?_drop] at hi
  rw [Nat.add_assoc]; exact hc _ _ hi
end
theorem take_snoc2 {α : Type} {L : List α} {k : Nat} {x : α} (h : L[k]? = some x) : L.take (k + 1) = L.take k ++ [x] := by
  obtain ⟨hk, rfl⟩ := List.getElem?_eq_some_iff.1 h
  exact List.take_succ_eq_append_getElem hk
end Go.Proofs.YtonfaojmphidpaaGreatDoor

/- A world that has grown, and in which some blocks were turned. -/
namespace Go.Proofs.YtonfaojmphidpaaGreatDoor
open Go.RowKit
set_option linter.unusedVariables false

/-- w' is w, but for new blocks and the blocks in S. -/
structure Grew (w w' : World) (S : Nat → Prop) : Prop where
  os : w'.os = w.os
  tape : w'.tape = w.tape
  output : w'.output = w.output
  size : w.heap.size ≤ w'.heap.size
  block : ∀ k, k < w.heap.size → ¬ S k → w'.heap[k]? = w.heap[k]?
section
variable {w w' w'' : World} {S T : Nat → Prop}
theorem Grew.refl (w : World) (S : Nat → Prop) : Grew w w S := ⟨rfl, rfl, rfl, Nat.le_refl _, fun _ _ _ => rfl⟩
theorem Grew.mono (h : Grew w w' S) (hs : ∀ k, k < w.heap.size → S k → T k) : Grew w w' T := ⟨h.os, h.tape, h.output, h.size, fun k hk hn => h.block k hk (fun hS => hn (hs k hk hS))⟩
theorem Grew.trans (h : Grew w w' S) (h' : Grew w' w'' T) (ht : ∀ k, k < w.heap.size → T k → S k) : Grew w w'' S :=
  ⟨h'.os.trans h.os, h'.tape.trans h.tape, h'.output.trans h.output, Nat.le_trans h.size h'.size, fun k hk hn => (h'.block k (Nat.lt_of_lt_of_le hk h.size) (fun hT => hn (ht k hk hT))).trans (h.block k hk hn)⟩
theorem Grew.of_below (h : Below w.heap.size w w') (S : Nat → Prop) : Grew w w' S := ⟨h.os, h.tape, h.output, h.size, fun k hk _ => h.block k hk⟩
theorem Grew.of_grown {r : Option Nat} (h : w.grownBy w' r) (hs : ∀ k, r = some k → S k) : Grew w w' S := ⟨h.os, h.tape, h.output, h.size, fun k hk hn => h.block k hk (fun e => hn (hs k e.symm))⟩
theorem Grew.set (w : World) (p : Addr) (u : Value) : Grew w (w.setCell p u) (· = p.block) :=
  ⟨rfl, rfl, rfl, by rw [size_setCell]; exact Nat.le_refl _, fun k _ hn => Below.heap_setCell w p u k hn⟩
theorem Grew.drew (h : Grew w w' S) : Grew w w'.drew S := ⟨h.os, h.tape, h.output, h.size, h.block⟩
theorem Grew.drewN (h : Grew w w' S) (n : Nat) : Grew w (w'.drewN n) S := ⟨h.os, h.tape, h.output, h.size, h.block⟩
theorem Grew.below {B : Nat} {w0 : World} (h : Grew w w' S) (hB : Below B w0 w) (hS : ∀ k, k < w.heap.size → S k → B ≤ k) (hb : B ≤ w.heap.size) : Below B w0 w' :=
  ⟨h.os.trans hB.os, h.tape.trans hB.tape, h.output.trans hB.output, Nat.le_trans hB.size h.size, fun k hk => (h.block k (by omega) (fun hs => by have := hS k (by omega) hs; omega)).trans (hB.block k hk)⟩
theorem Grew.to_grown {r : Option Nat} (h : Grew w w' S) (hs : ∀ k, S k → r = some k) : w.grownBy w' r := ⟨h.os, h.tape, h.output, h.size, fun k hk hn => h.block k hk (fun hS => hn (hs k hS).symm)⟩
theorem Blk.grew {g : Nat} {t : TypeId} {cs : Array Value} (h : Blk w g t cs) (hg : Grew w w' S) (hn : ¬ S g) : Blk w' g t cs := (hg.block g h.lt hn).trans h
theorem own_grew {base n : Nat} {e : TypeId} {size : Nat} {v : Value} {xs : List Value} (h : w.ownsRow base e size v n xs) (hg : Grew w w' S) (hn : ∀ k, v.ownBlock = some k → ¬ S k) : w'.ownsRow base e size v n xs := by
  refine ⟨h.1, h.2.imp id fun ⟨g, cap, cur, hv, hb, hc, r⟩ => ⟨g, cap, cur, hv, hb, ?_, r⟩⟩
  exact (hg.block g (Array.getElem?_eq_some_iff.1 hc).1 (hn g (by rw [hv]; rfl))).trans hc
theorem own_blk_type {base n : Nat} {e : TypeId} {size : Nat} {v : Value} {xs : List Value} (h : w.ownsRow base e size v n xs) {k : Nat} (hk : v.ownBlock = some k) : ∃ cur, Blk w k e cur := by
  rcases h.2 with ⟨hv, _⟩ | ⟨g, cap, cur, hv, _, hc, _⟩
  · rw [hv] at hk; cases hk
  · rw [hv] at hk; simp [Value.ownBlock] at hk; subst hk; exact ⟨cur, hc⟩
theorem Blk.ne_type {g g' : Nat} {t t' : TypeId} {cs cs' : Array Value} (h : Blk w g t cs) (h' : Blk w g' t' cs') (ht : t ≠ t') : g ≠ g' := by
  intro e; subst e
  unfold Blk at h h'
  rw [h] at h'
  injection h' with h'
  injection h' with _ h2
  exact ht h2
theorem own_apart {base n : Nat} {e : TypeId} {size : Nat} {v : Value} {xs : List Value} (h : w.ownsRow base e size v n xs) {g : Nat} {t : TypeId} {cs : Array Value} (hb : Blk w g t cs) (ht : t ≠ e) : v.ownBlock ≠ some g := by
  intro hk
  obtain ⟨cur, hc⟩ := own_blk_type h hk
  exact hb.ne_type hc ht rfl
theorem own_apart2 {base n : Nat} {e : TypeId} {size : Nat} {v : Value} {xs : List Value} (h : w.ownsRow base e size v n xs) {base' n' : Nat} {e' : TypeId} {size' : Nat} {v' : Value} {xs' : List Value} (h' : w.ownsRow base' e' size' v' n' xs') (ht : e ≠ e') {k : Nat} (hk : v.ownBlock = some k) : v'.ownBlock ≠ some k := by
  intro hk'
  obtain ⟨cur, hc⟩ := own_blk_type h hk
  obtain ⟨cur', hc'⟩ := own_blk_type h' hk'
  exact hc.ne_type hc' ht rfl
/-- A row that reads, kept where its block is none of the turned ones. -/
theorem Rd.grew {size n cap : Nat} {a : Option Addr} {cs : List Value} (h : Rd size w a n cap cs) (hg : Grew w w' S) (hn : ∀ q, a = some q → 0 < n → ¬ S q.block) : Rd size w' a n cap cs :=
  ⟨h.1, h.2.1, h.2.2.1, fun h0 => by
    obtain ⟨b, off, ha, hlt, hc⟩ := h.2.2.2 h0
    exact ⟨b, off, ha, Nat.lt_of_lt_of_le hlt hg.size, fun i v hi => (World.cell?_of_block (w := w) (a := ⟨b, off + i, none⟩) (hg.block b hlt (hn _ ha h0))).trans (hc i v hi)⟩⟩
end
theorem own_rw {α : Type} {f : α → List Value} {s : Nat} {w : World} {base c : Nat} {e : TypeId} {A : Option Addr} {L : List α} (h : w.ownsRow base e s (.slice A L.length c) L.length (cellsOf f L)) : Rw f s w A c L := own_rd h
theorem own_at {w : World} {base n c : Nat} {e : TypeId} {size : Nat} {A : Option Addr} {xs : List Value} (h : w.ownsRow base e size (.slice A n c) n xs) (h0 : 0 < n) :
    ∃ b cur, A = some ⟨b, 0, none⟩ ∧ base ≤ b ∧ Blk w b e cur ∧ cur.size = c * size ∧ n ≤ c ∧ c ≤ maxLen ∧ ∀ j, j < n * size → cur[j]? = xs[j]? := by
  obtain ⟨hl, hv⟩ := h
  rcases hv with ⟨hv, h1⟩ | ⟨g, cap, cur, hv, hb, hg, hn, hm, hs, ht⟩
  · omega
  · simp only [Value.slice.injEq] at hv
    obtain ⟨rfl, _, rfl⟩ := hv
    exact ⟨g, cur, rfl, hb, hg, hs, hn, hm, fun j hj => by rw [← ht, List.getElem?_take, if_pos hj]; simp⟩
end Go.Proofs.YtonfaojmphidpaaGreatDoor

/- Chapter 9's example, whole: awake. -/
namespace Go.Proofs.YtonfaojmphidpaaGreatDoor
open Go.RowKit
set_option linter.unusedVariables false
set_option linter.unusedSimpArgs false

set_option maxHeartbeats 400000 in
theorem hist_All (g : Nat) (s : Int) (a : Option Addr) (n c : Nat) (cs : List Value) (w : World) (h : Blk w g 151 #[.int .u64 s, .slice a n c]) (hr : Rd 6 w a n c cs) (ho : ∀ u ∈ cs, u.oneCell' = true) (hl : n ≤ 1000000) :
    Calls Tryz.prog 67 #[.pointer (some ⟨g, 0, none⟩)] w fun e w' => ∃ a' c', e = .returned (.slice a' n c') ∧ w'.ownsRow w.heap.size 108 6 (.slice a' n c') n cs ∧ RowKit.Below w.heap.size w w' := by
  have c1 := h.cell 1
  have hlt := h.lt
  simp only [List.getElem?_toArray, List.getElem?_cons_zero, List.getElem?_cons_succ] at c1
  have hcl := slices_Clone_event a n c cs w hr ho hl
  have HCL := Lib.hid hcl; clear hcl hr ho
  go_enter Tryz.func67, Tryz.ntmps67
  go_wp2_with (go_at_call 93; refine HCL.out.mono ?_; rintro e w' ⟨a', c', rfl, h1, h2, h3⟩)
  go_ret
  exact ⟨a', c', rfl, h1, h3⟩

set_option maxRecDepth 100000 in
set_option maxHeartbeats 2000000 in
theorem law09_awake (w : World) :
    Calls Tryz.prog 59 #[] w fun e w' => e = .returned (.bool true) ∧ RowKit.Below w.heap.size w w' := by
  go_enter Tryz.func59, Tryz.ntmps59
  go_wp2_with fail
  refine (hist_New _).mono ?_
  rintro e w1 ⟨rfl, rfl⟩
  have k0 := Blk.new w 151 #[.int .u64 0, .slice none 0 0]
  have hB1 := (RowKit.Below.refl w.heap.size w).alloc (Nat.le_refl _) (.cells #[.int .u64 0, .slice none 0 0] 151)
  go_wp2_with fail
  refine (hist_Advance0 w.heap.size _ k0).mono ?_
  rintro e w2 ⟨rfl, rfl⟩
  have k1 : Blk ((w.alloc (.cells #[.int .u64 0, .slice none 0 0] 151)).setCell ⟨w.heap.size, 0, none⟩ (.int .u64 1)) w.heap.size 151 #[.int .u64 1, .slice none 0 0] := k0.put 0 (.int .u64 1)
  have hB2 := hB1.setCell (p := ⟨w.heap.size, 0, none⟩) (Nat.le_refl _) (.int .u64 1)
  generalize ((w.alloc (.cells #[.int .u64 0, .slice none 0 0] 151)).setCell ⟨w.heap.size, 0, none⟩ (.int .u64 1)) = W2 at *
  have K1 := Lib.hid k1; clear k1 k0 hB1
  have HB2 := Lib.hid hB2; clear hB2
  have hadd := hist_Add_first w.heap.size W2 K1.out
  have HADD := Lib.hid hadd; clear hadd
  go_wp2_with fail
  refine HADD.out.mono ?_
  rintro e w3 ⟨rfl, A3, c3, k3, ho3, hg3⟩
  have hB3 := HB2.out.grown hg3 HB2.out.size (fun z hz => by cases hz; exact Nat.le_refl _)
  have hall := hist_All w.heap.size 1 A3 1 c3 _ w3 k3 (own_rd ho3) (by simp [Value.oneCell']) (by decide)
  have HALL := Lib.hid hall; clear hall HADD
  have HB3 := Lib.hid hB3; clear hB3 ho3 hg3 k3
  go_wp2_with fail
  refine HALL.out.mono ?_
  rintro e w4 ⟨a4, c4, rfl, ho4, hb4⟩
  have HB4 := Lib.hid (below_step HB3.out HB3.out.size hb4); clear hb4 HALL
  obtain ⟨b, cur, rfl, hbB, hbb, hcs, hlc, hcm, hcur⟩ := own_at ho4 (by decide)
  have HBB := Lib.hid hbb; clear hbb ho4
  have HCUR := Lib.hid hcur; clear hcur hcs hcm
  go_wp2_with fail
  refine (law08_Awake _).mono ?_
  rintro e w5 ⟨rfl, hb5⟩
  have k5 := HBB.out.of_below hb5
  have g0 : w5.cell? ⟨b, 0, none⟩ = some (.int .u64 1) := by rw [k5.cell, HCUR.out 0 (by decide)]; rfl
  have g1 : w5.cell? ⟨b, 1, none⟩ = some (.int .i64 2) := by rw [k5.cell, HCUR.out 1 (by decide)]; rfl
  have g2 : w5.cell? ⟨b, 2, none⟩ = some (.int .i64 0) := by rw [k5.cell, HCUR.out 2 (by decide)]; rfl
  have g3 : w5.cell? ⟨b, 3, none⟩ = some (.int .i64 0) := by rw [k5.cell, HCUR.out 3 (by decide)]; rfl
  have g4 : w5.cell? ⟨b, 4, none⟩ = some (.int .u64 0) := by rw [k5.cell, HCUR.out 4 (by decide)]; rfl
  have g5 : w5.cell? ⟨b, 5, none⟩ = some (.int .i64 0) := by rw [k5.cell, HCUR.out 5 (by decide)]; rfl
  have HB5 := Lib.hid (below_step HB4.out HB4.out.size hb5); clear hb5 k5
  go_wp2_with fail
  refine (event_Text _).mono ?_
  rintro e w6 ⟨rfl, hb6⟩
  have HB6 := Lib.hid (below_step HB5.out HB5.out.size hb6); clear hb6
  go_wp2_with fail
  go_ret
  exact ⟨rfl, HB6.out⟩
set_option maxHeartbeats 400000 in
theorem law09_Awake (w : World) :
    Calls Tryz.prog 75 #[] w fun e w' => e = .returned (.bool true) ∧ RowKit.Below w.heap.size w w' := by
  go_enter Tryz.func75, Tryz.ntmps75
  go_wp2_with (first | (go_at_call 59; refine (law09_awake _).mono ?_; rintro e w' ⟨rfl, hb⟩))
  go_ret
  exact ⟨rfl, hb⟩
end Go.Proofs.YtonfaojmphidpaaGreatDoor

/- How the arguments of the laws read: slices of whole numbers, slices of structs of one-cell fields. -/
namespace Go.Proofs.YtonfaojmphidpaaGreatDoor
open Go.RowKit Go.ChangeShapes Go.WideShapes

section
variable {H : Type} {enc : TypeId × Value → H} {P : Program} {w : World} {base : Nat} {sp : Nat → Bool} {held : Bool}

/-- A slice of structs of one-cell fields: where its cells lie, and how each reads. -/
theorem open_cells {t e : TypeId} {fs : Array Field} {a : Option Addr} {len cap : Nat} {d : DataW H} {p : List MemPlace} (ht : P.underlying t = some (.slice e)) (he : P.underlying e = some (.struct fs))
    (hone : Go.Deep.oneCellFields P fs = true) (hC : P.cellsOf e = fs.size) (hpos : 0 < fs.size) (h : DataW.Trod enc P w base sp held t (.slice a len cap) d p) :
    len ≤ 9223372036854775807 ∧ (0 < len → ∃ b off, a = some ⟨b, off, none⟩ ∧ b < w.heap.size ∧ ∀ i, i < len → ∀ (j : Nat) (f : Field), fs[j]? = some f →
      ∃ (v : Value) (x : DataW H × List MemPlace) (n : Nat), w.cell? ⟨b, off + (i * fs.size + j), none⟩ = some v ∧ DataW.trod enc P w base sp held n f.type [v] = some x) := by
  obtain ⟨fuel, hf⟩ := h
  rcases Go.Deep.open_slice ht hf with ⟨hcs, _⟩ | ⟨x, l, c, m, n, D, Pl, hcs, _, hl, hm, hmm, _, hi⟩
  · simp [Value.cells] at hcs
    obtain ⟨_, rfl, _⟩ := hcs
    exact ⟨by omega, fun h => absurd h (by omega)⟩
  · simp [Value.cells] at hcs
    obtain ⟨rfl, rfl, rfl⟩ := hcs
    have hlm : len ≤ m := by rw [hmm]; split <;> omega
    refine ⟨by unfold maxLen at hm; omega, fun hlen => ?_⟩
    have key : ∀ i, i < len → ∀ (j : Nat) (f : Field), fs[j]? = some f → ∃ (v : Value) (y : DataW H × List MemPlace) (k : Nat), w.cell? (x.add (i * fs.size + j)) = some v ∧ DataW.trod enc P w base sp held k f.type [v] = some y := by
      intro i hil j f hj
      obtain ⟨cs', hc, ht'⟩ := hi i (by omega)
      rw [hC] at hc
      obtain ⟨ys, n', _, _, hclen, hyl, hfld⟩ := DataW.trod_struct he ht'
      obtain ⟨_, hcl, hat⟩ := World.cells?_some hc
      obtain ⟨ho, hk⟩ := Go.Deep.hone_of hone j f hj
      have hjl : j < fs.size := (Array.getElem?_eq_some_iff.1 hj).1
      have h1 := hfld j f hj
      rw [ho, hk] at h1
      have h2 : (cs'.drop j).take 1 = [cs'[j]'(by omega)] := by
        rw [List.drop_eq_getElem_cons (by omega)]; rfl
      rw [h2, List.getElem?_eq_getElem (by omega : j < ys.length)] at h1
      refine ⟨_, _, n', ?_, h1⟩
      rw [← Go.Deep.add_add, hat j hjl, List.getElem?_eq_getElem (by omega)]
    obtain ⟨v, _, _, hv, _⟩ := key 0 hlen 0 fs[0] (by simp [hpos])
    have hs : x.spot = none := by
      have := World.cell?_spot hv
      simpa [Addr.add] using this
    obtain ⟨b, off, spot⟩ := x
    obtain rfl : spot = none := hs
    have ha : ∀ k, (⟨b, off, none⟩ : Addr).add k = ⟨b, off + k, none⟩ := fun k => by
      unfold Addr.add; split
      · rename_i h; subst h; rfl
      · rfl
    refine ⟨b, off, rfl, ?_, fun i hil j f hj => ?_⟩
    · have := World.block_lt_of_cell? w _ hv
      rw [ha] at this; exact this
    · obtain ⟨v, y, k, h1, h2⟩ := key i hil j f hj
      rw [ha] at h1
      exact ⟨v, y, k, h1, h2⟩

/-- A slice of whole numbers: its elements xs. -/
def Nums (k : IntKind) (w : World) (a : Option Addr) (n cap : Nat) (xs : List Int) : Prop :=
  xs.length = n ∧ n ≤ 9223372036854775807 ∧ (∀ x ∈ xs, (Lit.int k x).wf = true) ∧ Sl k w a cap xs
theorem open_nums {t e : TypeId} {k : IntKind} {a : Option Addr} {len cap : Nat} {d : DataW H} {p : List MemPlace} (ht : P.underlying t = some (.slice e)) (he : P.underlying e = some (.int k))
    (hC : P.cellsOf e = 1) (h : DataW.Trod enc P w base sp held t (.slice a len cap) d p) : ∃ xs, Nums k w a len cap xs := by
  obtain ⟨fuel, hf⟩ := h
  rcases open_ints ht he hC hf with ⟨hcs, _⟩ | ⟨x, l, c, zs, hcs, _, hl, hm, hz, _, hcell, hwz⟩
  · simp [Value.cells] at hcs
    obtain ⟨rfl, rfl, rfl⟩ := hcs
    exact ⟨[], rfl, by omega, by simp, Rd.nil_ 1 _⟩
  · simp [Value.cells] at hcs
    obtain ⟨rfl, rfl, rfl⟩ := hcs
    have hlz : len ≤ zs.length := by rw [hz]; split <;> omega
    have htl : (zs.take len).length = len := by simp [hlz]
    refine ⟨zs.take len, htl, by unfold maxLen at hm; omega, fun n hn => hwz n (List.mem_of_mem_take hn), ?_⟩
    unfold Sl
    rw [htl]
    refine ⟨by rw [nums_length, htl]; omega, hl, (fun h => by cases h), fun hlen => ?_⟩
    have hv := hcell 0 (by omega)
    have hs : x.spot = none := by
      have := World.cell?_spot hv
      simpa [Addr.add] using this
    obtain ⟨b, off, spot⟩ := x
    obtain rfl : spot = none := hs
    have ha : ∀ k, (⟨b, off, none⟩ : Addr).add k = ⟨b, off + k, none⟩ := fun k => by
      unfold Addr.add; split
      · rename_i h; subst h; rfl
      · rfl
    refine ⟨b, off, rfl, ?_, fun i v hi => ?_⟩
    · have := World.block_lt_of_cell? w _ hv
      rw [ha] at this; exact this
    · have hil : i < len := by have := (List.getElem?_eq_some_iff.1 hi).1; rwa [nums_length, htl] at this
      have := hcell i (by omega)
      rw [ha] at this
      rw [this, ← hi, nums_get (by rw [htl]; exact hil)]
      simp [List.getD_eq_getElem?_getD, hil]
end

/-- What is there for each place is there as a list. -/
theorem gather {α : Type} [Inhabited α] {Q : Nat → α → Prop} (n : Nat) (h : ∀ i, i < n → ∃ x, Q i x) : ∃ xs : List α, xs.length = n ∧ ∀ i, i < n → Q i (xs.getD i default) := by
  induction n with
  | zero => exact ⟨[], rfl, fun i hi => absurd hi (by omega)⟩
  | succ n ih =>
    obtain ⟨xs, hl, hq⟩ := ih fun i hi => h i (by omega)
    obtain ⟨x, hx⟩ := h n (by omega)
    refine ⟨xs ++ [x], by simp [hl], fun i hi => ?_⟩
    by_cases e : i = n
    · subst e
      simpa [List.getD_eq_getElem?_getD, ← hl] using hx
    · have := hq i (by omega)
      simpa [List.getD_eq_getElem?_getD, List.getElem?_append_left (show i < xs.length by omega)] using this
theorem all_of_getD {α : Type} [Inhabited α] {p : α → Prop} {xs : List α} {n : Nat} (hl : xs.length = n) (h : ∀ i, i < n → p (xs.getD i default)) : ∀ x ∈ xs, p x := by
  intro x hx
  obtain ⟨i, hi, rfl⟩ := List.mem_iff_getElem.1 hx
  have := h i (by omega)
  rwa [List.getD_eq_getElem?_getD, List.getElem?_eq_getElem hi] at this
theorem getD_mem {α : Type} [Inhabited α] {xs : List α} {i : Nat} (h : i < xs.length) : xs.getD i default ∈ xs := by
  rw [List.getD_eq_getElem?_getD, List.getElem?_eq_getElem h]; exact List.getElem_mem h

/-- An act of CellSwaps. -/
structure CAct where
  old : Int
  state : Int
  last : Bool
  clone : Bool
instance : Inhabited CAct := ⟨⟨0, 0, false, false⟩⟩
def ActsIn (w : World) (a : Option Addr) (n : Nat) (xs : List CAct) : Prop :=
  xs.length = n ∧ n ≤ 9223372036854775807 ∧ (∀ x ∈ xs, 0 ≤ x.old ∧ x.old < 18446744073709551616 ∧ -9223372036854775808 ≤ x.state ∧ x.state ≤ 9223372036854775807) ∧ (0 < n → ∃ b off, a = some ⟨b, off, none⟩ ∧ b < w.heap.size ∧ ∀ i, i < n →
    w.cell? ⟨b, off + i * 4, none⟩ = some (.int .u64 (xs.getD i default).old) ∧ w.cell? ⟨b, off + i * 4 + 1, none⟩ = some (.int .i64 (xs.getD i default).state) ∧
    w.cell? ⟨b, off + i * 4 + 2, none⟩ = some (.bool (xs.getD i default).last) ∧ w.cell? ⟨b, off + i * 4 + 3, none⟩ = some (.bool (xs.getD i default).clone))
/-- An act of layer 3's laws. -/
structure SAct where
  n : Int
  out : Bool
instance : Inhabited SAct := ⟨⟨0, false⟩⟩
def SActsIn (w : World) (a : Option Addr) (n : Nat) (xs : List SAct) : Prop :=
  xs.length = n ∧ n ≤ 9223372036854775807 ∧ (∀ x ∈ xs, 0 ≤ x.n ∧ x.n < 18446744073709551616) ∧ (0 < n → ∃ b off, a = some ⟨b, off, none⟩ ∧ b < w.heap.size ∧ ∀ i, i < n →
    w.cell? ⟨b, off + i * 2, none⟩ = some (.int .u64 (xs.getD i default).n) ∧ w.cell? ⟨b, off + i * 2 + 1, none⟩ = some (.bool (xs.getD i default).out))
theorem open_u64s {H : Type} {enc : TypeId × Value → H} {w : World} {base : Nat} {sp : Nat → Bool} {held : Bool} {a : Option Addr} {len cap : Nat} {d : DataW H} {p : List MemPlace}
    (h : DataW.Trod enc Tryz.prog w base sp held 39 (.slice a len cap) d p) : ∃ xs, Nums .u64 w a len cap xs := open_nums Tryz.underlying39 Tryz.underlying28 (by kernel_rfl) h

/-- An act of layer 5's laws. -/
structure WAct where
  do_ : Int
  key : Int
  at_ : Int
instance : Inhabited WAct := ⟨⟨0, 0, 0⟩⟩
def WActsIn (w : World) (a : Option Addr) (n : Nat) (xs : List WAct) : Prop :=
  xs.length = n ∧ n ≤ 9223372036854775807 ∧ (∀ x ∈ xs, 0 ≤ x.do_ ∧ x.do_ < 256 ∧ 0 ≤ x.key ∧ x.key < 18446744073709551616 ∧ 0 ≤ x.at_ ∧ x.at_ < 18446744073709551616) ∧ (0 < n → ∃ b off, a = some ⟨b, off, none⟩ ∧ b < w.heap.size ∧ ∀ i, i < n →
    w.cell? ⟨b, off + i * 3, none⟩ = some (.int .u8 (xs.getD i default).do_) ∧ w.cell? ⟨b, off + i * 3 + 1, none⟩ = some (.int .u64 (xs.getD i default).key) ∧ w.cell? ⟨b, off + i * 3 + 2, none⟩ = some (.int .u64 (xs.getD i default).at_))
end Go.Proofs.YtonfaojmphidpaaGreatDoor

/- More arguments: slices of bytes, of ints. -/
namespace Go.Proofs.YtonfaojmphidpaaGreatDoor
open Go.RowKit Go.ChangeShapes Go.WideShapes
theorem open_u8s {H : Type} {enc : TypeId × Value → H} {w : World} {base : Nat} {sp : Nat → Bool} {held : Bool} {a : Option Addr} {len cap : Nat} {d : DataW H} {p : List MemPlace}
    (h : DataW.Trod enc Tryz.prog w base sp held 168 (.slice a len cap) d p) : ∃ xs, Nums .u8 w a len cap xs := open_nums Tryz.underlying168 Tryz.underlying5 (by kernel_rfl) h
theorem open_i64s {H : Type} {enc : TypeId × Value → H} {w : World} {base : Nat} {sp : Nat → Bool} {held : Bool} {a : Option Addr} {len cap : Nat} {d : DataW H} {p : List MemPlace}
    (h : DataW.Trod enc Tryz.prog w base sp held 53 (.slice a len cap) d p) : ∃ xs, Nums .i64 w a len cap xs := open_nums Tryz.underlying53 Tryz.underlying3 (by kernel_rfl) h
end Go.Proofs.YtonfaojmphidpaaGreatDoor

/- A set of keys in a map of the call's own. -/
namespace Go.Proofs.YtonfaojmphidpaaGreatDoor
open Go.RowKit Go.Maps
set_option linter.unusedVariables false
set_option linter.unusedSimpArgs false

structure TabS (D : DataW Unit) (S : List Int) : Prop where
  tidy : Tidy D
  nodup : S.Nodup
  has_ : ∀ k, Maps.has D (K64 k) = decide (k ∈ S)
  at_ : ∀ k ∈ S, ∀ z, D.atKey (K64 k) z = .lit (.bool true)
  size_ : Maps.size D = S.length
theorem TabS.empty : TabS (.map []) [] := ⟨tidy_empty, List.nodup_nil, fun k => rfl, (fun p hp => absurd hp List.not_mem_nil), rfl⟩
theorem TabS.put {D : DataW Unit} {S : List Int} (h : TabS D S) {k : Int} (hk : k ∉ S) : TabS (D.put (K64 k) (.lit (.bool true))) (S ++ [k]) := by
  refine ⟨h.tidy.put (K64_key k) _, ?_, fun k' => ?_, fun k' hp z => ?_, ?_⟩
  · rw [List.nodup_append]; exact ⟨h.nodup, by simp, fun a ha b hb => by simp at hb; subst hb; exact fun e => hk (e ▸ ha)⟩
  · by_cases e : k' = k
    · subst e; rw [has_put_same h.tidy.isMap (K64_key _)]; simp
    · rw [has_put_other (fun e' => e (K64_inj e')), h.has_]; simp [e]
  · by_cases e : k' = k
    · subst e; exact atKey_put_same h.tidy.isMap (K64_key _) _ _
    · rw [atKey_put_other (fun e' => e (K64_inj e')), h.at_ k' (by simpa [e] using hp)]
  · have a := size_put (k := K64 k) h.tidy (.lit (.bool true))
    rw [h.has_, h.size_] at a
    rw [a]; simp [hk]
/-- The set in block b holds just S. -/
def St (w : World) (b : Nat) (S : List Int) : Prop := ∃ D : DataW Unit, w.ownsMap Tryz.prog 28 (plainElem Tryz.prog 4) b S.length D ∧ TabS D S
theorem zeroBool (w : World) : (zeroValue 4).run Tryz.prog w = .ok (.bool false) w := by kernel_rfl
theorem St.look {w : World} {b : Nat} {S : List Int} (h : St w b S) {k : Int} (hk : In64 k) : (Instr.lookup 27 (.map (some b)) (.int .u64 k) false).run Tryz.prog w = .ok (.bool (decide (k ∈ S))) w := by
  obtain ⟨D, hown, hT⟩ := h
  obtain ⟨v, ps, hrun, hv⟩ := hown.lookup lawU Tryz.underlying27 (zeroBool _) (plainElem_bool Tryz.underlying4 false) (keyOf_int_mk Tryz.underlying28 hk.wf)
  rw [hrun]
  have hd : D.atKey (K64 k) (.lit (.bool false)) = .lit (.bool (decide (k ∈ S))) := by
    by_cases hm : k ∈ S
    · rw [hT.at_ k hm, decide_eq_true hm]
    · rw [Maps.atKey_of_not_has (by rw [hT.has_]; simp [hm]), decide_eq_false hm]
  have hv' : plainElem (H := Unit) Tryz.prog 4 v = some (.lit (.bool (decide (k ∈ S))), ps) := by rw [← hd]; exact hv
  cases v <;> simp [plainElem, Tryz.underlying4] at hv'
  rw [hv'.1]
theorem St.lt {w : World} {b : Nat} {S : List Int} (h : St w b S) : b < w.heap.size := by obtain ⟨D, h1, -⟩ := h; exact h1.lt
theorem St.kept {w w' : World} {b : Nat} {S : List Int} {r : Option Nat} (h : St w b S) (hg : w.grownBy w' r) (h2 : some b ≠ r) : St w' b S := by
  obtain ⟨D, hown, hT⟩ := h
  exact ⟨D, hown.kept hg h2, hT⟩
theorem St.of_below {w w' : World} {b : Nat} {S : List Int} (h : St w b S) (hb : RowKit.Below w.heap.size w w') : St w' b S :=
  h.kept (r := none) ⟨hb.os, hb.tape, hb.output, hb.size, fun i hi _ => hb.block i hi⟩ (by simp)
theorem St.made (w : World) : St (w.alloc (.map #[] 0)) w.heap.size [] := ⟨.map [], World.ownsMap_made w Tryz.prog _ _, TabS.empty⟩
theorem own_tightS {k : TypeId} {R : Value → Option (DataW Unit × List MemPlace)} {w : World} {b n : Nat} {D : DataW Unit} (h : w.ownsMap Tryz.prog k R b n D) : w.ownsMap Tryz.prog k R b (Maps.size D) D := own_tight h
theorem St.put {w' : World} {b : Nat} {S : List Int} {D : DataW Unit} (hT : TabS D S) {k : Int} (hk : k ∉ S) (h : w'.ownsMap Tryz.prog 28 (plainElem Tryz.prog 4) b (S.length + 1) (D.put (K64 k) (.lit (.bool true)))) : St w' b (S ++ [k]) := by
  have hp := hT.put hk
  exact ⟨_, hp.size_ ▸ own_tight h, hp⟩
theorem own_no_cell {P : Program} {k : TypeId} {R : Value → Option (DataW Unit × List MemPlace)} {w : World} {b n : Nat} {D : DataW Unit} (h : w.ownsMap P k R b n D) (off : Nat) : w.cell? ⟨b, off, none⟩ = none := by
  obtain ⟨es, clock, h1, -⟩ := h
  simp [World.cell?, h1]
theorem St.no_cell {w : World} {b : Nat} {S : List Int} (h : St w b S) (off : Nat) : w.cell? ⟨b, off, none⟩ = none := by obtain ⟨D, h1, -⟩ := h; exact own_no_cell h1 off
theorem Rd.keptM {w w' : World} {size : Nat} {a : Option Addr} {n cap : Nat} {cs : List Value} (hs0 : 0 < size) (h : Rd size w a n cap cs) {b : Nat} (hno : ∀ off, w.cell? ⟨b, off, none⟩ = none) (hg : w.grownBy w' (some b)) : Rd size w' a n cap cs := by
  refine ⟨h.1, h.2.1, h.2.2.1, fun h0 => ?_⟩
  obtain ⟨x, off, ha, hx, hc⟩ := h.2.2.2 h0
  have hne : x ≠ b := fun e => by
    subst e
    have hl : 0 < cs.length := by rw [h.1]; exact Nat.mul_pos h0 hs0
    have := hc 0 cs[0] (List.getElem?_eq_getElem hl)
    rw [hno] at this; cases this
  exact ⟨x, off, ha, Nat.lt_of_lt_of_le hx hg.size, fun i v hi => (World.cell?_of_block (w := w) (a := ⟨x, off + i, none⟩) (hg.block x hx (fun e => hne (Option.some.inj e)))).trans (hc i v hi)⟩
end Go.Proofs.YtonfaojmphidpaaGreatDoor
