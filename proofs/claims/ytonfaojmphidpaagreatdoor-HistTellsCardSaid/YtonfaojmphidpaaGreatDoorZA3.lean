/- Joined: Awake03, Wheel2, Cmp, Wheel3, WheelLay, WheelSort, TabSort, WheelKeys, WheelDue, WheelClone, Awake05, Guard, Awake07. -/
import Derived.Test.YtonfaojmphidpaaGreatDoorZA2
import Derived.Test.YtonfaojmphidpaaGreatDoorZA1
import Derived.Sort.Grow
import Derived.Test.YtonfaojmphidpaaGreatDoorProg
import Derived.Shelf.SlSortCmp.Whole1
import Derived.Shelf.SlMaps.Clone
import Derived.Shelf.SlSortCmp.NoneTotal
import Derived.Shelf.Abstract
import Derived.Tactics
import Derived.Tactics2
import Derived.Defers
import Derived.Recover
import Derived.Laws.Pointers

/- Layer 3's example; the clock. -/
namespace Go.Proofs.YtonfaojmphidpaaGreatDoor
open Go.RowKit
set_option linter.unusedVariables false
set_option linter.unusedSimpArgs false

theorem sl_new (w : World) (k : IntKind) (e : TypeId) (xs : List Int) : Sl k (w.alloc (.cells (nums k xs).toArray e)) (some ⟨w.heap.size, 0, none⟩) xs.length xs :=
  blk_sl (Blk.new w e _) (by simp [nums]) (Nat.le_refl _) fun j hj => by simp only [List.getElem?_toArray]; exact nums_get hj

set_option maxHeartbeats 1000000 in
theorem law03_awake (w : World) :
    Calls Tryz.prog 184 #[] w fun e w' => e = .returned (.bool true) ∧ Below w.heap.size w w' := by
  have hof : ofL [1, 2, 1] = [1, 2] := by decide
  go_enter Tryz.func184, Tryz.ntmps184
  go_wp2_with (first | (go_at_call 189; refine (law02_Awake _).mono ?_; rintro e w1 ⟨rfl, hb⟩))
  refine (snap_Of _ 3 [1, 2, 1] _ (sl_new w1 .u64 28 [1, 2, 1]) (by decide)).mono ?_
  rintro e w2 ⟨a2, c2, rfl, hs2, hl2, hb2⟩
  rw [hof] at hs2 ⊢
  simp only [World.size_alloc] at hb2
  have hz2 := hb2.size
  have hB2 : Below w.heap.size w w2 := below_step (hb.alloc hb.size _) (by simp; have := hb.size; omega) (by rw [World.size_alloc]; exact hb2)
  go_wp2_with fail
  refine (snap_All _ c2 [1, 2] _ hs2 (by decide)).mono ?_
  rintro e w3 ⟨a3, c3, rfl, ho3, hb3⟩
  have hB3 := below_step hB2 hB2.size hb3
  have hs3 : Sl .u64 w3 a3 c3 [1, 2] := own_rd ho3
  go_wp2_with fail
  refine (slices_Equal_u64 _ _ _ 2 [1, 2] [1, 2] _ (hs3.below ((Below.refl _ _).alloc (Nat.le_refl _) _)) (sl_new w3 .u64 28 [1, 2]) (by decide) (by decide)).mono ?_
  rintro e w4 ⟨rfl, q, rfl⟩
  go_wp2
  go_ret
  exact ⟨rfl, below_drewN (hB3.alloc hB3.size _) q⟩

set_option maxHeartbeats 400000 in
theorem law03_Awake (w : World) :
    Calls Tryz.prog 175 #[] w fun e w' => e = .returned (.bool true) ∧ Below w.heap.size w w' := by
  go_enter Tryz.func175, Tryz.ntmps175
  go_wp2_with (first | (go_at_call 184; refine (law03_awake _).mono ?_; rintro e w' ⟨rfl, hb⟩))
  go_ret
  exact ⟨rfl, hb⟩

/-! The clock: every tick up to 2^60. -/
def cAdd (a b : Int) : Int := if a + b < 1152921504606846976 then a + b else 1152921504606846976
set_option maxHeartbeats 400000 in
theorem clock_Add (a b : Int) (w : World) (h0 : 0 ≤ a) (h1 : a < 18446744073709551616) (h2 : 0 ≤ b) (h3 : b < 18446744073709551616) :
    Calls Tryz.prog 171 #[.int .u64 a, .int .u64 b] w fun e w' => e = .returned (.int .u64 (cAdd a b)) ∧ w = w' := by
  go_enter Tryz.func171, Tryz.ntmps171
  go_wp2
  all_goals (go_ret; exact ⟨ret_int (by unfold cAdd; split <;> omega), rfl⟩)
theorem cAdd_range (a b : Int) (h0 : 0 ≤ a) (h2 : 0 ≤ b) : 0 ≤ cAdd a b ∧ cAdd a b ≤ 1152921504606846976 := by unfold cAdd; split <;> omega
set_option maxHeartbeats 400000 in
theorem clock_After (c : Int) (h0 : 0 ≤ c) (h1 : c < 18446744073709551616) (n : Int) (h2 : 0 ≤ n) (h3 : n < 18446744073709551616) (w : World) :
    Calls Tryz.prog 176 #[.agg #[.int .u64 c], .int .u64 n] w fun e w' => e = .returned (.int .u64 (cAdd c n)) ∧ Below w.heap.size w w' := by
  go_enter Tryz.func176, Tryz.ntmps176
  go_wp2_with (go_at_call 171; refine (clock_Add _ _ _ (by omega) (by omega) (by omega) (by omega)).mono ?_; rintro e w' ⟨rfl, rfl⟩)
  go_ret
  exact ⟨rfl, (Below.refl _ _).alloc (Nat.le_refl _) _⟩
set_option maxHeartbeats 400000 in
theorem clock_Reached (c : Int) (h0 : 0 ≤ c) (h1 : c < 18446744073709551616) (n : Int) (h2 : 0 ≤ n) (h3 : n < 18446744073709551616) (w : World) :
    Calls Tryz.prog 177 #[.agg #[.int .u64 c], .int .u64 n] w fun e w' => e = .returned (.bool (decide (n ≤ c))) ∧ Below w.heap.size w w' := by
  go_enter Tryz.func177, Tryz.ntmps177
  go_wp2
  go_ret
  exact ⟨rfl, (Below.refl _ _).alloc (Nat.le_refl _) _⟩
set_option maxHeartbeats 400000 in
theorem clock_At (c : Int) (h0 : 0 ≤ c) (h1 : c < 18446744073709551616) (w : World) :
    Calls Tryz.prog 174 #[.int .u64 c] w fun e w' => e = .returned (.agg #[.int .u64 (cAdd c 0)]) ∧ Below w.heap.size w w' := by
  go_enter Tryz.func174, Tryz.ntmps174
  go_wp2_with (go_at_call 171; refine (clock_Add _ _ _ (by omega) (by omega) (by omega) (by omega)).mono ?_; rintro e w' ⟨rfl, rfl⟩)
  refine bodyPost_ret (v := .agg #[.int .u64 (cAdd c 0)]) (by simp [results, Tryz.results174, go_sem]) rfl ?_
  exact ⟨rfl, (Below.refl _ _).alloc (Nat.le_refl _) _⟩
set_option maxHeartbeats 400000 in
theorem clock_Tick (c : Int) (h0 : 0 ≤ c) (h1 : c < 18446744073709551616) (n : Int) (h2 : 0 ≤ n) (h3 : n < 18446744073709551616) (w : World) :
    Calls Tryz.prog 178 #[.agg #[.int .u64 c], .int .u64 n] w fun e w' => e = .returned (.agg #[.int .u64 (cAdd c n)]) ∧ Below w.heap.size w w' := by
  go_enter Tryz.func178, Tryz.ntmps178
  go_wp2_with (go_at_call 176; refine (clock_After _ (by omega) (by omega) _ (by omega) (by omega) _).mono ?_; rintro e w1 ⟨rfl, hb⟩; obtain ⟨bc, bf⟩ := bcell hb; have hz := hb.size)
  refine bodyPost_ret (v := .agg #[.int .u64 (cAdd c n)]) (by simp [results, Tryz.results178, go_sem, bc]) rfl ?_
  exact ⟨rfl, (below_step (((Below.refl w.heap.size w).alloc (Nat.le_refl _) _).alloc (by simp) _) (by simp; omega) hb).setCell (by simp) _⟩

set_option maxHeartbeats 400000 in
theorem law04_awake (w : World) :
    Calls Tryz.prog 172 #[] w fun e w' => e = .returned (.bool true) ∧ Below w.heap.size w w' := by
  have e1 : cAdd 5 0 = 5 := by decide
  have e2 : cAdd 5 3 = 8 := by decide
  go_enter Tryz.func172, Tryz.ntmps172
  go_wp2_with (first | (go_at_call 174; refine (clock_At _ (by omega) (by omega) _).mono ?_; rintro e w1 ⟨rfl, hb1⟩; have hz0 := hb1.size) | (go_at_call 175; refine (law03_Awake _).mono ?_; rintro e w0 ⟨rfl, hb0⟩; have p' : w0.cell? ⟨w1.heap.size, 0, none⟩ = some (.int .u64 (5)) := ((hb0.cell (p := ⟨w1.heap.size, 0, none⟩) (by ((try simp only [World.size_alloc]); omega))).trans (by first | assumption | (simp; done))); have hz' : w1.heap.size < w0.heap.size := (by have := hb0.size; (try simp only [World.size_alloc] at this); omega); have hB' : Below w.heap.size w w0 := (below_step (by first | assumption | exact Below.alloc (by assumption) (by omega) _) (by ((try simp only [World.size_alloc]); omega)) hb0)) | (go_at_call 176; refine (clock_After _ (by omega) (by omega) _ (by omega) (by omega) _).mono ?_; rintro e wn ⟨rfl, hbn⟩; have p' : wn.cell? ⟨w1.heap.size, 0, none⟩ = some (.int .u64 (5)) := ((hbn.cell (p := ⟨w1.heap.size, 0, none⟩) (by ((try simp only [World.size_alloc]); omega))).trans (by first | assumption | (simp; done))); have hz' : w1.heap.size < wn.heap.size := (by have := hbn.size; (try simp only [World.size_alloc] at this); omega); have hB' : Below w.heap.size w wn := (below_step (by first | assumption | exact Below.alloc (by assumption) (by omega) _) (by ((try simp only [World.size_alloc]); omega)) hbn)) | (go_at_call 178; refine (clock_Tick _ (by omega) (by omega) _ (by omega) (by omega) _).mono ?_; rintro e wn ⟨rfl, hbn⟩; have p' : wn.cell? ⟨w1.heap.size, 0, none⟩ = some (.int .u64 (5)) := ((hbn.cell (p := ⟨w1.heap.size, 0, none⟩) (by ((try simp only [World.size_alloc]); omega))).trans (by first | assumption | (simp; done))); have hz' : w1.heap.size < wn.heap.size := (by have := hbn.size; (try simp only [World.size_alloc] at this); omega); have hB' : Below w.heap.size w wn := (below_step (by first | assumption | exact Below.alloc (by assumption) (by omega) _) (by ((try simp only [World.size_alloc]); omega)) hbn)) | (go_at_call 177; refine (clock_Reached _ (by omega) (by omega) _ (by omega) (by omega) _).mono ?_; rintro e wn ⟨rfl, hbn⟩; have p' : wn.cell? ⟨w1.heap.size, 0, none⟩ = some (.int .u64 (5)) := ((hbn.cell (p := ⟨w1.heap.size, 0, none⟩) (by ((try simp only [World.size_alloc]); omega))).trans (by first | assumption | (simp; done))); have hz' : w1.heap.size < wn.heap.size := (by have := hbn.size; (try simp only [World.size_alloc] at this); omega); have hB' : Below w.heap.size w wn := (below_step (by first | assumption | exact Below.alloc (by assumption) (by omega) _) (by ((try simp only [World.size_alloc]); omega)) hbn)))
  go_ret
  exact ⟨by rfl, by assumption⟩
set_option maxHeartbeats 400000 in
theorem law04_Awake (w : World) :
    Calls Tryz.prog 168 #[] w fun e w' => e = .returned (.bool true) ∧ Below w.heap.size w w' := by
  go_enter Tryz.func168, Tryz.ntmps168
  go_wp2_with (first | (go_at_call 172; refine (law04_awake _).mono ?_; rintro e w' ⟨rfl, hb⟩))
  go_ret
  exact ⟨rfl, hb⟩
end Go.Proofs.YtonfaojmphidpaaGreatDoor

/- The wheel's map: walks of Disarm, Arm. -/
namespace Go.Proofs.YtonfaojmphidpaaGreatDoor
open Go.RowKit Go.Maps
set_option linter.unusedVariables false
set_option linter.unusedSimpArgs false

theorem Wh.cell {w : World} {g b : Nat} {L : List (Int × Int)} (h : Wh w g b L) : w.cell? ⟨g, 0, none⟩ = some (.map (some b)) := h.blk.cell 0
theorem Wh.ne {w : World} {g b : Nat} {L : List (Int × Int)} (h : Wh w g b L) : g ≠ b := by
  obtain ⟨D, ⟨es, clock, h1, -⟩, -⟩ := h.map_
  intro e; subst e
  have := h.blk; unfold Blk at this; rw [this] at h1; cases h1
theorem Wh.lt {w : World} {g b : Nat} {L : List (Int × Int)} (h : Wh w g b L) : b < w.heap.size := by
  obtain ⟨D, h1, -⟩ := h.map_; exact h1.lt
theorem Wh.below {w w' : World} {g b : Nat} {L : List (Int × Int)} (h : Wh w g b L) {B : Nat} (hb : Below B w w') (hg : g < B) (hB : b < B) : Wh w' g b L := by
  obtain ⟨D, ⟨es, clock, h1, h2⟩, hT⟩ := h.map_
  exact ⟨h.blk.below hb hg, ⟨D, ⟨es, clock, (hb.block b hB).trans h1, h2⟩, hT⟩, h.wf_⟩
theorem Wh.of_below {w w' : World} {g b : Nat} {L : List (Int × Int)} (h : Wh w g b L) (hb : Below w.heap.size w w') : Wh w' g b L := h.below hb h.blk.lt h.lt
theorem Wh.perm {w : World} {g b : Nat} {L L' : List (Int × Int)} (h : Wh w g b L) (hp : L.Perm L') : Wh w g b L' := by
  obtain ⟨D, h1, hT⟩ := h.map_
  exact ⟨h.blk, ⟨D, hp.length_eq ▸ h1, hT.perm hp⟩, fun p hm => h.wf_ p (hp.mem_iff.2 hm)⟩
theorem cAdd_in {a : Int} (h : In64 a) : In64 (cAdd a 0) := by unfold In64 cAdd at *; split <;> omega

set_option maxRecDepth 100000 in
set_option maxHeartbeats 1000000 in
theorem wheel_Arm_full (g b : Nat) (L : List (Int × Int)) (k v : Int) (w : World) (h : Wh w g b L) (hk : In64 k) (hv : In64 v) (hl : L.length ≤ 1024) (hf : k ∉ keysOf L ∧ 1024 ≤ L.length) :
    Calls Tryz.prog 167 #[.pointer (some ⟨g, 0, none⟩), .int .u64 k, .int .u64 v] w fun e w' => e = .returned (.int .i64 11) ∧ w = w' := by
  obtain ⟨D, hown, hT⟩ := h.map_
  have p0 := h.cell
  have hkey : keyOf Tryz.prog 28 (.int .u64 k) = some (K64 k) := keyOf_int_mk Tryz.underlying28 hk.wf
  have hh : Maps.has D (K64 k) = false := by rw [hT.has_]; simp [hf.1]
  have hs := hT.size_
  have hlen := fun ty => hown.len Tryz.underlying234 ty
  have hz : (1024 : Int) ≤ (Maps.size D : Nat) := by omega
  go_enter Tryz.func167, Tryz.ntmps167
  go_wp2_with (first | (at_lookup; refine wpList_lookup_own_ok_int _ rfl _ _ 234 rfl 28 28 .u64 lawU Tryz.underlying234 Tryz.underlying28 (zeroU64 _) b L.length D rfl hown _ _ rfl hkey ?_; intro c hat hwc) | go_in)
  go_ret
  exact ⟨rfl, rfl⟩

set_option maxRecDepth 100000 in
set_option maxHeartbeats 1000000 in
theorem wheel_Arm (g b : Nat) (L : List (Int × Int)) (k v : Int) (w : World) (h : Wh w g b L) (hk : In64 k) (hv : In64 v) (hl : L.length ≤ 1024) (hf : k ∈ keysOf L ∨ L.length < 1024) :
    Calls Tryz.prog 167 #[.pointer (some ⟨g, 0, none⟩), .int .u64 k, .int .u64 v] w fun e w' => e = .returned (.int .i64 0) ∧ Wh w' g b ((k, cAdd v 0) :: strike L k) ∧ w.grownBy w' (some b) := by
  obtain ⟨D, hown, hT⟩ := h.map_
  have p0 := h.cell
  have hkey : keyOf Tryz.prog 28 (.int .u64 k) = some (K64 k) := keyOf_int_mk Tryz.underlying28 hk.wf
  have hh : Maps.has D (K64 k) = decide (k ∈ keysOf L) := hT.has_ k
  have hs := hT.size_
  have hlen := fun ty => hown.len Tryz.underlying234 ty
  have hcw := (cAdd_in hv).wf
  have hownd : w.drew.ownsMap Tryz.prog 28 (plainElem Tryz.prog 28) b L.length D := hown
  have fin : ∀ w1 : World, w1.ownsMap Tryz.prog 28 (plainElem Tryz.prog 28) b (L.length + 1) (D.put (K64 k) (.lit (.int .u64 (cAdd v 0)))) → w.drew.mapTurned w1 b → Wh w1 g b ((k, cAdd v 0) :: strike L k) ∧ w.grownBy w1 (some b) := by
    intro w1 h1 h2
    have hp := hT.put k (cAdd v 0)
    have hg : w.grownBy w1 (some b) := ⟨h2.grown.os, h2.grown.tape, h2.grown.output, h2.grown.size, h2.grown.block⟩
    refine ⟨⟨(hg.block g h.blk.lt (fun e => h.ne (Option.some.inj e))).trans h.blk, ⟨_, hp.size_ ▸ own_tight h1, hp⟩, fun p hm => ?_⟩, hg⟩
    rcases List.mem_cons.1 hm with rfl | hm
    · exact ⟨hk, cAdd_in hv⟩
    · exact h.wf_ p (mem_strike.1 hm).1
  by_cases hin : k ∈ keysOf L
  · have hh' : Maps.has D (K64 k) = true := by rw [hh]; simp [hin]
    clear hh
    go_enter Tryz.func167, Tryz.ntmps167
    go_wp2_with (first | (at_lookup; refine wpList_lookup_own_ok_int _ rfl _ _ 234 rfl 28 28 .u64 lawU Tryz.underlying234 Tryz.underlying28 (zeroU64 _) b L.length D rfl hown _ _ rfl hkey ?_; intro c hat hwc) | go_in)
    refine wp_region_mix_tail (fun w' => w' = w.drew) 7 [(0, true), (1, true), (2, true), (3, true), (4, true), (5, true), (6, false)] (by kernel_rfl) (by kernel_rfl) (rfl) ?_
    refine ord_still rfl rfl (fun K hK => ?_); apply Exists.intro; refine ⟨fun w' hw' => ?_, ?_⟩; (obtain rfl := hw'; go_simp; first | done | exact ⟨rfl, rfl⟩ | exact rfl); (go_simp; refine hK _ ?_; clear hK K)
    refine ord_still rfl rfl (fun K hK => ?_); apply Exists.intro; refine ⟨fun w' hw' => ?_, ?_⟩; (obtain rfl := hw'; go_simp; first | done | exact ⟨rfl, rfl⟩ | exact rfl); (go_simp; refine hK _ ?_; clear hK K)
    refine ord_still rfl rfl (fun K hK => ?_); apply Exists.intro; refine ⟨fun w' hw' => ?_, ?_⟩; (obtain rfl := hw'; go_simp; first | done | exact ⟨rfl, rfl⟩ | exact rfl); (go_simp; refine hK _ ?_; clear hK K)
    refine ord_still rfl rfl (fun K hK => ?_); apply Exists.intro; refine ⟨fun w' hw' => ?_, ?_⟩; (obtain rfl := hw'; go_simp; first | done | exact ⟨rfl, rfl⟩ | exact rfl); (go_simp; refine hK _ ?_; clear hK K)
    refine ord_still rfl rfl (fun K hK => ?_); apply Exists.intro; refine ⟨fun w' hw' => ?_, ?_⟩; (obtain rfl := hw'; go_simp; first | done | exact ⟨rfl, rfl⟩ | exact rfl); (go_simp; refine hK _ ?_; clear hK K)
    refine ord_still rfl rfl (fun K hK => ?_); apply Exists.intro; refine ⟨fun w' hw' => ?_, ?_⟩; (obtain rfl := hw'; go_simp; first | done | exact ⟨rfl, rfl⟩ | exact rfl); (go_simp; refine hK _ ?_; clear hK K)
    refine ord_sole rfl rfl (fun K hK => ?_); go_simp
    refine (clock_Add _ _ _ hv.1 hv.2 (by omega) (by omega)).mono ?_
    rintro e w3 ⟨rfl, rfl⟩
    refine ⟨_, rfl, rfl, ?_⟩
    go_simp
    refine hK _ _ ?_; clear hK K
    refine ord_nil ?_
    intro hC
    simp only [List.drop_succ_cons, List.drop_zero]
    go_wp2_with (first | (at_mapUpdate; refine wpList_mapUpdate_in _ rfl _ _ _ 234 rfl 28 28 lawU Tryz.underlying234 _ b L.length D rfl hownd (by unfold maxLen; omega) _ _ _ rfl rfl hkey _ [] (plainElem_int Tryz.underlying28 hcw) ?_; intro w1 hown1 hturn1) | go_in)
    go_ret
    exact ⟨rfl, fin _ hown1 hturn1⟩
  · have hh' : Maps.has D (K64 k) = false := by rw [hh]; simp [hin]
    have hz : ¬ (1024 : Int) ≤ (Maps.size D : Nat) := by have := hf.resolve_left hin; omega
    clear hh
    go_enter Tryz.func167, Tryz.ntmps167
    go_wp2_with (first | (at_lookup; refine wpList_lookup_own_ok_int _ rfl _ _ 234 rfl 28 28 .u64 lawU Tryz.underlying234 Tryz.underlying28 (zeroU64 _) b L.length D rfl hown _ _ rfl hkey ?_; intro c hat hwc) | go_in)
    refine wp_region_mix_tail (fun w' => w' = w.drew) 7 [(0, true), (1, true), (2, true), (3, true), (4, true), (5, true), (6, false)] (by kernel_rfl) (by kernel_rfl) (rfl) ?_
    refine ord_still rfl rfl (fun K hK => ?_); apply Exists.intro; refine ⟨fun w' hw' => ?_, ?_⟩; (obtain rfl := hw'; go_simp; first | done | exact ⟨rfl, rfl⟩ | exact rfl); (go_simp; refine hK _ ?_; clear hK K)
    refine ord_still rfl rfl (fun K hK => ?_); apply Exists.intro; refine ⟨fun w' hw' => ?_, ?_⟩; (obtain rfl := hw'; go_simp; first | done | exact ⟨rfl, rfl⟩ | exact rfl); (go_simp; refine hK _ ?_; clear hK K)
    refine ord_still rfl rfl (fun K hK => ?_); apply Exists.intro; refine ⟨fun w' hw' => ?_, ?_⟩; (obtain rfl := hw'; go_simp; first | done | exact ⟨rfl, rfl⟩ | exact rfl); (go_simp; refine hK _ ?_; clear hK K)
    refine ord_still rfl rfl (fun K hK => ?_); apply Exists.intro; refine ⟨fun w' hw' => ?_, ?_⟩; (obtain rfl := hw'; go_simp; first | done | exact ⟨rfl, rfl⟩ | exact rfl); (go_simp; refine hK _ ?_; clear hK K)
    refine ord_still rfl rfl (fun K hK => ?_); apply Exists.intro; refine ⟨fun w' hw' => ?_, ?_⟩; (obtain rfl := hw'; go_simp; first | done | exact ⟨rfl, rfl⟩ | exact rfl); (go_simp; refine hK _ ?_; clear hK K)
    refine ord_still rfl rfl (fun K hK => ?_); apply Exists.intro; refine ⟨fun w' hw' => ?_, ?_⟩; (obtain rfl := hw'; go_simp; first | done | exact ⟨rfl, rfl⟩ | exact rfl); (go_simp; refine hK _ ?_; clear hK K)
    refine ord_sole rfl rfl (fun K hK => ?_); go_simp
    refine (clock_Add _ _ _ hv.1 hv.2 (by omega) (by omega)).mono ?_
    rintro e w3 ⟨rfl, rfl⟩
    refine ⟨_, rfl, rfl, ?_⟩
    go_simp
    refine hK _ _ ?_; clear hK K
    refine ord_nil ?_
    intro hC
    simp only [List.drop_succ_cons, List.drop_zero]
    go_wp2_with (first | (at_mapUpdate; refine wpList_mapUpdate_in _ rfl _ _ _ 234 rfl 28 28 lawU Tryz.underlying234 _ b L.length D rfl hownd (by unfold maxLen; omega) _ _ _ rfl rfl hkey _ [] (plainElem_int Tryz.underlying28 hcw) ?_; intro w1 hown1 hturn1) | go_in)
    go_ret
    exact ⟨rfl, fin _ hown1 hturn1⟩
end Go.Proofs.YtonfaojmphidpaaGreatDoor

/- cmp's functions at uint64 and int. -/
namespace Go.Proofs.YtonfaojmphidpaaGreatDoor
open Go.RowKit
set_option linter.unusedVariables false
set_option linter.unusedSimpArgs false

def cmpI (x y : Int) : Int := if x < y then -1 else if y < x then 1 else 0
set_option maxHeartbeats 400000 in
theorem cmp_Compare_u64 (x y : Int) (w : World) :
    Calls Tryz.prog 183 #[.int .u64 x, .int .u64 y] w fun e w' => e = .returned (.int .i64 (cmpI x y)) ∧ w = w' := by
  have key : ∀ c : Int, cmpI x y = c → (Calls Tryz.prog 183 #[.int .u64 x, .int .u64 y] w fun e w' => e = .returned (.int .i64 c) ∧ w = w') → Calls Tryz.prog 183 #[.int .u64 x, .int .u64 y] w fun e w' => e = .returned (.int .i64 (cmpI x y)) ∧ w = w' := fun c hc h => hc ▸ h
  by_cases h1 : x < y
  · refine key (-1) (by simp [cmpI, h1]) ?_; clear key
    go_enter Tryz.func183, Tryz.ntmps183
    go_wp2
    go_ret
    exact ⟨rfl, rfl⟩
  · by_cases h2 : y < x
    · refine key 1 (by simp [cmpI, h1, h2]) ?_; clear key
      go_enter Tryz.func183, Tryz.ntmps183
      go_wp2
      go_ret
      exact ⟨rfl, rfl⟩
    · refine key 0 (by simp [cmpI, h1, h2]) ?_; clear key
      go_enter Tryz.func183, Tryz.ntmps183
      go_wp2
      go_ret
      exact ⟨rfl, rfl⟩
def orI (xs : List Int) : Int := (xs.find? (· != 0)).getD 0
theorem orI_two (a b : Int) : orI [a, b] = if a = 0 then b else a := by
  unfold orI
  by_cases h : a = 0
  · subst h; by_cases h' : b = 0 <;> simp [h']
  · simp [h]
set_option maxHeartbeats 400000 in
theorem cmp_Or_int (a : Option Addr) (cap : Nat) (xs : List Int) (w : World) (h : Sl .i64 w a cap xs) (hl : xs.length ≤ 1000000) :
    Calls Tryz.prog 182 #[.slice a xs.length cap] w fun e w' => e = .returned (.int .i64 (orI xs)) ∧ w = w' := by
  go_enter Tryz.func182, Tryz.ntmps182
  go_wp2
  go_loop [8] (fun i => ∃ k : Nat, k ≤ xs.length ∧ i = .int .i64 k ∧ ∀ j, j < k → xs.getD j 0 = 0) (fun i => xs.length - (intOf i).toNat)
  case atStart => exact ⟨0, by omega, rfl, fun j hj => absurd hj (by omega)⟩
  case round =>
    obtain ⟨k, hk, rfl, hno⟩ := hrel
    have HN := Lib.hid hno; clear hno
    by_cases hlt : k < xs.length
    · obtain ⟨b, off, rfl, hbs, hc⟩ := h.at_ (by omega)
      have c0 := hc k hlt
      clear hc
      by_cases hx : xs.getD k 0 = 0
      · rw [hx] at c0
        have HX := Lib.hid hx; clear hx
        go_wp2
        go_round
        case rel => exact ⟨k + 1, by omega, by go_num, fun j hj => by
          by_cases e : j = k
          · subst e; exact HX.out
          · exact HN.out j (by omega)⟩
        case measure => simp [intOf]; omega
      · have hx' : (xs.getD k 0 != 0) = true := by simpa using hx
        have HX := Lib.hid hx; clear hx
        generalize hxx : xs.getD k 0 = x at c0 hx'
        have HXX := Lib.hid hxx; clear hxx
        go_wp2
        go_ret
        refine ⟨ret_int ?_, rfl⟩
        have : xs.find? (· != 0) = some x := by
          rw [List.find?_eq_some_iff_getElem]
          refine ⟨hx', k, hlt, by have := HXX.out; simpa [List.getD_eq_getElem?_getD, hlt] using this, fun j hj => ?_⟩
          have := HN.out j hj
          simp [List.getD_eq_getElem?_getD, show j < xs.length by omega] at this
          simp [this]
        simp only [orI, this]; rfl
    · go_wp2
      go_ret
      refine ⟨ret_int ?_, rfl⟩
      have : xs.find? (· != 0) = none := by
        rw [List.find?_eq_none]
        intro x hx
        obtain ⟨j, hj, rfl⟩ := List.mem_iff_getElem.1 hx
        have := HN.out j (by omega)
        simp [List.getD_eq_getElem?_getD, hj] at this
        simp [this]
      simp only [orI, this]; rfl
end Go.Proofs.YtonfaojmphidpaaGreatDoor

/- The wheel's order on keys: the walk of the closure that SortedFunc calls. -/
namespace Go.Proofs.YtonfaojmphidpaaGreatDoor
open Go.RowKit Go.Maps Go.Sort
set_option linter.unusedVariables false
set_option linter.unusedSimpArgs false

def keyCmp (L : List (Int × Int)) (x y : Int) : Int := if cmpI (valOf L x) (valOf L y) = 0 then cmpI x y else cmpI (valOf L x) (valOf L y)
theorem Wh.look {w : World} {g b : Nat} {L : List (Int × Int)} (h : Wh w g b L) {k : Int} (hk : In64 k) : (Instr.lookup 234 (.map (some b)) (.int .u64 k) false).run Tryz.prog w = .ok (.int .u64 (valOf L k)) w := by
  obtain ⟨D, hown, hT⟩ := h.map_
  obtain ⟨c, hrun, hat, -⟩ := hown.lookup_int lawU Tryz.underlying234 Tryz.underlying28 (zeroU64 _) (keyOf_int_mk Tryz.underlying28 hk.wf)
  rw [hrun, hT.val hat]
theorem below_growN (w : World) (q : Nat) (os : Array Obj) : Below w.heap.size w (grow (w.drewN q) os) :=
  ⟨rfl, rfl, rfl, by simp [grow, World.drewN], fun k hk => Array.getElem?_append_left hk⟩

set_option maxRecDepth 100000 in
set_option maxHeartbeats 1000000 in
theorem wheel_keys_cmp (bx g b : Nat) (L : List (Int × Int)) (x y : Int) (w : World) (h : Wh w g b L) (hx : In64 x) (hy : In64 y) (hbx : w.cell? ⟨bx, 0, none⟩ = some (.pointer (some ⟨g, 0, none⟩))) (hlt : bx < w.heap.size) :
    Calls Tryz.prog 181 #[.int .u64 x, .int .u64 y, .pointer (some ⟨bx, 0, none⟩)] w fun e w' => e = .returned (.int .i64 (keyCmp L x y)) ∧ ∃ q os, w' = grow (w.drewN q) os := by
  have hC : ∀ w' : World, (∃ q os, w' = grow (w.drewN q) os) → w'.cell? ⟨bx, 0, none⟩ = some (.pointer (some ⟨g, 0, none⟩)) ∧ w'.cell? ⟨g, 0, none⟩ = some (.map (some b)) ∧
      (Instr.lookup 234 (.map (some b)) (.int .u64 x) false).run Tryz.prog w' = .ok (.int .u64 (valOf L x)) w' ∧
      (Instr.lookup 234 (.map (some b)) (.int .u64 y) false).run Tryz.prog w' = .ok (.int .u64 (valOf L y)) w' := by
    rintro w' ⟨q, os, rfl⟩
    have hb := below_growN w q os
    have h' := h.of_below hb
    exact ⟨(hb.cell (p := ⟨bx, 0, none⟩) hlt).trans hbx, h'.cell, h'.look hx, h'.look hy⟩
  go_enter Tryz.func181, Tryz.ntmps181
  go_wp2_with fail
  refine wp_region_mix_tail (fun w' => ∃ q os, w' = grow (w.drewN q) os) 16 [(0, true), (1, true), (2, true), (3, true), (4, true), (5, true), (6, true), (7, true), (8, true), (9, true), (10, true), (11, true), (13, true), (14, true), (12, false), (15, false)] (by kernel_rfl) (by kernel_rfl) (⟨1, #[], (grow_empty _).symm⟩) ?_
  refine ord_still rfl rfl (fun K hK => ?_); apply Exists.intro; refine ⟨fun w' hw' => ?_, ?_⟩; (obtain ⟨hc1, hc2, hl1, hl2⟩ := hC w' hw'; go_simp; first | done | exact ⟨rfl, rfl⟩ | exact rfl); (go_simp; refine hK _ ?_; clear hK K)
  refine ord_still rfl rfl (fun K hK => ?_); apply Exists.intro; refine ⟨fun w' hw' => ?_, ?_⟩; (obtain ⟨hc1, hc2, hl1, hl2⟩ := hC w' hw'; go_simp; first | done | exact ⟨rfl, rfl⟩ | exact rfl); (go_simp; refine hK _ ?_; clear hK K)
  refine ord_still rfl rfl (fun K hK => ?_); apply Exists.intro; refine ⟨fun w' hw' => ?_, ?_⟩; (obtain ⟨hc1, hc2, hl1, hl2⟩ := hC w' hw'; go_simp; first | done | exact ⟨rfl, rfl⟩ | exact rfl); (go_simp; refine hK _ ?_; clear hK K)
  refine ord_still rfl rfl (fun K hK => ?_); apply Exists.intro; refine ⟨fun w' hw' => ?_, ?_⟩; (obtain ⟨hc1, hc2, hl1, hl2⟩ := hC w' hw'; go_simp; first | done | exact ⟨rfl, rfl⟩ | exact rfl); (go_simp; refine hK _ ?_; clear hK K)
  refine ord_still rfl rfl (fun K hK => ?_); apply Exists.intro; refine ⟨fun w' hw' => ?_, ?_⟩; (obtain ⟨hc1, hc2, hl1, hl2⟩ := hC w' hw'; go_simp; first | done | exact ⟨rfl, rfl⟩ | exact rfl); (go_simp; refine hK _ ?_; clear hK K)
  refine ord_still rfl rfl (fun K hK => ?_); apply Exists.intro; refine ⟨fun w' hw' => ?_, ?_⟩; (obtain ⟨hc1, hc2, hl1, hl2⟩ := hC w' hw'; go_simp; first | done | exact ⟨rfl, rfl⟩ | exact rfl); (go_simp; refine hK _ ?_; clear hK K)
  refine ord_still rfl rfl (fun K hK => ?_); apply Exists.intro; refine ⟨fun w' hw' => ?_, ?_⟩; (obtain ⟨hc1, hc2, hl1, hl2⟩ := hC w' hw'; go_simp; first | done | exact ⟨rfl, rfl⟩ | exact rfl); (go_simp; refine hK _ ?_; clear hK K)
  refine ord_still rfl rfl (fun K hK => ?_); apply Exists.intro; refine ⟨fun w' hw' => ?_, ?_⟩; (obtain ⟨hc1, hc2, hl1, hl2⟩ := hC w' hw'; go_simp; first | done | exact ⟨rfl, rfl⟩ | exact rfl); (go_simp; refine hK _ ?_; clear hK K)
  refine ord_still rfl rfl (fun K hK => ?_); apply Exists.intro; refine ⟨fun w' hw' => ?_, ?_⟩; (obtain ⟨hc1, hc2, hl1, hl2⟩ := hC w' hw'; go_simp; first | done | exact ⟨rfl, rfl⟩ | exact rfl); (go_simp; refine hK _ ?_; clear hK K)
  refine ord_still rfl rfl (fun K hK => ?_); apply Exists.intro; refine ⟨fun w' hw' => ?_, ?_⟩; (obtain ⟨hc1, hc2, hl1, hl2⟩ := hC w' hw'; go_simp; first | done | exact ⟨rfl, rfl⟩ | exact rfl); (go_simp; refine hK _ ?_; clear hK K)
  refine ord_still rfl rfl (fun K hK => ?_); apply Exists.intro; refine ⟨fun w' hw' => ?_, ?_⟩; (obtain ⟨hc1, hc2, hl1, hl2⟩ := hC w' hw'; go_simp; first | done | exact ⟨rfl, rfl⟩ | exact rfl); (go_simp; refine hK _ ?_; clear hK K)
  refine ord_still rfl rfl (fun K hK => ?_); apply Exists.intro; refine ⟨fun w' hw' => ?_, ?_⟩; (obtain ⟨hc1, hc2, hl1, hl2⟩ := hC w' hw'; go_simp; first | done | exact ⟨rfl, rfl⟩ | exact rfl); (go_simp; refine hK _ ?_; clear hK K)
  refine ord_still rfl rfl (fun K hK => ?_); apply Exists.intro; refine ⟨fun w' hw' => ?_, ?_⟩; (obtain ⟨hc1, hc2, hl1, hl2⟩ := hC w' hw'; go_simp; first | done | exact ⟨rfl, rfl⟩ | exact rfl); (go_simp; refine hK _ ?_; clear hK K)
  refine ord_still rfl rfl (fun K hK => ?_); apply Exists.intro; refine ⟨fun w' hw' => ?_, ?_⟩; (obtain ⟨hc1, hc2, hl1, hl2⟩ := hC w' hw'; go_simp; first | done | exact ⟨rfl, rfl⟩ | exact rfl); (go_simp; refine hK _ ?_; clear hK K)
  refine ord_sole rfl rfl (fun K hK => ?_); go_simp
  refine (cmp_Compare_u64 _ _ _).mono ?_
  rintro e w3 ⟨rfl, rfl⟩
  refine ⟨_, rfl, ⟨1, #[], (grow_empty _).symm⟩, ?_⟩
  go_simp
  refine hK _ _ ?_; clear hK K
  refine ord_sole rfl rfl (fun K hK => ?_); go_simp
  refine (cmp_Compare_u64 _ _ _).mono ?_
  rintro e w3 ⟨rfl, rfl⟩
  refine ⟨_, rfl, ⟨1, #[], (grow_empty _).symm⟩, ?_⟩
  go_simp
  refine hK _ _ ?_; clear hK K
  refine ord_nil ?_
  intro hCx
  clear hCx hC
  simp only [List.drop_succ_cons, List.drop_zero]
  go_wp2_with fail
  refine (cmp_Or_int _ 2 [cmpI (valOf L x) (valOf L y), cmpI x y] _ (sl_new w.drew .i64 3 [cmpI (valOf L x) (valOf L y), cmpI x y]) (by simp)).mono ?_
  rintro e w3 ⟨rfl, rfl⟩
  rw [show orI [cmpI (valOf L x) (valOf L y), cmpI x y] = keyCmp L x y from orI_two _ _]
  go_wp2_with fail
  go_ret
  exact ⟨rfl, 1, _, alloc_eq_grow w.drew (.cells #[.int .i64 (cmpI (valOf L x) (valOf L y)), .int .i64 (cmpI x y)] 3)⟩
end Go.Proofs.YtonfaojmphidpaaGreatDoor

/- The library's generic functions that the wheel calls, laid from the shelf's contracts. -/
namespace Go.Proofs
open Go.RowKit Go.Sort Go.Shelf
def Tryz.sortF_ren : Go.Shelf.Ren := ⟨fun | 6 => 186 | 15 => 118 | 14 => 193 | 28 => 138 | 29 => 139 | 20 => 196 | 21 => 197 | 22 => 198 | 23 => 199 | 24 => 200 | 25 => 201 | 26 => 202 | 27 => 203 | 46 => 209 | 47 => 151 | 48 => 152 | 49 => 210 | 50 => 211 | 57 => 218 | n => n, fun | 22 => 39 | 24 => 28 | 25 => 247 | 3 => 3 | 39 => 182 | 0 => 0 | 53 => 203 | 55 => 28 | 4 => 4 | 46 => 196 | 45 => 195 | 50 => 57 | 5 => 5 | 9 => 9 | 66 => 212 | 70 => 215 | 76 => 222 | 77 => 223 | n => n, fun | n => n⟩
theorem Tryz.sortF : Go.Proofs.SlLaysF.n6 Tryz.prog Tryz.sortF_ren := {
  mixed := by kernel_rfl
  f6 := ⟨Tryz.f186.name, by decide, Tryz.func186.trans (congrArg some (by kernel_rfl))⟩
  f14 := ⟨Tryz.f193.name, by decide, Tryz.func193.trans (congrArg some (by kernel_rfl))⟩
  f15 := Tryz.func118.trans (congrArg some (by kernel_rfl))
  f20 := ⟨Tryz.f196.name, by decide, Tryz.func196.trans (congrArg some (by kernel_rfl))⟩
  f21 := ⟨Tryz.f197.name, by decide, Tryz.func197.trans (congrArg some (by kernel_rfl))⟩
  f22 := ⟨Tryz.f198.name, by decide, Tryz.func198.trans (congrArg some (by kernel_rfl))⟩
  f23 := ⟨Tryz.f199.name, by decide, Tryz.func199.trans (congrArg some (by kernel_rfl))⟩
  f24 := ⟨Tryz.f200.name, by decide, Tryz.func200.trans (congrArg some (by kernel_rfl))⟩
  f25 := ⟨Tryz.f201.name, by decide, Tryz.func201.trans (congrArg some (by kernel_rfl))⟩
  f26 := ⟨Tryz.f202.name, by decide, Tryz.func202.trans (congrArg some (by kernel_rfl))⟩
  f27 := ⟨Tryz.f203.name, by decide, Tryz.func203.trans (congrArg some (by kernel_rfl))⟩
  f28 := Tryz.func138.trans (congrArg some (by kernel_rfl))
  f29 := Tryz.func139.trans (congrArg some (by kernel_rfl))
  f46 := ⟨Tryz.f209.name, by decide, Tryz.func209.trans (congrArg some (by kernel_rfl))⟩
  f47 := Tryz.func151.trans (congrArg some (by kernel_rfl))
  f48 := Tryz.func152.trans (congrArg some (by kernel_rfl))
  f49 := ⟨Tryz.f210.name, by decide, Tryz.func210.trans (congrArg some (by kernel_rfl))⟩
  f50 := ⟨Tryz.f211.name, by decide, Tryz.func211.trans (congrArg some (by kernel_rfl))⟩
  f57 := ⟨Tryz.f218.name, by decide, Tryz.func218.trans (congrArg some (by kernel_rfl))⟩
  t0 := Tryz.underlying0
  a0 := Tryz.isAgg0
  z0 := Tryz.sizeOf0
  v0 := Tryz.zeroValue0
  t3 := Tryz.underlying3
  a3 := Tryz.isAgg3
  z3 := Tryz.sizeOf3
  v3 := Tryz.zeroValue3
  t4 := Tryz.underlying4
  a4 := Tryz.isAgg4
  z4 := Tryz.sizeOf4
  v4 := Tryz.zeroValue4
  t5 := Tryz.underlying5
  a5 := Tryz.isAgg5
  z5 := Tryz.sizeOf5
  v5 := Tryz.zeroValue5
  t9 := Tryz.underlying9
  a9 := Tryz.isAgg9
  z9 := Tryz.sizeOf9
  v9 := Tryz.zeroValue9
  t22 := Tryz.underlying39
  a22 := Tryz.isAgg39
  z22 := Tryz.sizeOf39
  v22 := Tryz.zeroValue39
  a24 := Tryz.isAgg28
  z24 := Tryz.sizeOf28
  t25 := Tryz.underlying247
  a25 := Tryz.isAgg247
  z25 := Tryz.sizeOf247
  v25 := Tryz.zeroValue247
  t39 := Tryz.underlying182
  a39 := Tryz.isAgg182
  z39 := Tryz.sizeOf182
  v39 := Tryz.zeroValue182
  t45 := Tryz.underlying195
  a45 := Tryz.isAgg195
  z45 := Tryz.sizeOf195
  v45 := Tryz.zeroValue195
  t46 := Tryz.underlying196
  a46 := Tryz.isAgg196
  z46 := Tryz.sizeOf196
  v46 := Tryz.zeroValue196
  t50 := Tryz.underlying57
  a50 := Tryz.isAgg57
  z50 := Tryz.sizeOf57
  v50 := Tryz.zeroValue57
  t53 := Tryz.underlying203
  a53 := Tryz.isAgg203
  z53 := Tryz.sizeOf203
  v53 := Tryz.zeroValue203
  t55 := Tryz.underlying28
  a55 := Tryz.isAgg28
  z55 := Tryz.sizeOf28
  v55 := Tryz.zeroValue28
  t66 := Tryz.underlying212
  a66 := Tryz.isAgg212
  z66 := Tryz.sizeOf212
  v66 := Tryz.zeroValue212
  t70 := Tryz.underlying215
  a70 := Tryz.isAgg215
  z70 := Tryz.sizeOf215
  v70 := Tryz.zeroValue215
  t76 := Tryz.underlying222
  a76 := Tryz.isAgg222
  z76 := Tryz.sizeOf222
  v76 := Tryz.zeroValue222
  t77 := Tryz.underlying223
  a77 := Tryz.isAgg223
  z77 := Tryz.sizeOf223
  v77 := Tryz.zeroValue223 }
end Go.Proofs

/- slices.SortFunc as the wheel calls it: by tick, then by key. -/
namespace Go.Proofs.YtonfaojmphidpaaGreatDoor
open Go.RowKit Go.Maps Go.Sort Go.Shelf
set_option linter.unusedVariables false
set_option linter.unusedSimpArgs false

abbrev U := { x : Int // In64 x }
instance : Inhabited U := ⟨⟨0, by unfold In64; omega⟩⟩
def encU (x : U) : Value := .int .u64 x.1
def cfU (L : List (Int × Int)) (x y : U) : Int := keyCmp L x.1 y.1
theorem keyCmp_neg (L : List (Int × Int)) (x y : Int) : keyCmp L x y < 0 ↔ valOf L x < valOf L y ∨ (valOf L x = valOf L y ∧ x < y) := by
  unfold keyCmp cmpI
  by_cases h1 : valOf L x < valOf L y
  · simp [h1]
  · by_cases h2 : valOf L y < valOf L x
    · simp [h1, h2]; omega
    · have e : valOf L x = valOf L y := by omega
      by_cases h3 : x < y
      · simp [e, h3]
      · by_cases h4 : y < x <;> simp [e, h3, h4]
theorem ltU (L : List (Int × Int)) (x y : U) : ltOf (cfU L) x y = decide (valOf L x.1 < valOf L y.1 ∨ (valOf L x.1 = valOf L y.1 ∧ x.1 < y.1)) := by
  unfold ltOf cfU; rw [decide_eq_decide]; exact keyCmp_neg L x.1 y.1
theorem swoU (L : List (Int × Int)) : SWO (ltOf (cfU L)) where
  irrefl x := by rw [ltU]; simp
  trans x y z h1 h2 := by rw [ltU] at *; simp at *; omega
  ntrans x y z h1 h2 := by rw [ltU] at *; simp at *; omega
theorem sortWorld_grown (w : World) (blk m : Nat) (dk : Array U) (os : Array Obj) : w.grownBy (sortWorld encU w blk 0 m dk os) (some blk) := by
  refine ⟨rfl, rfl, rfl, by simp [sortWorld], fun k hk hne => ?_⟩
  unfold sortWorld
  rw [heap_grow_old _ _ (by simpa using hk)]
  have : blk ≠ k := fun e => hne (by rw [e])
  simp [putRow, mapBlock, Sort.ahead, Array.getElem?_modify, this]
theorem Wh.grown {w w' : World} {g b r : Nat} {L : List (Int × Int)} (h : Wh w g b L) (hg : w.grownBy w' (some r)) (h1 : g ≠ r) (h2 : b ≠ r) : Wh w' g b L := by
  obtain ⟨D, hown, hT⟩ := h.map_
  exact ⟨(hg.block g h.blk.lt (fun e => h1 (Option.some.inj e))).trans h.blk, ⟨D, hown.kept hg (fun e => h2 (Option.some.inj e)), hT⟩, h.wf_⟩
theorem cmpLaysU (bx g b : Nat) (L : List (Int × Int)) (blk size : Nat) (w : World) (h : Wh w g b L) (hbx : Blk w bx 230 #[.pointer (some ⟨g, 0, none⟩)]) (h1 : g ≠ blk) (h2 : b ≠ blk) (h3 : bx ≠ blk) :
    CmpLays1 Tryz.prog 181 #[.pointer (some ⟨bx, 0, none⟩)] encU (cfU L) blk 0 size w := fun m os dk hs x y => by
  have hg := sortWorld_grown w blk m dk os
  have hb : Blk (sortWorld encU w blk 0 m dk os) bx 230 #[.pointer (some ⟨g, 0, none⟩)] := (hg.block bx hbx.lt (fun e => h3 (Option.some.inj e))).trans hbx
  exact wheel_keys_cmp bx g b L x.1 y.1 _ (h.grown hg h1 h2) x.2 y.2 (hb.cell 0) hb.lt
theorem wheel_SortFunc (bx g b : Nat) (L : List (Int × Int)) (blk cap : Nat) (d : Array U) (w : World) (h : Wh w g b L) (hbx : Blk w bx 230 #[.pointer (some ⟨g, 0, none⟩)]) (h1 : g ≠ blk) (h2 : b ≠ blk) (h3 : bx ≠ blk)
    (hH : Holds encU w blk 0 d) (hblk : blk < w.heap.size) (hsz : d.size < 4611686018427387904) :
    Calls Tryz.prog 186 #[.slice (some ⟨blk, 0, none⟩) d.size cap, .func (.func 181) #[] #[.pointer (some ⟨bx, 0, none⟩)]] w fun e w' =>
      e = .returned (.tuple #[]) ∧ ∃ d' n os, PermIn 0 d.size d d' ∧ SortedIn (ltOf (cfU L)) 0 d.size d' ∧ w' = sortWorld encU w blk 0 n d' os := by
  have eg : ∀ args w, (callFunc 181 args).run Tryz.prog w = .ok (.enter 181 args) w := enters_of Tryz.func181 (by kernel_rfl) rfl
  exact Any.slices_SortFunc Tryz.sortF encU (fun _ => rfl) (cfU L) (swoU L) _ _ blk 0 cap d w eg (cmpLaysU bx g b L blk d.size w h hbx h1 h2 h3) hH hblk hsz
end Go.Proofs.YtonfaojmphidpaaGreatDoor

/- Tables in order: by value, then by key. No program in sight. -/
namespace Go.Proofs.YtonfaojmphidpaaGreatDoor
open Go Go.Maps
set_option linter.unusedVariables false

def ltT (p q : Int × Int) : Prop := p.2 < q.2 ∨ (p.2 = q.2 ∧ p.1 < q.1)
instance (p q : Int × Int) : Decidable (ltT p q) := by unfold ltT; infer_instance
theorem ltT_irr (p : Int × Int) : ¬ ltT p p := by unfold ltT; omega
theorem ltT_trans {p q r : Int × Int} (h1 : ltT p q) (h2 : ltT q r) : ltT p r := by unfold ltT at *; omega
theorem ltT_tot {p q : Int × Int} (h : p.1 ≠ q.1) : ltT p q ∨ ltT q p := by unfold ltT; omega
theorem ltT_asym {p q : Int × Int} (h1 : ltT p q) : ¬ ltT q p := by unfold ltT at *; omega
def Srt (L : List (Int × Int)) : Prop := L.Pairwise ltT
theorem Srt.cons {p : Int × Int} {L : List (Int × Int)} (h : Srt (p :: L)) : (∀ q ∈ L, ltT p q) ∧ Srt L := List.pairwise_cons.1 h
theorem Srt.uniq : ∀ {A B : List (Int × Int)}, A.Perm B → Srt A → Srt B → A = B
  | [], B, hp, _, _ => by simpa using hp.symm.eq_nil.symm
  | a :: A, [], hp, _, _ => by simpa using hp.eq_nil
  | a :: A, b :: B, hp, hA, hB => by
    have ha := hA.cons; have hb := hB.cons
    have e : a = b := by
      rcases List.mem_cons.1 (hp.mem_iff.1 (List.mem_cons_self (a := a) (l := A))) with h | h
      · exact h
      · rcases List.mem_cons.1 (hp.mem_iff.2 (List.mem_cons_self (a := b) (l := B))) with h' | h'
        · exact h'.symm
        · exact absurd (hb.1 _ h) (ltT_asym (ha.1 _ h'))
    subst e
    rw [Srt.uniq ((List.perm_cons a).1 hp) ha.2 hb.2]
theorem Srt.sub {A B : List (Int × Int)} (hs : A.Sublist B) (h : Srt B) : Srt A := List.Pairwise.sublist hs h
theorem Srt.strike {L : List (Int × Int)} (h : Srt L) (k : Int) : Srt (strike L k) := h.sub List.filter_sublist
/-- t goes in where it belongs. -/
def insT (L : List (Int × Int)) (t : Int × Int) : List (Int × Int) := L.takeWhile (fun p => decide (ltT p t)) ++ t :: L.dropWhile (fun p => decide (ltT p t))
theorem insT_perm (L : List (Int × Int)) (t : Int × Int) : (t :: L).Perm (insT L t) := by
  unfold insT
  refine .trans ?_ List.perm_middle.symm
  rw [List.takeWhile_append_dropWhile]
theorem insT_srt {L : List (Int × Int)} {t : Int × Int} (h : Srt L) (hk : t.1 ∉ keysOf L) : Srt (insT L t) := by
  induction L with
  | nil => simp [insT, Srt]
  | cons p L ih =>
    have hp := h.cons
    have hk' : t.1 ≠ p.1 ∧ t.1 ∉ keysOf L := by simpa [keysOf] using hk
    by_cases e : ltT p t
    · have : insT (p :: L) t = p :: insT L t := by simp [insT, e]
      rw [this]
      refine List.pairwise_cons.2 ⟨fun q hq => ?_, ih hp.2 hk'.2⟩
      rcases List.mem_cons.1 ((insT_perm L t).mem_iff.2 hq) with rfl | hq
      · exact e
      · exact hp.1 q hq
    · have : insT (p :: L) t = t :: p :: L := by simp [insT, e]
      rw [this]
      have h1 : ltT t p := (ltT_tot hk'.1).resolve_right e
      refine List.pairwise_cons.2 ⟨fun q hq => ?_, h⟩
      rcases List.mem_cons.1 hq with rfl | hq
      · exact h1
      · exact ltT_trans h1 (hp.1 q hq)
def dueT (L : List (Int × Int)) (now : Int) : List (Int × Int) := L.takeWhile fun p => decide (p.2 ≤ now)
def restT (L : List (Int × Int)) (now : Int) : List (Int × Int) := L.dropWhile fun p => decide (p.2 ≤ now)
theorem due_rest (L : List (Int × Int)) (now : Int) : dueT L now ++ restT L now = L := List.takeWhile_append_dropWhile
theorem strike_head {p : Int × Int} {L : List (Int × Int)} (h : (keysOf (p :: L)).Nodup) : strike (p :: L) p.1 = L := by
  have hn : p.1 ∉ keysOf L ∧ (keysOf L).Nodup := by simpa [keysOf] using h
  have : strike (p :: L) p.1 = strike L p.1 := by simp [strike]
  rw [this, strike_of_not hn.1]
theorem restT_srt {L : List (Int × Int)} (h : Srt L) (now : Int) : Srt (restT L now) := h.sub (List.dropWhile_sublist _)
/-- In order: what is due is just what has come. -/
theorem dueT_mem {L : List (Int × Int)} (h : Srt L) (now : Int) (p : Int × Int) : p ∈ dueT L now ↔ p ∈ L ∧ p.2 ≤ now := by
  induction L with
  | nil => simp [dueT]
  | cons q L ih =>
    have hq := h.cons
    by_cases e : q.2 ≤ now
    · have : dueT (q :: L) now = q :: dueT L now := by simp [dueT, e]
      rw [this, List.mem_cons, List.mem_cons, ih hq.2]
      constructor
      · rintro (rfl | ⟨h1, h2⟩)
        · exact ⟨.inl rfl, e⟩
        · exact ⟨.inr h1, h2⟩
      · rintro ⟨rfl | h1, h2⟩
        · exact .inl rfl
        · exact .inr ⟨h1, h2⟩
    · have : dueT (q :: L) now = [] := by simp [dueT, e]
      rw [this]
      constructor
      · intro h; cases h
      · rintro ⟨h1, h2⟩
        rcases List.mem_cons.1 h1 with rfl | h1
        · exact absurd h2 e
        · have := hq.1 p h1; unfold ltT at this; omega
theorem restT_mem {L : List (Int × Int)} (h : Srt L) (now : Int) (p : Int × Int) : p ∈ restT L now ↔ p ∈ L ∧ now < p.2 := by
  induction L with
  | nil => simp [restT]
  | cons q L ih =>
    have hq := h.cons
    by_cases e : q.2 ≤ now
    · have : restT (q :: L) now = restT L now := by simp [restT, e]
      rw [this, List.mem_cons, ih hq.2]
      constructor
      · rintro ⟨h1, h2⟩; exact ⟨.inr h1, h2⟩
      · rintro ⟨rfl | h1, h2⟩
        · omega
        · exact ⟨h1, h2⟩
    · have : restT (q :: L) now = q :: L := by simp [restT, e]
      rw [this]
      refine ⟨fun h1 => ⟨h1, ?_⟩, fun h => h.1⟩
      rcases List.mem_cons.1 h1 with rfl | h1
      · omega
      · have := hq.1 p h1; unfold ltT at this; omega
/-- Every table can be put in order. -/
def sortT (L : List (Int × Int)) : List (Int × Int) := L.foldr (fun t A => insT A t) []
theorem sortT_perm : ∀ L : List (Int × Int), L.Perm (sortT L)
  | [] => .refl _
  | p :: L => ((sortT_perm L).cons p).trans (insT_perm (sortT L) p)
theorem sortT_srt {L : List (Int × Int)} (h : (keysOf L).Nodup) : Srt (sortT L) := by
  induction L with
  | nil => simp [sortT, Srt]
  | cons p L ih =>
    have hn : p.1 ∉ keysOf L ∧ (keysOf L).Nodup := by simpa [keysOf] using h
    refine insT_srt (ih hn.2) fun hm => hn.1 ?_
    unfold keysOf at hm ⊢
    exact (((sortT_perm L).map Prod.fst).mem_iff).2 hm
theorem take_snoc' {α : Type} (xs : List α) (d : α) (k : Nat) (h : k < xs.length) : xs.take (k + 1) = xs.take k ++ [xs.getD k d] := by
  rw [List.take_succ_eq_append_getElem h]; simp [List.getD_eq_getElem?_getD, h]
theorem keysOf_getD {T : List (Int × Int)} {i : Nat} (h : i < T.length) : (keysOf T).getD i 0 = (T.getD i (0, 0)).1 := by
  simp [keysOf, List.getD_eq_getElem?_getD, h]
theorem keysOf_length (T : List (Int × Int)) : (keysOf T).length = T.length := by simp [keysOf]
theorem dueT_of {T : List (Int × Int)} {now : Int} {k : Nat} (h1 : ∀ p ∈ T.take k, p.2 ≤ now) (h2 : T.length ≤ k ∨ ∃ p, T[k]? = some p ∧ now < p.2) : dueT T now = T.take k ∧ restT T now = T.drop k := by
  have e1 : (T.take k).takeWhile (fun p => decide (p.2 ≤ now)) = T.take k := by
    generalize T.take k = A at h1
    induction A with
    | nil => rfl
    | cons q A ih => rw [List.takeWhile_cons_of_pos (by simpa using h1 q List.mem_cons_self), ih fun p hp => h1 p (List.mem_cons_of_mem _ hp)]
  have hd : (T.drop k).takeWhile (fun p => decide (p.2 ≤ now)) = [] ∧ (T.drop k).dropWhile (fun p => decide (p.2 ≤ now)) = T.drop k := by
    rcases h2 with h2 | ⟨p, hp, hlt⟩
    · rw [List.drop_of_length_le h2]; exact ⟨rfl, rfl⟩
    · obtain ⟨hk, rfl⟩ := List.getElem?_eq_some_iff.1 hp
      have : ¬ (T[k].2 ≤ now) := by omega
      rw [List.drop_eq_getElem_cons hk, List.takeWhile_cons_of_neg (by simpa using this), List.dropWhile_cons_of_neg (by simpa using this)]
      exact ⟨rfl, rfl⟩
  have hT : T = T.take k ++ T.drop k := (List.take_append_drop k T).symm
  have hp : ∀ p ∈ T.take k, (fun p : Int × Int => decide (p.2 ≤ now)) p = true := fun p hm => by simpa using h1 p hm
  constructor
  · unfold dueT
    conv => lhs; rw [hT]
    rw [List.takeWhile_append_of_pos hp, hd.1, List.append_nil]
  · unfold restT
    conv => lhs; rw [hT]
    rw [List.dropWhile_append_of_pos hp, hd.2]
theorem keysOf_snoc (T : List (Int × Int)) (k : Nat) (h : k < T.length) : keysOf (T.take (k + 1)) = keysOf (T.take k) ++ [(T.getD k (0, 0)).1] := by
  rw [take_snoc' T (0, 0) k h]; simp [keysOf]
theorem tw_of {α : Type} {f : α → Bool} {T : List α} {k : Nat} (h1 : ∀ p ∈ T.take k, f p = true) (h2 : T.length ≤ k ∨ ∃ p, T[k]? = some p ∧ f p = false) : T.takeWhile f = T.take k ∧ T.dropWhile f = T.drop k := by
  have e1 : (T.take k).takeWhile f = T.take k := by
    generalize T.take k = A at h1
    induction A with
    | nil => rfl
    | cons q A ih => rw [List.takeWhile_cons_of_pos (h1 q List.mem_cons_self), ih fun p hp => h1 p (List.mem_cons_of_mem _ hp)]
  have hd : (T.drop k).takeWhile f = [] ∧ (T.drop k).dropWhile f = T.drop k := by
    rcases h2 with h2 | ⟨p, hp, hlt⟩
    · rw [List.drop_of_length_le h2]; exact ⟨rfl, rfl⟩
    · obtain ⟨hk, rfl⟩ := List.getElem?_eq_some_iff.1 hp
      rw [List.drop_eq_getElem_cons hk, List.takeWhile_cons_of_neg (by simpa using hlt), List.dropWhile_cons_of_neg (by simpa using hlt)]
      exact ⟨rfl, rfl⟩
  have hT : T = T.take k ++ T.drop k := (List.take_append_drop k T).symm
  constructor
  · conv => lhs; rw [hT]
    rw [List.takeWhile_append_of_pos h1, hd.1, List.append_nil]
  · conv => lhs; rw [hT]
    rw [List.dropWhile_append_of_pos h1, hd.2]
theorem insT_of {T : List (Int × Int)} {t : Int × Int} {k : Nat} (h1 : ∀ p ∈ T.take k, ltT p t) (h2 : T.length ≤ k ∨ ∃ p, T[k]? = some p ∧ ¬ ltT p t) : insT T t = T.take k ++ t :: T.drop k := by
  have := tw_of (f := fun p => decide (ltT p t)) (T := T) (k := k) (fun p hp => by simpa using h1 p hp) (h2.imp id fun ⟨p, hp, hn⟩ => ⟨p, hp, by simpa using hn⟩)
  unfold insT; rw [this.1, this.2]
theorem insT_length (T : List (Int × Int)) (t : Int × Int) : (insT T t).length = T.length + 1 := by rw [← (insT_perm T t).length_eq]; rfl
end Go.Proofs.YtonfaojmphidpaaGreatDoor

/- The wheel's keys, in order. -/
namespace Go.Proofs.YtonfaojmphidpaaGreatDoor
open Go.RowKit Go.Maps Go.Sort Go.Shelf
set_option linter.unusedVariables false
set_option linter.unusedSimpArgs false

def withV (L : List (Int × Int)) (ks : List Int) : List (Int × Int) := ks.map fun k => (k, valOf L k)
theorem keysOf_withV (L : List (Int × Int)) (ks : List Int) : keysOf (withV L ks) = ks := by
  unfold keysOf withV; rw [List.map_map]; exact (List.map_congr_left fun _ _ => rfl).trans (List.map_id _)
theorem withV_keys {L : List (Int × Int)} (h : (keysOf L).Nodup) : withV L (keysOf L) = L := by
  unfold withV keysOf; rw [List.map_map]
  refine (List.map_congr_left fun p hp => ?_).trans (List.map_id _)
  show (p.1, valOf L p.1) = p
  rw [valOf_mem h (v := p.2) hp]
def valsU (d : Array U) : List Int := d.toList.map Subtype.val
theorem sorted_keys {L T : List (Int × Int)} (hn : (keysOf L).Nodup) (hT : L.Perm T) (hs : Srt T) (d : Array U) (hp : (valsU d).Perm (keysOf L)) (hS : SortedIn (ltOf (cfU L)) 0 d.size d) : valsU d = keysOf T := by
  have h1 : (withV L (valsU d)).Perm T := (hp.map _).trans (by have := withV_keys hn; unfold withV at this; rw [this]; exact hT)
  have hnd : (valsU d).Nodup := hp.nodup_iff.2 hn
  have hlen : (valsU d).length = d.size := by simp [valsU]
  have hget : ∀ i (h : i < d.size), (valsU d)[i]'(by rw [hlen]; exact h) = (d[i]!).1 := fun i h => by
    rw [getElem!_pos d i h]; simp [valsU]
  have h2 : Srt (withV L (valsU d)) := by
    unfold Srt withV
    rw [List.pairwise_map, List.pairwise_iff_getElem]
    intro i j hi hj hij
    rw [hlen] at hi hj
    have hl := hS i j (by omega) hij hj
    rw [ltU] at hl
    rw [hget i hi, hget j hj]
    have hne : (d[i]!).1 ≠ (d[j]!).1 := by
      rw [← hget i hi, ← hget j hj]
      exact (List.pairwise_iff_getElem.1 hnd) i j (by rw [hlen]; exact hi) (by rw [hlen]; exact hj) hij
    simp only [decide_eq_false_iff_not] at hl
    unfold ltT; dsimp only
    omega
  rw [← Srt.uniq h1 h2 hs, keysOf_withV]
theorem holds_U {w : World} {g : Nat} {cur : Array Value} {e : TypeId} {d : Array U} (hb : w.heap[g]? = some (.cells cur e (0, 0))) (ht : cur.toList.take d.size = d.toList.map encU) : Holds encU w g 0 d := by
  intro j hj
  refine ⟨?_, by simp [World.frozen?, hb]⟩
  have h1 : (cur.toList.take d.size)[j]? = (d.toList.map encU)[j]? := by rw [ht]
  rw [List.getElem?_take_of_lt hj] at h1
  simp only [World.cell?, hb, Nat.zero_add]
  simp only [Option.isSome_none, Bool.false_eq_true, if_false]
  rw [← Array.getElem?_toList, h1]
  simp [hj]
theorem heap_U {w : World} {g n : Nat} {os : Array Obj} {cur : Array Value} {e : TypeId} {fr : Nat × Nat} (d : Array U) (hb : w.heap[g]? = some (.cells cur e fr)) :
    (sortWorld encU w g 0 n d os).heap[g]? = some (.cells (putCells encU 0 d cur) e fr) := by
  have hg : g < w.heap.size := (Array.getElem?_eq_some_iff.1 hb).1
  unfold sortWorld
  rw [heap_grow_old _ _ (by simpa using hg)]
  simp [putRow, mapBlock, Sort.ahead, Array.getElem?_modify, hb, onCells]
theorem take_U (cur : Array Value) (d : Array U) (h : d.size ≤ cur.size) : (putCells encU 0 d cur).toList.take d.size = d.toList.map encU := by
  apply List.ext_getElem?
  intro j
  by_cases hj : j < d.size
  · rw [List.getElem?_take_of_lt hj, Array.getElem?_toList]
    simp [putCells, hj, show j < cur.size by omega]
  · rw [List.getElem?_take_eq_none (by omega), List.getElem?_eq_none (by simp; omega)]
theorem own_U {w : World} {base g cap n : Nat} {e : TypeId} {os : Array Obj} {cur : Array Value} {d : Array U} (hbase : base ≤ g) (hb : w.heap[g]? = some (.cells cur e (0, 0)))
    (h1 : d.size ≤ cap) (h2 : cap ≤ maxLen) (h3 : cur.size = cap * 1) :
    (sortWorld encU w g 0 n d os).ownsRow base e 1 (.slice (some ⟨g, 0, none⟩) d.size cap) d.size (d.toList.map encU) :=
  ⟨by simp, .inr ⟨g, cap, _, rfl, hbase, heap_U _ hb, h1, h2, by simp [putCells, h3], by rw [Nat.mul_one]; exact take_U cur d (by omega)⟩⟩
theorem encU_vals (d : Array U) : d.toList.map encU = nums .u64 (valsU d) := by
  unfold nums valsU; rw [List.map_map]; rfl
theorem U_of (ss : List Int) (h : ∀ x ∈ ss, In64 x) : ∃ d : Array U, valsU d = ss := by
  refine ⟨(ss.pmap (fun x hx => (⟨x, hx⟩ : U)) h).toArray, ?_⟩
  simp [valsU, List.map_pmap]

theorem wheel_Collect (mx b nn : Nat) (D0 : DataW Unit) (L : List (Int × Int)) (hT : Tab D0 L) {R : Value → Option (DataW Unit × List MemPlace)} (w : World) (hmx : mx < w.heap.size) (hl : L.length ≤ 100000)
    (hm : w.cell? ⟨mx, 0, none⟩ = some (.map (some b))) (hown : w.ownsMap Tryz.prog 28 R b nn D0) :
    Calls Tryz.prog 185 #[.func (.func 187) #[] #[.pointer (some ⟨mx, 0, none⟩)]] w fun e w' => ∃ (v : Value) (ss : List Int), e = .returned v ∧ ss.Perm (keysOf L) ∧ w'.ownsRow w.heap.size 28 1 v ss.length (ss.map encK) ∧ (v = .slice none 0 0 ↔ ss = []) ∧ RowKit.Below w.heap.size w w' :=
  callsIn_wide.1 (collect_in Fence.wide 9 trivial trivial rfl (by omega) 187 #[.pointer (some ⟨mx, 0, none⟩)] trivial (enters_of Tryz.func187 (by kernel_rfl) rfl) (fun ss => ss.Perm (keysOf L)) L.length (by unfold maxLen; omega) (by omega) w
    (keys_gives Fence.wide _ trivial rfl (by omega) mx b nn D0 L hT w hmx hm hown))

set_option maxRecDepth 100000 in
set_option maxHeartbeats 1000000 in
theorem wheel_SortedFunc (bx mx g b : Nat) (L T : List (Int × Int)) (w : World) (h : Wh w g b L) (hbx : Blk w bx 230 #[.pointer (some ⟨g, 0, none⟩)]) (hmx : Blk w mx 234 #[.map (some b)]) (hT : L.Perm T) (hs : Srt T) (hl : L.length ≤ 100000) :
    Calls Tryz.prog 179 #[.func (.func 187) #[] #[.pointer (some ⟨mx, 0, none⟩)], .func (.func 181) #[] #[.pointer (some ⟨bx, 0, none⟩)]] w fun e w' =>
      ∃ a c, e = .returned (.slice a T.length c) ∧ w'.ownsRow w.heap.size 28 1 (.slice a T.length c) T.length (nums .u64 (keysOf T)) ∧ RowKit.Below w.heap.size w w' := by
  obtain ⟨D, hown, hTab⟩ := h.map_
  have hc := wheel_Collect mx b L.length D L hTab w hmx.lt hl (hmx.cell 0) hown
  have hn := hTab.nodup
  have hlen := hT.length_eq
  go_enter Tryz.func179, Tryz.ntmps179
  go_wp2_with fail
  refine hc.mono ?_
  rintro e w1 ⟨v, ss, rfl, hp, hrow, hnil, hb⟩
  have hsl : ss.length = L.length := by rw [hp.length_eq]; simp [keysOf]
  rcases hrow.2 with ⟨rfl, hz⟩ | ⟨gb, cap, cur, rfl, hbase, hgb, r1, r2, r3, r4⟩
  · have hT0 : T = [] := List.eq_nil_of_length_eq_zero (by omega)
    subst hT0
    have cS := AnyF.slices_SortFunc_none (P := Tryz.prog) (ρ := Tryz.sortF_ren) { Tryz.sortF with } none 0 (.func (.func 181) #[] #[.pointer (some ⟨bx, 0, none⟩)]) w1
    change Calls Tryz.prog 186 _ _ _ at cS
    go_wp2_with fail
    refine cS.mono ?_
    rintro e w2 ⟨rfl, rfl⟩
    go_wp2_with fail
    go_ret
    exact ⟨none, 0, rfl, World.ownsRow_nil _ _ _ _, hb⟩
  · obtain ⟨d, rfl⟩ := U_of ss fun x hx => by
      obtain ⟨v, hv⟩ := mem_keysOf.1 (hp.mem_iff.1 hx)
      exact (h.wf_ _ hv).1
    have hds : (valsU d).length = d.size := by simp [valsU]
    rw [Nat.mul_one] at r4
    rw [hds] at r1 r4 hsl
    have hgl : gb < w1.heap.size := (Array.getElem?_eq_some_iff.1 hgb).1
    have r4' : cur.toList.take d.size = d.toList.map encU := r4.trans (by rw [encU_vals]; rfl)
    have cS := wheel_SortFunc bx g b L gb cap d w1 (h.of_below hb) (hbx.of_below hb) (by have := h.blk.lt; omega) (by have := h.lt; omega) (by have := hbx.lt; omega) (holds_U hgb r4') hgl (by omega)
    rw [hds]
    have HDS := Lib.hid hds; clear hds
    have HSL := Lib.hid hsl; clear hsl
    have HLEN := Lib.hid hlen; clear hlen
    have H3 := Lib.hid r3; clear r3
    have H4 := Lib.hid r4; clear r4
    have H4' := Lib.hid r4'; clear r4'
    have HGB := Lib.hid hgb; clear hgb
    clear hrow hnil
    go_wp2_with fail
    refine cS.mono ?_
    rintro e w2 ⟨rfl, d', n, os, hpi, hsi, rfl⟩
    have hd' : d'.size = d.size := hpi.1
    have e1 : d'.extract 0 d.size = d' := by rw [← hd']; exact Array.extract_size
    have hpp : d'.toList.Perm d.toList := by have := hpi.2.2; rwa [e1, Array.extract_size] at this
    have hk : valsU d' = keysOf T := sorted_keys hn hT hs d' ((hpp.map _).trans hp) (by rw [hd']; exact hsi)
    have hTl : T.length = d'.size := by have := HLEN.out; have := HSL.out; omega
    have ho := own_U (n := n) (os := os) hbase HGB.out (by rw [hd']; exact r1) r2 H3.out
    have HD' := Lib.hid hd'; clear hd'
    have HK := Lib.hid hk; clear hk
    have HTL := Lib.hid hTl; clear hTl
    have HHO := Lib.hid ho; clear ho e1
    clear hpi hsi
    go_wp2_with fail
    go_ret
    rw [HTL.out, ← HK.out, ← encU_vals]
    exact ⟨_, cap, by rw [HD'.out]; rfl, HHO.out, hb.grown (sortWorld_grown _ _ _ _ _) hb.size (fun j hj => by cases hj; exact hbase)⟩

set_option maxRecDepth 100000 in
set_option maxHeartbeats 1000000 in
theorem wheel_keys (g b : Nat) (L T : List (Int × Int)) (w : World) (h : Wh w g b L) (hT : L.Perm T) (hs : Srt T) (hl : L.length ≤ 100000) :
    Calls Tryz.prog 173 #[.pointer (some ⟨g, 0, none⟩)] w fun e w' =>
      ∃ a c, e = .returned (.slice a T.length c) ∧ w'.ownsRow w.heap.size 28 1 (.slice a T.length c) T.length (nums .u64 (keysOf T)) ∧ RowKit.Below w.heap.size w w' := by
  have hck := fun w1 => callsIn_wide.1 (keys_walk Fence.wide 9 trivial rfl (some b) w1)
  have hb0 : RowKit.Below w.heap.size w (w.alloc (.cells #[.pointer (some ⟨g, 0, none⟩)] 230)) := (RowKit.Below.refl _ _).alloc (Nat.le_refl _) _
  have p0 := (h.of_below hb0).cell
  have hb1 : RowKit.Below w.heap.size w ((w.alloc (.cells #[.pointer (some ⟨g, 0, none⟩)] 230)).alloc (.cells #[.map (some b)] 234)) := hb0.alloc hb0.size _
  have hbx := (Blk.new w 230 #[.pointer (some ⟨g, 0, none⟩)]).alloc (.cells #[.map (some b)] 234)
  have hmx := Blk.new (w.alloc (.cells #[.pointer (some ⟨g, 0, none⟩)] 230)) 234 #[.map (some b)]
  have hcon := wheel_SortedFunc _ _ g b L T _ (h.of_below hb1) hbx hmx hT hs hl
  rw [size_alloc] at hcon
  go_enter Tryz.func173, Tryz.ntmps173
  go_wp2_with (first
    | (go_at_call 180; refine (hck _).mono ?_; rintro e w1 ⟨rfl, rfl⟩)
    | (go_at_call 179; refine hcon.mono ?_; clear hcon; rintro e w1 ⟨a, c, rfl, ho, hb⟩)
    | go_in)
  go_ret
  exact ⟨a, c, rfl, own_mono ho (by simp; omega), below_step hb1 hb1.size hb⟩
end Go.Proofs.YtonfaojmphidpaaGreatDoor

/- The wheel's next tick, and what is due. -/
namespace Go.Proofs.YtonfaojmphidpaaGreatDoor
open Go.RowKit Go.Maps
set_option linter.unusedVariables false
set_option linter.unusedSimpArgs false

/-- A wheel whose timers are T, in order. -/
structure Ws (w : World) (g b : Nat) (T : List (Int × Int)) : Prop where
  wh : Wh w g b T
  srt : Srt T
theorem Ws.nodup {w : World} {g b : Nat} {T : List (Int × Int)} (h : Ws w g b T) : (keysOf T).Nodup := by
  obtain ⟨D, _, hT⟩ := h.wh.map_; exact hT.nodup
theorem Ws.of_below {w w' : World} {g b : Nat} {T : List (Int × Int)} (h : Ws w g b T) (hb : RowKit.Below w.heap.size w w') : Ws w' g b T := ⟨h.wh.of_below hb, h.srt⟩
theorem Wh.kept {w w' : World} {g b : Nat} {L : List (Int × Int)} {r : Option Nat} (h : Wh w g b L) (hg : w.grownBy w' r) (h1 : some g ≠ r) (h2 : some b ≠ r) : Wh w' g b L := by
  obtain ⟨D, hown, hT⟩ := h.map_
  exact ⟨(hg.block g h.blk.lt h1).trans h.blk, ⟨D, hown.kept hg h2, hT⟩, h.wf_⟩
theorem Sl.cells_of_own {w : World} {base n c : Nat} {e : TypeId} {A : Option Addr} {k : IntKind} {xs : List Int} (h : w.ownsRow base e 1 (.slice A xs.length c) xs.length (nums k xs)) : Sl k w A c xs := own_rd h

set_option maxRecDepth 100000 in
set_option maxHeartbeats 2000000 in
theorem wheel_Due (g b : Nat) (T : List (Int × Int)) (now : Int) (w : World) (h : Ws w g b T) (hl : T.length ≤ 90000) :
    Calls Tryz.prog 169 #[.pointer (some ⟨g, 0, none⟩), .int .u64 now] w fun e w' => ∃ a c, e = .returned (.slice a (dueT T now).length c) ∧
      w'.ownsRow w.heap.size 28 1 (.slice a (dueT T now).length c) (dueT T now).length (nums .u64 (keysOf (dueT T now))) ∧ Ws w' g b (restT T now) ∧ w.grownBy w' (some b) := by
  have hk := wheel_keys g b T T w h.wh (.refl _) h.srt (by omega)
  have hnd := h.nodup
  have hgl := h.wh.blk.lt
  have hbl := h.wh.lt
  have HH := Lib.hid h; clear h
  have HND := Lib.hid hnd; clear hnd
  go_enter Tryz.func169, Tryz.ntmps169
  go_wp2_with (go_at_call 173; refine hk.mono ?_; clear hk; rintro e w1 ⟨a, c, rfl, ho, hb⟩; have HO := Lib.hid ho; clear ho; have hz1 := hb.size)
  go_loopw [5, 11] (fun v i wr => ∃ (k : Nat) (A1 : Option Addr) (c1 : Nat), k ≤ T.length ∧ i = .int .i64 k ∧ v = .slice A1 k c1 ∧ (∀ p ∈ T.take k, p.2 ≤ now) ∧ wr.ownsRow w1.heap.size 28 1 (.slice A1 k c1) k (nums .u64 (keysOf (T.take k))) ∧ Wh wr g b (T.drop k) ∧ w1.grownBy wr (some b)) (fun _ i _ => T.length - (intOf i).toNat)
  case atStart => exact ⟨0, none, 0, by omega, rfl, rfl, (fun p hp => by simp at hp), World.ownsRow_nil _ _ _ _, HH.out.wh.of_below hb, World.grownBy.refl _ _⟩
  case round =>
    obtain ⟨k, A1, c1, hk, rfl, rfl, hall, hown, hwh, hg⟩ := hrel
    have HA := Lib.hid hall; clear hall
    have HW := Lib.hid hown; clear hown
    have fin : (T.length ≤ k ∨ ∃ p, T[k]? = some p ∧ now < p.2) → ∃ a c, Ending.returned (.slice A1 k c1) = .returned (.slice a (dueT T now).length c) ∧ wr.ownsRow w.heap.size 28 1 (.slice a (dueT T now).length c) (dueT T now).length (nums .u64 (keysOf (dueT T now))) ∧ Ws wr g b (restT T now) ∧ w.grownBy wr (some b) := fun h2 => by
      obtain ⟨e1, e2⟩ := dueT_of HA.out h2
      have e3 : (T.take k).length = k := by simp; omega
      rw [e1, e2, e3]
      exact ⟨A1, c1, rfl, own_mono HW.out hz1, ⟨hwh, HH.out.srt.sub (List.drop_sublist _ _)⟩, World.grownBy.trans ⟨hb.os, hb.tape, hb.output, hb.size, fun i hi _ => hb.block i hi⟩ hg⟩
    have FIN := Lib.hid fin; clear fin
    by_cases hlt : k < T.length
    · obtain ⟨blk, off, rfl, hbk, hcell⟩ := (own_rd HO.out).2.2.2 (by omega)
      have hqb := (own_addr HO.out).1
      have hge : T[k]? = some (T.getD k (0, 0)) := by rw [List.getD_eq_getElem?_getD, List.getElem?_eq_getElem hlt]; rfl
      have c0 := hcell k (.int .u64 (T.getD k (0, 0)).1) (by unfold nums keysOf; rw [List.getElem?_map, List.getElem?_map, hge]; rfl)
      clear hcell
      have c1' : wr.cell? ⟨blk, off + k, none⟩ = some (.int .u64 (T.getD k (0, 0)).1) := (World.cell?_of_block (w := w1) (hg.block blk hbk (fun e => by (have := Option.some.inj e; simp at hqb; omega)))).trans c0
      clear c0
      obtain ⟨p, hp⟩ : ∃ p, T.getD k (0, 0) = p := ⟨_, rfl⟩
      rw [hp] at c1' hge
      have hdr : T.drop k = p :: T.drop (k + 1) := by rw [List.drop_eq_getElem_cons hlt]; congr 1; simpa [List.getElem?_eq_getElem hlt] using hge
      rw [hdr] at hwh
      have hin := (hwh.wf_ p (List.mem_cons_self)).1
      have c2 := hwh.cell
      have c3 := hwh.look hin
      rw [show valOf (p :: T.drop (k + 1)) p.1 = p.2 from valOf_mem (by obtain ⟨D, _, hT⟩ := hwh.map_; exact hT.nodup) (List.mem_cons_self)] at c3
      have HGE := Lib.hid hge; clear hge
      have HP := Lib.hid hp; clear hp
      have HDR := Lib.hid hdr; clear hdr
      have HWH := Lib.hid hwh; clear hwh
      by_cases hx : now < p.2
      · have hx' : ¬ p.2 ≤ now := by omega
        go_wp2
        go_ret
        exact FIN.out (.inr ⟨p, HGE.out, hx⟩)
      · have hx' : p.2 ≤ now := by omega
        have hkey : keyOf Tryz.prog 28 (.int .u64 p.1) = some (K64 p.1) := keyOf_int_mk Tryz.underlying28 hin.wf
        have hs1 : k + 1 ≤ 9223372036854775807 := by omega
        have hz2 := hg.size
        have bnd : (k + 1) * 8 ≤ 140737488355328 := by omega
        have ne1 : ∀ x, x < w1.heap.size → some x ≠ (Value.slice A1 k c1).ownBlock := fun x hx e => by have := own_base HW.out x e.symm; omega
        have hgl1 : g < w1.heap.size := by omega
        have hbl1 : b < w1.heap.size := by omega
        have NE := Lib.hid ne1; clear ne1
        go_wp2_with (first
          | (at_builtin; refine app_one wr rfl (.tmp 23) (.tmp 25) 39 rfl w1.heap.size 28 (.int .u64 0) 1 8 Tryz.underlying39 Tryz.infoU rfl (by decide) (.slice A1 k c1) k _ rfl HW.out [.int .u64 p.1] rfl rfl (by simp [Value.oneCell']) hs1 bnd hz2 ?_; intro A2 cc2 w2 h5 h6 h7
             have hw2 := HWH.out.kept h6 (NE.out g hgl1) (NE.out b hbl1)
             obtain ⟨D, hown2, hT2⟩ := hw2.map_
             have c4 := hw2.cell
             have H5 := Lib.hid h5; clear h5
             have H6 := Lib.hid h6; clear h6 h7)
          | (at_delete; refine wpList_delete_own _ rfl _ _ 234 28 rfl 28 lawU Tryz.underlying234 _ b _ D rfl hown2 _ _ rfl hkey ?_; intro w3 hown3 hturn3)
          | go_in)
        have hd := hT2.del p.1
        have hnd2 : (keysOf (p :: T.drop (k + 1))).Nodup := hT2.nodup
        rw [strike_head hnd2] at hd
        have hg3 := hturn3.grown
        have e1 : T.take (k + 1) = T.take k ++ [p] := by rw [take_snoc' T (0, 0) k hlt, HP.out]
        have e2 : nums .u64 (keysOf (T.take (k + 1))) = nums .u64 (keysOf (T.take k)) ++ [.int .u64 p.1] := by rw [e1]; simp [nums, keysOf]
        have hneb : some b ≠ (Value.slice A2 (k + 1) cc2).ownBlock := fun e => by have := own_base H5.out b e.symm; omega
        go_roundw
        case rel =>
          refine ⟨k + 1, A2, cc2, by omega, by go_num, rfl, fun q hq => ?_, ?_, ⟨(hg3.block g hw2.blk.lt (fun e => hw2.ne (Option.some.inj e))).trans hw2.blk, ⟨_, hd.size_ ▸ own_tight hown3, hd⟩, fun q hq => hw2.wf_ q (List.mem_cons_of_mem _ hq)⟩, ?_⟩
          · rw [e1] at hq
            rcases List.mem_append.1 hq with hq | hq
            · exact HA.out q hq
            · rw [List.mem_singleton.1 hq]; exact hx'
          · rw [e2]; exact H5.out.kept hg3 (.inr fun e => hneb e.symm)
          · exact (hg.andThen H6.out (fun j hj => .inl (own_base HW.out j hj))).trans hg3
        case measure => simp [intOf]; omega
    · go_wp2
      go_ret
      exact FIN.out (.inl (by omega))
end Go.Proofs.YtonfaojmphidpaaGreatDoor

/- The wheel's clone. -/
namespace Go.Proofs.YtonfaojmphidpaaGreatDoor
open Go.RowKit Go.Maps
set_option linter.unusedVariables false
set_option linter.unusedSimpArgs false

end Go.Proofs.YtonfaojmphidpaaGreatDoor

/- The wheel in order; the example of layer 5. -/
namespace Go.Proofs.YtonfaojmphidpaaGreatDoor
open Go.RowKit Go.Maps
set_option linter.unusedVariables false
set_option linter.unusedSimpArgs false

theorem not_strike (T : List (Int × Int)) (k : Int) : k ∉ keysOf (strike T k) := by rw [keysOf_strike]; simp
def armT (T : List (Int × Int)) (k v : Int) : List (Int × Int) := insT (strike T k) (k, cAdd v 0)
theorem armT_perm (T : List (Int × Int)) (k v : Int) : ((k, cAdd v 0) :: strike T k).Perm (armT T k v) := insT_perm _ _
theorem armT_length (T : List (Int × Int)) (k v : Int) : (armT T k v).length = (strike T k).length + 1 := insT_length _ _
theorem armT_le (T : List (Int × Int)) (k v : Int) : (armT T k v).length ≤ T.length + 1 := by rw [armT_length]; have := List.length_filter_le (fun p : Int × Int => p.1 != k) T; unfold strike; omega
theorem armT_srt {T : List (Int × Int)} (h : Srt T) (k v : Int) : Srt (armT T k v) := insT_srt (h.strike k) (not_strike T k)
theorem wheel_NewS (w : World) :
    Calls Tryz.prog 166 #[] w fun e w' => ∃ g b, e = .returned (.pointer (some ⟨g, 0, none⟩)) ∧ Ws w' g b [] ∧ w.heap.size ≤ g ∧ w.heap.size ≤ b ∧ RowKit.Below w.heap.size w w' :=
  (wheel_New w).mono fun e w' ⟨g, b, h1, h2, h3, h4, h5⟩ => ⟨g, b, h1, ⟨h2, List.Pairwise.nil⟩, h3, h4, h5⟩
theorem wheel_ArmS (g b : Nat) (T : List (Int × Int)) (k v : Int) (w : World) (h : Ws w g b T) (hk : In64 k) (hv : In64 v) (hl : T.length ≤ 1024) (hf : k ∈ keysOf T ∨ T.length < 1024) :
    Calls Tryz.prog 167 #[.pointer (some ⟨g, 0, none⟩), .int .u64 k, .int .u64 v] w fun e w' => e = .returned (.int .i64 0) ∧ Ws w' g b (armT T k v) ∧ w.grownBy w' (some b) :=
  (wheel_Arm g b T k v w h.wh hk hv hl hf).mono fun e w' ⟨h1, h2, h3⟩ => ⟨h1, ⟨h2.perm (armT_perm T k v), armT_srt h.srt k v⟩, h3⟩
theorem wheel_ArmS_full (g b : Nat) (T : List (Int × Int)) (k v : Int) (w : World) (h : Ws w g b T) (hk : In64 k) (hv : In64 v) (hl : T.length ≤ 1024) (hf : k ∉ keysOf T ∧ 1024 ≤ T.length) :
    Calls Tryz.prog 167 #[.pointer (some ⟨g, 0, none⟩), .int .u64 k, .int .u64 v] w fun e w' => e = .returned (.int .i64 11) ∧ w = w' :=
  wheel_Arm_full g b T k v w h.wh hk hv hl hf
theorem wheel_LenS (g b : Nat) (T : List (Int × Int)) (w : World) (h : Ws w g b T) :
    Calls Tryz.prog 170 #[.pointer (some ⟨g, 0, none⟩)] w fun e w' => e = .returned (.int .i64 T.length) ∧ w = w' := wheel_Len g b T w h.wh
theorem in64_lit {x : Int} (h : 0 ≤ x ∧ x < 1000000) : In64 x := by unfold In64; omega
/-- The wheel's steps keep all that lay below. -/
theorem below_grown {w w1 w2 : World} (h : RowKit.Below w.heap.size w w1) {b : Nat} (hg : w1.grownBy w2 (some b)) (hb : w.heap.size ≤ b) : RowKit.Below w.heap.size w w2 := h.grown hg h.size (fun j hj => by cases hj; exact hb)

set_option maxRecDepth 100000 in
set_option maxHeartbeats 2000000 in
theorem law05_awake (w : World) :
    Calls Tryz.prog 165 #[] w fun e w' => e = .returned (.bool true) ∧ RowKit.Below w.heap.size w w' := by
  have a1 : armT [] 7 5 = [(7, 5)] := by decide
  have a2 : armT [(7, 5)] 3 5 = [(3, 5), (7, 5)] := by decide
  have a3 : armT [(3, 5), (7, 5)] 9 4 = [(9, 4), (3, 5), (7, 5)] := by decide
  have d1 : dueT [(9, 4), (3, 5), (7, 5)] 5 = [(9, 4), (3, 5), (7, 5)] := by decide
  have d2 : restT [(9, 4), (3, 5), (7, 5)] 5 = [] := by decide
  go_enter Tryz.func165, Tryz.ntmps165
  go_wp2_with fail
  refine (wheel_NewS _).mono ?_
  rintro e w1 ⟨g, b, rfl, s1, hg, hb, B1⟩
  go_wp2_with fail
  refine (wheel_ArmS g b _ _ _ _ s1 (in64_lit (by omega)) (in64_lit (by omega)) (by decide) (.inr (by decide))).mono ?_
  rintro e w2 ⟨rfl, s2, g2⟩
  rw [a1] at s2
  have B2 := below_grown B1 g2 hb
  go_wp2_with fail
  refine (wheel_ArmS g b _ _ _ _ s2 (in64_lit (by omega)) (in64_lit (by omega)) (by decide) (.inr (by decide))).mono ?_
  rintro e w3 ⟨rfl, s3, g3⟩
  rw [a2] at s3
  have B3 := below_grown B2 g3 hb
  go_wp2_with fail
  refine (wheel_ArmS g b _ _ _ _ s3 (in64_lit (by omega)) (in64_lit (by omega)) (by decide) (.inr (by decide))).mono ?_
  rintro e w4 ⟨rfl, s4, g4⟩
  rw [a3] at s4
  have B4 := below_grown B3 g4 hb
  go_wp2_with fail
  refine (law04_Awake _).mono ?_
  rintro e w5 ⟨rfl, b5⟩
  have s5 := s4.of_below b5
  have B5 := below_step B4 B4.size b5
  go_wp2_with fail
  refine (wheel_Due g b _ 5 _ s5 (by decide)).mono ?_
  rintro e w6 ⟨a, c, rfl, o6, s6, g6⟩
  rw [d1] at o6 ⊢
  rw [d2] at s6
  have B6 := below_grown B5 g6 hb
  have hs6 : Sl .u64 w6 a c [9, 3, 7] := own_rd o6
  clear s1 s2 s3 s4 s5 o6
  go_wp2_with fail
  refine (slices_Equal_u64 _ _ _ 3 [9, 3, 7] [9, 3, 7] _ (hs6.below ((RowKit.Below.refl _ _).alloc (Nat.le_refl _) _)) (sl_new w6 .u64 28 [9, 3, 7]) (by decide) (by decide)).mono ?_
  rintro e w7 ⟨rfl, q, rfl⟩
  have s7 := s6.of_below (below_drewN ((RowKit.Below.refl w6.heap.size w6).alloc (Nat.le_refl _) (.cells (nums .u64 [9, 3, 7]).toArray 28)) q)
  go_wp2_with fail
  refine (wheel_LenS g b _ _ s7).mono ?_
  rintro e w8 ⟨rfl, rfl⟩
  go_wp2_with fail
  go_ret
  exact ⟨rfl, below_drewN (B6.alloc B6.size _) q⟩
set_option maxHeartbeats 400000 in
theorem law05_Awake (w : World) :
    Calls Tryz.prog 161 #[] w fun e w' => e = .returned (.bool true) ∧ RowKit.Below w.heap.size w w' := by
  go_enter Tryz.func161, Tryz.ntmps161
  go_wp2_with (first | (go_at_call 165; refine (law05_awake _).mono ?_; rintro e w' ⟨rfl, hb⟩))
  go_ret
  exact ⟨rfl, hb⟩
end Go.Proofs.YtonfaojmphidpaaGreatDoor

/- Package guard: Must; Try and Catch of a function that panics, and of one that does not. -/
namespace Go.Proofs.YtonfaojmphidpaaGreatDoor
open Go.RowKit
set_option linter.unusedVariables false
set_option linter.unusedSimpArgs false

theorem try1_panicking (p3 p2 : Addr) (x : Value) (u : TypeId) (pv : Value) (older : List PanicEntry) (w : World) (h3 : w.cell? p3 = some (.bool true)) (hc : w.cell? p2 = some x) (hz : w.frozen? p2 = false) (hx : x.oneCell' = true) :
    CallsD Tryz.prog 164 #[.pointer (some p3), .pointer (some p2)] (.panicking ({ v := .iface u pv, recovered := false } :: older)) w fun e u' w' =>
      e = .returned (.tuple #[]) ∧ u' = .panicking ({ v := .iface u pv, recovered := true } :: older) ∧ w' = w.setCell p2 (.iface u pv) := by
  refine callsD_of_wpS Tryz.func164 rfl fun c₀ cs hu => ?_
  apply wpS_seq
  apply wpS_region
  simp [wpOpsS, go_sem, recoverD, hu, Tryz.ntmps164, Exit.thenS, h3]
  refine wpS_cond (t := true) (by simp [Act.eval, Array.replicate]) ?_
  simp only [if_true]
  apply wpS_region
  simp [wpOpsS, go_sem, recoverD, hu, hc, hz, hx, bodyPostS, results, Tryz.results164]
theorem try1_returning (p3 p2 : Addr) (w : World) (h3 : w.cell? p3 = some (.bool false)) :
    CallsD Tryz.prog 164 #[.pointer (some p3), .pointer (some p2)] .returning w fun e u' w' => e = .returned (.tuple #[]) ∧ u' = .returning ∧ w' = w := by
  refine callsD_of_wpS Tryz.func164 rfl fun c₀ cs hu => ?_
  apply wpS_seq
  apply wpS_region
  simp [wpOpsS, go_sem, recoverD, hu, Tryz.ntmps164, Exit.thenS, h3]
  refine wpS_cond (t := false) (by simp [Act.eval, Array.replicate]) ?_
  simp only [Bool.false_eq_true, if_false]
  refine wpS_of_wp (wp_skip ?_)
  cases c₀
  simp_all [bodyPostS, results, Tryz.results164]

theorem guard_Must_ok (w : World) :
    Calls Tryz.prog 149 #[.int .i64 0] w fun e w' => e = .returned (.tuple #[]) ∧ w = w' := by
  go_enter Tryz.func149, Tryz.ntmps149
  go_wp2
  go_end0
  exact ⟨rfl, rfl⟩
theorem guard_Must_panics (c : Int) (hc : c ≠ 0) (w : World) :
    Calls Tryz.prog 149 #[.int .i64 c] w fun e w' => e = .panicked [{ v := .iface 220 (.agg #[.int .i64 c]), recovered := false }] ∧ w = w' := by
  have hc' : (c != 0) = true := by simpa using hc
  go_enter Tryz.func149, Tryz.ntmps149
  go_wp2
  exact ⟨rfl, rfl, rfl⟩

set_option maxRecDepth 100000 in
set_option maxHeartbeats 1000000 in
theorem guard_Try_panics (g : Nat) (cb : Array Value) (u : TypeId) (pv : Value) (w : World) (eg : ∀ args w, (callFunc g args).run Tryz.prog w = .ok (.enter g args) w)
    (hf : ∀ w', RowKit.Below w.heap.size w w' → Calls Tryz.prog g cb w' fun e w'' => e = .panicked [{ v := .iface u pv, recovered := false }] ∧ RowKit.Below w'.heap.size w' w'') :
    Calls Tryz.prog 159 #[.func (.func g) #[] cb] w fun e w' => e = .returned (.tuple #[.iface u pv, .bool true]) ∧ RowKit.Below w.heap.size w w' := by
  have hmf : ∀ (fn : Fn) (first cap : Array Value) (w : World), (Instr.makeFunc fn first cap).run Tryz.prog w = .ok (.func fn first cap) w := fun _ _ _ _ => rfl
  have HF := Lib.hid hf; clear hf
  have hne : ∀ W : World, (binOp .eql 1 (.func (.func g) #[] cb) Value.nilFunc).run Tryz.prog W = .ok (.bool false) W := fun W => by rfl
  go_enter_defers Tryz.func159, Tryz.ntmps159
  go_wp2_with fail
  have hb0 : RowKit.Below w.heap.size w ((w.alloc (.cells #[Value.nilIface] 20)).alloc (.cells #[.bool true] 4)) := ((RowKit.Below.refl _ _).alloc (Nat.le_refl _) _).alloc (by simp) _
  refine (HF.out _ hb0).mono ?_
  rintro e w1 ⟨rfl, hb1⟩
  have k2 := ((Blk.new w 20 #[Value.nilIface]).alloc (.cells #[.bool true] 4)).of_below hb1
  have k3 := (Blk.new (w.alloc (.cells #[Value.nilIface] 20)) 4 #[.bool true]).of_below hb1
  rw [size_alloc] at k3
  have hB1 := below_step hb0 hb0.size hb1
  clear hne eg hmf
  go_wp2_with fail
  refine leaves_cons (f := 164) (args := #[.pointer (some ⟨w.heap.size + 1, 0, none⟩), .pointer (some ⟨w.heap.size, 0, none⟩)]) (by simp) (by simp [go_sem]) ?_
  refine (try1_panicking ⟨w.heap.size + 1, 0, none⟩ ⟨w.heap.size, 0, none⟩ Value.nilIface u pv [] w1 (k3.cell 0) (k2.cell 0) (k2.frozen 0) rfl).mono ?_
  rintro e u' w'' ⟨rfl, rfl, rfl⟩
  have j2 := (k2.put 0 (.iface u pv)).cell 0
  have j3 := (k3.far (p := ⟨w.heap.size, 0, none⟩) (by simp) (.iface u pv)).cell 0
  simp only [List.setIfInBounds_toArray, List.getElem?_toArray, List.set_cons_zero, List.getElem?_cons_zero] at j2 j3
  simp [Leaves, settle, results, Tryz.results159, go_sem, j2, j3]
  exact hB1.setCell (Nat.le_refl _) _

set_option maxRecDepth 100000 in
set_option maxHeartbeats 1000000 in
theorem guard_Catch_fail (g : Nat) (cb : Array Value) (c : Int) (hc : c ≠ 0) (w : World) (eg : ∀ args w, (callFunc g args).run Tryz.prog w = .ok (.enter g args) w)
    (hf : ∀ w', RowKit.Below w.heap.size w w' → Calls Tryz.prog g cb w' fun e w'' => e = .panicked [{ v := .iface 220 (.agg #[.int .i64 c]), recovered := false }] ∧ RowKit.Below w'.heap.size w' w'') :
    Calls Tryz.prog 147 #[.func (.func g) #[] cb] w fun e w' => e = .returned (.int .i64 c) ∧ RowKit.Below w.heap.size w w' := by
  have hT := guard_Try_panics g cb 220 (.agg #[.int .i64 c]) w eg hf
  have hc' : (c != 0) = true := by simpa using hc
  clear hf eg hc
  have hta : ∀ W : World, (Instr.typeAssert (.iface 220 (.agg #[.int .i64 c])) 20 220 true).run Tryz.prog W = .ok (.tuple #[.agg #[.int .i64 c], .bool true]) W := fun W => by rfl
  go_enter Tryz.func147, Tryz.ntmps147
  go_wp2_with (go_at_call 159; refine hT.mono ?_; rintro e w1 ⟨rfl, hb1⟩)
  go_ret
  exact ⟨rfl, hb1.alloc hb1.size _⟩
end Go.Proofs.YtonfaojmphidpaaGreatDoor

/- The examples of layers 6 and 7. -/
namespace Go.Proofs.YtonfaojmphidpaaGreatDoor
open Go.RowKit
set_option linter.unusedVariables false
set_option linter.unusedSimpArgs false

set_option maxHeartbeats 1000000 in
theorem ratio_Share_1_4 (w : World) : Calls Tryz.prog 162 #[.int .u64 1, .int .u64 4] w fun e w' => e = .returned (.float .f64 4598175219545276416) ∧ w = w' := by
  have f1 : ∀ W : World, (binOp .quo 227 (.float .f64 (floatOfInt .f64 1)) (.float .f64 (floatOfInt .f64 4))).run Tryz.prog W = .ok (.float .f64 4598175219545276416) W := fun W => by kernel_rfl
  go_enter Tryz.func162, Tryz.ntmps162
  go_wp2
  go_ret
  exact ⟨rfl, rfl⟩
set_option maxHeartbeats 1000000 in
theorem ratio_Part_10 (w : World) : Calls Tryz.prog 163 #[.int .u64 10, .float .f64 4598175219545276416] w fun e w' => e = .returned (.int .u64 2) ∧ w = w' := by
  have f1 : ∀ W : World, (binOp .mul 227 (.float .f64 (floatOfInt .f64 10)) (.float .f64 4598175219545276416)).run Tryz.prog W = .ok (.float .f64 4612811918334230528) W := fun W => by kernel_rfl
  have f2 : ∀ W : World, (convert 227 28 (.float .f64 4612811918334230528)).run Tryz.prog W = .ok (.int .u64 2) W := fun W => by kernel_rfl
  go_enter Tryz.func163, Tryz.ntmps163
  go_wp2
  go_ret
  exact ⟨rfl, rfl⟩
set_option maxHeartbeats 1000000 in
theorem law06_awake (w : World) :
    Calls Tryz.prog 158 #[] w fun e w' => e = .returned (.bool true) ∧ RowKit.Below w.heap.size w w' := by
  go_enter Tryz.func158, Tryz.ntmps158
  go_wp2_with (first | (go_at_call 161; refine (law05_Awake _).mono ?_; rintro e w1 ⟨rfl, hb⟩) | (go_at_call 162; refine (ratio_Share_1_4 _).mono ?_; rintro e w2 ⟨rfl, rfl⟩) | (go_at_call 163; refine (ratio_Part_10 _).mono ?_; rintro e w2 ⟨rfl, rfl⟩))
  go_ret
  exact ⟨rfl, hb⟩
set_option maxHeartbeats 400000 in
theorem law06_Awake (w : World) :
    Calls Tryz.prog 146 #[] w fun e w' => e = .returned (.bool true) ∧ RowKit.Below w.heap.size w w' := by
  go_enter Tryz.func146, Tryz.ntmps146
  go_wp2_with (first | (go_at_call 158; refine (law06_awake _).mono ?_; rintro e w' ⟨rfl, hb⟩))
  go_ret
  exact ⟨rfl, hb⟩
set_option maxHeartbeats 400000 in
theorem awake1_panics (w : World) :
    Calls Tryz.prog 148 #[] w fun e w' => e = .panicked [{ v := .iface 220 (.agg #[.int .i64 6]), recovered := false }] ∧ RowKit.Below w.heap.size w w' := by
  go_enter Tryz.func148, Tryz.ntmps148
  go_wp2_with (go_at_call 149; refine (guard_Must_panics 6 (by decide) _).mono ?_; rintro e w' ⟨rfl, rfl⟩)
  exact ⟨rfl, rfl, RowKit.Below.refl _ _⟩
set_option maxHeartbeats 1000000 in
theorem law07_awake (w : World) :
    Calls Tryz.prog 126 #[] w fun e w' => e = .returned (.bool true) ∧ RowKit.Below w.heap.size w w' := by
  have eg : ∀ args w, (callFunc 148 args).run Tryz.prog w = .ok (.enter 148 args) w := enters_of Tryz.func148 (by kernel_rfl) rfl
  have hc := fun w0 => guard_Catch_fail 148 #[] 6 (by decide) w0 eg (fun w' _ => awake1_panics w')
  clear eg
  go_enter Tryz.func126, Tryz.ntmps126
  go_wp2_with (first | (go_at_call 146; refine (law06_Awake _).mono ?_; rintro e w1 ⟨rfl, hb⟩) | (go_at_call 147; refine (hc _).mono ?_; clear hc; rintro e w2 ⟨rfl, hb2⟩))
  go_ret
  exact ⟨rfl, below_step hb hb.size hb2⟩
set_option maxHeartbeats 400000 in
theorem law07_Awake (w : World) :
    Calls Tryz.prog 113 #[] w fun e w' => e = .returned (.bool true) ∧ RowKit.Below w.heap.size w w' := by
  go_enter Tryz.func113, Tryz.ntmps113
  go_wp2_with (first | (go_at_call 126; refine (law07_awake _).mono ?_; rintro e w' ⟨rfl, hb⟩))
  go_ret
  exact ⟨rfl, hb⟩
end Go.Proofs.YtonfaojmphidpaaGreatDoor
