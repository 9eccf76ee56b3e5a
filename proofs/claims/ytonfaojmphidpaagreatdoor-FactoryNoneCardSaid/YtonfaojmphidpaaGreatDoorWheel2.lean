/- The wheel's map: walks of Disarm, Arm. -/
import Derived.Test.YtonfaojmphidpaaGreatDoorWheel
import Derived.Test.YtonfaojmphidpaaGreatDoorAwake03
import Derived.Test.YtonfaojmphidpaaGreatDoorMix
namespace Go.Proofs.YtonfaojmphidpaaGreatDoor
open Go.RowKit Go.Maps
set_option linter.unusedVariables false
set_option linter.unusedSimpArgs false

theorem Wh.cell {w : World} {g b : Nat} {L : List (Int × Int)} (h : Wh w g b L) : w.cell? ⟨g, 0, none⟩ = some (.map (some b)) := h.blk.cell 0
theorem Wh.ne {w : World} {g b : Nat} {L : List (Int × Int)} (h : Wh w g b L) : g ≠ b := by
  obtain ⟨D, ⟨es, clock, h1, -⟩, -⟩ := h.map_
  intro e; subst e
  have := h.blk; unfold Blk at this; rw [this] at h1; cases h1
theorem Wh.lt {w : World} {g b : Nat} {L : List (Int × Int)} (h : Wh w g b L) : b < w.heap.size := by
  obtain ⟨D, h1, -⟩ := h.map_; exact h1.lt
theorem Wh.below {w w' : World} {g b : Nat} {L : List (Int × Int)} (h : Wh w g b L) {B : Nat} (hb : Below B w w') (hg : g < B) (hB : b < B) : Wh w' g b L := by
  obtain ⟨D, ⟨es, clock, h1, h2⟩, hT⟩ := h.map_
  exact ⟨h.blk.below hb hg, ⟨D, ⟨es, clock, (hb.block b hB).trans h1, h2⟩, hT⟩, h.wf_⟩
theorem Wh.of_below {w w' : World} {g b : Nat} {L : List (Int × Int)} (h : Wh w g b L) (hb : Below w.heap.size w w') : Wh w' g b L := h.below hb h.blk.lt h.lt
theorem Wh.perm {w : World} {g b : Nat} {L L' : List (Int × Int)} (h : Wh w g b L) (hp : L.Perm L') : Wh w g b L' := by
  obtain ⟨D, h1, hT⟩ := h.map_
  exact ⟨h.blk, ⟨D, hp.length_eq ▸ h1, hT.perm hp⟩, fun p hm => h.wf_ p (hp.mem_iff.2 hm)⟩
theorem cAdd_in {a : Int} (h : In64 a) : In64 (cAdd a 0) := by unfold In64 cAdd at *; split <;> omega

set_option maxRecDepth 100000 in
set_option maxHeartbeats 1000000 in
theorem wheel_Arm_full (g b : Nat) (L : List (Int × Int)) (k v : Int) (w : World) (h : Wh w g b L) (hk : In64 k) (hv : In64 v) (hl : L.length ≤ 1024) (hf : k ∉ keysOf L ∧ 1024 ≤ L.length) :
    Calls Tryz.prog 167 #[.pointer (some ⟨g, 0, none⟩), .int .u64 k, .int .u64 v] w fun e w' => e = .returned (.int .i64 11) ∧ w = w' := by
  obtain ⟨D, hown, hT⟩ := h.map_
  have p0 := h.cell
  have hkey : keyOf Tryz.prog 28 (.int .u64 k) = some (K64 k) := keyOf_int_mk Tryz.underlying28 hk.wf
  have hh : Maps.has D (K64 k) = false := by rw [hT.has_]; simp [hf.1]
  have hs := hT.size_
  have hlen := fun ty => hown.len Tryz.underlying234 ty
  have hz : (1024 : Int) ≤ (Maps.size D : Nat) := by omega
  go_enter Tryz.func167, Tryz.ntmps167
  go_wp2_with (first | (at_lookup; refine wpList_lookup_own_ok_int _ rfl _ _ 234 rfl 28 28 .u64 lawU Tryz.underlying234 Tryz.underlying28 (zeroU64 _) b L.length D rfl hown _ _ rfl hkey ?_; intro c hat hwc) | go_in)
  go_ret
  exact ⟨rfl, rfl⟩

set_option maxRecDepth 100000 in
set_option maxHeartbeats 1000000 in
theorem wheel_Arm (g b : Nat) (L : List (Int × Int)) (k v : Int) (w : World) (h : Wh w g b L) (hk : In64 k) (hv : In64 v) (hl : L.length ≤ 1024) (hf : k ∈ keysOf L ∨ L.length < 1024) :
    Calls Tryz.prog 167 #[.pointer (some ⟨g, 0, none⟩), .int .u64 k, .int .u64 v] w fun e w' => e = .returned (.int .i64 0) ∧ Wh w' g b ((k, cAdd v 0) :: strike L k) ∧ w.grownBy w' (some b) := by
  obtain ⟨D, hown, hT⟩ := h.map_
  have p0 := h.cell
  have hkey : keyOf Tryz.prog 28 (.int .u64 k) = some (K64 k) := keyOf_int_mk Tryz.underlying28 hk.wf
  have hh : Maps.has D (K64 k) = decide (k ∈ keysOf L) := hT.has_ k
  have hs := hT.size_
  have hlen := fun ty => hown.len Tryz.underlying234 ty
  have hcw := (cAdd_in hv).wf
  have hownd : w.drew.ownsMap Tryz.prog 28 (plainElem Tryz.prog 28) b L.length D := hown
  have fin : ∀ w1 : World, w1.ownsMap Tryz.prog 28 (plainElem Tryz.prog 28) b (L.length + 1) (D.put (K64 k) (.lit (.int .u64 (cAdd v 0)))) → w.drew.mapTurned w1 b → Wh w1 g b ((k, cAdd v 0) :: strike L k) ∧ w.grownBy w1 (some b) := by
    intro w1 h1 h2
    have hp := hT.put k (cAdd v 0)
    have hg : w.grownBy w1 (some b) := ⟨h2.grown.os, h2.grown.tape, h2.grown.output, h2.grown.size, h2.grown.block⟩
    refine ⟨⟨(hg.block g h.blk.lt (fun e => h.ne (Option.some.inj e))).trans h.blk, ⟨_, hp.size_ ▸ own_tight h1, hp⟩, fun p hm => ?_⟩, hg⟩
    rcases List.mem_cons.1 hm with rfl | hm
    · exact ⟨hk, cAdd_in hv⟩
    · exact h.wf_ p (mem_strike.1 hm).1
  by_cases hin : k ∈ keysOf L
  · have hh' : Maps.has D (K64 k) = true := by rw [hh]; simp [hin]
    clear hh
    go_enter Tryz.func167, Tryz.ntmps167
    go_wp2_with (first | (at_lookup; refine wpList_lookup_own_ok_int _ rfl _ _ 234 rfl 28 28 .u64 lawU Tryz.underlying234 Tryz.underlying28 (zeroU64 _) b L.length D rfl hown _ _ rfl hkey ?_; intro c hat hwc) | go_in)
    refine wp_region_mix_tail (fun w' => w' = w.drew) 7 [(0, true), (1, true), (2, true), (3, true), (4, true), (5, true), (6, false)] (by kernel_rfl) (by kernel_rfl) (rfl) ?_
    refine ord_still rfl rfl (fun K hK => ?_); apply Exists.intro; refine ⟨fun w' hw' => ?_, ?_⟩; (obtain rfl := hw'; go_simp; first | done | exact ⟨rfl, rfl⟩ | exact rfl); (go_simp; refine hK _ ?_; clear hK K)
    refine ord_still rfl rfl (fun K hK => ?_); apply Exists.intro; refine ⟨fun w' hw' => ?_, ?_⟩; (obtain rfl := hw'; go_simp; first | done | exact ⟨rfl, rfl⟩ | exact rfl); (go_simp; refine hK _ ?_; clear hK K)
    refine ord_still rfl rfl (fun K hK => ?_); apply Exists.intro; refine ⟨fun w' hw' => ?_, ?_⟩; (obtain rfl := hw'; go_simp; first | done | exact ⟨rfl, rfl⟩ | exact rfl); (go_simp; refine hK _ ?_; clear hK K)
    refine ord_still rfl rfl (fun K hK => ?_); apply Exists.intro; refine ⟨fun w' hw' => ?_, ?_⟩; (obtain rfl := hw'; go_simp; first | done | exact ⟨rfl, rfl⟩ | exact rfl); (go_simp; refine hK _ ?_; clear hK K)
    refine ord_still rfl rfl (fun K hK => ?_); apply Exists.intro; refine ⟨fun w' hw' => ?_, ?_⟩; (obtain rfl := hw'; go_simp; first | done | exact ⟨rfl, rfl⟩ | exact rfl); (go_simp; refine hK _ ?_; clear hK K)
    refine ord_still rfl rfl (fun K hK => ?_); apply Exists.intro; refine ⟨fun w' hw' => ?_, ?_⟩; (obtain rfl := hw'; go_simp; first | done | exact ⟨rfl, rfl⟩ | exact rfl); (go_simp; refine hK _ ?_; clear hK K)
    refine ord_sole rfl rfl (fun K hK => ?_); go_simp
    refine (clock_Add _ _ _ hv.1 hv.2 (by omega) (by omega)).mono ?_
    rintro e w3 ⟨rfl, rfl⟩
    refine ⟨_, rfl, rfl, ?_⟩
    go_simp
    refine hK _ _ ?_; clear hK K
    refine ord_nil ?_
    intro hC
    simp only [List.drop_succ_cons, List.drop_zero]
    go_wp2_with (first | (at_mapUpdate; refine wpList_mapUpdate_in _ rfl _ _ _ 234 rfl 28 28 lawU Tryz.underlying234 _ b L.length D rfl hownd (by unfold maxLen; omega) _ _ _ rfl rfl hkey _ [] (plainElem_int Tryz.underlying28 hcw) ?_; intro w1 hown1 hturn1) | go_in)
    go_ret
    exact ⟨rfl, fin _ hown1 hturn1⟩
  · have hh' : Maps.has D (K64 k) = false := by rw [hh]; simp [hin]
    have hz : ¬ (1024 : Int) ≤ (Maps.size D : Nat) := by have := hf.resolve_left hin; omega
    clear hh
    go_enter Tryz.func167, Tryz.ntmps167
    go_wp2_with (first | (at_lookup; refine wpList_lookup_own_ok_int _ rfl _ _ 234 rfl 28 28 .u64 lawU Tryz.underlying234 Tryz.underlying28 (zeroU64 _) b L.length D rfl hown _ _ rfl hkey ?_; intro c hat hwc) | go_in)
    refine wp_region_mix_tail (fun w' => w' = w.drew) 7 [(0, true), (1, true), (2, true), (3, true), (4, true), (5, true), (6, false)] (by kernel_rfl) (by kernel_rfl) (rfl) ?_
    refine ord_still rfl rfl (fun K hK => ?_); apply Exists.intro; refine ⟨fun w' hw' => ?_, ?_⟩; (obtain rfl := hw'; go_simp; first | done | exact ⟨rfl, rfl⟩ | exact rfl); (go_simp; refine hK _ ?_; clear hK K)
    refine ord_still rfl rfl (fun K hK => ?_); apply Exists.intro; refine ⟨fun w' hw' => ?_, ?_⟩; (obtain rfl := hw'; go_simp; first | done | exact ⟨rfl, rfl⟩ | exact rfl); (go_simp; refine hK _ ?_; clear hK K)
    refine ord_still rfl rfl (fun K hK => ?_); apply Exists.intro; refine ⟨fun w' hw' => ?_, ?_⟩; (obtain rfl := hw'; go_simp; first | done | exact ⟨rfl, rfl⟩ | exact rfl); (go_simp; refine hK _ ?_; clear hK K)
    refine ord_still rfl rfl (fun K hK => ?_); apply Exists.intro; refine ⟨fun w' hw' => ?_, ?_⟩; (obtain rfl := hw'; go_simp; first | done | exact ⟨rfl, rfl⟩ | exact rfl); (go_simp; refine hK _ ?_; clear hK K)
    refine ord_still rfl rfl (fun K hK => ?_); apply Exists.intro; refine ⟨fun w' hw' => ?_, ?_⟩; (obtain rfl := hw'; go_simp; first | done | exact ⟨rfl, rfl⟩ | exact rfl); (go_simp; refine hK _ ?_; clear hK K)
    refine ord_still rfl rfl (fun K hK => ?_); apply Exists.intro; refine ⟨fun w' hw' => ?_, ?_⟩; (obtain rfl := hw'; go_simp; first | done | exact ⟨rfl, rfl⟩ | exact rfl); (go_simp; refine hK _ ?_; clear hK K)
    refine ord_sole rfl rfl (fun K hK => ?_); go_simp
    refine (clock_Add _ _ _ hv.1 hv.2 (by omega) (by omega)).mono ?_
    rintro e w3 ⟨rfl, rfl⟩
    refine ⟨_, rfl, rfl, ?_⟩
    go_simp
    refine hK _ _ ?_; clear hK K
    refine ord_nil ?_
    intro hC
    simp only [List.drop_succ_cons, List.drop_zero]
    go_wp2_with (first | (at_mapUpdate; refine wpList_mapUpdate_in _ rfl _ _ _ 234 rfl 28 28 lawU Tryz.underlying234 _ b L.length D rfl hownd (by unfold maxLen; omega) _ _ _ rfl rfl hkey _ [] (plainElem_int Tryz.underlying28 hcw) ?_; intro w1 hown1 hturn1) | go_in)
    go_ret
    exact ⟨rfl, fin _ hown1 hturn1⟩
end Go.Proofs.YtonfaojmphidpaaGreatDoor
