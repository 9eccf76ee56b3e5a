/- The wheel's map: walks of New, At, Len. -/
import Derived.Test.YtonfaojmphidpaaGreatDoorProg
import Derived.Test.YtonfaojmphidpaaGreatDoorMem
import Derived.Test.YtonfaojmphidpaaGreatDoorTab
import Derived.Maps.OwnSet
import Derived.WalkKit
namespace Go.Proofs.YtonfaojmphidpaaGreatDoor
open Go.RowKit Go.Maps
set_option linter.unusedVariables false
set_option linter.unusedSimpArgs false

theorem lawU : Keyed Tryz.prog 28 := int_keyed Tryz.underlying28
theorem zeroU64 (w : World) : (zeroValue 28).run Tryz.prog w = .ok (.int .u64 0) w := by kernel_rfl
def In64 (x : Int) : Prop := 0 ≤ x ∧ x < 18446744073709551616
theorem In64.wf {x : Int} (h : In64 x) : (Lit.int .u64 x).wf = true := by
  obtain ⟨h0, h1⟩ := h
  simp [Lit.wf, IntKind.min, IntKind.max, IntKind.signed, IntKind.bits]; omega
/-- Block g is a wheel whose map, in block b, reads as L. -/
structure Wh (w : World) (g b : Nat) (L : List (Int × Int)) : Prop where
  blk : Blk w g 236 #[.map (some b)]
  map_ : ∃ D : DataW Unit, w.ownsMap Tryz.prog 28 (plainElem Tryz.prog 28) b L.length D ∧ Tab D L
  wf_ : ∀ p ∈ L, In64 p.1 ∧ In64 p.2
theorem own_tight {P : Program} {k : TypeId} {R : Value → Option (DataW Unit × List MemPlace)} {w : World} {b n : Nat} {D : DataW Unit} (h : w.ownsMap P k R b n D) : w.ownsMap P k R b (Maps.size D) D := by
  obtain ⟨es, clock, h1, h2, h3, rfl⟩ := h
  refine ⟨es, clock, h1, h2, ?_, rfl⟩
  rw [size_eq, length_read]; exact Nat.le_refl _
def valOf (L : List (Int × Int)) (k : Int) : Int := ((L.find? fun p => p.1 == k).map Prod.snd).getD 0
theorem valOf_mem {L : List (Int × Int)} (h : (keysOf L).Nodup) {k v : Int} (hm : (k, v) ∈ L) : valOf L k = v := by
  unfold valOf
  induction L with
  | nil => cases hm
  | cons p L ih =>
    have hn : p.1 ∉ keysOf L ∧ (keysOf L).Nodup := by simpa [keysOf] using h
    by_cases e : p.1 = k
    · rcases List.mem_cons.1 hm with rfl | hm
      · simp
      · exact absurd (mem_keysOf.2 ⟨v, hm⟩) (e ▸ hn.1)
    · rcases List.mem_cons.1 hm with rfl | hm
      · exact absurd rfl e
      · rw [List.find?_cons_of_neg (by simpa using e)]; exact ih hn.2 hm
theorem valOf_miss {L : List (Int × Int)} {k : Int} (h : k ∉ keysOf L) : valOf L k = 0 := by
  unfold valOf
  rw [List.find?_eq_none.2]; rfl
  intro p hp; simp; exact fun e => h (by rw [← e]; exact List.mem_map_of_mem hp)
theorem Tab.val {D : DataW Unit} {L : List (Int × Int)} (h : Tab D L) {k c : Int} (hc : D.atKey (K64 k) (.lit (.int .u64 0)) = .lit (.int .u64 c)) : c = valOf L k := by
  by_cases hk : k ∈ keysOf L
  · obtain ⟨v, hv⟩ := mem_keysOf.1 hk
    rw [valOf_mem h.nodup hv]
    have := h.at_ _ hv (.lit (.int .u64 0))
    dsimp only at this
    rw [this] at hc
    unfold K64 at hc
    injection hc with hc; injection hc with _ hc; exact hc.symm
  · rw [valOf_miss hk]
    rw [h.miss hk] at hc
    injection hc with hc; injection hc with _ hc; exact hc.symm

set_option maxHeartbeats 400000 in
theorem wheel_New (w : World) :
    Calls Tryz.prog 166 #[] w fun e w' => ∃ g b, e = .returned (.pointer (some ⟨g, 0, none⟩)) ∧ Wh w' g b [] ∧ w.heap.size ≤ g ∧ w.heap.size ≤ b ∧ Below w.heap.size w w' := by
  have hmm := @run_makeMap Tryz.prog
  go_enter Tryz.func166, Tryz.ntmps166
  go_wp2
  go_ret
  have b1 := Blk.new (w.alloc (.map #[] 0)) 236 #[.map (some w.heap.size)]
  rw [size_alloc] at b1
  refine ⟨_, w.heap.size, rfl, ⟨b1, ⟨.map [], (World.ownsMap_made w Tryz.prog _ _).alloc _, Tab.empty⟩, fun p hp => absurd hp List.not_mem_nil⟩, by simp, Nat.le_refl _, ((Below.refl w.heap.size w).alloc (Nat.le_refl _) _).alloc (by simp) _⟩

set_option maxHeartbeats 400000 in
theorem wheel_Len (g b : Nat) (L : List (Int × Int)) (w : World) (h : Wh w g b L) :
    Calls Tryz.prog 170 #[.pointer (some ⟨g, 0, none⟩)] w fun e w' => e = .returned (.int .i64 L.length) ∧ w = w' := by
  obtain ⟨D, hown, hT⟩ := h.map_
  have p0 := h.blk.cell 0
  simp only [List.getElem?_toArray, List.getElem?_cons_zero] at p0
  go_enter Tryz.func170, Tryz.ntmps170
  go_wp2_with (first
    | (at_len; refine wpList_len_own _ rfl _ 234 rfl 28 28 Tryz.underlying234 _ b L.length D rfl hown ?_)
    | go_in)
  go_ret
  exact ⟨by rw [← hT.size_]; rfl, rfl⟩
end Go.Proofs.YtonfaojmphidpaaGreatDoor
