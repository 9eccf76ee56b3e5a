/- The wheel's map: walks of New, At, Len. -/
import Derived.Test.YtlfnoailaoiedaaProg
import Derived.Test.YtlfnoailaoiedaaMem
import Derived.Test.YtlfnoailaoiedaaTab
import Derived.Maps.OwnSet
import Derived.WalkKit
namespace Go.Proofs.Ytlfnoailaoiedaa
open Go.RowKit Go.Maps
set_option linter.unusedVariables false
set_option linter.unusedSimpArgs false

theorem lawU : Keyed Try.prog 22 := int_keyed Try.underlying22
theorem zeroU64 (w : World) : (zeroValue 22).run Try.prog w = .ok (.int .u64 0) w := by kernel_rfl
def In64 (x : Int) : Prop := 0 ≤ x ∧ x < 18446744073709551616
theorem In64.wf {x : Int} (h : In64 x) : (Lit.int .u64 x).wf = true := by
  obtain ⟨h0, h1⟩ := h
  simp [Lit.wf, IntKind.min, IntKind.max, IntKind.signed, IntKind.bits]; omega
/-- Block g is a wheel whose map, in block b, reads as L. -/
structure Wh (w : World) (g b : Nat) (L : List (Int × Int)) : Prop where
  blk : Blk w g 148 #[.map (some b)]
  map_ : ∃ D : DataW Unit, w.ownsMap Try.prog 22 (plainElem Try.prog 22) b L.length D ∧ Tab D L
  wf_ : ∀ p ∈ L, In64 p.1 ∧ In64 p.2
theorem own_tight {P : Program} {k : TypeId} {R : Value → Option (DataW Unit × List MemPlace)} {w : World} {b n : Nat} {D : DataW Unit} (h : w.ownsMap P k R b n D) : w.ownsMap P k R b (Maps.size D) D := by
  obtain ⟨es, clock, h1, h2, h3, rfl⟩ := h
  refine ⟨es, clock, h1, h2, ?_, rfl⟩
  rw [size_eq, length_read]; exact Nat.le_refl _
def valOf (L : List (Int × Int)) (k : Int) : Int := ((L.find? fun p => p.1 == k).map Prod.snd).getD 0
theorem valOf_mem {L : List (Int × Int)} (h : (keysOf L).Nodup) {k v : Int} (hm : (k, v) ∈ L) : valOf L k = v := by
  unfold valOf
  induction L with
  | nil => cases hm
  | cons p L ih =>
    have hn : p.1 ∉ keysOf L ∧ (keysOf L).Nodup := by simpa [keysOf] using h
    by_cases e : p.1 = k
    · rcases List.mem_cons.1 hm with rfl | hm
      · simp
      · exact absurd (mem_keysOf.2 ⟨v, hm⟩) (e ▸ hn.1)
    · rcases List.mem_cons.1 hm with rfl | hm
      · exact absurd rfl e
      · rw [List.find?_cons_of_neg (by simpa using e)]; exact ih hn.2 hm
theorem valOf_miss {L : List (Int × Int)} {k : Int} (h : k ∉ keysOf L) : valOf L k = 0 := by
  unfold valOf
  rw [List.find?_eq_none.2]; rfl
  intro p hp; simp; exact fun e => h (by rw [← e]; exact List.mem_map_of_mem hp)
theorem Tab.val {D : DataW Unit} {L : List (Int × Int)} (h : Tab D L) {k c : Int} (hc : D.atKey (K64 k) (.lit (.int .u64 0)) = .lit (.int .u64 c)) : c = valOf L k := by
  by_cases hk : k ∈ keysOf L
  · obtain ⟨v, hv⟩ := mem_keysOf.1 hk
    rw [valOf_mem h.nodup hv]
    have := h.at_ _ hv (.lit (.int .u64 0))
    dsimp only at this
    rw [this] at hc
    unfold K64 at hc
    injection hc with hc; injection hc with _ hc; exact hc.symm
  · rw [valOf_miss hk]
    rw [h.miss hk] at hc
    injection hc with hc; injection hc with _ hc; exact hc.symm

set_option maxHeartbeats 400000 in
theorem wheel_New (w : World) :
    Calls Try.prog 35 #[] w fun e w' => ∃ g b, e = .returned (.pointer (some ⟨g, 0, none⟩)) ∧ Wh w' g b [] ∧ w.heap.size ≤ g ∧ w.heap.size ≤ b ∧ Below w.heap.size w w' := by
  have hmm := @run_makeMap Try.prog
  go_enter Try.func35, Try.ntmps35
  go_wp2
  go_ret
  have b1 := Blk.new (w.alloc (.map #[] 0)) 148 #[.map (some w.heap.size)]
  rw [size_alloc] at b1
  refine ⟨_, w.heap.size, rfl, ⟨b1, ⟨.map [], (World.ownsMap_made w Try.prog _ _).alloc _, Tab.empty⟩, fun p hp => absurd hp List.not_mem_nil⟩, by simp, Nat.le_refl _, ((Below.refl w.heap.size w).alloc (Nat.le_refl _) _).alloc (by simp) _⟩

set_option maxHeartbeats 400000 in
theorem wheel_At (g b : Nat) (L : List (Int × Int)) (k : Int) (w : World) (h : Wh w g b L) (hk : In64 k) :
    Calls Try.prog 40 #[.pointer (some ⟨g, 0, none⟩), .int .u64 k] w fun e w' => e = .returned (.tuple #[.int .u64 (valOf L k), .bool (decide (k ∈ keysOf L))]) ∧ w = w' := by
  obtain ⟨D, hown, hT⟩ := h.map_
  have p0 := h.blk.cell 0
  simp only [List.getElem?_toArray, List.getElem?_cons_zero] at p0
  have hkey : keyOf Try.prog 22 (.int .u64 k) = some (K64 k) := keyOf_int_mk Try.underlying22 hk.wf
  have hh := hT.has_ k
  go_enter Try.func40, Try.ntmps40
  go_wp2_with (first
    | (at_lookup; refine wpList_lookup_own_ok_int _ rfl _ _ 66 rfl 22 22 .u64 lawU Try.underlying66 Try.underlying22 (zeroU64 _) b L.length D rfl hown _ _ rfl hkey ?_; intro c hat hwc)
    | go_in)
  go_ret2
  exact ⟨by rw [hT.val hat]; rfl, rfl⟩

set_option maxHeartbeats 400000 in
theorem wheel_Len (g b : Nat) (L : List (Int × Int)) (w : World) (h : Wh w g b L) :
    Calls Try.prog 38 #[.pointer (some ⟨g, 0, none⟩)] w fun e w' => e = .returned (.int .i64 L.length) ∧ w = w' := by
  obtain ⟨D, hown, hT⟩ := h.map_
  have p0 := h.blk.cell 0
  simp only [List.getElem?_toArray, List.getElem?_cons_zero] at p0
  go_enter Try.func38, Try.ntmps38
  go_wp2_with (first
    | (at_len; refine wpList_len_own _ rfl _ 66 rfl 22 22 Try.underlying66 _ b L.length D rfl hown ?_)
    | go_in)
  go_ret
  exact ⟨by rw [← hT.size_]; rfl, rfl⟩
end Go.Proofs.Ytlfnoailaoiedaa
