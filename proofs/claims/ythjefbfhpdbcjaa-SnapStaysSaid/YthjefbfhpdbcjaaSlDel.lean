/- slices.Delete of one element, on a row of the call's own. -/
import Derived.Test.YthjefbfhpdbcjaaSl
import Derived.Test.YthjefbfhpdbcjaaApp
import Derived.Deep.RegionLaw
import Derived.Deep.Upon
import Derived.Lib.SliceRun
namespace Go.Proofs.Ythjefbfhpdbcjaa
open Go.RowKit
set_option linter.unusedVariables false

/-- Some cells are set, from o on. -/
def setAll (cs : Array Value) : Nat → List Value → Array Value
  | _, [] => cs
  | o, v :: r => setAll (cs.setIfInBounds o v) (o + 1) r
theorem size_setAll : ∀ (vs : List Value) (cs : Array Value) (o : Nat), (setAll cs o vs).size = cs.size
  | [], _, _ => rfl
  | v :: r, cs, o => by rw [setAll, size_setAll r]; simp
theorem setAll_lt : ∀ (vs : List Value) (cs : Array Value) (o j : Nat), j < o → (setAll cs o vs)[j]? = cs[j]?
  | [], _, _, _, _ => rfl
  | v :: r, cs, o, j, h => by
    rw [setAll, setAll_lt r _ _ _ (by omega), Array.getElem?_setIfInBounds_ne (by omega)]
theorem setAll_in : ∀ (vs : List Value) (cs : Array Value) (o j : Nat), o + vs.length ≤ cs.size → j < vs.length → (setAll cs o vs)[o + j]? = vs[j]?
  | v :: r, cs, o, 0, h, _ => by
    have : o < cs.size := by simp at h; omega
    rw [setAll, setAll_lt r _ _ _ (by omega), Nat.add_zero, Array.getElem?_setIfInBounds_self]
    simp [this]
  | v :: r, cs, o, j + 1, h, hj => by
    rw [setAll, show o + (j + 1) = o + 1 + j by omega, setAll_in r _ _ _ (by simp at h ⊢; omega) (by simpa using hj)]
    simp
theorem Blk.putAll {w : World} {g : Nat} {t : TypeId} : ∀ (vs : List Value) (o : Nat) (w : World) (cs : Array Value), Blk w g t cs → Blk (w.setCells g o vs) g t (setAll cs o vs)
  | [], _, _, _, h => h
  | v :: r, o, w, cs, h => by
    rw [World.setCells, setAll]
    exact Blk.putAll (w := w) r (o + 1) _ _ (h.put o v)
theorem grown_setCells (w : World) (g o : Nat) (vs : List Value) (hg : g < w.heap.size) : w.grownBy (w.setCells g o vs) (some g) := by
  have hs : ∀ (vs : List Value) (o : Nat) (w : World), (w.setCells g o vs).heap.size = w.heap.size ∧ (w.setCells g o vs).tape = w.tape := by
    intro vs
    induction vs with
    | nil => intro o w; exact ⟨rfl, rfl⟩
    | cons v r ih => intro o w; rw [World.setCells]; exact ⟨(ih _ _).1.trans (size_setCell _ _ _), (ih _ _).2⟩
  exact ⟨World.os_setCells w g o vs, (hs vs o w).2, World.output_setCells w g o vs, by rw [(hs vs o w).1]; exact Nat.le_refl _, fun k hk hne => World.heap_setCells_other w g o vs hk (fun e => hne (by rw [e]))⟩

def movedI (xs : List Int) (i : Nat) : List Value := (xs.drop (i + 1)).map (Value.int .u64)
theorem eraseIdx_lo {xs : List Int} {i j : Nat} (h : j < i) : (xs.eraseIdx i).getD j 0 = xs.getD j 0 := by
  simp [List.getD_eq_getElem?_getD, List.getElem?_eraseIdx, h]
theorem eraseIdx_hi {xs : List Int} {i j : Nat} (h : i ≤ j) : (xs.eraseIdx i).getD j 0 = xs.getD (j + 1) 0 := by
  simp [List.getD_eq_getElem?_getD, List.getElem?_eraseIdx, Nat.not_lt.2 h]

theorem Try.infoU : (Try.prog.info? 31).map (fun i => (i.zero, i.size, i.bytes)) = some (some (.int .u64 0), 1, 8) := by kernel_rfl
theorem Try.zeroU (w : World) : (zeroValue 31).run Try.prog w = .ok (.int .u64 0) w := by kernel_rfl

set_option maxHeartbeats 1600000 in
set_option maxRecDepth 1000000 in
theorem slices_Delete_u64 (g cap i : Nat) (cur : Array Value) (xs : List Int) (w : World) (hb : Blk w g 31 cur) (hsz : cur.size = cap) (hxs : ∀ j, j < xs.length → cur[j]? = some (.int .u64 (xs.getD j 0)))
    (hi : i < xs.length) (hcap : xs.length ≤ cap) (hc : cap ≤ 9223372036854775807) :
    Calls Try.prog 17 #[.slice (some ⟨g, 0, none⟩) xs.length cap, .int .i64 i, .int .i64 ((i : Int) + 1)] w fun e w' => e = .returned (.slice (some ⟨g, 0, none⟩) (xs.length - 1) cap) ∧
      (∃ cur', Blk w' g 31 cur' ∧ cur'.size = cap ∧ ∀ j, j < xs.length - 1 → cur'[j]? = some (.int .u64 ((xs.eraseIdx i).getD j 0))) ∧ w.grownBy w' (some g) := by
  obtain ⟨i0, hi0, hz0, hz1, hz2⟩ := info_parts Try.infoU
  have hml : (movedI xs i).length = xs.length - (i + 1) := by simp [movedI]
  have hmg : ∀ j, j < xs.length - (i + 1) → (movedI xs i)[j]? = some (.int .u64 (xs.getD (i + 1 + j) 0)) := by
    intro j hj
    simp [movedI, List.getD_eq_getElem?_getD, show i + 1 + j < xs.length by omega]
  obtain ⟨A, hA, hnews⟩ : ∃ A : Addr, (if cap = i + 1 then some (⟨g, 0, none⟩ : Addr) else some ⟨g, i + 1, none⟩) = some A ∧ Hid (∀ j u, (movedI xs i)[j]? = some u → w.drew.cell? (A.add j) = some u) := by
    by_cases h : cap = i + 1
    · refine ⟨⟨g, 0, none⟩, by simp [h], fun j u hu => ?_⟩
      have h0 : (movedI xs i).length = 0 := by rw [hml]; omega
      rw [List.length_eq_zero_iff.1 h0] at hu
      simp at hu
    · refine ⟨⟨g, i + 1, none⟩, by simp [h], fun j u hu => ?_⟩
      have hj : j < xs.length - (i + 1) := by
        have := (List.getElem?_eq_some_iff.1 hu).1
        rwa [hml] at this
      rw [hmg j hj] at hu
      rw [Addr.add_lit]
      rw [(hb.drew).cell, hxs (i + 1 + j) (by omega)]
      exact hu
  have s1 : Hid ((movedI xs i).length = (xs.length - (i + 1)) * 1) := by rw [Nat.mul_one]; exact hml
  have s2 : Hid (∀ u ∈ movedI xs i, u.oneCell' = true) := by
    intro u hu
    obtain ⟨x, _, rfl⟩ := List.mem_map.1 hu
    rfl
  have s3 : Hid (∀ j, j < (movedI xs i).length → (w.drew.cell? ⟨g, 0 + i * 1 + j, none⟩).isSome = true ∧ w.drew.frozen? ⟨g, 0 + i * 1 + j, none⟩ = false) := by
    intro j hj
    rw [hml] at hj
    refine ⟨?_, hb.drew.frozen _⟩
    rw [hb.drew.cell, hxs (0 + i * 1 + j) (by omega)]; rfl
  have HML := Lib.hid hml; clear hml
  have HMG := Lib.hid hmg; clear hmg
  have HXS := Lib.hid hxs; clear hxs
  have HSZ := Lib.hid hsz; clear hsz
  have hwr : IntKind.i64.wrap ((i : Int) + 1) = (i : Int) + 1 := by rw [IntKind.wrap_i64]; omega
  have hp0 : (0 : Int) ≤ (i : Int) + 1 := by omega
  have hp1 : (i : Int) + 1 ≤ (xs.length : Int) := by omega
  have hp2 : ((i : Int) + 1).toNat = i + 1 := by omega
  have hic : i ≤ cap := by omega
  have hne : ((i : Int) == (i : Int) + 1) = false := by simp; omega
  obtain ⟨W1, hW1⟩ : ∃ W1, W1 = w.drew.setCells g (0 + i * 1) (movedI xs i) := ⟨_, rfl⟩
  have hb1 : Blk W1 g 31 (setAll cur (0 + i * 1) (movedI xs i)) := by rw [hW1]; exact Blk.putAll (w := w) _ _ _ _ hb.drew
  have hcl : ∀ ty, (Builtin.clear_ #[22] ty #[.slice (some ⟨g, i + (xs.length - (i + 1)), none⟩) (xs.length - (i + (xs.length - (i + 1)))) (cap - (i + (xs.length - (i + 1))))]).run Try.prog W1 = .ok (.tuple #[]) (W1.setCells g (i + (xs.length - (i + 1))) (List.replicate (xs.length - (i + (xs.length - (i + 1)))) (.int .u64 0))) :=
    fun ty => Lib.run_clear_slice W1 _ _ ty _ Try.underlying22 Try.zeroU rfl rfl g (i + (xs.length - (i + 1))) _ _ (by omega) (fun t ht => by
      have hs := size_setAll (movedI xs i) cur (0 + i * 1)
      rw [hb1.cell, Array.getElem?_eq_getElem (by rw [hs, HSZ.out]; omega)]; rfl) (fun t ht => hb1.frozen _)
  have HW := Lib.hid hW1; clear hW1
  have HB := Lib.hid hb; clear hb
  have HB1 := Lib.hid hb1; clear hb1
  go_enter Try.func17, Try.ntmps17
  go_wp2_with fail
  go_region_law (refine step_append_room rfl (.tmp 22) (.tmp 25) 22 rfl 31 i0 1 Try.underlying22 hi0 hz1 g 0 i cap (by simp [Act.eval, Act.put]) A (xs.length - (i + 1)) (cap - (i + 1)) (movedI xs i) (by simp [Act.eval, Act.put]) s1.out hnews.out s2.out (by omega) s3.out ?_; rw [← HW.out])
  go_wp2
  go_ret
  have hn : i + (xs.length - (i + 1)) = xs.length - 1 := by omega
  have hs1 : (setAll cur (0 + i * 1) (movedI xs i)).size = cap := (size_setAll _ _ _).trans HSZ.out
  have hr : xs.length - (i + (xs.length - (i + 1))) = 1 := by omega
  refine ⟨by rw [← hn]; rfl, ⟨_, Blk.putAll (w := w) _ _ _ _ HB1.out, (size_setAll _ _ _).trans hs1, fun j hj => ?_⟩, ?_⟩
  · rw [setAll_lt _ _ _ _ (by omega)]
    by_cases hji : j < i
    · rw [setAll_lt _ _ _ _ (by omega), eraseIdx_lo hji, HXS.out j (by omega)]
    · have := setAll_in (movedI xs i) cur (0 + i * 1) (j - i) (by rw [HML.out, HSZ.out]; omega) (by rw [HML.out]; omega)
      rw [show 0 + i * 1 + (j - i) = j by omega] at this
      rw [this, eraseIdx_hi (by omega), HMG.out (j - i) (by omega), show i + 1 + (j - i) = j + 1 by omega]
  · rw [HW.out]
    have hg0 : g < w.drew.heap.size := HB.out.drew.lt
    have g1 : w.grownBy w.drew (some g) := ⟨rfl, rfl, rfl, Nat.le_refl _, fun _ _ _ => rfl⟩
    have g2 := grown_setCells w.drew g (0 + i * 1) (movedI xs i) hg0
    have hsz2 : g < (w.drew.setCells g (0 + i * 1) (movedI xs i)).heap.size := by rw [← HW.out]; exact HB1.out.lt
    exact (g1.trans g2).trans (grown_setCells _ g _ _ hsz2)
end Go.Proofs.Ythjefbfhpdbcjaa
