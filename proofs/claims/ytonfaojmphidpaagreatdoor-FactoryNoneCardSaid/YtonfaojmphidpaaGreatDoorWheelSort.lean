/- slices.SortFunc as the wheel calls it: by tick, then by key. -/
import Derived.Test.YtonfaojmphidpaaGreatDoorWheel3
import Derived.Test.YtonfaojmphidpaaGreatDoorWheelLay
namespace Go.Proofs.YtonfaojmphidpaaGreatDoor
open Go.RowKit Go.Maps Go.Sort Go.Shelf
set_option linter.unusedVariables false
set_option linter.unusedSimpArgs false

abbrev U := { x : Int // In64 x }
instance : Inhabited U := ⟨⟨0, by unfold In64; omega⟩⟩
def encU (x : U) : Value := .int .u64 x.1
def cfU (L : List (Int × Int)) (x y : U) : Int := keyCmp L x.1 y.1
theorem keyCmp_neg (L : List (Int × Int)) (x y : Int) : keyCmp L x y < 0 ↔ valOf L x < valOf L y ∨ (valOf L x = valOf L y ∧ x < y) := by
  unfold keyCmp cmpI
  by_cases h1 : valOf L x < valOf L y
  · simp [h1]
  · by_cases h2 : valOf L y < valOf L x
    · simp [h1, h2]; omega
    · have e : valOf L x = valOf L y := by omega
      by_cases h3 : x < y
      · simp [e, h3]
      · by_cases h4 : y < x <;> simp [e, h3, h4]
theorem ltU (L : List (Int × Int)) (x y : U) : ltOf (cfU L) x y = decide (valOf L x.1 < valOf L y.1 ∨ (valOf L x.1 = valOf L y.1 ∧ x.1 < y.1)) := by
  unfold ltOf cfU; rw [decide_eq_decide]; exact keyCmp_neg L x.1 y.1
theorem swoU (L : List (Int × Int)) : SWO (ltOf (cfU L)) where
  irrefl x := by rw [ltU]; simp
  trans x y z h1 h2 := by rw [ltU] at *; simp at *; omega
  ntrans x y z h1 h2 := by rw [ltU] at *; simp at *; omega
theorem sortWorld_grown (w : World) (blk m : Nat) (dk : Array U) (os : Array Obj) : w.grownBy (sortWorld encU w blk 0 m dk os) (some blk) := by
  refine ⟨rfl, rfl, rfl, by simp [sortWorld], fun k hk hne => ?_⟩
  unfold sortWorld
  rw [heap_grow_old _ _ (by simpa using hk)]
  have : blk ≠ k := fun e => hne (by rw [e])
  simp [putRow, mapBlock, Sort.ahead, Array.getElem?_modify, this]
theorem Wh.grown {w w' : World} {g b r : Nat} {L : List (Int × Int)} (h : Wh w g b L) (hg : w.grownBy w' (some r)) (h1 : g ≠ r) (h2 : b ≠ r) : Wh w' g b L := by
  obtain ⟨D, hown, hT⟩ := h.map_
  exact ⟨(hg.block g h.blk.lt (fun e => h1 (Option.some.inj e))).trans h.blk, ⟨D, hown.kept hg (fun e => h2 (Option.some.inj e)), hT⟩, h.wf_⟩
theorem cmpLaysU (bx g b : Nat) (L : List (Int × Int)) (blk size : Nat) (w : World) (h : Wh w g b L) (hbx : Blk w bx 230 #[.pointer (some ⟨g, 0, none⟩)]) (h1 : g ≠ blk) (h2 : b ≠ blk) (h3 : bx ≠ blk) :
    CmpLays1 Tryz.prog 181 #[.pointer (some ⟨bx, 0, none⟩)] encU (cfU L) blk 0 size w := fun m os dk hs x y => by
  have hg := sortWorld_grown w blk m dk os
  have hb : Blk (sortWorld encU w blk 0 m dk os) bx 230 #[.pointer (some ⟨g, 0, none⟩)] := (hg.block bx hbx.lt (fun e => h3 (Option.some.inj e))).trans hbx
  exact wheel_keys_cmp bx g b L x.1 y.1 _ (h.grown hg h1 h2) x.2 y.2 (hb.cell 0) hb.lt
theorem wheel_SortFunc (bx g b : Nat) (L : List (Int × Int)) (blk cap : Nat) (d : Array U) (w : World) (h : Wh w g b L) (hbx : Blk w bx 230 #[.pointer (some ⟨g, 0, none⟩)]) (h1 : g ≠ blk) (h2 : b ≠ blk) (h3 : bx ≠ blk)
    (hH : Holds encU w blk 0 d) (hblk : blk < w.heap.size) (hsz : d.size < 4611686018427387904) :
    Calls Tryz.prog 186 #[.slice (some ⟨blk, 0, none⟩) d.size cap, .func (.func 181) #[] #[.pointer (some ⟨bx, 0, none⟩)]] w fun e w' =>
      e = .returned (.tuple #[]) ∧ ∃ d' n os, PermIn 0 d.size d d' ∧ SortedIn (ltOf (cfU L)) 0 d.size d' ∧ w' = sortWorld encU w blk 0 n d' os := by
  have eg : ∀ args w, (callFunc 181 args).run Tryz.prog w = .ok (.enter 181 args) w := enters_of Tryz.func181 (by kernel_rfl) rfl
  exact Any.slices_SortFunc Tryz.sortF encU (fun _ => rfl) (cfU L) (swoU L) _ _ blk 0 cap d w eg (cmpLaysU bx g b L blk d.size w h hbx h1 h2 h3) hH hblk hsz
end Go.Proofs.YtonfaojmphidpaaGreatDoor
