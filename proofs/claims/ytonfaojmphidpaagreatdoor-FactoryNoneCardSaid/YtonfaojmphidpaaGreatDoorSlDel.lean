/- slices.Delete of one element, on a row of the call's own. -/
import Derived.Test.YtonfaojmphidpaaGreatDoorSl
import Derived.Test.YtonfaojmphidpaaGreatDoorApp
import Derived.Deep.RegionLaw
import Derived.Deep.Upon
import Derived.Lib.SliceRun
namespace Go.Proofs.YtonfaojmphidpaaGreatDoor
open Go.RowKit
set_option linter.unusedVariables false

/-- Some cells are set, from o on. -/
def setAll (cs : Array Value) : Nat → List Value → Array Value
  | _, [] => cs
  | o, v :: r => setAll (cs.setIfInBounds o v) (o + 1) r
theorem size_setAll : ∀ (vs : List Value) (cs : Array Value) (o : Nat), (setAll cs o vs).size = cs.size
  | [], _, _ => rfl
  | v :: r, cs, o => by rw [setAll, size_setAll r]; simp
theorem setAll_lt : ∀ (vs : List Value) (cs : Array Value) (o j : Nat), j < o → (setAll cs o vs)[j]? = cs[j]?
  | [], _, _, _, _ => rfl
  | v :: r, cs, o, j, h => by
    rw [setAll, setAll_lt r _ _ _ (by omega), Array.getElem?_setIfInBounds_ne (by omega)]
theorem setAll_in : ∀ (vs : List Value) (cs : Array Value) (o j : Nat), o + vs.length ≤ cs.size → j < vs.length → (setAll cs o vs)[o + j]? = vs[j]?
  | v :: r, cs, o, 0, h, _ => by
    have : o < cs.size := by simp at h; omega
    rw [setAll, setAll_lt r _ _ _ (by omega), Nat.add_zero, Array.getElem?_setIfInBounds_self]
    simp [this]
  | v :: r, cs, o, j + 1, h, hj => by
    rw [setAll, show o + (j + 1) = o + 1 + j by omega, setAll_in r _ _ _ (by simp at h ⊢; omega) (by simpa using hj)]
    simp
theorem Blk.putAll {w : World} {g : Nat} {t : TypeId} : ∀ (vs : List Value) (o : Nat) (w : World) (cs : Array Value), Blk w g t cs → Blk (w.setCells g o vs) g t (setAll cs o vs)
  | [], _, _, _, h => h
  | v :: r, o, w, cs, h => by
    rw [World.setCells, setAll]
    exact Blk.putAll (w := w) r (o + 1) _ _ (h.put o v)
theorem grown_setCells (w : World) (g o : Nat) (vs : List Value) (hg : g < w.heap.size) : w.grownBy (w.setCells g o vs) (some g) := by
  have hs : ∀ (vs : List Value) (o : Nat) (w : World), (w.setCells g o vs).heap.size = w.heap.size ∧ (w.setCells g o vs).tape = w.tape := by
    intro vs
    induction vs with
    | nil => intro o w; exact ⟨rfl, rfl⟩
    | cons v r ih => intro o w; rw [World.setCells]; exact ⟨(ih _ _).1.trans (size_setCell _ _ _), (ih _ _).2⟩
  exact ⟨World.os_setCells w g o vs, (hs vs o w).2, World.output_setCells w g o vs, by rw [(hs vs o w).1]; exact Nat.le_refl _, fun k hk hne => World.heap_setCells_other w g o vs hk (fun e => hne (by rw [e]))⟩

def movedI (xs : List Int) (i : Nat) : List Value := (xs.drop (i + 1)).map (Value.int .u64)
theorem eraseIdx_lo {xs : List Int} {i j : Nat} (h : j < i) : (xs.eraseIdx i).getD j 0 = xs.getD j 0 := by
  simp [List.getD_eq_getElem?_getD, List.getElem?_eraseIdx, h]
theorem eraseIdx_hi {xs : List Int} {i j : Nat} (h : i ≤ j) : (xs.eraseIdx i).getD j 0 = xs.getD (j + 1) 0 := by
  simp [List.getD_eq_getElem?_getD, List.getElem?_eraseIdx, Nat.not_lt.2 h]

theorem Tryz.infoU : (Tryz.prog.info? 28).map (fun i => (i.zero, i.size, i.bytes)) = some (some (.int .u64 0), 1, 8) := by kernel_rfl
theorem Tryz.zeroU (w : World) : (zeroValue 28).run Tryz.prog w = .ok (.int .u64 0) w := by kernel_rfl

end Go.Proofs.YtonfaojmphidpaaGreatDoor
