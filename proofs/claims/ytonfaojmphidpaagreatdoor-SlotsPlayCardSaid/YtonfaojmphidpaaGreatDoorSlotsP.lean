/- Slots as plain lists; what keeps them. -/
import Derived.Test.YtonfaojmphidpaaGreatDoorSlotsF
namespace Go.Proofs.YtonfaojmphidpaaGreatDoor
open Go.RowKit
set_option linter.unusedVariables false
set_option linter.unusedSimpArgs false

/-- Threads that parked, the first of them with the ids that were handed. -/
def mkL : List Int → List Int → List Sv
  | [], _ => []
  | t :: r, [] => ⟨t, 1, 0⟩ :: mkL r []
  | t :: r, h :: hs => ⟨t, 1, h⟩ :: mkL r hs
theorem mkL_length (row hs : List Int) : (mkL row hs).length = row.length := by
  induction row generalizing hs with
  | nil => rfl
  | cons t r ih => cases hs <;> simp [mkL, ih]
theorem mkL_snoc (row : List Int) (t : Int) : mkL (row ++ [t]) [] = mkL row [] ++ [⟨t, 1, 0⟩] := by
  induction row with
  | nil => rfl
  | cons u r ih => simp [mkL, ih]
theorem fidx_cons_hit {α : Type} {p : α → Bool} {x : α} {L : List α} (h : p x = true) : fidx p (x :: L) = 0 := by
  unfold fidx; rw [List.findIdx?_cons, if_pos h]; rfl
theorem fidx_cons_miss {α : Type} {p : α → Bool} {x : α} {L : List α} (h : p x = false) : fidx p (x :: L) = if fidx p L < 0 then -1 else fidx p L + 1 := by
  unfold fidx
  rw [List.findIdx?_cons, if_neg (by simp [h])]
  cases hf : L.findIdx? p with
  | none => simp
  | some k =>
    simp only [Option.map_some]
    rw [if_neg (by omega)]; simp
theorem mkL_fill (row hs : List Int) (hn : ∀ x ∈ hs, x ≠ 0) (hl : hs.length < row.length) (id : Int) :
    fidx (fun x : Sv => x.id == 0) (mkL row hs) = hs.length ∧ (mkL row hs)[hs.length]? = some ⟨row.getD hs.length 0, 1, 0⟩ ∧ (mkL row hs).set hs.length ⟨row.getD hs.length 0, 1, id⟩ = mkL row (hs ++ [id]) := by
  induction hs generalizing row with
  | nil =>
    cases row with
    | nil => simp at hl
    | cons t r => exact ⟨fidx_cons_hit rfl, rfl, rfl⟩
  | cons h hs ih =>
    cases row with
    | nil => simp at hl
    | cons t r =>
      obtain ⟨h1, h2, h3⟩ := ih r (fun x hx => hn x (List.mem_cons_of_mem _ hx)) (by simpa using hl)
      have hh : h ≠ 0 := hn h List.mem_cons_self
      refine ⟨?_, ?_, ?_⟩
      · rw [mkL, fidx_cons_miss (by simpa using hh), h1, if_neg (by omega)]; simp
      · simpa [mkL] using h2
      · simpa [mkL] using h3
theorem mkL_full (row hs : List Int) (hn : ∀ x ∈ hs, x ≠ 0) (hl : row.length ≤ hs.length) : fidx (fun x : Sv => x.id == 0) (mkL row hs) < 0 := by
  induction row generalizing hs with
  | nil => rw [show mkL [] hs = [] by cases hs <;> rfl]; exact (by decide : fidx (fun x : Sv => x.id == 0) [] < 0)
  | cons t r ih =>
    cases hs with
    | nil => simp at hl
    | cons h hs =>
      have hh : h ≠ 0 := hn h List.mem_cons_self
      rw [mkL, fidx_cons_miss (by simpa using hh), if_pos (ih hs (fun x hx => hn x (List.mem_cons_of_mem _ hx)) (by simpa using hl))]
      decide
theorem mkL_drop (row hs : List Int) (i : Nat) (hi : i < row.length) : (mkL row hs).drop i = ⟨row.getD i 0, 1, hs.getD i 0⟩ :: (mkL row hs).drop (i + 1) := by
  induction i generalizing row hs with
  | zero =>
    cases row with
    | nil => simp at hi
    | cons t r => cases hs <;> simp [mkL]
  | succ i ih =>
    cases row with
    | nil => simp at hi
    | cons t r =>
      cases hs with
      | nil => simpa [mkL] using ih r [] (by simpa using hi)
      | cons h hs => simpa [mkL] using ih r hs (by simpa using hi)

theorem Sk.keepO {w w' : World} {B g : Nat} {A : Option Addr} {c : Nat} {L : List Sv} (h : Sk w B g A c L) {B' n : Nat} {e : TypeId} {s : Nat} {v : Value} {xs : List Value} (ho : w.ownsRow B' e s v n xs) (he1 : 141 ≠ e) (he2 : 75 ≠ e) (hg : w.grownBy w' v.ownBlock) : Sk w' B g A c L := by
  have hgr := Grew.of_grown (S := fun k => v.ownBlock = some k) hg (fun k hk => hk)
  exact ⟨h.blk.grew hgr (fun e => own_apart ho h.blk he1 e), own_grew h.row hgr (fun k hk hk' => own_apart2 h.row ho he2 hk hk'), h.len⟩
theorem own_keepSk {w w' : World} {B g : Nat} {A : Option Addr} {c : Nat} {L : List Sv} (h : Sk w B g A c L) {B' n : Nat} {e : TypeId} {s : Nat} {v : Value} {xs : List Value} (ho : w.ownsRow B' e s v n xs) (he1 : 141 ≠ e) (he2 : 75 ≠ e) (hg : Grew w w' (fun k => k = g ∨ (Value.slice A L.length c).ownBlock = some k)) : w'.ownsRow B' e s v n xs :=
  own_grew ho hg (fun k hk hS => by
    rcases hS with rfl | hS
    · exact own_apart ho h.blk he1 hk
    · exact own_apart2 h.row ho he2 hS hk)
end Go.Proofs.YtonfaojmphidpaaGreatDoor
