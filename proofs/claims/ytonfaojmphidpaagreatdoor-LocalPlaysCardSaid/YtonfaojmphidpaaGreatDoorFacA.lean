/- Chapter 10: the factory: next, known, Open, Prove, Close, and what it tells. -/
import Derived.Test.YtonfaojmphidpaaGreatDoorZA1
import Derived.Test.YtonfaojmphidpaaGreatDoorZA4
namespace Go.Proofs.YtonfaojmphidpaaGreatDoor
open Go.RowKit Go.Maps
set_option linter.unusedVariables false
set_option linter.unusedSimpArgs false

def bools (xs : List Bool) : List Value := xs.map .bool
theorem bools_one (xs : List Bool) : ∀ u ∈ bools xs, u.oneCell' = true := by
  intro u hu
  obtain ⟨x, _, rfl⟩ := List.mem_map.1 hu
  rfl
/-- The slice at a reads as these bools. -/
def Bs (w : World) (a : Option Addr) (c : Nat) (xs : List Bool) : Prop := Rd 1 w a xs.length c (bools xs)
theorem Bs.at_ {w : World} {a : Option Addr} {c : Nat} {x : Bool} {xs : List Bool} (h : Bs w a c (x :: xs)) : ∃ b off, a = some ⟨b, off, none⟩ ∧ b < w.heap.size ∧ w.cell? ⟨b, off, none⟩ = some (.bool x) := by
  obtain ⟨b, off, ha, hb, hc⟩ := h.2.2.2 (by simp)
  exact ⟨b, off, ha, hb, by have := hc 0 (.bool x) rfl; simpa using this⟩
theorem Bs.tail1 {w : World} {b off c : Nat} {x : Bool} {xs : List Bool} (h : Bs w (some ⟨b, off, none⟩) c (x :: xs)) : Bs w (some ⟨b, off + 1, none⟩) (c - 1) xs := by
  refine ⟨by simp [bools], by have := h.2.1; simp at this; omega, (fun e => by cases e), fun h0 => ?_⟩
  obtain ⟨b', off', ha, hb, hc⟩ := h.2.2.2 (by simp)
  cases ha
  refine ⟨b, off + 1, rfl, hb, fun i v hi => ?_⟩
  rw [Nat.add_assoc, Nat.add_comm 1 i]; exact hc (i + 1) v (by simpa [bools] using hi)
theorem Bs.nil_ (w : World) (a : Option Addr) (c : Nat) (ha : a = none → c = 0) : Bs w a c [] := ⟨rfl, Nat.zero_le _, ha, fun h => absurd h (by simp)⟩
/-- A row of bools lies in no block that holds no bools. -/
theorem Bs.apart {w : World} {a : Option Addr} {c : Nat} {xs : List Bool} (h : Bs w a c xs) {g : Nat} {t : TypeId} {cs : Array Value} (hb : Blk w g t cs) (hcs : ∀ v ∈ cs, ∀ y, v ≠ .bool y) (h0 : 0 < xs.length) : ∀ q, a = some q → q.block ≠ g := by
  intro q hq e
  obtain ⟨b, off, ha, _, hc⟩ := h.2.2.2 h0
  rw [ha] at hq; cases hq
  dsimp only at e; subst e
  cases xs with
  | nil => simp at h0
  | cons x xs =>
    have h1 := hc 0 (.bool x) rfl
    rw [Nat.add_zero, hb.cell off] at h1
    exact hcs _ (Array.mem_of_getElem? h1) x rfl
theorem Bs.grew {w w' : World} {S : Nat → Prop} {a : Option Addr} {c : Nat} {xs : List Bool} (h : Bs w a c xs) (hg : Grew w w' S) (hn : ∀ q, a = some q → 0 < xs.length → ¬ S q.block) : Bs w' a c xs := Rd.grew h hg hn
theorem Bs.below {w w' : World} {a : Option Addr} {c : Nat} {xs : List Bool} (h : Bs w a c xs) (hb : RowKit.Below w.heap.size w w') : Bs w' a c xs := Rd.below h hb

set_option maxHeartbeats 400000 in
theorem factory_next_nil (p : Addr) (a : Option Addr) (c : Nat) (w : World) (h : w.cell? p = some (.slice a 0 c)) :
    Calls Tryz.prog 77 #[.pointer (some p)] w fun e w' => e = .returned (.bool true) ∧ w = w' := by
  go_enter Tryz.func77, Tryz.ntmps77
  go_wp2
  go_ret
  exact ⟨rfl, rfl⟩
/-- What next comes to at a script of one and more. -/
def NextCons (g i : Nat) (a : Option Addr) (x : Bool) (xs : List Bool) (w : World) (e : Ending) (w' : World) : Prop := ∃ a' c', e = .returned (.bool x) ∧ w' = w.setCell ⟨g, i, none⟩ (.slice a' xs.length c') ∧ Bs w a' c' xs ∧ (∀ q', a' = some q' → ∃ q, a = some q ∧ q'.block = q.block)
set_option maxHeartbeats 400000 in
theorem factory_next_cons (g i : Nat) (a : Option Addr) (c : Nat) (x : Bool) (xs : List Bool) (w : World) (h : w.cell? ⟨g, i, none⟩ = some (.slice a (xs.length + 1) c)) (hf : w.frozen? ⟨g, i, none⟩ = false) (hs : Bs w a c (x :: xs)) (hl : xs.length ≤ 1000) :
    Calls Tryz.prog 77 #[.pointer (some ⟨g, i, none⟩)] w (NextCons g i a x xs w) := by
  obtain ⟨b, off, rfl, hb, hc⟩ := hs.at_
  have hle := hs.2.1
  simp only [List.length_cons] at hle
  have HS := Lib.hid hs; clear hs
  go_enter Tryz.func77, Tryz.ntmps77
  go_wp2
  · have hxs : xs = [] := List.eq_nil_of_length_eq_zero (by omega)
    subst hxs
    go_ret
    exact ⟨some ⟨b, off, none⟩, 0, rfl, rfl, Bs.nil_ _ _ _ (fun e => by cases e), fun q' hq => ⟨_, rfl, by cases hq; rfl⟩⟩
  · go_ret
    exact ⟨some ⟨b, off + 1, none⟩, c - 1, rfl, rfl, HS.out.tail1, fun q' hq => ⟨_, rfl, by cases hq; rfl⟩⟩

/-- Block g is a factory: the scripts xs, ys are left; t were opened, S are closed. -/
structure Fc (w : World) (g b : Nat) (a1 : Option Addr) (c1 : Nat) (xs : List Bool) (a2 : Option Addr) (c2 : Nat) (ys : List Bool) (t : Int) (S : List Int) : Prop where
  blk : Blk w g 131 #[.slice a1 xs.length c1, .slice a2 ys.length c2, .int .u64 t, .map (some b)]
  r1 : Bs w a1 c1 xs
  r2 : Bs w a2 c2 ys
  st : St w b S
  t0 : 0 ≤ t
  t1 : t ≤ 1000
  in_ : ∀ k ∈ S, 1 ≤ k ∧ k ≤ t
  l1 : xs.length ≤ 1000
  l2 : ys.length ≤ 1000
section
variable {w w' : World} {g b : Nat} {a1 : Option Addr} {c1 : Nat} {xs : List Bool} {a2 : Option Addr} {c2 : Nat} {ys : List Bool} {t : Int} {S : List Int}
theorem Fc.of_below (h : Fc w g b a1 c1 xs a2 c2 ys t S) (hb : RowKit.Below w.heap.size w w') : Fc w' g b a1 c1 xs a2 c2 ys t S :=
  ⟨h.blk.of_below hb, h.r1.below hb, h.r2.below hb, h.st.of_below hb, h.t0, h.t1, h.in_, h.l1, h.l2⟩
theorem Fc.nobool : ∀ v ∈ (#[.slice a1 xs.length c1, .slice a2 ys.length c2, .int .u64 t, .map (some b)] : Array Value), ∀ y, v ≠ .bool y := by
  intro v hv y e
  subst e
  simp at hv
theorem Fc.ne (h : Fc w g b a1 c1 xs a2 c2 ys t S) : g ≠ b := by
  intro e; subst e
  have := h.st.no_cell 0
  rw [h.blk.cell 0] at this
  simp at this
end
def knownF (t : Int) (S : List Int) (id cl : Int) : Int := if id < 1 ∨ t < id then 9 else if id ∈ S then cl else 0

set_option maxHeartbeats 1000000 in
theorem factory_known (g b : Nat) (a1 : Option Addr) (c1 : Nat) (xs : List Bool) (a2 : Option Addr) (c2 : Nat) (ys : List Bool) (t : Int) (S : List Int) (id cl : Int) (w : World) (h : Fc w g b a1 c1 xs a2 c2 ys t S) (hid : In64 id) :
    Calls Tryz.prog 78 #[.pointer (some ⟨g, 0, none⟩), .int .u64 id, .int .i64 cl] w fun e w' => e = .returned (.int .i64 (knownF t S id cl)) ∧ w = w' := by
  have p2 := h.blk.cell 2
  have p3 := h.blk.cell 3
  simp only [List.getElem?_toArray, List.getElem?_cons_zero, List.getElem?_cons_succ] at p2 p3
  have hlk := h.st.look hid
  have hi0 := hid.1
  have ht1 := h.t1
  unfold knownF
  by_cases h1 : id < 1
  · rw [if_pos (.inl h1)]
    clear hlk h
    go_enter Tryz.func78, Tryz.ntmps78
    go_wp2
    go_ret
    exact ⟨rfl, rfl⟩
  · by_cases h2 : t < id
    · rw [if_pos (.inr h2)]
      clear hlk h
      go_enter Tryz.func78, Tryz.ntmps78
      go_wp2
      go_ret
      exact ⟨rfl, rfl⟩
    · rw [if_neg (by omega)]
      by_cases h3 : id ∈ S
      · rw [if_pos h3]
        rw [decide_eq_true h3] at hlk
        clear h h3
        go_enter Tryz.func78, Tryz.ntmps78
        go_wp2
        go_ret
        exact ⟨rfl, rfl⟩
      · rw [if_neg h3]
        rw [decide_eq_false h3] at hlk
        clear h h3
        go_enter Tryz.func78, Tryz.ntmps78
        go_wp2
        go_ret
        exact ⟨rfl, rfl⟩
end Go.Proofs.YtonfaojmphidpaaGreatDoor
