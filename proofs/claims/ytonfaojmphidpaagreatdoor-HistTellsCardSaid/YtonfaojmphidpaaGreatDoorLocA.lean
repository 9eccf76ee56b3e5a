/- Chapter 12: lists of each thread: New, has, Put, Take, All. -/
import Derived.Test.YtonfaojmphidpaaGreatDoorZA4
import Derived.Test.YtonfaojmphidpaaGreatDoorZA1
import Derived.RegionTactic
import Derived.ChangeAlike
namespace Go.Proofs.YtonfaojmphidpaaGreatDoor
open Go.RowKit
set_option linter.unusedVariables false
set_option linter.unusedSimpArgs false

/-- A list: where it lies, its room, its numbers. -/
structure Ln where
  a : Option Addr
  c : Nat
  xs : List Int
def Ln.val (l : Ln) : Value := .slice l.a l.xs.length l.c
/-- Block g is eight lists. -/
structure Ls (w : World) (g : Nat) (F : List Ln) : Prop where
  blk : Blk w g 146 (F.map Ln.val).toArray
  n8 : F.length = 8
  sl : ∀ l ∈ F, Sl .u64 w l.a l.c l.xs
  len : ∀ l ∈ F, l.xs.length ≤ 4
theorem Ls.at_ {w : World} {g : Nat} {F : List Ln} (h : Ls w g F) {k : Nat} {l : Ln} (hk : F[k]? = some l) : w.cell? ⟨g, k, none⟩ = some (.slice l.a l.xs.length l.c) := by
  rw [h.blk.cell]; simp [hk, Ln.val]
theorem Ls.get {w : World} {g : Nat} {F : List Ln} (h : Ls w g F) {k : Nat} (hk : k < 8) : ∃ l, F[k]? = some l := ⟨_, List.getElem?_eq_getElem (by rw [h.n8]; exact hk)⟩
theorem Ls.of_below {w w' : World} {g : Nat} {F : List Ln} (h : Ls w g F) (hb : RowKit.Below w.heap.size w w') : Ls w' g F := ⟨h.blk.of_below hb, h.n8, fun l hl => (h.sl l hl).below hb, h.len⟩
/-- A row of numbers lies in no block that holds none. -/
theorem Sl.apart2 {w : World} {k : IntKind} {a : Option Addr} {c : Nat} {xs : List Int} (h : Sl k w a c xs) {g : Nat} {t : TypeId} {cs : Array Value} (hb : Blk w g t cs) (hcs : ∀ v ∈ cs, ∀ y, v ≠ .int k y) (h0 : 0 < xs.length) : ∀ q, a = some q → q.block ≠ g := by
  intro q hq e
  obtain ⟨b, off, ha, _, hc⟩ := h.at_ h0
  rw [ha] at hq; cases hq
  dsimp only at e; subst e
  have h1 := hc 0 h0
  rw [Nat.add_zero, hb.cell off] at h1
  exact hcs _ (Array.mem_of_getElem? h1) _ rfl
theorem Ls.noint {F : List Ln} : ∀ v ∈ (F.map Ln.val).toArray, ∀ y, v ≠ .int .u64 y := by
  intro v hv y e
  subst e
  simp [Ln.val] at hv
theorem Sl.grew {w w' : World} {S : Nat → Prop} {k : IntKind} {a : Option Addr} {c : Nat} {xs : List Int} (h : Sl k w a c xs) (hg : Grew w w' S) (hn : ∀ q, a = some q → 0 < xs.length → ¬ S q.block) : Sl k w' a c xs := Rd.grew h hg hn
/-- One of the lists is another one. -/
theorem Ls.turn {w w1 : World} {g : Nat} {F : List Ln} (h : Ls w g F) (hb : RowKit.Below w.heap.size w w1) {k : Nat} (hk : k < 8) (l : Ln) (hl : Sl .u64 w1 l.a l.c l.xs) (hle : l.xs.length ≤ 4) : Ls (w1.setCell ⟨g, k, none⟩ l.val) g (F.set k l) := by
  have h1 := h.of_below hb
  have hg := Grew.set w1 ⟨g, k, none⟩ l.val
  refine ⟨?_, by rw [List.length_set]; exact h.n8, fun m hm => ?_, fun m hm => ?_⟩
  · have := h1.blk.put k l.val
    rw [List.map_set]
    simpa using this
  · have hs : Sl .u64 w1 m.a m.c m.xs := by
      rcases List.mem_or_eq_of_mem_set hm with hm | rfl
      · exact h1.sl m hm
      · exact hl
    exact hs.grew hg (fun q hq h0 e => hs.apart2 h1.blk Ls.noint h0 q hq e)
  · rcases List.mem_or_eq_of_mem_set hm with hm | rfl
    · exact h.len m hm
    · exact hle

set_option maxHeartbeats 400000 in
theorem local_has_yes (g k : Nat) (hk : k < 8) (w : World) :
    Calls Tryz.prog 90 #[.pointer (some ⟨g, 0, none⟩), .int .i64 k] w fun e w' => e = .returned (.bool true) ∧ w = w' := by
  go_enter Tryz.func90, Tryz.ntmps90
  go_wp2
  go_ret
  exact ⟨ret_bool (decide_eq_true (by omega)), rfl⟩
set_option maxHeartbeats 400000 in
theorem local_has_no (g : Nat) (t : Int) (ht : t < 0 ∨ 8 ≤ t) (w : World) :
    Calls Tryz.prog 90 #[.pointer (some ⟨g, 0, none⟩), .int .i64 t] w fun e w' => e = .returned (.bool false) ∧ w = w' := by
  by_cases h : t < 0
  · clear ht
    go_enter Tryz.func90, Tryz.ntmps90
    go_wp2
    go_ret
    exact ⟨rfl, rfl⟩
  · have h0 : 0 ≤ t := by omega
    have h8 : 8 ≤ t := by omega
    clear ht h
    go_enter Tryz.func90, Tryz.ntmps90
    go_wp2
    go_ret
    exact ⟨ret_bool (decide_eq_false (by omega)), rfl⟩
set_option maxHeartbeats 400000 in
theorem local_New (w : World) :
    Calls Tryz.prog 45 #[] w fun e w' => e = .returned (.pointer (some ⟨w.heap.size, 0, none⟩)) ∧ w' = w.alloc (.cells #[.slice none 0 0, .slice none 0 0, .slice none 0 0, .slice none 0 0, .slice none 0 0, .slice none 0 0, .slice none 0 0, .slice none 0 0] 146) := by
  go_enter Tryz.func45, Tryz.ntmps45
  go_wp2
  go_ret
  exact ⟨rfl, rfl⟩
theorem Ls.new (w : World) : Ls (w.alloc (.cells #[.slice none 0 0, .slice none 0 0, .slice none 0 0, .slice none 0 0, .slice none 0 0, .slice none 0 0, .slice none 0 0, .slice none 0 0] 146)) w.heap.size (List.replicate 8 ⟨none, 0, []⟩) :=
  ⟨Blk.new _ _ _, rfl, fun l hl => by rw [List.eq_of_mem_replicate hl]; exact Rd.nil_ _ _, fun l hl => by rw [List.eq_of_mem_replicate hl]; simp⟩

set_option maxHeartbeats 400000 in
theorem local_All_no (g : Nat) (t : Int) (ht : t < 0 ∨ 8 ≤ t) (w : World) :
    Calls Tryz.prog 53 #[.pointer (some ⟨g, 0, none⟩), .int .i64 t] w fun e w' => e = .returned (.slice none 0 0) ∧ w = w' := by
  have hh := local_has_no g t ht w
  clear ht
  go_enter Tryz.func53, Tryz.ntmps53
  go_wp2_with (go_at_call 90; refine hh.mono ?_; rintro e w' ⟨rfl, rfl⟩)
  go_ret
  exact ⟨rfl, rfl⟩
set_option maxHeartbeats 1000000 in
theorem local_All (g : Nat) (F : List Ln) (k : Nat) (l : Ln) (hk : F[k]? = some l) (w : World) (h : Ls w g F) :
    Calls Tryz.prog 53 #[.pointer (some ⟨g, 0, none⟩), .int .i64 k] w fun e w' => ∃ a' c', e = .returned (.slice a' l.xs.length c') ∧ w'.ownsRow w.heap.size 28 1 (.slice a' l.xs.length c') l.xs.length (nums .u64 l.xs) ∧ RowKit.Below w.heap.size w w' := by
  have hk8 : k < 8 := by have := (List.getElem?_eq_some_iff.1 hk).1; rw [h.n8] at this; exact this
  have hh := local_has_yes g k hk8 w
  have p0 := h.at_ hk
  have hm : l ∈ F := List.mem_of_getElem? hk
  have hcl := slices_Clone_u64 l.a l.c l.xs w (h.sl l hm) (by have := h.len l hm; omega)
  have HCL := Lib.hid hcl; clear hcl
  have hlt := h.blk.lt
  clear hk h hm
  go_enter Tryz.func53, Tryz.ntmps53
  go_wp2_with (first | (go_at_call 90; refine hh.mono ?_; rintro e w' ⟨rfl, rfl⟩) | (go_at_call 89; refine HCL.out.mono ?_; rintro e w' ⟨a', c', rfl, h1, h2, h3⟩))
  go_ret
  exact ⟨a', c', rfl, h1, h3⟩
end Go.Proofs.YtonfaojmphidpaaGreatDoor
