/- Chapter 10: the document's answer (ref10): next, Known, IDs. -/
import Derived.Test.YtonfaojmphidpaaGreatDoorFacP
import Derived.Deep.RegionLaw
import Derived.BigRegion
import Derived.OwnWalk
namespace Go.Proofs.YtonfaojmphidpaaGreatDoor
open Go.RowKit Go.Maps
set_option linter.unusedVariables false
set_option linter.unusedSimpArgs false

/-- The document's row of what is shut: of each id from 1 to t, whether it is in S. -/
def ShOf (sh : List Bool) (t : Nat) (S : List Int) : Prop := sh.length = t ∧ ∀ k, k < t → sh[k]? = some (decide (((k : Int) + 1) ∈ S))
theorem Bs.get {w : World} {a : Option Addr} {c : Nat} {xs : List Bool} (h : Bs w a c xs) (h0 : 0 < xs.length) : ∃ b off, a = some ⟨b, off, none⟩ ∧ b < w.heap.size ∧ ∀ k x, xs[k]? = some x → w.cell? ⟨b, off + k, none⟩ = some (.bool x) := by
  obtain ⟨b, off, ha, hb, hc⟩ := h.2.2.2 h0
  exact ⟨b, off, ha, hb, fun k x hk => hc k (.bool x) (by simp [bools, hk])⟩

/-- What next comes to. -/
def Next10 (xs : List Bool) (w : World) (e : Ending) (w' : World) : Prop := ∃ a' c', e = .returned (.tuple #[.slice a' xs.tail.length c', .bool (nx xs)]) ∧ Bs w' a' c' xs.tail ∧ RowKit.Below w.heap.size w w'
set_option maxHeartbeats 1000000 in
theorem ref10_next (a : Option Addr) (c : Nat) (xs : List Bool) (w : World) (h : Bs w a c xs) (hl : xs.length ≤ 1000) :
    Calls Tryz.prog 81 #[.slice a xs.length c] w (Next10 xs w) := by
  cases xs with
  | nil =>
    clear h
    show Calls Tryz.prog 81 #[.slice a 0 c] w _
    go_enter Tryz.func81, Tryz.ntmps81
    go_wp2
    go_ret2
    exact ⟨none, 0, rfl, Bs.nil_ _ _ _ (fun _ => rfl), Below.refl _ _⟩
  | cons x xs =>
    obtain ⟨b, off, rfl, hb, hc⟩ := h.at_
    have hle := h.2.1
    simp only [List.length_cons] at hle hl
    have ht := h.tail1
    have hpp : ∃ pp, (if c = 1 then some (⟨b, off, none⟩ : Addr) else some ⟨b, off + 1, none⟩) = pp ∧ Bs w pp (c - 1) xs := by
      refine ⟨_, rfl, ?_⟩
      split
      · have : xs = [] := List.eq_nil_of_length_eq_zero (by omega)
        subst this
        exact Bs.nil_ _ _ _ (fun e => by cases e)
      · exact ht
    obtain ⟨pp, hpp, hq⟩ := hpp
    have HQ := Lib.hid hq; clear hq ht h
    have e1 : (1 : Int) ≤ (xs.length : Int) + 1 := by omega
    show Calls Tryz.prog 81 #[.slice (some ⟨b, off, none⟩) (xs.length + 1) c] w _
    go_enter Tryz.func81, Tryz.ntmps81
    go_wp2
    go_region
    all_goals (
      go_wp2
      go_ret2
      exact ⟨pp, c - 1, rfl, HQ.out, (Below.refl _ _).drew⟩)

/-- The document's factory, as a value. -/
def fzV (a1 : Option Addr) (n1 c1 : Nat) (a2 : Option Addr) (n2 c2 : Nat) (a3 : Option Addr) (n3 c3 : Nat) : Value := .agg #[.slice a1 n1 c1, .slice a2 n2 c2, .slice a3 n3 c3]

set_option maxRecDepth 100000 in
set_option maxHeartbeats 1000000 in
theorem ref10_Known (a1 : Option Addr) (n1 c1 : Nat) (a2 : Option Addr) (n2 c2 : Nat) (a3 : Option Addr) (c3 : Nat) (sh : List Bool) (t : Nat) (S : List Int) (id cl : Int) (w : World) (h : Bs w a3 c3 sh) (hs : ShOf sh t S) (ht : t ≤ 1000) (hid : In64 id) :
    Calls Tryz.prog 80 #[.agg #[.slice a1 n1 c1, .slice a2 n2 c2, .slice a3 sh.length c3], .int .u64 id, .int .i64 cl] w fun e w' => e = .returned (.int .i64 (knownF t S id cl)) ∧ RowKit.Below w.heap.size w w' := by
  have hi0 := hid.1
  have hi1 := hid.2
  obtain ⟨hl, hg⟩ := hs
  rw [hl]
  have hal := (RowKit.Below.refl w.heap.size w).alloc (Nat.le_refl _) (.cells #[.slice a1 n1 c1, .slice a2 n2 c2, .slice a3 t c3] 43)
  have HAL := Lib.hid hal; clear hal
  unfold knownF
  by_cases h1 : id < 1 ∨ (t : Int) < id
  · rw [if_pos h1]
    have h1' : id = 0 ∨ ((id == 0) = false ∧ (t : Int) < id) := by
      by_cases e : id = 0
      · exact .inl e
      · exact .inr ⟨by simpa using e, by omega⟩
    clear hg h
    rcases h1' with rfl | ⟨e0, e1⟩
    · go_enter Tryz.func80, Tryz.ntmps80
      go_wp2
      go_ret
      exact ⟨rfl, HAL.out⟩
    · clear h1
      have hw : IntKind.u64.wrap (t : Int) = (t : Int) := by rw [IntKind.wrap_u64]; omega
      go_enter Tryz.func80, Tryz.ntmps80
      go_wp2
      go_ret
      exact ⟨rfl, HAL.out⟩
  · rw [if_neg h1]
    obtain ⟨k, hk⟩ : ∃ k : Nat, id = (k : Int) + 1 := ⟨(id - 1).toNat, by omega⟩
    have hkt : k < t := by omega
    subst hk
    obtain ⟨b, off, rfl, hb, hc⟩ := h.get (by omega)
    have hcell := hc k _ (hg k hkt)
    have hcell2 := hcell
    clear hcell hc hg h hl
    have e0 : ((k : Int) + 1 == 0) = false := by simp; omega
    have hw : IntKind.u64.wrap (t : Int) = (t : Int) := by rw [IntKind.wrap_u64]; omega
    have hw2 : IntKind.u64.wrap (k : Int) = (k : Int) := by rw [IntKind.wrap_u64]; omega
    have e1 : (k : Int) + 1 ≤ (t : Int) := by omega
    clear h1 hid hi0 hi1
    by_cases hS : ((k : Int) + 1) ∈ S
    · rw [if_pos hS]
      rw [decide_eq_true hS] at hcell2
      go_enter Tryz.func80, Tryz.ntmps80
      go_wp2
      go_ret
      exact ⟨rfl, HAL.out⟩
    · rw [if_neg hS]
      rw [decide_eq_false hS] at hcell2
      go_enter Tryz.func80, Tryz.ntmps80
      go_wp2
      go_ret
      exact ⟨rfl, HAL.out⟩

set_option maxHeartbeats 2000000 in
theorem ref10_IDs (a1 : Option Addr) (n1 c1 : Nat) (a2 : Option Addr) (n2 c2 : Nat) (a3 : Option Addr) (c3 : Nat) (sh : List Bool) (t : Nat) (S : List Int) (w : World) (h : Bs w a3 c3 sh) (hs : ShOf sh t S) (ht : t ≤ 1000) :
    Calls Tryz.prog 82 #[.agg #[.slice a1 n1 c1, .slice a2 n2 c2, .slice a3 sh.length c3]] w fun e w' => ∃ A' c', e = .returned (.slice A' (openIds S t).length c') ∧ w'.ownsRow w.heap.size 28 1 (.slice A' (openIds S t).length c') (openIds S t).length (nums .u64 (openIds S t)) ∧ RowKit.Below w.heap.size w w' := by
  obtain ⟨hl, hg⟩ := hs
  rw [hl]
  have hal := (RowKit.Below.refl w.heap.size w).alloc (Nat.le_refl _) (.cells #[.slice a1 n1 c1, .slice a2 n2 c2, .slice a3 t c3] 43)
  have HAL := Lib.hid hal; clear hal
  have HG := Lib.hid hg; clear hg
  have HH := Lib.hid h; clear h
  have HLN := Lib.hid hl; clear hl
  go_enter Tryz.func82, Tryz.ntmps82
  go_wp2
  go_loopg [3, 9] t (fun gh v i wr => ∃ (k : Nat) (Y : List Int) (A1 : Option Addr) (c1 : Nat), gh = t - k ∧ k ≤ t ∧ i = .int .i64 k ∧ Hid (Y = openIds S k) ∧ v = .slice A1 Y.length c1 ∧ Hid (wr.ownsRow w.heap.size 28 1 (.slice A1 Y.length c1) Y.length (nums .u64 Y)) ∧ Hid (RowKit.Below w.heap.size w wr))
  case atStart => exact ⟨0, [], none, 0, rfl, Nat.zero_le _, rfl, (show Hid _ from rfl), rfl, (show Hid _ from World.ownsRow_nil _ _ _ _), HAL⟩
  case round =>
    clear HAL
    obtain ⟨k, Y, A1, c1', rfl, hk, rfl, HY, rfl, HO, HB⟩ := hrel
    have hyl : Y.length ≤ k := by rw [HY.out]; exact openIds_le S k
    have hws := HB.out.size
    by_cases hlt : k < t
    · obtain ⟨b, off, rfl, hb, hc⟩ := HH.out.get (by have := HLN.out; omega)
      have hcell := (HB.out.cell (p := ⟨b, off + k, none⟩) hb).trans (hc k _ (HG.out k hlt))
      clear hc
      by_cases hm : ((k : Int) + 1) ∈ S
      · have hs : openIds S (k + 1) = Y := by rw [openIds, if_pos hm, List.append_nil, HY.out]
        have HS := Lib.hid hs; clear hs
        rw [decide_eq_true hm] at hcell
        clear hm
        go_wp2
        go_roundg (t - (k + 1))
        case measure => omega
        case rel => exact ⟨k + 1, Y, A1, c1', rfl, by omega, by go_num, (show Hid _ from HS.out.symm), rfl, HO, HB⟩
      · have hs : openIds S (k + 1) = Y ++ [(k : Int) + 1] := by rw [openIds, if_neg hm, HY.out]
        have HS := Lib.hid hs; clear hs
        rw [decide_eq_false hm] at hcell
        clear hm
        have hw1 : IntKind.i64.wrap ((k : Int) + 1) = (k : Int) + 1 := by rw [IntKind.wrap_i64]; omega
        have hw2 : IntKind.u64.wrap ((k : Int) + 1) = (k : Int) + 1 := by rw [IntKind.wrap_u64]; omega
        go_wp2_with (at_builtin; refine app_one wr rfl (.tmp 16) (.tmp 20) 39 rfl w.heap.size 28 (.int .u64 0) 1 8 Tryz.underlying39 Tryz.infoU rfl (by decide) (.slice A1 Y.length c1') Y.length _ rfl HO.out [.int .u64 ((k : Int) + 1)] rfl rfl (by simp [Value.oneCell']) (by omega) (by omega) hws ?_; intro A2 c2 w2 h5 h6 h7)
        go_roundg (t - (k + 1))
        case measure => omega
        case rel =>
          have e1 : (Y ++ [(k : Int) + 1]).length = Y.length + 1 := by simp
          have hO : w2.ownsRow w.heap.size 28 1 (.slice A2 (Y ++ [(k : Int) + 1]).length c2) (Y ++ [(k : Int) + 1]).length (nums .u64 (Y ++ [(k : Int) + 1])) := by rw [e1]; simpa [nums] using h5
          exact ⟨k + 1, Y ++ [(k : Int) + 1], A2, c2, rfl, by omega, by go_num, (show Hid _ from HS.out.symm), by rw [e1], Lib.hid hO, (show Hid _ from HB.out.grown h6 hws (fun z hz => own_base HO.out z hz))⟩
    · have : k = t := by omega
      subst this
      go_wp2
      go_ret
      rw [← HY.out]
      exact ⟨A1, c1', rfl, HO.out, HB.out⟩
end Go.Proofs.YtonfaojmphidpaaGreatDoor
