/- Chapter 9: the word of a number. -/
import Derived.Test.YtonfaojmphidpaaGreatDoorFmtG
import Derived.Test.YtonfaojmphidpaaGreatDoorMixS
namespace Go.Proofs.YtonfaojmphidpaaGreatDoor
open Go.RowKit
set_option linter.unusedVariables false
set_option linter.unusedSimpArgs false
def wordB (i : Int) (l : List ByteArray) : ByteArray := if 0 ≤ i ∧ i < l.length then l.getD i.toNat ⟨#[]⟩ else ⟨#[63]⟩
def strs (l : List ByteArray) : List Value := l.map .string
set_option maxHeartbeats 400000 in
theorem hist_word (i : Int) (b : Nat) (l : List ByteArray) (w : World) (hb : ∀ k x, l[k]? = some x → w.cell? ⟨b, k, none⟩ = some (.string x)) :
    Calls Tryz.prog 97 #[.int .i64 i, .slice (some ⟨b, 0, none⟩) l.length l.length] w fun e w' => e = .returned (.string (wordB i l)) ∧ w = w' := by
  by_cases h0 : i < 0
  · have hv : wordB i l = ⟨#[63]⟩ := if_neg (by omega)
    rw [hv]
    clear hb hv
    go_enter Tryz.func97, Tryz.ntmps97
    go_wp2
    go_ret
    exact ⟨rfl, rfl⟩
  · by_cases h1 : i < l.length
    · obtain ⟨k, rfl⟩ : ∃ k : Nat, i = k := ⟨i.toNat, by omega⟩
      have hk : k < l.length := by omega
      have hc := hb k _ (List.getElem?_eq_getElem hk)
      have hv : wordB k l = l[k] := by unfold wordB; rw [if_pos ⟨by omega, h1⟩, Int.toNat_natCast, List.getD_eq_getElem?_getD, List.getElem?_eq_getElem hk]; rfl
      rw [hv]
      clear hb hv
      generalize l[k] = x at *
      have h2 : ¬ (l.length : Int) ≤ (k : Int) := by omega
      go_enter Tryz.func97, Tryz.ntmps97
      go_wp2
      go_ret
      exact ⟨rfl, rfl⟩
    · have hv : wordB i l = ⟨#[63]⟩ := if_neg (by omega)
      rw [hv]
      clear hb hv
      have h2 : (l.length : Int) ≤ i := by omega
      go_enter Tryz.func97, Tryz.ntmps97
      go_wp2
      go_ret
      exact ⟨rfl, rfl⟩
set_option maxHeartbeats 400000 in
theorem ref09_word (i : Int) (b : Nat) (l : List ByteArray) (w : World) (hb : ∀ k x, l[k]? = some x → w.cell? ⟨b, k, none⟩ = some (.string x)) :
    Calls Tryz.prog 101 #[.int .i64 i, .slice (some ⟨b, 0, none⟩) l.length l.length] w fun e w' => e = .returned (.string (wordB i l)) ∧ w = w' := by
  by_cases h0 : i < 0
  · have hv : wordB i l = ⟨#[63]⟩ := if_neg (by omega)
    rw [hv]
    have h0' : ¬ 0 ≤ i := by omega
    clear hb hv h0
    go_enter Tryz.func101, Tryz.ntmps101
    go_wp2
    go_ret
    exact ⟨rfl, rfl⟩
  · by_cases h1 : i < l.length
    · obtain ⟨k, rfl⟩ : ∃ k : Nat, i = k := ⟨i.toNat, by omega⟩
      have hk : k < l.length := by omega
      have hc := hb k _ (List.getElem?_eq_getElem hk)
      have hv : wordB k l = l[k] := by unfold wordB; rw [if_pos ⟨by omega, h1⟩, Int.toNat_natCast, List.getD_eq_getElem?_getD, List.getElem?_eq_getElem hk]; rfl
      rw [hv]
      clear hb hv
      generalize l[k] = x at *
      go_enter Tryz.func101, Tryz.ntmps101
      go_wp2
      go_ret
      exact ⟨rfl, rfl⟩
    · have hv : wordB i l = ⟨#[63]⟩ := if_neg (by omega)
      rw [hv]
      have h2 : ¬ i < (l.length : Int) := h1
      clear hb hv
      go_enter Tryz.func101, Tryz.ntmps101
      go_wp2
      go_ret
      exact ⟨rfl, rfl⟩
end Go.Proofs.YtonfaojmphidpaaGreatDoor
