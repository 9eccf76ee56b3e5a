/- Rows of structs: so many one-cell fields each. -/
import Derived.Test.YthjefbfhpdbcjaaApp
namespace Go.Proofs.Ythjefbfhpdbcjaa
open Go.RowKit
set_option linter.unusedVariables false

section
variable {α : Type} {f : α → List Value} {s : Nat}
def cellsOf (f : α → List Value) (L : List α) : List Value := L.flatMap f
theorem cellsOf_nil : cellsOf f [] = [] := rfl
theorem cellsOf_cons (x : α) (L : List α) : cellsOf f (x :: L) = f x ++ cellsOf f L := by simp [cellsOf]
theorem cellsOf_append (A B : List α) : cellsOf f (A ++ B) = cellsOf f A ++ cellsOf f B := by simp [cellsOf]
theorem cellsOf_snoc (A : List α) (x : α) : cellsOf f (A ++ [x]) = cellsOf f A ++ f x := by simp [cellsOf]
theorem cellsOf_length (hf : ∀ x, (f x).length = s) (L : List α) : (cellsOf f L).length = L.length * s := by
  induction L with
  | nil => simp [cellsOf]
  | cons x L ih => rw [cellsOf_cons, List.length_append, ih, hf, List.length_cons, Nat.succ_mul]; omega
theorem cellsOf_get (hf : ∀ x, (f x).length = s) {L : List α} {k : Nat} {x : α} (h : L[k]? = some x) {j : Nat} (hj : j < s) : (cellsOf f L)[k * s + j]? = (f x)[j]? := by
  induction L generalizing k with
  | nil => simp at h
  | cons y L ih =>
    rw [cellsOf_cons]
    cases k with
    | zero =>
      simp at h; subst h
      rw [Nat.zero_mul, Nat.zero_add, List.getElem?_append_left (by rw [hf]; exact hj)]
    | succ k =>
      rw [List.getElem?_append_right (by rw [hf, Nat.succ_mul]; omega), hf, show (k + 1) * s + j - s = k * s + j by rw [Nat.succ_mul]; omega]
      exact ih (by simpa using h)
theorem cellsOf_take (hf : ∀ x, (f x).length = s) (L : List α) (k : Nat) : cellsOf f (L.take k) = (cellsOf f L).take (k * s) := by
  induction k generalizing L with
  | zero => simp [cellsOf]
  | succ k ih =>
    cases L with
    | nil => simp [cellsOf]
    | cons x L => rw [List.take_succ_cons, cellsOf_cons, cellsOf_cons, ih, List.take_append, hf, Nat.succ_mul, List.take_of_length_le (l := f x) (by rw [hf]; omega), show k * s + s - s = k * s by omega]
theorem cellsOf_drop (hf : ∀ x, (f x).length = s) (L : List α) (k : Nat) : cellsOf f (L.drop k) = (cellsOf f L).drop (k * s) := by
  induction k generalizing L with
  | zero => simp
  | succ k ih =>
    cases L with
    | nil => simp [cellsOf]
    | cons x L => rw [List.drop_succ_cons, cellsOf_cons, ih, List.drop_append, hf, Nat.succ_mul, List.drop_of_length_le (l := f x) (by rw [hf]; omega), show k * s + s - s = k * s by omega]; rfl
theorem cellsOf_one (h1 : ∀ x, ∀ u ∈ f x, u.oneCell' = true) (L : List α) : ∀ u ∈ cellsOf f L, u.oneCell' = true := by
  intro u hu
  obtain ⟨x, _, hx⟩ := List.mem_flatMap.1 hu
  exact h1 x u hx
/-- The slice at a, of L.length structs, reads as L. -/
def Rw (f : α → List Value) (s : Nat) (w : World) (a : Option Addr) (cap : Nat) (L : List α) : Prop := Rd s w a L.length cap (cellsOf f L)
theorem Rw.rd {w : World} {a : Option Addr} {cap : Nat} {L : List α} (h : Rw f s w a cap L) : Rd s w a L.length cap (cellsOf f L) := h
theorem Rw.le {w : World} {a : Option Addr} {cap : Nat} {L : List α} (h : Rw f s w a cap L) : L.length ≤ cap := h.2.1
theorem Rw.below {w w' : World} {a : Option Addr} {cap : Nat} {L : List α} (h : Rw f s w a cap L) (hb : Below w.heap.size w w') : Rw f s w' a cap L := Rd.below h hb
theorem Rw.at_ {w : World} {a : Option Addr} {cap : Nat} {L : List α} (hf : ∀ x, (f x).length = s) (h : Rw f s w a cap L) (h0 : 0 < L.length) :
    ∃ b off, a = some ⟨b, off, none⟩ ∧ b < w.heap.size ∧ ∀ k x, L[k]? = some x → ∀ j v, (f x)[j]? = some v → w.cell? ⟨b, off + (k * s + j), none⟩ = some v := by
  obtain ⟨b, off, ha, hb, hc⟩ := h.2.2.2 h0
  exact ⟨b, off, ha, hb, fun k x hk j v hv => hc _ _ (by rw [cellsOf_get hf hk (by have := (List.getElem?_eq_some_iff.1 hv).1; rwa [hf] at this)]; exact hv)⟩
theorem Rw.take {w : World} {a : Option Addr} {cap cap' : Nat} {L : List α} (hf : ∀ x, (f x).length = s) (h : Rw f s w a cap L) {k : Nat} (hk : k ≤ L.length) (hc : k ≤ cap') (hn : a = none → cap' = 0) : Rw f s w a cap' (L.take k) := by
  have hl : (L.take k).length = k := by simp; omega
  unfold Rw
  rw [hl]
  refine ⟨by rw [cellsOf_length hf, hl], hc, hn, fun h0 => ?_⟩
  obtain ⟨b, off, ha, hb, hcs⟩ := h.2.2.2 (by omega)
  refine ⟨b, off, ha, hb, fun i v hi => hcs i v ?_⟩
  rw [cellsOf_take hf, List.getElem?_take] at hi
  split at hi
  · exact hi
  · cases hi
theorem Rw.drop {w : World} {b off cap : Nat} {L : List α} (hf : ∀ x, (f x).length = s) (h : Rw f s w (some ⟨b, off, none⟩) cap L) {k : Nat} (hk : k ≤ L.length) : Rw f s w (some ⟨b, off + k * s, none⟩) (cap - k) (L.drop k) := by
  refine ⟨by rw [cellsOf_length hf], by have := h.2.1; simp; omega, (fun e => by cases e), fun h0 => ?_⟩
  rw [List.length_drop] at h0
  obtain ⟨b', off', ha, hb, hc⟩ := h.2.2.2 (by omega)
  cases ha
  refine ⟨b, off + k * s, rfl, hb, fun i v hi => ?_⟩
  rw [cellsOf_drop hf, List.getElem?_drop] at hi
  rw [Nat.add_assoc]; exact hc _ _ hi
end
theorem take_snoc2 {α : Type} {L : List α} {k : Nat} {x : α} (h : L[k]? = some x) : L.take (k + 1) = L.take k ++ [x] := by
  obtain ⟨hk, rfl⟩ := List.getElem?_eq_some_iff.1 h
  exact List.take_succ_eq_append_getElem hk
end Go.Proofs.Ythjefbfhpdbcjaa
