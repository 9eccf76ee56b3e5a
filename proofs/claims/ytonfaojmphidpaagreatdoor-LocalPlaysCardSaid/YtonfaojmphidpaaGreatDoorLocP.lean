/- The parameter of layer 12's law LocalPlays: acts with a slice of ids. -/
import Derived.Test.YtonfaojmphidpaaGreatDoorLocD
namespace Go.Proofs.YtonfaojmphidpaaGreatDoor
open Go.RowKit Go.ChangeShapes Go.WideShapes
set_option linter.unusedVariables false

/-- An act: the thread, the ids (where they lie), take, clone. -/
structure LAct where
  th : Int
  ids : Ln
  tk : Bool
  cl : Bool
instance : Inhabited LAct := ⟨⟨0, ⟨none, 0, []⟩, false, false⟩⟩
def LAct.cells (x : LAct) : List Value := [.int .i64 x.th, x.ids.val, .bool x.tk, .bool x.cl]
def LActsIn (w : World) (a : Option Addr) (n : Nat) (xs : List LAct) : Prop :=
  xs.length = n ∧ n ≤ 9223372036854775807 ∧ (∀ x ∈ xs, -9223372036854775808 ≤ x.th ∧ x.th ≤ 9223372036854775807 ∧ x.ids.xs.length ≤ 9223372036854775807 ∧ Sl .u64 w x.ids.a x.ids.c x.ids.xs) ∧ (0 < n → ∃ b off, a = some ⟨b, off, none⟩ ∧ b < w.heap.size ∧ ∀ i, i < n → ∀ j v, (xs.getD i default).cells[j]? = some v → w.cell? ⟨b, off + (i * 4 + j), none⟩ = some v)
theorem open_hackneylaw12_Act {H : Type} {enc : TypeId × Value → H} {w : World} {base : Nat} {sp : Nat → Bool} {held : Bool} {a : Option Addr} {len cap : Nat} {d : DataW H} {p : List MemPlace}
    (h : DataW.Trod enc Tryz.prog w base sp held 84 (.slice a len cap) d p) : ∃ xs, LActsIn w a len xs := by
  obtain ⟨hn, hc⟩ := open_cells Tryz.underlying84 Tryz.underlying90 (by kernel_rfl) (by kernel_rfl) (by decide) h
  by_cases h0 : 0 < len
  · obtain ⟨b, off, ha, hb, hi⟩ := hc h0
    obtain ⟨xs, hl, hq⟩ := gather (Q := fun i (x : LAct) => (-9223372036854775808 ≤ x.th ∧ x.th ≤ 9223372036854775807 ∧ x.ids.xs.length ≤ 9223372036854775807 ∧ Sl .u64 w x.ids.a x.ids.c x.ids.xs) ∧ ∀ j v, x.cells[j]? = some v → w.cell? ⟨b, off + (i * 4 + j), none⟩ = some v) len (by
      intro i hil
      obtain ⟨v0, x0, n0, c0, t0⟩ := hi i hil 0 _ rfl
      obtain ⟨v1, x1, n1, c1, t1⟩ := hi i hil 1 _ rfl
      obtain ⟨v2, x2, n2, c2, t2⟩ := hi i hil 2 _ rfl
      obtain ⟨v3, x3, n3, c3, t3⟩ := hi i hil 3 _ rfl
      obtain ⟨m0, e0, _, f0⟩ := DataW.trod_int Tryz.underlying3 t0
      obtain ⟨m2, e2, _⟩ := DataW.trod_bool Tryz.underlying4 t2
      obtain ⟨m3, e3, _⟩ := DataW.trod_bool Tryz.underlying4 t3
      simp only [List.cons.injEq, and_true] at e0 e2 e3
      subst e0 e2 e3
      have hsl : ∃ a1 l1 k1, v1 = .slice a1 l1 k1 := by
        rcases Go.Deep.open_slice Tryz.underlying39 t1 with ⟨hcs, _⟩ | ⟨x, l, c, m, n, D, Pl, hcs, _⟩
        · simp at hcs; exact ⟨_, _, _, hcs⟩
        · simp at hcs; exact ⟨_, _, _, hcs⟩
      obtain ⟨a1, l1, k1, rfl⟩ := hsl
      obtain ⟨zs, hz, hzn, _, hsl⟩ := open_u64s (d := x1.1) (p := x1.2) ⟨n1, t1⟩
      subst hz
      refine ⟨⟨m0, ⟨a1, k1, zs⟩, m2, m3⟩, ⟨(bounds_i64 f0).1, (bounds_i64 f0).2, hzn, hsl⟩, fun j v hj => ?_⟩
      rcases j with _ | _ | _ | _ | j
      · cases hj; exact c0
      · cases hj; exact c1
      · cases hj; exact c2
      · cases hj; exact c3
      · simp [LAct.cells] at hj)
    exact ⟨xs, hl, hn, all_of_getD hl fun i hi => (hq i hi).1, fun _ => ⟨b, off, ha, hb, fun i hil => (hq i hil).2⟩⟩
  · obtain rfl : len = 0 := by omega
    exact ⟨[], rfl, by omega, by simp, fun h => absurd h (by omega)⟩
end Go.Proofs.YtonfaojmphidpaaGreatDoor
