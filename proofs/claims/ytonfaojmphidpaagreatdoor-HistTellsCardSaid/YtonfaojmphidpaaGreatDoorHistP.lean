/- The parameter of layer 9's laws: a slice of events. -/
import Derived.Test.YtonfaojmphidpaaGreatDoorEvEq
namespace Go.Proofs.YtonfaojmphidpaaGreatDoor
open Go.RowKit Go.ChangeShapes Go.WideShapes
set_option linter.unusedVariables false
/-- Every number of an event is of its kind. -/
def Ev.wf (x : Ev) : Prop := (0 ≤ x.step ∧ x.step ≤ 18446744073709551615) ∧ (-9223372036854775808 ≤ x.thread ∧ x.thread ≤ 9223372036854775807) ∧ (-9223372036854775808 ≤ x.kind ∧ x.kind ≤ 9223372036854775807) ∧ (-9223372036854775808 ≤ x.op ∧ x.op ≤ 9223372036854775807) ∧ (0 ≤ x.id ∧ x.id ≤ 18446744073709551615) ∧ (-9223372036854775808 ≤ x.err ∧ x.err ≤ 9223372036854775807)
def EvsIn (w : World) (a : Option Addr) (n cap : Nat) (xs : List Ev) : Prop := xs.length = n ∧ n ≤ 9223372036854775807 ∧ (∀ x ∈ xs, x.wf) ∧ (0 < n → ∃ b off, a = some ⟨b, off, none⟩ ∧ b < w.heap.size ∧ ∀ i, i < n → ∀ j v, (xs.getD i default).cells[j]? = some v → w.cell? ⟨b, off + (i * 6 + j), none⟩ = some v)
theorem open_hist_Event {H : Type} {enc : TypeId × Value → H} {w : World} {base : Nat} {sp : Nat → Bool} {held : Bool} {a : Option Addr} {len cap : Nat} {d : DataW H} {p : List MemPlace}
    (h : DataW.Trod enc Tryz.prog w base sp held 106 (.slice a len cap) d p) : ∃ xs, EvsIn w a len cap xs := by
  obtain ⟨hn, hc⟩ := open_cells Tryz.underlying106 Tryz.underlying108 (by kernel_rfl) (by kernel_rfl) (by decide) h
  by_cases h0 : 0 < len
  · obtain ⟨b, off, ha, hb, hi⟩ := hc h0
    obtain ⟨xs, hl, hq⟩ := gather (Q := fun i (x : Ev) => x.wf ∧ ∀ j v, x.cells[j]? = some v → w.cell? ⟨b, off + (i * 6 + j), none⟩ = some v) len (by
      intro i hil
      obtain ⟨v0, x0, n0, c0, t0⟩ := hi i hil 0 _ rfl
      obtain ⟨v1, x1, n1, c1, t1⟩ := hi i hil 1 _ rfl
      obtain ⟨v2, x2, n2, c2, t2⟩ := hi i hil 2 _ rfl
      obtain ⟨v3, x3, n3, c3, t3⟩ := hi i hil 3 _ rfl
      obtain ⟨v4, x4, n4, c4, t4⟩ := hi i hil 4 _ rfl
      obtain ⟨v5, x5, n5, c5, t5⟩ := hi i hil 5 _ rfl
      obtain ⟨m0, e0, _, f0⟩ := DataW.trod_int Tryz.underlying28 t0
      obtain ⟨m1, e1, _, f1⟩ := DataW.trod_int Tryz.underlying3 t1
      obtain ⟨m2, e2, _, f2⟩ := DataW.trod_int Tryz.underlying3 t2
      obtain ⟨m3, e3, _, f3⟩ := DataW.trod_int Tryz.underlying3 t3
      obtain ⟨m4, e4, _, f4⟩ := DataW.trod_int Tryz.underlying28 t4
      obtain ⟨m5, e5, _, f5⟩ := DataW.trod_int Tryz.underlying33 t5
      simp only [List.cons.injEq, and_true] at e0 e1 e2 e3 e4 e5
      subst e0 e1 e2 e3 e4 e5
      refine ⟨⟨m0, m1, m2, m3, m4, m5⟩, ⟨bounds_u64 f0, bounds_i64 f1, bounds_i64 f2, bounds_i64 f3, bounds_u64 f4, bounds_i64 f5⟩, fun j v hj => ?_⟩
      rcases j with _ | _ | _ | _ | _ | _ | j
      · cases hj; exact c0
      · cases hj; exact c1
      · cases hj; exact c2
      · cases hj; exact c3
      · cases hj; exact c4
      · cases hj; exact c5
      · simp [Ev.cells] at hj)
    exact ⟨xs, hl, hn, all_of_getD hl fun i hi => (hq i hi).1, fun _ => ⟨b, off, ha, hb, fun i hil => (hq i hil).2⟩⟩
  · obtain rfl : len = 0 := by omega
    exact ⟨[], rfl, by omega, by simp, fun h => absurd h (by omega)⟩
end Go.Proofs.YtonfaojmphidpaaGreatDoor
