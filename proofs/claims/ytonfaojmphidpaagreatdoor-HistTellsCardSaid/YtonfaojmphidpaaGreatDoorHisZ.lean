/- Layer 9's law HistTells: the second parameter (an event), and the laid table. -/
import Derived.Test.YtonfaojmphidpaaGreatDoorLawHiT
import Derived.LaidMore
import Derived.MakeChecks
import Derived.Stop.LaidErr
import Derived.Lib.LaidTab
namespace Go.Proofs.YtonfaojmphidpaaGreatDoor
open Go.RowKit Go.ChangeShapes Go.WideShapes
set_option linter.unusedVariables false
/-- A struct of one-cell fields, given by value: how each reads. -/
theorem open_fields {H : Type} {enc : TypeId × Value → H} {P : Program} {w : World} {base : Nat} {sp : Nat → Bool} {held : Bool} {e : TypeId} {fs : Array Field} {cs : Array Value} {d : DataW H} {p : List MemPlace} (he : P.underlying e = some (.struct fs))
    (hone : Go.Deep.oneCellFields P fs = true) (hC : P.cellsOf e = fs.size) (h : DataW.Trod enc P w base sp held e (.agg cs) d p) (j : Nat) (f : Field) (hj : fs[j]? = some f) :
    ∃ (v : Value) (x : DataW H × List MemPlace) (n : Nat), cs.toList[j]? = some v ∧ DataW.trod enc P w base sp held n f.type [v] = some x := by
  obtain ⟨fuel, hf⟩ := h
  have hf' : DataW.trod enc P w base sp held fuel e cs.toList = some (d, p) := hf
  obtain ⟨ys, n', _, _, hclen, hyl, hfld⟩ := DataW.trod_struct he hf'
  obtain ⟨ho, hk⟩ := Go.Deep.hone_of hone j f hj
  have hjl : j < fs.size := (Array.getElem?_eq_some_iff.1 hj).1
  have h1 := hfld j f hj
  rw [ho, hk] at h1
  have h2 : (cs.toList.drop j).take 1 = [cs.toList[j]'(by omega)] := by
    rw [List.drop_eq_getElem_cons (by omega)]; rfl
  rw [h2, List.getElem?_eq_getElem (by omega : j < ys.length)] at h1
  exact ⟨_, _, n', List.getElem?_eq_getElem (by omega), h1⟩
theorem open_Event1 {H : Type} {enc : TypeId × Value → H} {w : World} {base : Nat} {sp : Nat → Bool} {held : Bool} {v : Value} {d : DataW H} {p : List MemPlace}
    (hv : ∃ cs, v = .agg cs ∧ cs.size = Tryz.prog.cellsOf 108) (h : DataW.Trod enc Tryz.prog w base sp held 108 v d p) : ∃ st th kd op id er, v = .agg #[.int .u64 st, .int .i64 th, .int .i64 kd, .int .i64 op, .int .u64 id, .int .i64 er] ∧ (⟨st, th, kd, op, id, er⟩ : Ev).wf := by
  obtain ⟨cs, rfl, hsz⟩ := hv
  have hC : Tryz.prog.cellsOf 108 = 6 := by kernel_rfl
  have F := fun j f hj => open_fields Tryz.underlying108 (by kernel_rfl) (by kernel_rfl) h j f hj
  obtain ⟨v0, x0, n0, c0, t0⟩ := F 0 _ rfl
  obtain ⟨v1, x1, n1, c1, t1⟩ := F 1 _ rfl
  obtain ⟨v2, x2, n2, c2, t2⟩ := F 2 _ rfl
  obtain ⟨v3, x3, n3, c3, t3⟩ := F 3 _ rfl
  obtain ⟨v4, x4, n4, c4, t4⟩ := F 4 _ rfl
  obtain ⟨v5, x5, n5, c5, t5⟩ := F 5 _ rfl
  obtain ⟨m0, e0, _, f0⟩ := DataW.trod_int Tryz.underlying28 t0
  obtain ⟨m1, e1, _, f1⟩ := DataW.trod_int Tryz.underlying3 t1
  obtain ⟨m2, e2, _, f2⟩ := DataW.trod_int Tryz.underlying3 t2
  obtain ⟨m3, e3, _, f3⟩ := DataW.trod_int Tryz.underlying3 t3
  obtain ⟨m4, e4, _, f4⟩ := DataW.trod_int Tryz.underlying28 t4
  obtain ⟨m5, e5, _, f5⟩ := DataW.trod_int Tryz.underlying33 t5
  simp only [List.cons.injEq, and_true] at e0 e1 e2 e3 e4 e5
  subst e0 e1 e2 e3 e4 e5
  refine ⟨m0, m1, m2, m3, m4, m5, ?_, bounds_u64 f0, bounds_i64 f1, bounds_i64 f2, bounds_i64 f3, bounds_u64 f4, bounds_i64 f5⟩
  have hl : cs.toList.length = 6 := by rw [Array.length_toList, hsz, hC]
  have : cs.toList = [.int .u64 m0, .int .i64 m1, .int .i64 m2, .int .i64 m3, .int .u64 m4, .int .i64 m5] := by
    apply List.ext_getElem?
    intro i
    rcases i with _ | _ | _ | _ | _ | _ | i
    · exact c0
    · exact c1
    · exact c2
    · exact c3
    · exact c4
    · exact c5
    · rw [List.getElem?_eq_none (by omega), List.getElem?_eq_none (by simp)]
  rw [show cs = cs.toList.toArray by simp, this]
end Go.Proofs.YtonfaojmphidpaaGreatDoor
