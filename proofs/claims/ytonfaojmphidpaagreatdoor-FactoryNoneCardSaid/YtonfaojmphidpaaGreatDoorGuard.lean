/- Package guard: Must; Try and Catch of a function that panics, and of one that does not. -/
import Derived.Test.YtonfaojmphidpaaGreatDoorMem
import Derived.Test.YtonfaojmphidpaaGreatDoorProg
import Derived.Shelf.Abstract
import Derived.Tactics
import Derived.Tactics2
import Derived.Defers
import Derived.Recover
import Derived.Laws.Pointers
namespace Go.Proofs.YtonfaojmphidpaaGreatDoor
open Go.RowKit
set_option linter.unusedVariables false
set_option linter.unusedSimpArgs false

theorem try1_panicking (p3 p2 : Addr) (x : Value) (u : TypeId) (pv : Value) (older : List PanicEntry) (w : World) (h3 : w.cell? p3 = some (.bool true)) (hc : w.cell? p2 = some x) (hz : w.frozen? p2 = false) (hx : x.oneCell' = true) :
    CallsD Tryz.prog 164 #[.pointer (some p3), .pointer (some p2)] (.panicking ({ v := .iface u pv, recovered := false } :: older)) w fun e u' w' =>
      e = .returned (.tuple #[]) ∧ u' = .panicking ({ v := .iface u pv, recovered := true } :: older) ∧ w' = w.setCell p2 (.iface u pv) := by
  refine callsD_of_wpS Tryz.func164 rfl fun c₀ cs hu => ?_
  apply wpS_seq
  apply wpS_region
  simp [wpOpsS, go_sem, recoverD, hu, Tryz.ntmps164, Exit.thenS, h3]
  refine wpS_cond (t := true) (by simp [Act.eval, Array.replicate]) ?_
  simp only [if_true]
  apply wpS_region
  simp [wpOpsS, go_sem, recoverD, hu, hc, hz, hx, bodyPostS, results, Tryz.results164]
theorem try1_returning (p3 p2 : Addr) (w : World) (h3 : w.cell? p3 = some (.bool false)) :
    CallsD Tryz.prog 164 #[.pointer (some p3), .pointer (some p2)] .returning w fun e u' w' => e = .returned (.tuple #[]) ∧ u' = .returning ∧ w' = w := by
  refine callsD_of_wpS Tryz.func164 rfl fun c₀ cs hu => ?_
  apply wpS_seq
  apply wpS_region
  simp [wpOpsS, go_sem, recoverD, hu, Tryz.ntmps164, Exit.thenS, h3]
  refine wpS_cond (t := false) (by simp [Act.eval, Array.replicate]) ?_
  simp only [Bool.false_eq_true, if_false]
  refine wpS_of_wp (wp_skip ?_)
  cases c₀
  simp_all [bodyPostS, results, Tryz.results164]

theorem guard_Must_ok (w : World) :
    Calls Tryz.prog 149 #[.int .i64 0] w fun e w' => e = .returned (.tuple #[]) ∧ w = w' := by
  go_enter Tryz.func149, Tryz.ntmps149
  go_wp2
  go_end0
  exact ⟨rfl, rfl⟩
theorem guard_Must_panics (c : Int) (hc : c ≠ 0) (w : World) :
    Calls Tryz.prog 149 #[.int .i64 c] w fun e w' => e = .panicked [{ v := .iface 220 (.agg #[.int .i64 c]), recovered := false }] ∧ w = w' := by
  have hc' : (c != 0) = true := by simpa using hc
  go_enter Tryz.func149, Tryz.ntmps149
  go_wp2
  exact ⟨rfl, rfl, rfl⟩

set_option maxRecDepth 100000 in
set_option maxHeartbeats 1000000 in
theorem guard_Try_panics (g : Nat) (cb : Array Value) (u : TypeId) (pv : Value) (w : World) (eg : ∀ args w, (callFunc g args).run Tryz.prog w = .ok (.enter g args) w)
    (hf : ∀ w', RowKit.Below w.heap.size w w' → Calls Tryz.prog g cb w' fun e w'' => e = .panicked [{ v := .iface u pv, recovered := false }] ∧ RowKit.Below w'.heap.size w' w'') :
    Calls Tryz.prog 159 #[.func (.func g) #[] cb] w fun e w' => e = .returned (.tuple #[.iface u pv, .bool true]) ∧ RowKit.Below w.heap.size w w' := by
  have hmf : ∀ (fn : Fn) (first cap : Array Value) (w : World), (Instr.makeFunc fn first cap).run Tryz.prog w = .ok (.func fn first cap) w := fun _ _ _ _ => rfl
  have HF := Lib.hid hf; clear hf
  have hne : ∀ W : World, (binOp .eql 1 (.func (.func g) #[] cb) Value.nilFunc).run Tryz.prog W = .ok (.bool false) W := fun W => by rfl
  go_enter_defers Tryz.func159, Tryz.ntmps159
  go_wp2_with fail
  have hb0 : RowKit.Below w.heap.size w ((w.alloc (.cells #[Value.nilIface] 20)).alloc (.cells #[.bool true] 4)) := ((RowKit.Below.refl _ _).alloc (Nat.le_refl _) _).alloc (by simp) _
  refine (HF.out _ hb0).mono ?_
  rintro e w1 ⟨rfl, hb1⟩
  have k2 := ((Blk.new w 20 #[Value.nilIface]).alloc (.cells #[.bool true] 4)).of_below hb1
  have k3 := (Blk.new (w.alloc (.cells #[Value.nilIface] 20)) 4 #[.bool true]).of_below hb1
  rw [size_alloc] at k3
  have hB1 := below_step hb0 hb0.size hb1
  clear hne eg hmf
  go_wp2_with fail
  refine leaves_cons (f := 164) (args := #[.pointer (some ⟨w.heap.size + 1, 0, none⟩), .pointer (some ⟨w.heap.size, 0, none⟩)]) (by simp) (by simp [go_sem]) ?_
  refine (try1_panicking ⟨w.heap.size + 1, 0, none⟩ ⟨w.heap.size, 0, none⟩ Value.nilIface u pv [] w1 (k3.cell 0) (k2.cell 0) (k2.frozen 0) rfl).mono ?_
  rintro e u' w'' ⟨rfl, rfl, rfl⟩
  have j2 := (k2.put 0 (.iface u pv)).cell 0
  have j3 := (k3.far (p := ⟨w.heap.size, 0, none⟩) (by simp) (.iface u pv)).cell 0
  simp only [List.setIfInBounds_toArray, List.getElem?_toArray, List.set_cons_zero, List.getElem?_cons_zero] at j2 j3
  simp [Leaves, settle, results, Tryz.results159, go_sem, j2, j3]
  exact hB1.setCell (Nat.le_refl _) _

set_option maxRecDepth 100000 in
set_option maxHeartbeats 1000000 in
theorem guard_Catch_fail (g : Nat) (cb : Array Value) (c : Int) (hc : c ≠ 0) (w : World) (eg : ∀ args w, (callFunc g args).run Tryz.prog w = .ok (.enter g args) w)
    (hf : ∀ w', RowKit.Below w.heap.size w w' → Calls Tryz.prog g cb w' fun e w'' => e = .panicked [{ v := .iface 220 (.agg #[.int .i64 c]), recovered := false }] ∧ RowKit.Below w'.heap.size w' w'') :
    Calls Tryz.prog 147 #[.func (.func g) #[] cb] w fun e w' => e = .returned (.int .i64 c) ∧ RowKit.Below w.heap.size w w' := by
  have hT := guard_Try_panics g cb 220 (.agg #[.int .i64 c]) w eg hf
  have hc' : (c != 0) = true := by simpa using hc
  clear hf eg hc
  have hta : ∀ W : World, (Instr.typeAssert (.iface 220 (.agg #[.int .i64 c])) 20 220 true).run Tryz.prog W = .ok (.tuple #[.agg #[.int .i64 c], .bool true]) W := fun W => by rfl
  go_enter Tryz.func147, Tryz.ntmps147
  go_wp2_with (go_at_call 159; refine hT.mono ?_; rintro e w1 ⟨rfl, hb1⟩)
  go_ret
  exact ⟨rfl, hb1.alloc hb1.size _⟩
end Go.Proofs.YtonfaojmphidpaaGreatDoor
