/- How things end (layer 7's laws): End.do, End.want; Try and Catch of each. -/
import Derived.Test.YtlfnoailaoiedaaGuard
import Derived.Laws.PanicsMore
namespace Go.Proofs.Ytlfnoailaoiedaa
open Go.RowKit
set_option linter.unusedVariables false
set_option linter.unusedSimpArgs false

set_option maxRecDepth 100000 in
set_option maxHeartbeats 1000000 in
theorem guard_TryV_returns (g : Nat) (v : Value) (w : World) (eg : ∀ args w, (callFunc g args).run Try.prog w = .ok (.enter g args) w)
    (hf : ∀ w', RowKit.Below w.heap.size w w' → Calls Try.prog g #[v] w' fun e w'' => e = .returned (.tuple #[]) ∧ RowKit.Below w'.heap.size w' w'') :
    Calls Try.prog 49 #[.func (.func g) #[v] #[]] w fun e w' => e = .returned (.tuple #[Value.nilIface, .bool false]) ∧ RowKit.Below w.heap.size w w' := by
  have hmf : ∀ (fn : Fn) (first cap : Array Value) (w : World), (Instr.makeFunc fn first cap).run Try.prog w = .ok (.func fn first cap) w := fun _ _ _ _ => rfl
  have HF := Lib.hid hf; clear hf
  have hne : ∀ W : World, (binOp .eql 1 (.func (.func g) #[v] #[]) Value.nilFunc).run Try.prog W = .ok (.bool false) W := fun W => by rfl
  go_enter_defers Try.func49, Try.ntmps49
  go_wp2_with fail
  have hb0 : RowKit.Below w.heap.size w ((w.alloc (.cells #[Value.nilIface] 20)).alloc (.cells #[.bool true] 4)) := ((RowKit.Below.refl _ _).alloc (Nat.le_refl _) _).alloc (by simp) _
  refine (HF.out _ hb0).mono ?_
  rintro e w1 ⟨rfl, hb1⟩
  have k2 := ((Blk.new w 20 #[Value.nilIface]).alloc (.cells #[.bool true] 4)).of_below hb1
  have k3 := (Blk.new (w.alloc (.cells #[Value.nilIface] 20)) 4 #[.bool true]).of_below hb1
  rw [size_alloc] at k3
  have hB1 := below_step hb0 hb0.size hb1
  clear hne eg hmf
  have c2 := k2.cell 0
  have c3 := k3.cell 0
  have f2 := k2.frozen 0
  have f3 := k3.frozen 0
  have l2 := k2.lt
  have l3 := k3.lt
  simp only [List.getElem?_toArray, List.getElem?_cons_zero] at c2 c3
  go_wp2_with fail
  have k2f := ((k2.far (p := ⟨w.heap.size + 1, 0, none⟩) (by simp) (.bool false)).put 0 Value.nilIface).far (p := ⟨w.heap.size + 1, 0, none⟩) (by simp) (.bool false)
  have k3f := ((k3.put 0 (.bool false)).far (p := ⟨w.heap.size, 0, none⟩) (by simp) Value.nilIface).put 0 (.bool false)
  refine leaves_cons (f := 108) (args := #[.pointer (some ⟨w.heap.size + 1, 0, none⟩), .pointer (some ⟨w.heap.size, 0, none⟩)]) (by simp) (by simp [go_sem]) ?_
  refine (try1_returning ⟨w.heap.size + 1, 0, none⟩ ⟨w.heap.size, 0, none⟩ _ (k3f.cell 0)).mono ?_
  rintro e u' w'' ⟨rfl, rfl, rfl⟩
  have j2 := k2f.cell 0
  have j3 := k3f.cell 0
  simp only [List.setIfInBounds_toArray, List.getElem?_toArray, List.set_cons_zero, List.getElem?_cons_zero] at j2 j3
  simp [Leaves, settle, results, Try.results49, go_sem, j2, j3]
  exact ((hB1.setCell (by simp) _).setCell (Nat.le_refl _) _).setCell (by simp) _
set_option maxRecDepth 100000 in
set_option maxHeartbeats 1000000 in
theorem guard_TryV_panics (g : Nat) (v : Value) (u : TypeId) (pv : Value) (w : World) (eg : ∀ args w, (callFunc g args).run Try.prog w = .ok (.enter g args) w)
    (hf : ∀ w', RowKit.Below w.heap.size w w' → Calls Try.prog g #[v] w' fun e w'' => e = .panicked [{ v := .iface u pv, recovered := false }] ∧ RowKit.Below w'.heap.size w' w'') :
    Calls Try.prog 49 #[.func (.func g) #[v] #[]] w fun e w' => e = .returned (.tuple #[.iface u pv, .bool true]) ∧ RowKit.Below w.heap.size w w' := by
  have hmf : ∀ (fn : Fn) (first cap : Array Value) (w : World), (Instr.makeFunc fn first cap).run Try.prog w = .ok (.func fn first cap) w := fun _ _ _ _ => rfl
  have HF := Lib.hid hf; clear hf
  have hne : ∀ W : World, (binOp .eql 1 (.func (.func g) #[v] #[]) Value.nilFunc).run Try.prog W = .ok (.bool false) W := fun W => by rfl
  go_enter_defers Try.func49, Try.ntmps49
  go_wp2_with fail
  have hb0 : RowKit.Below w.heap.size w ((w.alloc (.cells #[Value.nilIface] 20)).alloc (.cells #[.bool true] 4)) := ((RowKit.Below.refl _ _).alloc (Nat.le_refl _) _).alloc (by simp) _
  refine (HF.out _ hb0).mono ?_
  rintro e w1 ⟨rfl, hb1⟩
  have k2 := ((Blk.new w 20 #[Value.nilIface]).alloc (.cells #[.bool true] 4)).of_below hb1
  have k3 := (Blk.new (w.alloc (.cells #[Value.nilIface] 20)) 4 #[.bool true]).of_below hb1
  rw [size_alloc] at k3
  have hB1 := below_step hb0 hb0.size hb1
  clear hne eg hmf
  go_wp2_with fail
  refine leaves_cons (f := 108) (args := #[.pointer (some ⟨w.heap.size + 1, 0, none⟩), .pointer (some ⟨w.heap.size, 0, none⟩)]) (by simp) (by simp [go_sem]) ?_
  refine (try1_panicking ⟨w.heap.size + 1, 0, none⟩ ⟨w.heap.size, 0, none⟩ Value.nilIface u pv [] w1 (k3.cell 0) (k2.cell 0) (k2.frozen 0) rfl).mono ?_
  rintro e u' w'' ⟨rfl, rfl, rfl⟩
  have j2 := (k2.put 0 (.iface u pv)).cell 0
  have j3 := (k3.far (p := ⟨w.heap.size, 0, none⟩) (by simp) (.iface u pv)).cell 0
  simp only [List.setIfInBounds_toArray, List.getElem?_toArray, List.set_cons_zero, List.getElem?_cons_zero] at j2 j3
  simp [Leaves, settle, results, Try.results49, go_sem, j2, j3]
  exact hB1.setCell (Nat.le_refl _) _

set_option maxRecDepth 100000 in
set_option maxHeartbeats 1000000 in
theorem guard_CatchV_fail (g : Nat) (v : Value) (c : Int) (hc : c ≠ 0) (w : World) (eg : ∀ args w, (callFunc g args).run Try.prog w = .ok (.enter g args) w)
    (hf : ∀ w', RowKit.Below w.heap.size w w' → Calls Try.prog g #[v] w' fun e w'' => e = .panicked [{ v := .iface 97 (.agg #[.int .i64 c]), recovered := false }] ∧ RowKit.Below w'.heap.size w' w'') :
    Calls Try.prog 51 #[.func (.func g) #[v] #[]] w fun e w' => e = .returned (.int .i64 c) ∧ RowKit.Below w.heap.size w w' := by
  have hT := guard_TryV_panics g v 97 (.agg #[.int .i64 c]) w eg hf
  have hc' : (c != 0) = true := by simpa using hc
  clear hf eg hc
  have hta : ∀ W : World, (Instr.typeAssert (.iface 97 (.agg #[.int .i64 c])) 20 97 true).run Try.prog W = .ok (.tuple #[.agg #[.int .i64 c], .bool true]) W := fun W => by rfl
  go_enter Try.func51, Try.ntmps51
  go_wp2_with (go_at_call 49; refine hT.mono ?_; rintro e w1 ⟨rfl, hb1⟩)
  go_ret
  exact ⟨rfl, hb1.alloc hb1.size _⟩
theorem run_boundsPanic2 {P : Program} {w : World} {α : Type} (k : IntKind) (x y : Int) (code : BoundsCode) :
    ∃ s w', (boundsPanic k x y code : Sem α).run P w = .halt (.panic (boundsValue P (IntKind.i64.wrap x) y s code.toNat)) w' ∧ (w' = w ∨ w' = w.drew) := by
  unfold boundsPanic boundsValue
  split
  · simp [runtimePanic, goPanic, go_sem]
    by_cases hh : (Question.extern "runtime.boundsError.signed" 2).cut (w.tape w.drawn (Question.extern "runtime.boundsError.signed" 2)) = 1
    · exact .inr ⟨_, ⟨hh, rfl⟩, .inr rfl⟩
    · exact .inl ⟨_, ⟨hh, rfl⟩, .inr rfl⟩
  · simp [runtimePanic, goPanic, go_sem]
    by_cases hh : k = IntKind.u64
    · exact .inl ⟨_, ⟨hh, rfl⟩, .inl rfl⟩
    · exact .inr ⟨_, ⟨hh, rfl⟩, .inl rfl⟩
theorem run_indexAt_nil (c : Int) (w : World) : ∃ s w', (Instr.indexAt 104 (.slice none 0 0) (.int .i64 c)).run Try.prog w = .halt (.panic (boundsValue Try.prog (IntKind.i64.wrap c) 0 s 0)) w' ∧ RowKit.Below w.heap.size w w' := by
  have e : (Instr.indexAt 104 (.slice none 0 0) (.int .i64 c)).run Try.prog w = (boundsPanic .i64 c 0 .index).run Try.prog w := by
    simp [Instr.indexAt, run_underlying Try.underlying104, asIntOf]
  rw [e]
  obtain ⟨s, w', h1, h2⟩ := run_boundsPanic2 (P := Try.prog) (w := w) (α := Value) .i64 c 0 .index
  refine ⟨s, w', h1, ?_⟩
  rcases h2 with rfl | rfl
  · exact RowKit.Below.refl _ _
  · exact (RowKit.Below.refl _ _).drew
/-- The panic values that are no Fail. -/
def Odd (u : TypeId) : Prop := u = Try.prog.rt.plainError ∨ u = Try.prog.rt.errorString ∨ u = Try.prog.rt.boundsError
set_option maxRecDepth 100000 in
set_option maxHeartbeats 1000000 in
theorem end_do0 (d c : Int) (s : ByteArray) (h : d % 5 = 0) (h0 : 0 ≤ d) (h1 : d < 256) (h2 : 0 ≤ c) (h3 : c < 256) (w : World) :
    Calls Try.prog 48 #[.agg #[.int .u8 d, .int .u8 c, .string s]] w fun e w' => e = .returned (.tuple #[]) ∧ RowKit.Below w.heap.size w w' := by
  go_enter Try.func48, Try.ntmps48
  go_wp2_with fail
  go_end0
  exact ⟨rfl, (RowKit.Below.refl _ _).alloc (Nat.le_refl _) _⟩
set_option maxRecDepth 100000 in
set_option maxHeartbeats 1000000 in
theorem end_do1_ok (d : Int) (s : ByteArray) (h : d % 5 = 1) (h0 : 0 ≤ d) (h1 : d < 256) (w : World) :
    Calls Try.prog 48 #[.agg #[.int .u8 d, .int .u8 0, .string s]] w fun e w' => e = .returned (.tuple #[]) ∧ RowKit.Below w.heap.size w w' := by
  go_enter Try.func48, Try.ntmps48
  go_wp2_with (go_at_call 63; refine (guard_Must_ok _).mono ?_; rintro e w' ⟨rfl, rfl⟩)
  go_end0
  exact ⟨rfl, (RowKit.Below.refl _ _).alloc (Nat.le_refl _) _⟩
set_option maxRecDepth 100000 in
set_option maxHeartbeats 1000000 in
theorem end_do1_fail (d c : Int) (s : ByteArray) (h : d % 5 = 1) (h0 : 0 ≤ d) (h1 : d < 256) (h2 : 0 ≤ c) (h3 : c < 256) (hc : c ≠ 0) (w : World) :
    Calls Try.prog 48 #[.agg #[.int .u8 d, .int .u8 c, .string s]] w fun e w' => e = .panicked [{ v := .iface 97 (.agg #[.int .i64 c]), recovered := false }] ∧ RowKit.Below w.heap.size w w' := by
  have HC := Lib.hid hc
  have hc' : (c != 0) = true := by simpa using hc
  clear hc
  go_enter Try.func48, Try.ntmps48
  go_wp2_with (go_at_call 63; refine (guard_Must_panics c HC.out _).mono ?_; rintro e w' ⟨rfl, rfl⟩)
  exact ⟨rfl, rfl, (RowKit.Below.refl _ _).alloc (Nat.le_refl _) _⟩
set_option maxRecDepth 100000 in
set_option maxHeartbeats 1000000 in
theorem end_do_odd (d c : Int) (s : ByteArray) (h : d % 5 = 2 ∨ d % 5 = 3 ∨ d % 5 = 4) (h0 : 0 ≤ d) (h1 : d < 256) (h2 : 0 ≤ c) (h3 : c < 256) (w : World) :
    Calls Try.prog 48 #[.agg #[.int .u8 d, .int .u8 c, .string s]] w fun e w' => (∃ u pv, Odd u ∧ e = .panicked [{ v := .iface u pv, recovered := false }]) ∧ RowKit.Below w.heap.size w w' := by
  have hal := (RowKit.Below.refl w.heap.size w).alloc (Nat.le_refl _) (.cells #[.int .u8 d, .int .u8 c, .string s] 93)
  rcases h with h | h | h
  · have hnm := fun W => run_mapUpdate_nil (P := Try.prog) (w := W) 151 _ _ Try.underlying151 (.string s) (.int .i64 1)
    go_enter Try.func48, Try.ntmps48
    go_wp2_with fail
    exact ⟨rfl, ⟨Try.prog.rt.plainError, _, .inl rfl, rfl⟩, hal⟩
  · go_enter Try.func48, Try.ntmps48
    go_wp2_with fail
    exact ⟨rfl, ⟨_, _, .inr (.inl (by rfl)), rfl⟩, hal⟩
  · obtain ⟨sg, wp, hrun, hbp⟩ := run_indexAt_nil c (w.alloc (.cells #[.int .u8 d, .int .u8 c, .string s] 93))
    go_enter Try.func48, Try.ntmps48
    go_wp2_with fail
    exact ⟨rfl, ⟨Try.prog.rt.boundsError, _, .inr (.inr rfl), rfl⟩, below_step hal hal.size hbp⟩

/-! Catch of a function value bound to its receiver. -/
theorem odd_assert (u : TypeId) (h : Odd u) (pv : Value) (W : World) : (Instr.typeAssert (.iface u pv) 20 97 true).run Try.prog W = .ok (.tuple #[.agg #[.int .i64 0], .bool false]) W := by
  rcases h with rfl | rfl | rfl
  · kernel_rfl
  · kernel_rfl
  · kernel_rfl
set_option maxRecDepth 100000 in
set_option maxHeartbeats 1000000 in
theorem guard_CatchV_odd (g : Nat) (v : Value) (u : TypeId) (pv : Value) (hu : Odd u) (w : World) (hT : Calls Try.prog 49 #[.func (.func g) #[v] #[]] w fun e w' => e = .returned (.tuple #[.iface u pv, .bool true]) ∧ RowKit.Below w.heap.size w w') :
    Calls Try.prog 51 #[.func (.func g) #[v] #[]] w fun e w' => e = .returned (.int .i64 18) ∧ RowKit.Below w.heap.size w w' := by
  have hta := odd_assert u hu pv
  clear hu
  go_enter Try.func51, Try.ntmps51
  go_wp2_with (go_at_call 49; refine hT.mono ?_; rintro e w1 ⟨rfl, hb1⟩)
  go_ret
  exact ⟨rfl, hb1.alloc hb1.size _⟩
set_option maxRecDepth 100000 in
set_option maxHeartbeats 1000000 in
theorem guard_CatchV_ok (g : Nat) (v : Value) (w : World) (hT : Calls Try.prog 49 #[.func (.func g) #[v] #[]] w fun e w' => e = .returned (.tuple #[Value.nilIface, .bool false]) ∧ RowKit.Below w.heap.size w w') :
    Calls Try.prog 51 #[.func (.func g) #[v] #[]] w fun e w' => e = .returned (.int .i64 0) ∧ RowKit.Below w.heap.size w w' := by
  go_enter Try.func51, Try.ntmps51
  go_wp2_with (go_at_call 49; refine hT.mono ?_; rintro e w1 ⟨rfl, hb1⟩)
  go_ret
  exact ⟨rfl, hb1⟩
end Go.Proofs.Ytlfnoailaoiedaa
