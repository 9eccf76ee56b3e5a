/- What layer 7's law GuardCatches calls: the document's Catch; End.want; Try and Catch of any end; All. -/
import Derived.Test.YtlfnoailaoiedaaGuardDo
import Derived.Test.YtlfnoailaoiedaaSlInt
import Derived.Test.YtlfnoailaoiedaaOpen
namespace Go.Proofs.Ytlfnoailaoiedaa
open Go.RowKit
set_option linter.unusedVariables false
set_option linter.unusedSimpArgs false

theorem Try.infoF : (Try.prog.info? 1).map (fun i => (i.zero, i.size, i.bytes)) = some (some Value.nilFunc, 1, 8) := by kernel_rfl
theorem Try.infoErrno : (Try.prog.info? 69).map (fun i => (i.zero, i.size, i.bytes)) = some (some (.int .i64 0), 1, 8) := by kernel_rfl

/-- How something ends. -/
structure EndV where
  d : Int
  c : Int
  s : ByteArray
instance : Inhabited EndV := ⟨⟨0, 0, ByteArray.empty⟩⟩
def EndV.agg (x : EndV) : Value := .agg #[.int .u8 x.d, .int .u8 x.c, .string x.s]
structure EndV.In (x : EndV) : Prop where
  d0 : 0 ≤ x.d
  d1 : x.d < 256
  c0 : 0 ≤ x.c
  c1 : x.c < 256
def EndV.want (x : EndV) : Int := if x.d % 5 = 0 then 0 else if x.d % 5 = 1 then x.c else 18

set_option maxHeartbeats 400000 in
theorem ref07_Catch_ok (w : World) :
    Calls Try.prog 109 #[.int .i64 0, .bool false] w fun e w' => e = .returned (.int .i64 0) ∧ w = w' := by
  go_enter Try.func109, Try.ntmps109
  go_wp2
  go_ret
  exact ⟨rfl, rfl⟩
set_option maxHeartbeats 400000 in
theorem ref07_Catch_neg (w : World) :
    Calls Try.prog 109 #[.int .i64 (-1), .bool true] w fun e w' => e = .returned (.int .i64 18) ∧ w = w' := by
  go_enter Try.func109, Try.ntmps109
  go_wp2
  go_ret
  exact ⟨rfl, rfl⟩
set_option maxHeartbeats 400000 in
theorem ref07_Catch_pos (c : Int) (h : 0 < c) (w : World) :
    Calls Try.prog 109 #[.int .i64 c, .bool true] w fun e w' => e = .returned (.int .i64 c) ∧ w = w' := by
  have h' : ¬ c ≤ 0 := by omega
  go_enter Try.func109, Try.ntmps109
  go_wp2
  go_ret
  exact ⟨rfl, rfl⟩
theorem ref07_Catch_code (c : Int) (h : 0 ≤ c) (w : World) :
    Calls Try.prog 109 #[.int .i64 c, .bool (c != 0)] w fun e w' => e = .returned (.int .i64 c) ∧ w = w' := by
  by_cases h0 : c = 0
  · subst h0; exact ref07_Catch_ok w
  · have e : (c != 0) = true := by simpa using h0
    rw [e]; exact ref07_Catch_pos c (by omega) w

set_option maxRecDepth 100000 in
set_option maxHeartbeats 1000000 in
theorem end_want (x : EndV) (h : x.In) (w : World) :
    Calls Try.prog 50 #[x.agg] w fun e w' => e = .returned (.int .i64 x.want) ∧ RowKit.Below w.heap.size w w' := by
  obtain ⟨d, c, s⟩ := x
  obtain ⟨h0, h1, h2, h3⟩ := h
  dsimp only at h0 h1 h2 h3
  unfold EndV.agg EndV.want
  dsimp only
  have hal := (RowKit.Below.refl w.heap.size w).alloc (Nat.le_refl _) (.cells #[.int .u8 d, .int .u8 c, .string s] 93)
  by_cases k0 : d % 5 = 0
  · rw [if_pos k0]
    go_enter Try.func50, Try.ntmps50
    go_wp2_with (go_at_call 109; refine (ref07_Catch_ok _).mono ?_; rintro e w' ⟨rfl, rfl⟩)
    go_ret
    exact ⟨rfl, hal⟩
  · by_cases k1 : d % 5 = 1
    · rw [if_neg k0, if_pos k1]
      have hc := fun W => ref07_Catch_code c h2 W
      go_enter Try.func50, Try.ntmps50
      go_wp2_with (go_at_call 109; refine (hc _).mono ?_; rintro e w' ⟨rfl, rfl⟩)
      go_ret
      exact ⟨rfl, hal⟩
    · rw [if_neg k0, if_neg k1]
      go_enter Try.func50, Try.ntmps50
      go_wp2_with (go_at_call 109; refine (ref07_Catch_neg _).mono ?_; rintro e w' ⟨rfl, rfl⟩)
      go_ret
      exact ⟨rfl, hal⟩

/-- What Try tells of it. -/
def EndV.Res (x : EndV) (r : Value) (p : Bool) : Prop :=
  (x.want = 0 ∧ x.d % 5 ≤ 1 ∧ p = false ∧ r = Value.nilIface) ∨ (x.d % 5 = 1 ∧ x.c ≠ 0 ∧ x.want = x.c ∧ p = true ∧ r = .iface 97 (.agg #[.int .i64 x.c])) ∨
    (1 < x.d % 5 ∧ x.want = 18 ∧ p = true ∧ ∃ u pv, Odd u ∧ r = .iface u pv)
def EndV.func (x : EndV) : Value := .func (.func 48) #[x.agg] #[]
theorem do_enters : ∀ args w, (callFunc 48 args).run Try.prog w = .ok (.enter 48 args) w := enters_of Try.func48 (by kernel_rfl) rfl
/-- How it ends, one of three. -/
theorem end_do_all (x : EndV) (h : x.In) :
    (x.want = 0 ∧ x.d % 5 ≤ 1 ∧ ∀ w, Calls Try.prog 48 #[x.agg] w fun e w' => e = .returned (.tuple #[]) ∧ RowKit.Below w.heap.size w w') ∨
    (x.d % 5 = 1 ∧ x.c ≠ 0 ∧ x.want = x.c ∧ ∀ w, Calls Try.prog 48 #[x.agg] w fun e w' => e = .panicked [{ v := .iface 97 (.agg #[.int .i64 x.c]), recovered := false }] ∧ RowKit.Below w.heap.size w w') ∨
    (1 < x.d % 5 ∧ x.want = 18 ∧ ∀ w, Calls Try.prog 48 #[x.agg] w fun e w' => (∃ u pv, Odd u ∧ e = .panicked [{ v := .iface u pv, recovered := false }]) ∧ RowKit.Below w.heap.size w w') := by
  obtain ⟨d, c, s⟩ := x
  obtain ⟨h0, h1, h2, h3⟩ := h
  dsimp only at h0 h1 h2 h3
  unfold EndV.agg EndV.want
  dsimp only
  by_cases k0 : d % 5 = 0
  · rw [if_pos k0]
    exact .inl ⟨rfl, by omega, fun w => end_do0 d c s k0 h0 h1 h2 h3 w⟩
  · by_cases k1 : d % 5 = 1
    · rw [if_neg k0, if_pos k1]
      by_cases hc : c = 0
      · subst hc
        exact .inl ⟨rfl, by omega, fun w => end_do1_ok d s k1 h0 h1 w⟩
      · exact .inr (.inl ⟨k1, hc, rfl, fun w => end_do1_fail d c s k1 h0 h1 h2 h3 hc w⟩)
    · rw [if_neg k0, if_neg k1]
      exact .inr (.inr ⟨by omega, rfl, fun w => end_do_odd d c s (by omega) h0 h1 h2 h3 w⟩)
set_option maxRecDepth 100000 in
set_option maxHeartbeats 1000000 in
theorem guard_TryV_odd (g : Nat) (v : Value) (w : World) (eg : ∀ args w, (callFunc g args).run Try.prog w = .ok (.enter g args) w)
    (hf : ∀ w', RowKit.Below w.heap.size w w' → Calls Try.prog g #[v] w' fun e w'' => (∃ u pv, Odd u ∧ e = .panicked [{ v := .iface u pv, recovered := false }]) ∧ RowKit.Below w'.heap.size w' w'') :
    Calls Try.prog 49 #[.func (.func g) #[v] #[]] w fun e w' => (∃ u pv, Odd u ∧ e = .returned (.tuple #[.iface u pv, .bool true])) ∧ RowKit.Below w.heap.size w w' := by
  have hmf : ∀ (fn : Fn) (first cap : Array Value) (w : World), (Instr.makeFunc fn first cap).run Try.prog w = .ok (.func fn first cap) w := fun _ _ _ _ => rfl
  have HF := Lib.hid hf; clear hf
  have hne : ∀ W : World, (binOp .eql 1 (.func (.func g) #[v] #[]) Value.nilFunc).run Try.prog W = .ok (.bool false) W := fun W => by rfl
  go_enter_defers Try.func49, Try.ntmps49
  go_wp2_with fail
  have hb0 : RowKit.Below w.heap.size w ((w.alloc (.cells #[Value.nilIface] 20)).alloc (.cells #[.bool true] 4)) := ((RowKit.Below.refl _ _).alloc (Nat.le_refl _) _).alloc (by simp) _
  refine (HF.out _ hb0).mono ?_
  rintro e w1 ⟨⟨u, pv, hu, rfl⟩, hb1⟩
  have HU := Lib.hid hu; clear hu
  have k2 := ((Blk.new w 20 #[Value.nilIface]).alloc (.cells #[.bool true] 4)).of_below hb1
  have k3 := (Blk.new (w.alloc (.cells #[Value.nilIface] 20)) 4 #[.bool true]).of_below hb1
  rw [size_alloc] at k3
  have hB1 := below_step hb0 hb0.size hb1
  clear hne eg hmf
  go_wp2_with fail
  refine leaves_cons (f := 108) (args := #[.pointer (some ⟨w.heap.size + 1, 0, none⟩), .pointer (some ⟨w.heap.size, 0, none⟩)]) (by simp) (by simp [go_sem]) ?_
  refine (try1_panicking ⟨w.heap.size + 1, 0, none⟩ ⟨w.heap.size, 0, none⟩ Value.nilIface u pv [] w1 (k3.cell 0) (k2.cell 0) (k2.frozen 0) rfl).mono ?_
  rintro e u' w'' ⟨rfl, rfl, rfl⟩
  have j2 := (k2.put 0 (.iface u pv)).cell 0
  have j3 := (k3.far (p := ⟨w.heap.size, 0, none⟩) (by simp) (.iface u pv)).cell 0
  simp only [List.setIfInBounds_toArray, List.getElem?_toArray, List.set_cons_zero, List.getElem?_cons_zero] at j2 j3
  simp [Leaves, settle, results, Try.results49, go_sem, j2, j3]
  exact ⟨HU.out, hB1.setCell (Nat.le_refl _) _⟩


theorem end_try (x : EndV) (h : x.In) (w : World) :
    Calls Try.prog 49 #[x.func] w fun e w' => ∃ r p, e = .returned (.tuple #[r, .bool p]) ∧ x.Res r p ∧ RowKit.Below w.heap.size w w' := by
  rcases end_do_all x h with ⟨h1, h2, hc⟩ | ⟨h1, h2, h3, hc⟩ | ⟨h1, h2, hc⟩
  · refine (guard_TryV_returns _ _ w do_enters (fun w' _ => hc w')).mono ?_
    rintro e w' ⟨rfl, hb⟩
    exact ⟨_, _, rfl, .inl ⟨h1, h2, rfl, rfl⟩, hb⟩
  · refine (guard_TryV_panics _ _ _ _ w do_enters (fun w' _ => hc w')).mono ?_
    rintro e w' ⟨rfl, hb⟩
    exact ⟨_, _, rfl, .inr (.inl ⟨h1, h2, h3, rfl, rfl⟩), hb⟩
  · refine (guard_TryV_odd _ _ w do_enters (fun w' _ => hc w')).mono ?_
    rintro e w' ⟨⟨u, pv, hu, rfl⟩, hb⟩
    exact ⟨_, _, rfl, .inr (.inr ⟨h1, h2, rfl, u, pv, hu, rfl⟩), hb⟩
set_option maxRecDepth 100000 in
set_option maxHeartbeats 1000000 in
theorem guard_CatchV_oddE (v : Value) (w : World) (hT : Calls Try.prog 49 #[v] w fun e w' => (∃ u pv, Odd u ∧ e = .returned (.tuple #[.iface u pv, .bool true])) ∧ RowKit.Below w.heap.size w w') :
    Calls Try.prog 51 #[v] w fun e w' => e = .returned (.int .i64 18) ∧ RowKit.Below w.heap.size w w' := by
  go_enter Try.func51, Try.ntmps51
  go_wp2_with fail
  refine hT.mono ?_
  rintro e w1 ⟨⟨u, pv, hu, rfl⟩, hb1⟩
  have hta := odd_assert u hu pv
  clear hu
  go_wp2
  go_ret
  exact ⟨rfl, hb1.alloc hb1.size _⟩
set_option maxRecDepth 100000 in
theorem end_catch (x : EndV) (h : x.In) (w : World) :
    Calls Try.prog 51 #[x.func] w fun e w' => e = .returned (.int .i64 x.want) ∧ RowKit.Below w.heap.size w w' := by
  rcases end_do_all x h with ⟨h1, h2, hc⟩ | ⟨h1, h2, h3, hc⟩ | ⟨h1, h2, hc⟩
  · rw [h1]; exact guard_CatchV_ok _ _ w (guard_TryV_returns _ _ w do_enters (fun w' _ => hc w'))
  · rw [h3]; exact guard_CatchV_fail _ _ _ h2 w do_enters (fun w' _ => hc w')
  · rw [h2]; exact guard_CatchV_oddE (.func (.func 48) #[x.agg] #[]) w (guard_TryV_odd 48 x.agg w do_enters (fun w' _ => hc w'))
set_option maxRecDepth 100000 in
set_option maxHeartbeats 400000 in
theorem guard_Try_nil (w : World) :
    Calls Try.prog 49 #[Value.nilFunc] w fun e w' => e = .returned (.tuple #[Value.nilIface, .bool false]) ∧ RowKit.Below w.heap.size w w' := by
  have hne : ∀ W : World, (binOp .eql 1 Value.nilFunc Value.nilFunc).run Try.prog W = .ok (.bool true) W := fun W => by rfl
  go_enter_defers Try.func49, Try.ntmps49
  go_wp2_with fail
  have k2 := (Blk.new w 20 #[Value.nilIface]).alloc (.cells #[.bool false] 4)
  have k3 := (Blk.new (w.alloc (.cells #[Value.nilIface] 20)) 4 #[.bool false])
  rw [size_alloc] at k3
  have j2 := k2.cell 0
  have j3 := k3.cell 0
  have hb0 : RowKit.Below w.heap.size w ((w.alloc (.cells #[Value.nilIface] 20)).alloc (.cells #[.bool false] 4)) := ((RowKit.Below.refl _ _).alloc (Nat.le_refl _) _).alloc (by simp) _
  simp only [List.getElem?_toArray, List.getElem?_cons_zero] at j2 j3
  simp [bodyPostD, Leaves, settle, results, Try.results49, go_sem, j2, j3]
  exact hb0
theorem guard_Catch_nil (w : World) :
    Calls Try.prog 51 #[Value.nilFunc] w fun e w' => e = .returned (.int .i64 0) ∧ RowKit.Below w.heap.size w w' := by
  go_enter Try.func51, Try.ntmps51
  go_wp2_with (go_at_call 49; refine (guard_Try_nil _).mono ?_; rintro e w1 ⟨rfl, hb1⟩)
  go_ret
  exact ⟨rfl, hb1⟩
end Go.Proofs.Ytlfnoailaoiedaa
