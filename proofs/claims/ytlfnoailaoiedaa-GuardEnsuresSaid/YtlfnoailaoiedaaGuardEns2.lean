/- Try of what chain_calls tells; Ensure of nothing; Ensure whose last panics. -/
import Derived.Test.YtlfnoailaoiedaaGuardEns
import Derived.Test.YtlfnoailaoiedaaAwake07
namespace Go.Proofs.Ytlfnoailaoiedaa
open Go.RowKit
set_option linter.unusedVariables false
set_option linter.unusedSimpArgs false

theorem Dn.set {B : Nat} {w : World} {g n : Nat} (h : Dn B w g n) {p : Addr} (hp : p.block < B) (hg : g ≠ p.block) (v : Value) : Dn B (w.setCell p v) g n := by
  obtain ⟨A, c, k, o⟩ := h
  exact ⟨A, c, k.far hg v, ownsRow_setCell_below o hp v⟩
theorem Dn.mono {B B' : Nat} {w : World} {g n : Nat} (h : Dn B w g n) (hB : B' ≤ B) : Dn B' w g n := by
  obtain ⟨A, c, k, o⟩ := h
  exact ⟨A, c, k, own_mono o hB⟩
theorem grown_far {w a : World} {g i : Nat} {r : Option Nat} {v : Value} (h : w.grownBy a r) (hi : w.heap.size ≤ g) : w.grownBy (a.setCell ⟨g, i, none⟩ v) r :=
  h.andThen set_grownC (fun j hj => by cases hj; exact .inl hi)

set_option maxRecDepth 100000 in
set_option maxHeartbeats 2000000 in
theorem guard_TryC (g f : Nat) (cb : Array Value) (xs : List EndV) (w : World) (hch : Chain g w xs f cb) (hl : xs.length ≤ 30) (hb : Blk w g 104 #[.slice none 0 0]) :
    Calls Try.prog 49 #[.func (.func f) #[] cb] w fun e w' => ∃ r p, e = .returned (.tuple #[r, .bool p]) ∧ (((∀ x ∈ xs, x.want = 0) ∧ p = false) ∨ ((∃ x ∈ xs, x.want ≠ 0) ∧ p = true)) ∧ w.grownBy w' (some g) ∧ Dn w.heap.size w' g xs.length := by
  have hmf : ∀ (fn : Fn) (first cap : Array Value) (w : World), (Instr.makeFunc fn first cap).run Try.prog w = .ok (.func fn first cap) w := fun _ _ _ _ => rfl
  have hgl := hb.lt
  have eg := hch.enters
  have hne : ∀ W : World, (binOp .eql 1 (.func (.func f) #[] cb) Value.nilFunc).run Try.prog W = .ok (.bool false) W := fun W => by rfl
  have hb0 : RowKit.Below w.heap.size w ((w.alloc (.cells #[Value.nilIface] 20)).alloc (.cells #[.bool true] 4)) := ((RowKit.Below.refl _ _).alloc (Nat.le_refl _) _).alloc (by simp) _
  have hsz0 : ((w.alloc (.cells #[Value.nilIface] 20)).alloc (.cells #[.bool true] 4)).heap.size = w.heap.size + 2 := by rw [size_alloc, size_alloc]
  have h2 : Blk ((w.alloc (.cells #[Value.nilIface] 20)).alloc (.cells #[.bool true] 4)) w.heap.size 20 #[Value.nilIface] := (Blk.new w _ _).alloc _
  have h3 : Blk ((w.alloc (.cells #[Value.nilIface] 20)).alloc (.cells #[.bool true] 4)) (w.heap.size + 1) 4 #[.bool true] := by
    have := Blk.new (w.alloc (.cells #[Value.nilIface] 20)) 4 #[.bool true]
    rwa [size_alloc] at this
  have hcc := chain_calls _ g (by rw [hsz0]; omega) (hch.kept (bel_grownC hb0 (some g))) hl _ (World.grownBy.refl _ _) ⟨none, 0, hb.of_below hb0, by exact World.ownsRow_nil _ _ _ _⟩
  have HC := Lib.hid hcc; clear hcc hch hb
  have H0 := Lib.hid (bel_grownC hb0 (some g)); clear hb0
  have H2 := Lib.hid h2; clear h2
  have H3 := Lib.hid h3; clear h3
  have HS := Lib.hid hsz0; clear hsz0
  go_enter_defers Try.func49, Try.ntmps49
  go_wp2_with fail
  refine HC.out.mono ?_
  rintro e w1 ⟨hE, hg, hD⟩
  rw [HS.out] at hD
  have hlt1 : w.heap.size + 2 ≤ w1.heap.size := by have := hg.size; rw [HS.out] at this; exact this
  have k2 : Blk w1 w.heap.size 20 #[Value.nilIface] := (hg.block _ H2.out.lt (fun e => by have := Option.some.inj e; omega)).trans H2.out
  have k3 : Blk w1 (w.heap.size + 1) 4 #[.bool true] := (hg.block _ H3.out.lt (fun e => by have := Option.some.inj e; omega)).trans H3.out
  have HG := Lib.hid (H0.out.trans hg); clear hg
  have HD := Lib.hid hD; clear hD
  clear HC H0 H2 H3 HS hne eg hmf
  have c2 := k2.cell 0
  have c3 := k3.cell 0
  have f2 := k2.frozen 0
  have f3 := k3.frozen 0
  have l2 := k2.lt
  have l3 := k3.lt
  simp only [List.getElem?_toArray, List.getElem?_cons_zero] at c2 c3
  have n1 : g ≠ w.heap.size := by omega
  have n2 : g ≠ w.heap.size + 1 := by omega
  rcases hE with ⟨hz, rfl⟩ | ⟨hex, u, pv, rfl⟩
  · have HZ := Lib.hid hz; clear hz
    have k2f := ((k2.far (p := ⟨w.heap.size + 1, 0, none⟩) (by simp) (.bool false)).put 0 Value.nilIface).far (p := ⟨w.heap.size + 1, 0, none⟩) (by simp) (.bool false)
    have k3f := ((k3.put 0 (.bool false)).far (p := ⟨w.heap.size, 0, none⟩) (by simp) Value.nilIface).put 0 (.bool false)
    have K2F := Lib.hid k2f; have K3F := Lib.hid k3f; clear k2f k3f k2 k3
    go_wp2_with fail
    refine leaves_cons (f := 108) (args := #[.pointer (some ⟨w.heap.size + 1, 0, none⟩), .pointer (some ⟨w.heap.size, 0, none⟩)]) (by simp) (by simp [go_sem]) ?_
    refine (try1_returning ⟨w.heap.size + 1, 0, none⟩ ⟨w.heap.size, 0, none⟩ _ (K3F.out.cell 0)).mono ?_
    rintro e u' w'' ⟨rfl, rfl, rfl⟩
    have j2 := K2F.out.cell 0
    have j3 := K3F.out.cell 0
    simp only [List.setIfInBounds_toArray, List.getElem?_toArray, List.set_cons_zero, List.getElem?_cons_zero] at j2 j3
    simp [Leaves, settle, results, Try.results49, go_sem, j2, j3]
    exact ⟨HZ.out, grown_far (grown_far (grown_far HG.out (by omega)) (by omega)) (by omega), Dn.mono (((HD.out.set (by show w.heap.size + 1 < w.heap.size + 2; omega) n2 _).set (by show w.heap.size < w.heap.size + 2; omega) n1 _).set (by show w.heap.size + 1 < w.heap.size + 2; omega) n2 _) (by omega)⟩
  · have HZ := Lib.hid hex; clear hex
    have K2 := Lib.hid k2; have K3 := Lib.hid k3; clear k2 k3
    go_wp2_with fail
    refine leaves_cons (f := 108) (args := #[.pointer (some ⟨w.heap.size + 1, 0, none⟩), .pointer (some ⟨w.heap.size, 0, none⟩)]) (by simp) (by simp [go_sem]) ?_
    refine (try1_panicking ⟨w.heap.size + 1, 0, none⟩ ⟨w.heap.size, 0, none⟩ Value.nilIface u pv [] w1 (K3.out.cell 0) (K2.out.cell 0) (K2.out.frozen 0) rfl).mono ?_
    rintro e u' w'' ⟨rfl, rfl, rfl⟩
    have j2 := (K2.out.put 0 (.iface u pv)).cell 0
    have j3 := (K3.out.far (p := ⟨w.heap.size, 0, none⟩) (by simp) (.iface u pv)).cell 0
    simp only [List.setIfInBounds_toArray, List.getElem?_toArray, List.set_cons_zero, List.getElem?_cons_zero] at j2 j3
    simp [Leaves, settle, results, Try.results49, go_sem, j2, j3]
    exact ⟨HZ.out, grown_far HG.out (by omega), Dn.mono (HD.out.set (by show w.heap.size < w.heap.size + 2; omega) n1 _) (by omega)⟩

set_option maxRecDepth 100000 in
set_option maxHeartbeats 1000000 in
theorem guard_Ensure_nil (w : World) :
    Calls Try.prog 57 #[Value.nilFunc, Value.nilFunc] w fun e w' => e = .returned (.tuple #[]) ∧ w = w' := by
  have hn : ∀ W : World, (binOp .neq 1 Value.nilFunc Value.nilFunc).run Try.prog W = .ok (.bool false) W := fun W => by rfl
  go_enter_defers Try.func57, Try.ntmps57
  go_wp2_with fail
  simp [bodyPostD, Leaves, settle, results, Try.results57, go_sem]
theorem ens31 (u : FrameMode) (w : World) :
    CallsD Try.prog 62 #[] u w fun e u' w' => u' = u ∧ (e = .panicked [{ v := .iface 97 (.agg #[.int .i64 15]), recovered := false }] ∧ w = w') := by
  go_enter_d Try.func62, Try.ntmps62
  go_wp2_with (go_at_call 63; refine (guard_Must_panics 15 (by decide) _).mono ?_; rintro e w' ⟨rfl, rfl⟩)
  exact ⟨rfl, rfl, rfl⟩
/-- What goes out: what is ensured panics last. -/
def Last (e : Ending) : Prop := ∃ older : List PanicEntry, (older = [] ∨ ∃ u pv, older = [{ v := .iface u pv, recovered := false }]) ∧ e = .panicked ({ v := .iface 97 (.agg #[.int .i64 15]), recovered := false } :: older)
set_option maxRecDepth 100000 in
set_option maxHeartbeats 1000000 in
theorem guard_EnsureM (x : EndV) (hx : x.In) (w : World) :
    Calls Try.prog 57 #[.func (.func 48) #[x.agg] #[], .func (.func 62) #[] #[]] w fun e w' => Last e ∧ RowKit.Below w.heap.size w w' := by
  have hcall : Calls Try.prog 48 #[x.agg] w fun e w' => (e = .returned (.tuple #[]) ∨ ∃ u pv, e = .panicked [{ v := .iface u pv, recovered := false }]) ∧ RowKit.Below w.heap.size w w' := by
    rcases end_do_all x hx with ⟨h1, h2, hc⟩ | ⟨h1, h2, h3, hc⟩ | ⟨h1, h2, hc⟩
    · exact (hc w).mono fun e w' ⟨h, hb⟩ => ⟨.inl h, hb⟩
    · exact (hc w).mono fun e w' ⟨h, hb⟩ => ⟨.inr ⟨_, _, h⟩, hb⟩
    · exact (hc w).mono fun e w' ⟨⟨u, pv, _, h⟩, hb⟩ => ⟨.inr ⟨u, pv, h⟩, hb⟩
  generalize x.agg = v at *
  have hna : ∀ W : World, (binOp .neq 1 (.func (.func 48) #[v] #[]) Value.nilFunc).run Try.prog W = .ok (.bool true) W := fun W => by rfl
  have hnb : ∀ W : World, (binOp .neq 1 (.func (.func 62) #[] #[]) Value.nilFunc).run Try.prog W = .ok (.bool true) W := fun W => by rfl
  have ea := do_enters
  have eb : ∀ args w, (callFunc 62 args).run Try.prog w = .ok (.enter 62 args) w := enters_of Try.func62 (by kernel_rfl) rfl
  have EB := Lib.hid eb; clear eb
  have HF := Lib.hid hcall; clear hcall
  go_enter_defers Try.func57, Try.ntmps57
  go_wp2_with fail
  refine HF.out.mono ?_
  rintro e w1 ⟨hE, hB⟩
  clear hna hnb ea
  rcases hE with rfl | ⟨u, pv, rfl⟩
  · go_wp2_with fail
    refine leaves_cons (f := 62) (args := #[]) (by simp) (by have := EB.out; simp [go_sem, this]) ?_
    refine (ens31 _ w1).mono ?_
    rintro e u' w2 ⟨rfl, rfl, rfl⟩
    simp [Leaves, raised]
    exact ⟨⟨[], .inl rfl, rfl⟩, hB⟩
  · refine leaves_cons (f := 62) (args := #[]) (by simp) (by have := EB.out; simp [go_sem, this]) ?_
    refine (ens31 _ w1).mono ?_
    rintro e u' w2 ⟨rfl, rfl, rfl⟩
    simp [Leaves, raised]
    exact ⟨⟨_, .inr ⟨u, pv, rfl⟩, rfl⟩, hB⟩
set_option maxRecDepth 100000 in
set_option maxHeartbeats 1000000 in
theorem ens3 (x : EndV) (hx : x.In) (b : Nat) (w : World) (k : Blk w b 93 #[.int .u8 x.d, .int .u8 x.c, .string x.s]) :
    Calls Try.prog 61 #[.pointer (some ⟨b, 0, none⟩)] w fun e w' => Last e ∧ RowKit.Below w.heap.size w w' := by
  have c0 := k.cell 0
  have c1 := k.cell 1
  have c2 := k.cell 2
  simp only [List.getElem?_toArray, List.getElem?_cons_zero, List.getElem?_cons_succ] at c0 c1 c2
  have HC := Lib.hid (guard_EnsureM x hx w)
  unfold EndV.agg at HC
  have hmf : ∀ (fn : Fn) (first cap : Array Value) (w : World), (Instr.makeFunc fn first cap).run Try.prog w = .ok (.func fn first cap) w := fun _ _ _ _ => rfl
  go_enter Try.func61, Try.ntmps61
  go_wp2_with fail
  refine HC.out.mono ?_
  rintro e w1 ⟨⟨older, ho, rfl⟩, hB⟩
  exact ⟨rfl, ⟨older, ho, rfl⟩, hB⟩
set_option maxRecDepth 100000 in
set_option maxHeartbeats 1000000 in
theorem guard_TryM (x : EndV) (hx : x.In) (b : Nat) (w : World) (k : Blk w b 93 #[.int .u8 x.d, .int .u8 x.c, .string x.s]) :
    Calls Try.prog 49 #[.func (.func 61) #[] #[.pointer (some ⟨b, 0, none⟩)]] w fun e w' => e = .returned (.tuple #[.iface 97 (.agg #[.int .i64 15]), .bool true]) ∧ RowKit.Below w.heap.size w w' := by
  have eg : ∀ args w, (callFunc 61 args).run Try.prog w = .ok (.enter 61 args) w := enters_of Try.func61 (by kernel_rfl) rfl
  have hmf : ∀ (fn : Fn) (first cap : Array Value) (w : World), (Instr.makeFunc fn first cap).run Try.prog w = .ok (.func fn first cap) w := fun _ _ _ _ => rfl
  have hne : ∀ W : World, (binOp .eql 1 (.func (.func 61) #[] #[.pointer (some ⟨b, 0, none⟩)]) Value.nilFunc).run Try.prog W = .ok (.bool false) W := fun W => by rfl
  have hb0 : RowKit.Below w.heap.size w ((w.alloc (.cells #[Value.nilIface] 20)).alloc (.cells #[.bool true] 4)) := ((RowKit.Below.refl _ _).alloc (Nat.le_refl _) _).alloc (by simp) _
  have hcc := ens3 x hx b _ (k.of_below hb0)
  have HC := Lib.hid hcc; clear hcc
  go_enter_defers Try.func49, Try.ntmps49
  go_wp2_with fail
  refine HC.out.mono ?_
  rintro e w1 ⟨⟨older, ho, rfl⟩, hb1⟩
  have k2 := ((Blk.new w 20 #[Value.nilIface]).alloc (.cells #[.bool true] 4)).of_below hb1
  have k3 := (Blk.new (w.alloc (.cells #[Value.nilIface] 20)) 4 #[.bool true]).of_below hb1
  rw [size_alloc] at k3
  have hB1 := below_step hb0 hb0.size hb1
  clear hne eg hmf
  go_wp2_with fail
  refine leaves_cons (f := 108) (args := #[.pointer (some ⟨w.heap.size + 1, 0, none⟩), .pointer (some ⟨w.heap.size, 0, none⟩)]) (by simp) (by simp [go_sem]) ?_
  refine (try1_panicking ⟨w.heap.size + 1, 0, none⟩ ⟨w.heap.size, 0, none⟩ Value.nilIface 97 (.agg #[.int .i64 15]) older w1 (k3.cell 0) (k2.cell 0) (k2.frozen 0) rfl).mono ?_
  rintro e u' w'' ⟨rfl, rfl, rfl⟩
  have j2 := (k2.put 0 (.iface 97 (.agg #[.int .i64 15]))).cell 0
  have j3 := (k3.far (p := ⟨w.heap.size, 0, none⟩) (by simp) (.iface 97 (.agg #[.int .i64 15]))).cell 0
  simp only [List.setIfInBounds_toArray, List.getElem?_toArray, List.set_cons_zero, List.getElem?_cons_zero] at j2 j3
  have hfin := hB1.setCell (p := ⟨w.heap.size, 0, none⟩) (Nat.le_refl _) (.iface 97 (.agg #[.int .i64 15]))
  rcases ho with rfl | ⟨u, pv, rfl⟩
  · simp [Leaves, settle, results, Try.results49, go_sem, j2, j3]
    exact hfin
  · simp [Leaves, settle, results, Try.results49, go_sem, j2, j3]
    exact hfin
end Go.Proofs.Ytlfnoailaoiedaa
