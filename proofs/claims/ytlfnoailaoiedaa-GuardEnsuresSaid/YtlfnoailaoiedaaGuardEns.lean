/- Ensure, closures within closures (layer 7's law GuardEnsures). -/
import Derived.Test.YtlfnoailaoiedaaGuardIf
namespace Go.Proofs.Ytlfnoailaoiedaa
open Go.RowKit
set_option linter.unusedVariables false
set_option linter.unusedSimpArgs false

/-- What has been ensured: the numbers below n, in order. -/
def Dn (B : Nat) (w : World) (g n : Nat) : Prop := ∃ A c, Blk w g 104 #[.slice A n c] ∧ w.ownsRow B 3 1 (.slice A n c) n (nums .i64 ((List.range n).map fun (i : Nat) => (i : Int)))
theorem rangeI_snocC (n : Nat) : nums .i64 ((List.range (n + 1)).map fun (i : Nat) => (i : Int)) = nums .i64 ((List.range n).map fun (i : Nat) => (i : Int)) ++ [.int .i64 n] := by
  rw [List.range_succ]; simp [nums]
theorem set_grownC {w : World} {g i : Nat} {v : Value} : w.grownBy (w.setCell ⟨g, i, none⟩ v) (some g) :=
  ⟨rfl, rfl, rfl, by rw [size_setCell]; exact Nat.le_refl _, fun k _ hk => Below.heap_setCell w _ v k (fun e => hk (by rw [e]))⟩

set_option maxRecDepth 100000 in
set_option maxHeartbeats 1000000 in
theorem ens22 (W0 : World) (g b5 n : Nat) (u : FrameMode) (w : World) (hD : Dn W0.heap.size w g n) (h5 : Blk w b5 3 #[.int .i64 n]) (hg : W0.grownBy w (some g)) (hgB : g < W0.heap.size) (hn : n ≤ 30) :
    CallsD Try.prog 59 #[.pointer (some ⟨g, 0, none⟩), .pointer (some ⟨b5, 0, none⟩)] u w fun e u' w' => u' = u ∧ (e = .returned (.tuple #[]) ∧ W0.grownBy w' (some g) ∧ Dn W0.heap.size w' g (n + 1)) := by
  obtain ⟨A, c, hb, ho⟩ := hD
  have c3 := hb.cell 0
  have z3 := hb.frozen 0
  have c5 := h5.cell 0
  simp only [List.getElem?_toArray, List.getElem?_cons_zero] at c3 c5
  have hsz := hg.size
  have hb1 : (n + 1) * 8 ≤ 140737488355328 := by omega
  have hb2 : n + 1 ≤ 9223372036854775807 := by omega
  have HO := Lib.hid ho; clear ho
  have HB := Lib.hid hb; clear hb h5
  have hgw : g < w.heap.size := by omega
  go_enter_d Try.func59, Try.ntmps59
  go_wp2_with (at_builtin; refine app_one w rfl (.tmp 2) (.tmp 4) 104 rfl W0.heap.size 3 (.int .i64 0) 1 8 Try.underlying104 Try.infoI rfl (by decide) (.slice A n c) n _ rfl HO.out [.int .i64 n] rfl rfl (by simp [Value.oneCell']) hb2 hb1 hsz ?_; intro A1 c1 w1 h1 g1 _; have k1 : Blk w1 g 104 #[.slice A n c] := (g1.block g hgw (fun e => by have := own_base HO.out g e.symm; omega)).trans HB.out; have d3 := k1.cell 0; have y3 := k1.frozen 0; have K1 := Lib.hid k1; clear k1; simp only [List.getElem?_toArray, List.getElem?_cons_zero] at d3; have H1 := Lib.hid h1; clear h1)
  go_end0
  refine ⟨rfl, (hg.andThen g1 (fun j hj => .inl (own_base HO.out j hj))).trans set_grownC, A1, c1, by simpa using K1.out.put 0 (.slice A1 (n + 1) c1), ?_⟩
  rw [rangeI_snocC]
  exact ownsRow_setCell_below H1.out (by exact hgB) _

/-- How what is told of several ends: well, or by the panic of one of them. -/
def Ends (xs : List EndV) (e : Ending) : Prop :=
  ((∀ x ∈ xs, x.want = 0) ∧ e = .returned (.tuple #[])) ∨ ((∃ x ∈ xs, x.want ≠ 0) ∧ ∃ u pv, e = .panicked [{ v := .iface u pv, recovered := false }])
theorem Ends.well {xs : List EndV} {x : EndV} (h : ∀ y ∈ xs, y.want = 0) (hx : x.want = 0) : Ends (xs ++ [x]) (.returned (.tuple #[])) := .inl ⟨fun y hy => by
  rcases List.mem_append.1 hy with h1 | h1
  · exact h y h1
  · rw [List.mem_singleton.1 h1]; exact hx, rfl⟩
theorem Ends.before {xs : List EndV} {x : EndV} (h : ∃ y ∈ xs, y.want ≠ 0) (u : TypeId) (pv : Value) : Ends (xs ++ [x]) (.panicked [{ v := .iface u pv, recovered := false }]) := .inr ⟨by
  obtain ⟨y, hy, hw⟩ := h
  exact ⟨y, List.mem_append_left _ hy, hw⟩, u, pv, rfl⟩
theorem Ends.now {xs : List EndV} {x : EndV} (h : x.want ≠ 0) (u : TypeId) (pv : Value) : Ends (xs ++ [x]) (.panicked [{ v := .iface u pv, recovered := false }]) := .inr ⟨⟨x, by simp, h⟩, u, pv, rfl⟩

/-- The closures, one within another: what the outermost is. -/
inductive Chain (g : Nat) (w : World) : List EndV → Nat → Array Value → Prop
  | nil : Chain g w [] 55 #[]
  | snoc {xs : List EndV} {x : EndV} {f : Nat} {cb : Array Value} {b7 b6 b5 : Nat} (h : Chain g w xs f cb) (hx : x.In) (n7 : b7 ≠ g) (n6 : b6 ≠ g) (n5 : b5 ≠ g)
      (k7 : Blk w b7 1 #[.func (.func f) #[] cb]) (k6 : Blk w b6 93 #[.int .u8 x.d, .int .u8 x.c, .string x.s]) (k5 : Blk w b5 3 #[.int .i64 xs.length]) :
      Chain g w (xs ++ [x]) 56 #[.pointer (some ⟨b7, 0, none⟩), .pointer (some ⟨b6, 0, none⟩), .pointer (some ⟨g, 0, none⟩), .pointer (some ⟨b5, 0, none⟩)]
theorem Chain.enters {g : Nat} {w : World} {xs : List EndV} {f : Nat} {cb : Array Value} (h : Chain g w xs f cb) : ∀ args w, (callFunc f args).run Try.prog w = .ok (.enter f args) w := by
  cases h with
  | nil => exact enters_of Try.func55 (by kernel_rfl) rfl
  | snoc => exact enters_of Try.func56 (by kernel_rfl) rfl
theorem Chain.kept {g : Nat} {w w' : World} {xs : List EndV} {f : Nat} {cb : Array Value} (h : Chain g w xs f cb) (hg : w.grownBy w' (some g)) : Chain g w' xs f cb := by
  induction h with
  | nil => exact .nil
  | snoc h hx n7 n6 n5 k7 k6 k5 ih =>
    exact .snoc ih hx n7 n6 n5 ((hg.block _ k7.lt (fun e => n7 (Option.some.inj e))).trans k7) ((hg.block _ k6.lt (fun e => n6 (Option.some.inj e))).trans k6) ((hg.block _ k5.lt (fun e => n5 (Option.some.inj e))).trans k5)
theorem bel_grownC {w w' : World} (h : RowKit.Below w.heap.size w w') (r : Option Nat) : w.grownBy w' r := ⟨h.os, h.tape, h.output, h.size, fun i hi _ => h.block i hi⟩
theorem Dn.below {B : Nat} {w w' : World} {g n : Nat} (h : Dn B w g n) (hb : RowKit.Below w.heap.size w w') : Dn B w' g n := by
  obtain ⟨A, c, k, o⟩ := h
  exact ⟨A, c, k.of_below hb, own_below o hb⟩

set_option maxRecDepth 100000 in
set_option maxHeartbeats 1000000 in
theorem ens21 (W0 : World) (g b7 b6 f n : Nat) (cb : Array Value) (xs : List EndV) (x : EndV) (hx : x.In) (hgB : g < W0.heap.size) (eg : ∀ args w, (callFunc f args).run Try.prog w = .ok (.enter f args) w) (w : World)
    (k7 : Blk w b7 1 #[.func (.func f) #[] cb]) (k6 : Blk W0 b6 93 #[.int .u8 x.d, .int .u8 x.c, .string x.s]) (n6 : b6 ≠ g)
    (hc : Calls Try.prog f cb w fun e w' => Ends xs e ∧ W0.grownBy w' (some g) ∧ Dn W0.heap.size w' g n) :
    Calls Try.prog 58 #[.pointer (some ⟨b7, 0, none⟩), .pointer (some ⟨b6, 0, none⟩)] w fun e w' => Ends (xs ++ [x]) e ∧ W0.grownBy w' (some g) ∧ Dn W0.heap.size w' g n := by
  have c7 := k7.cell 0
  simp only [List.getElem?_toArray, List.getElem?_cons_zero] at c7
  have HC := Lib.hid hc; clear hc
  have HD := Lib.hid (end_do_all x hx)
  have EW : ∀ (h : ∀ y ∈ xs, y.want = 0) (hx : x.want = 0), Ends (xs ++ [x]) (.returned (.tuple #[])) := fun h hx => Ends.well h hx
  have EB : ∀ (h : ∃ y ∈ xs, y.want ≠ 0) (u : TypeId) (pv : Value), Ends (xs ++ [x]) (.panicked [{ v := .iface u pv, recovered := false }]) := fun h u pv => Ends.before h u pv
  have EN : ∀ (h : x.want ≠ 0) (u : TypeId) (pv : Value), Ends (xs ++ [x]) (.panicked [{ v := .iface u pv, recovered := false }]) := fun h u pv => Ends.now h u pv
  have EW := Lib.hid EW
  have EB := Lib.hid EB
  have EN := Lib.hid EN
  unfold EndV.agg at HD
  go_enter Try.func58, Try.ntmps58
  go_wp2_with fail
  refine HC.out.mono ?_
  rintro e w1 ⟨hE, hg, hD⟩
  have HDn := Lib.hid hD; clear hD
  have HG := Lib.hid hg; clear hg
  clear HC eg c7 k7
  rcases hE with ⟨hz, rfl⟩ | ⟨hex, u, pv, rfl⟩
  · have k6' : Blk w1 b6 93 #[.int .u8 x.d, .int .u8 x.c, .string x.s] := (HG.out.block _ k6.lt (fun e => n6 (Option.some.inj e))).trans k6
    have c0 := k6'.cell 0
    have c1 := k6'.cell 1
    have c2 := k6'.cell 2
    simp only [List.getElem?_toArray, List.getElem?_cons_zero, List.getElem?_cons_succ] at c0 c1 c2
    have HZ := Lib.hid hz; clear hz
    go_wp2_with fail
    rcases HD.out with ⟨h1, h2, hc⟩ | ⟨h1, h2, h3, hc⟩ | ⟨h1, h2, hc⟩
    · refine (hc w1).mono ?_
      rintro e w2 ⟨rfl, hb⟩
      have H1 := Lib.hid h1; clear h1 h2 hc
      go_wp2_with fail
      go_end0
      exact ⟨EW.out HZ.out H1.out, HG.out.andThen (bel_grownC hb none) (fun j hj => by cases hj), HDn.out.below hb⟩
    · refine (hc w1).mono ?_
      rintro e w2 ⟨rfl, hb⟩
      exact ⟨rfl, EN.out (by rw [h3]; exact h2) _ _, HG.out.andThen (bel_grownC hb none) (fun j hj => by cases hj), HDn.out.below hb⟩
    · refine (hc w1).mono ?_
      rintro e w2 ⟨⟨u, pv, hu, rfl⟩, hb⟩
      exact ⟨rfl, EN.out (by rw [h2]; decide) _ _, HG.out.andThen (bel_grownC hb none) (fun j hj => by cases hj), HDn.out.below hb⟩
  · exact ⟨rfl, EB.out hex _ _, HG.out, HDn.out⟩

set_option maxRecDepth 100000 in
set_option maxHeartbeats 1000000 in
theorem guard_Ensure (ga gb : Nat) (ca cb : Array Value) (w : World) (xs : List EndV) (S T : World → Prop)
    (ea : ∀ args w, (callFunc ga args).run Try.prog w = .ok (.enter ga args) w) (eb : ∀ args w, (callFunc gb args).run Try.prog w = .ok (.enter gb args) w)
    (hf : Calls Try.prog ga ca w fun e w' => Ends xs e ∧ S w')
    (hl : ∀ u w1, S w1 → CallsD Try.prog gb cb u w1 fun e u' w' => u' = u ∧ (e = .returned (.tuple #[]) ∧ T w')) :
    Calls Try.prog 57 #[.func (.func ga) #[] ca, .func (.func gb) #[] cb] w fun e w' => Ends xs e ∧ T w' := by
  have hna : ∀ W : World, (binOp .neq 1 (.func (.func ga) #[] ca) Value.nilFunc).run Try.prog W = .ok (.bool true) W := fun W => by rfl
  have hnb : ∀ W : World, (binOp .neq 1 (.func (.func gb) #[] cb) Value.nilFunc).run Try.prog W = .ok (.bool true) W := fun W => by rfl
  have HF := Lib.hid hf; clear hf
  have HL := Lib.hid hl; clear hl
  have EB := Lib.hid eb; clear eb
  go_enter_defers Try.func57, Try.ntmps57
  go_wp2_with fail
  refine HF.out.mono ?_
  rintro e w1 ⟨hE, hS⟩
  have HS := Lib.hid hS; clear hS
  have hE' := hE
  clear hna hnb ea
  rcases hE with ⟨hz, rfl⟩ | ⟨hex, u, pv, rfl⟩
  · have HE := Lib.hid hE'; clear hE' hz
    go_wp2_with fail
    refine leaves_cons (f := gb) (args := cb) (by simp) (by have := EB.out; simp [go_sem, this]) ?_
    refine (HL.out _ w1 HS.out).mono ?_
    rintro e u' w2 ⟨rfl, rfl, hT⟩
    simp [Leaves, settle, results, Try.results57, go_sem]
    exact ⟨HE.out, hT⟩
  · have HE := Lib.hid hE'; clear hE' hex
    refine leaves_cons (f := gb) (args := cb) (by simp) (by have := EB.out; simp [go_sem, this]) ?_
    refine (HL.out _ w1 HS.out).mono ?_
    rintro e u' w2 ⟨rfl, rfl, hT⟩
    simp [Leaves, settle, results, Try.results57, go_sem]
    exact ⟨HE.out, hT⟩

set_option maxRecDepth 100000 in
set_option maxHeartbeats 1000000 in
theorem chain_calls (W0 : World) (g : Nat) (hgB : g < W0.heap.size) {xs : List EndV} {f : Nat} {cb : Array Value} (h : Chain g W0 xs f cb) : xs.length ≤ 30 → ∀ W, W0.grownBy W (some g) → Dn W0.heap.size W g 0 →
    Calls Try.prog f cb W fun e w' => Ends xs e ∧ W0.grownBy w' (some g) ∧ Dn W0.heap.size w' g xs.length := by
  induction h with
  | nil =>
    intro _ W hg hD
    go_enter Try.func55, Try.ntmps55
    go_wp2_with fail
    go_end0
    exact ⟨.inl ⟨(fun y hy => by cases hy), rfl⟩, hg, hD⟩
  | @snoc xs x f cb b7 b6 b5 h hx n7 n6 n5 k7 k6 k5 ih =>
    intro hl W hg hD
    have hll : xs.length ≤ 30 := by rw [List.length_append] at hl; simp at hl; omega
    have k7W : Blk W b7 1 #[.func (.func f) #[] cb] := (hg.block _ k7.lt (fun e => n7 (Option.some.inj e))).trans k7
    have hc := ens21 W0 g b7 b6 f xs.length cb xs x hx hgB h.enters W k7W k6 n6 (ih hll W hg hD)
    have ea : ∀ args w, (callFunc 58 args).run Try.prog w = .ok (.enter 58 args) w := enters_of Try.func58 (by kernel_rfl) rfl
    have eb : ∀ args w, (callFunc 59 args).run Try.prog w = .ok (.enter 59 args) w := enters_of Try.func59 (by kernel_rfl) rfl
    have he := guard_Ensure 58 59 _ #[.pointer (some ⟨g, 0, none⟩), .pointer (some ⟨b5, 0, none⟩)] W (xs ++ [x]) (fun w' => W0.grownBy w' (some g) ∧ Dn W0.heap.size w' g xs.length) (fun w' => W0.grownBy w' (some g) ∧ Dn W0.heap.size w' g (xs.length + 1)) ea eb hc
      (fun u w1 hS => ens22 W0 g b5 xs.length u w1 hS.2 ((hS.1.block _ k5.lt (fun e => n5 (Option.some.inj e))).trans k5) hS.1 hgB hll)
    have HE := Lib.hid he
    have hlen : (xs ++ [x]).length = xs.length + 1 := by simp
    rw [hlen]
    clear ih hc ea eb he k7 k6 k5 h hx k7W hg hD hlen
    have hmf : ∀ (fn : Fn) (first cap : Array Value) (w : World), (Instr.makeFunc fn first cap).run Try.prog w = .ok (.func fn first cap) w := fun _ _ _ _ => rfl
    go_enter Try.func56, Try.ntmps56
    go_wp2_with fail
    refine HE.out.mono ?_
    rintro e w1 ⟨hE, hT⟩
    have hE' := hE
    have HT := Lib.hid hT; clear hT hmf HE
    rcases hE with ⟨hz, rfl⟩ | ⟨hex, u, pv, rfl⟩
    · have HE := Lib.hid hE'; clear hE' hz
      go_wp2_with fail
      go_end0
      exact ⟨HE.out, HT.out⟩
    · exact ⟨rfl, hE', HT.out⟩
end Go.Proofs.Ytlfnoailaoiedaa
