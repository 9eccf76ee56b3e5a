/- guard.All; slices.EqualFunc as GuardCatches calls it; how []End reads. -/
import Derived.Test.YtlfnoailaoiedaaGuardEnd
import Derived.Deep.LoopGhost
namespace Go.Proofs.Ytlfnoailaoiedaa
open Go.RowKit Go.ChangeShapes Go.WideShapes
set_option linter.unusedVariables false
set_option linter.unusedSimpArgs false

def funcs (L : List EndV) : List Value := L.map EndV.func
def wants (L : List EndV) : List Int := L.map EndV.want
def EndsIn (w : World) (a : Option Addr) (n : Nat) (xs : List EndV) : Prop :=
  xs.length = n ∧ n ≤ 9223372036854775807 ∧ (∀ x ∈ xs, x.In) ∧ (0 < n → ∃ b off, a = some ⟨b, off, none⟩ ∧ b < w.heap.size ∧ ∀ i, i < n →
    w.cell? ⟨b, off + i * 3, none⟩ = some (.int .u8 (xs.getD i default).d) ∧ w.cell? ⟨b, off + i * 3 + 1, none⟩ = some (.int .u8 (xs.getD i default).c) ∧ w.cell? ⟨b, off + i * 3 + 2, none⟩ = some (.string (xs.getD i default).s))
theorem open_hackneylaw07_End {H : Type} {enc : TypeId × Value → H} {w : World} {base : Nat} {sp : Nat → Bool} {held : Bool} {a : Option Addr} {len cap : Nat} {d : DataW H} {p : List MemPlace}
    (h : DataW.Trod enc Try.prog w base sp held 90 (.slice a len cap) d p) : ∃ xs, EndsIn w a len xs := by
  obtain ⟨hn, hc⟩ := open_cells Try.underlying90 Try.underlying93 (by kernel_rfl) (by kernel_rfl) (by decide) h
  by_cases h0 : 0 < len
  · obtain ⟨b, off, ha, hb, hi⟩ := hc h0
    obtain ⟨xs, hl, hq⟩ := gather (Q := fun i (x : EndV) => x.In ∧
        w.cell? ⟨b, off + i * 3, none⟩ = some (.int .u8 x.d) ∧ w.cell? ⟨b, off + i * 3 + 1, none⟩ = some (.int .u8 x.c) ∧ w.cell? ⟨b, off + i * 3 + 2, none⟩ = some (.string x.s)) len (by
      intro i hil
      obtain ⟨v0, x0, n0, c0, t0⟩ := hi i hil 0 _ rfl
      obtain ⟨v1, x1, n1, c1, t1⟩ := hi i hil 1 _ rfl
      obtain ⟨v2, x2, n2, c2, t2⟩ := hi i hil 2 _ rfl
      obtain ⟨m0, e0, _, f0⟩ := DataW.trod_int Try.underlying5 t0
      obtain ⟨m1, e1, _, f1⟩ := DataW.trod_int Try.underlying5 t1
      obtain ⟨m2, e2, _⟩ := DataW.trod_string Try.underlying9 t2
      simp only [List.cons.injEq, and_true] at e0 e1 e2
      subst e0 e1 e2
      have g0 := bounds_u8 f0
      have g1 := bounds_u8 f1
      refine ⟨⟨m0, m1, m2⟩, ⟨g0.1, Int.lt_of_le_of_lt g0.2 (by decide), g1.1, Int.lt_of_le_of_lt g1.2 (by decide)⟩, ?_, ?_, ?_⟩
      · simpa using c0
      · simpa [Nat.add_assoc] using c1
      · simpa [Nat.add_assoc] using c2)
    exact ⟨xs, hl, hn, all_of_getD hl fun i hi => (hq i hi).1, fun _ => ⟨b, off, ha, hb, fun i hil => (hq i hil).2⟩⟩
  · obtain rfl : len = 0 := by omega
    exact ⟨[], rfl, by omega, by simp, fun h => absurd h (by omega)⟩

theorem wants_take (L : List EndV) {i : Nat} (h : i < L.length) : nums .i64 (wants (L.take (i + 1))) = nums .i64 (wants (L.take i)) ++ [.int .i64 (L.getD i default).want] := by
  rw [List.take_add_one, List.getD_eq_getElem?_getD, List.getElem?_eq_getElem h]
  simp only [wants, nums, Option.toList, List.map_append, List.map_cons, List.map_nil, Option.getD_some]
theorem funcs_get {L : List EndV} {i : Nat} (h : i < L.length) : (funcs L)[i]? = some (L.getD i default).func := by
  unfold funcs
  rw [List.getElem?_map, List.getD_eq_getElem?_getD, List.getElem?_eq_getElem h]; rfl

set_option maxRecDepth 100000 in
set_option maxHeartbeats 1000000 in
theorem guard_All (a : Option Addr) (cap : Nat) (L : List EndV) (hL : ∀ x ∈ L, x.In) (hl : L.length ≤ 60) (w : World) (h : Rd 1 w a L.length cap (funcs L)) :
    Calls Try.prog 52 #[.slice a L.length cap] w fun e w' => ∃ A1 c1, e = .returned (.slice A1 L.length c1) ∧ w'.ownsRow w.heap.size 69 1 (.slice A1 L.length c1) L.length (nums .i64 (wants L)) ∧ RowKit.Below w.heap.size w w' := by
  have HR := Lib.hid h; clear h
  have HL := Lib.hid hL; clear hL
  go_enter Try.func52, Try.ntmps52
  go_wp2
  go_loopg [3, 8] L.length (fun gh v iv wr => ∃ (i : Nat) (A1 : Option Addr) (c1 : Nat), gh = L.length - i ∧ i ≤ L.length ∧ iv = .int .i64 i ∧ v = .slice A1 i c1 ∧ wr.ownsRow w.heap.size 69 1 (.slice A1 i c1) i (nums .i64 (wants (L.take i))) ∧ RowKit.Below w.heap.size w wr)
  case atStart => exact ⟨0, none, 0, by omega, by omega, rfl, rfl, World.ownsRow_nil _ _ _ _, RowKit.Below.refl _ _⟩
  case round =>
    obtain ⟨i, A1, c1, rfl, hi, rfl, rfl, ho, hB⟩ := hrel
    have HO := Lib.hid ho; clear ho
    have hsz := hB.size
    have HB := Lib.hid hB; clear hB
    by_cases hlt : i < L.length
    · obtain ⟨b, off, rfl, hbs, hc⟩ := HR.out.2.2.2 (by omega)
      have c0 := (HB.out.cell (p := ⟨b, off + i, none⟩) hbs).trans (hc i _ (funcs_get hlt))
      clear hc
      have hx := HL.out _ (getD_mem hlt)
      have HW := Lib.hid (wants_take L hlt)
      generalize L.getD i default = x at *
      have hcc := end_catch x hx wr
      have HC := Lib.hid hcc; clear hcc hx
      have hb1 : (i + 1) * 8 ≤ 140737488355328 := by omega
      have hb2 : i + 1 ≤ 9223372036854775807 := by omega
      unfold EndV.func at c0
      unfold EndV.func at HC
      generalize x.want = W at *
      generalize x.agg = X at *
      go_wp2_with (first
        | (go_at_call 51; refine HC.out.mono ?_; rintro e w2 ⟨rfl, hb3⟩; have O2 := Lib.hid (own_below HO.out hb3); have hB2 := below_step HB.out HB.out.size hb3; have hsz2 := hB2.size)
        | (at_builtin; refine app_one w2 rfl (.tmp 12) (.tmp 15) 99 rfl w.heap.size 69 (.int .i64 0) 1 8 Try.underlying99 Try.infoErrno rfl (by decide) (.slice A1 i c1) i _ rfl O2.out [.int .i64 W] rfl rfl (by simp [Value.oneCell']) hb2 hb1 hsz2 ?_; intro A3 c3 w3 h3 g3 _; have H3 := Lib.hid h3; clear h3))
      go_roundg (L.length - (i + 1))
      case measure => omega
      case rel =>
        refine ⟨i + 1, A3, c3, rfl, by omega, by go_num, rfl, ?_, ?_⟩
        · rw [HW.out]; exact H3.out
        · exact hB2.grown g3 hsz2 (fun z hz => own_base O2.out z hz)
    · obtain rfl : i = L.length := by omega
      go_wp2
      go_ret
      have := HO.out
      rw [List.take_length] at this
      exact ⟨A1, c1, rfl, this, HB.out⟩
set_option maxHeartbeats 400000 in
theorem gc1 (x : EndV) (h : x.In) (w : World) :
    Calls Try.prog 54 #[.int .i64 x.want, x.agg] w fun e w' => e = .returned (.bool true) ∧ RowKit.Below w.heap.size w w' := by
  have hc := fun W => end_want x h W
  have hal := (RowKit.Below.refl w.heap.size w).alloc (Nat.le_refl _) (.cells #[.int .u8 x.d, .int .u8 x.c, .string x.s] 93)
  unfold EndV.agg at hc ⊢
  generalize x.want = W at *
  go_enter Try.func54, Try.ntmps54
  go_wp2_with (go_at_call 50; refine (hc _).mono ?_; rintro e w1 ⟨rfl, hb⟩)
  go_ret
  exact ⟨rfl, below_step hal hal.size hb⟩
set_option maxRecDepth 100000 in
set_option maxHeartbeats 1000000 in
theorem gc_equal (a1 : Option Addr) (c1 : Nat) (a2 : Option Addr) (c2 : Nat) (L : List EndV) (w : World) (h1 : Sl .i64 w a1 c1 (wants L)) (h2 : EndsIn w a2 L.length L) :
    Calls Try.prog 53 #[.slice a1 L.length c1, .slice a2 L.length c2, .func (.func 54) #[] #[]] w fun e w' => e = .returned (.bool true) ∧ RowKit.Below w.heap.size w w' := by
  have eg : ∀ args w, (callFunc 54 args).run Try.prog w = .ok (.enter 54 args) w := enters_of Try.func54 (by kernel_rfl) rfl
  obtain ⟨-, hm, hL, hcs⟩ := h2
  have hwl : (wants L).length = L.length := by simp [wants]
  have H1 := Lib.hid h1; clear h1
  have HL := Lib.hid hL; clear hL
  have HC := Lib.hid hcs; clear hcs
  have HWL := Lib.hid hwl; clear hwl
  have EG := Lib.hid eg; clear eg
  go_enter Try.func53, Try.ntmps53
  go_wp2
  go_loopg [17] L.length (fun gh iv wr => ∃ (i : Nat), gh = L.length - i ∧ i ≤ L.length ∧ iv = .int .i64 i ∧ RowKit.Below w.heap.size w wr)
  case atStart => exact ⟨0, by omega, by omega, rfl, RowKit.Below.refl _ _⟩
  case round =>
    obtain ⟨i, rfl, hi, rfl, hB⟩ := hrel
    have hsz := hB.size
    have HB := Lib.hid hB; clear hB
    by_cases hlt : i < L.length
    · obtain ⟨b, off, rfl, hbs, hc⟩ := H1.out.at_ (by rw [HWL.out]; omega)
      have d0 := (HB.out.cell (p := ⟨b, off + i, none⟩) hbs).trans (hc i (by rw [HWL.out]; exact hlt))
      have hwi : (wants L).getD i 0 = (L.getD i default).want := by
        unfold wants
        rw [List.getD_eq_getElem?_getD, List.getElem?_map, List.getD_eq_getElem?_getD, List.getElem?_eq_getElem hlt]; rfl
      rw [hwi] at d0
      clear hc hwi
      obtain ⟨b2, off2, rfl, hbs2, hc2⟩ := HC.out (by omega)
      obtain ⟨k0, k1, k2⟩ := hc2 i hlt
      have e0 := (HB.out.cell (p := ⟨b2, off2 + i * 3, none⟩) hbs2).trans k0
      have e1 := (HB.out.cell (p := ⟨b2, off2 + i * 3 + 1, none⟩) hbs2).trans k1
      have e2 := (HB.out.cell (p := ⟨b2, off2 + i * 3 + 2, none⟩) hbs2).trans k2
      clear hc2 k0 k1 k2
      have hx := HL.out _ (getD_mem hlt)
      generalize L.getD i default = x at *
      have hcc := fun W => gc1 x hx W
      clear hx
      obtain ⟨xd, xc, xs⟩ := x
      unfold EndV.agg at hcc
      dsimp only at hcc e0 e1 e2 d0
      generalize EndV.want ⟨xd, xc, xs⟩ = W at *
      have hal := (RowKit.Below.refl wr.heap.size wr).alloc (Nat.le_refl _) (.cells #[.int .u8 xd, .int .u8 xc, .string xs] 93)
      have HCC := Lib.hid hcc; clear hcc
      have HAL := Lib.hid hal; clear hal
      have eg := EG.out
      go_wp2_with fail
      refine (HCC.out _).mono ?_
      rintro e w2 ⟨rfl, hb2⟩
      clear eg
      go_wp2
      go_roundg (L.length - (i + 1))
      case measure => omega
      case rel => exact ⟨i + 1, rfl, by omega, by go_num, below_step HB.out hsz (below_step HAL.out HAL.out.size hb2)⟩
    · obtain rfl : i = L.length := by omega
      go_wp2
      go_ret
      exact ⟨rfl, HB.out⟩
end Go.Proofs.Ytlfnoailaoiedaa
