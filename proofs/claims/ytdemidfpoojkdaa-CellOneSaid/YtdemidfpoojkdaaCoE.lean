/- CellOne: where its blocks lie, and what a worker and the starter know of the world. -/
import Derived.Test.YtdemidfpoojkdaaCoV
import Derived.Test.YtdemidfpoojkdaaWord
import Derived.Laws.Pointers
namespace Go.Proofs.Ytdemidfpoojkdaa.Co
open Go.Conc Go.ConcN Go.RowKit
open Go.ConcR (KK WgAt stA smA rd wr mk DC0 ofEvent_cell)
set_option linter.unusedVariables false
set_option linter.unusedSimpArgs false

/-- The closure that each worker runs, over the call's own variables. -/
noncomputable def fnv (N : Nat) : Value := .func (.func 7) #[] #[.pointer (some ⟨N + 4, 0, none⟩), .pointer (some ⟨N, 0, none⟩), .pointer (some ⟨N + 1, 0, none⟩), .pointer (some ⟨N + 5, 0, none⟩)]
/-- N: the first block of the call's own: the word, the state, (an example's cell,) the cell, the variable c, the count, the group. -/
noncomputable def env (N : Nat) (x st : Int) (n : Nat) : Env :=
  { P := Try.prog, ty := 37, tc := 47, td := 31, Wg := N + 6, Ce := N + 3, Dn := N + 5, first := x, next := if wMay (x % 4) (st % 4) then wTo x (st % 4) else x + 1, may := wMay (x % 4) (st % 4), n := n, Lw := fun j => N + 7 + 2 * j }
section
variable {N n : Nat} {x st : Int}
theorem wTo_ne {t : Int} (h0 : 0 ≤ x) (h : wMay (x % 4) t = true) : wTo x t ≠ x := by
  unfold wTo wOf
  rw [if_pos h]
  omega
theorem env_ne (h0 : 0 ≤ x) : (env N x st n).next ≠ (env N x st n).first := by
  simp only [env]
  split
  · rename_i h; exact wTo_ne h0 h
  · omega
theorem env_geo (h0 : 0 ≤ x) (hp : 0 < n) (hn : n < 2147483648) : (env N x st n).geo :=
  ⟨fun a b h => by simp only [env]; omega, by simp only [env]; omega, by simp only [env]; omega, by simp only [env]; omega, by simp only [env]; omega, by simp only [env]; omega, by simp only [env]; omega, env_ne h0, hp, hn⟩
theorem three_iff (b : Nat) : (env N x st n).three b ↔ b = N + 6 ∨ b = N + 3 ∨ b = N + 5 := Iff.rfl

/-- What every goroutine knows of the call's variables. -/
structure Own0 (N : Nat) (x st : Int) (w : World) : Prop where
  fb : w.cell? ⟨N, 0, none⟩ = some (.int .u64 x)
  sb : w.cell? ⟨N + 1, 0, none⟩ = some (.int .u8 st)
  cb : w.cell? ⟨N + 4, 0, none⟩ = some (.pointer (some ⟨N + 3, 0, none⟩))
/-- What worker j knows. -/
structure Kn (N : Nat) (x st : Int) (n j : Nat) (w : World) : Prop where
  own : Own0 N x st w
  gb : w.cell? ⟨N + 7 + 2 * j, 0, none⟩ = some (.pointer (some ⟨N + 6, 0, none⟩))
  bb : w.cell? ⟨N + 8 + 2 * j, 0, none⟩ = some (fnv N)
  live : (env N x st n).live w
variable {w w₁ : World} {j : Nat}
theorem Own0.of (h : Own0 N x st w) (hb : ∀ b, b < N + 7 → ¬ (env N x st n).three b → w₁.heap[b]? = w.heap[b]?) : Own0 N x st w₁ :=
  ⟨(cell_of_block (hb N (by omega) (by rw [three_iff]; omega)) 0).trans h.fb, (cell_of_block (hb (N + 1) (by omega) (by rw [three_iff]; omega)) 0).trans h.sb, (cell_of_block (hb (N + 4) (by omega) (by rw [three_iff]; omega)) 0).trans h.cb⟩
theorem Kn.rely (h : Kn N x st n j w) (r : (env N x st n).RK ((env N x st n).Lw (j + 1)) w w₁) : Kn N x st n j w₁ := by
  have hL : (env N x st n).Lw (j + 1) = N + 7 + 2 * (j + 1) := rfl
  exact ⟨h.own.of fun b hb ht => r.low b (by omega) ht, (cell_of_block (r.low _ (by omega) (by rw [three_iff]; omega)) 0).trans h.gb, (cell_of_block (r.low _ (by omega) (by rw [three_iff]; omega)) 0).trans h.bb, r.live h.live⟩
theorem okw (b : Nat) (h : b = N ∨ b = N + 1 ∨ b = N + 4 ∨ b = N + 7 + 2 * j ∨ b = N + 8 + 2 * j) : (env N x st n).ok (j + 1) ⟨.cell ⟨b, 0, none⟩, false, false⟩ := by
  have hL : (env N x st n).Lw (j + 1) = N + 7 + 2 * (j + 1) := rfl
  exact ok_read (by dsimp only; omega) (by rw [three_iff]; dsimp only; omega)
theorem Kn.ceCell (h : Kn N x st n j w) : ∃ v, w.cell? ⟨N + 3, 0, none⟩ = some (.int .u64 v) := by
  obtain ⟨v, hv⟩ := h.live.2.1
  have hv' : w.heap[N + 3]? = _ := hv
  exact ⟨v, by simp [World.cell?, hv']⟩
end
theorem ce_cell {E : Env} {w : World} {v : Int} (h : E.ce v w) : w.cell? E.ceA = some (.int .u64 v) := by
  have h' : w.heap[E.Ce]? = _ := h
  simp [World.cell?, Env.ceA, h']
theorem ce_thaw {E : Env} {w : World} {v : Int} (h : E.ce v w) : w.frozen? E.ceA = false := by
  have h' : w.heap[E.Ce]? = _ := h
  simp [World.frozen?, Env.ceA, h']
theorem dn_cell {E : Env} {w : World} {v : Int} (h : E.dn v w) : w.cell? E.dnA = some (.int .i64 v) := by
  have h' : w.heap[E.Dn]? = _ := h
  simp [World.cell?, Env.dnA, h']
theorem dn_thaw {E : Env} {w : World} {v : Int} (h : E.dn v w) : w.frozen? E.dnA = false := by
  have h' : w.heap[E.Dn]? = _ := h
  simp [World.frozen?, Env.dnA, h']
theorem live_ce {E : Env} (G : E.geo) {w : World} (h : E.live w) {x : Int} (hc : E.ce x w) (v : Int) : E.live (w.setCell E.ceA (.int .u64 v)) := by
  obtain ⟨⟨st, sm, hw⟩, _, d, hd⟩ := h
  have hA := aside_setCell w E.ceA (.int .u64 v)
  exact ⟨⟨st, sm, hw.of_block (hA.block _ (Ne.symm G.wc))⟩, ⟨v, hc.turn v⟩, d, (hA.block _ G.cd).trans hd⟩
theorem live_dn {E : Env} (G : E.geo) {w : World} (h : E.live w) {x : Int} (hc : E.dn x w) (v : Int) : E.live (w.setCell E.dnA (.int .i64 v)) := by
  obtain ⟨⟨st, sm, hw⟩, ⟨y, hy⟩, _⟩ := h
  have hA := aside_setCell w E.dnA (.int .i64 v)
  exact ⟨⟨st, sm, hw.of_block (hA.block _ (Ne.symm G.wd))⟩, ⟨y, (hA.block _ (Ne.symm G.cd)).trans hy⟩, v, hc.turn v⟩
theorem Kn.setCe {N n j : Nat} {x st y : Int} {w : World} (G : (env N x st n).geo) (h : Kn N x st n j w) (hc : (env N x st n).ce y w) (v : Int) : Kn N x st n j (w.setCell (env N x st n).ceA (.int .u64 v)) :=
  h.rely ((Env.RS.turn (E := env N x st n) (aside_setCell w (env N x st n).ceA _) (.inr (.inl rfl)) fun _ => live_ce G h.live hc v).toK _)
theorem Kn.setDn {N n j : Nat} {x st y : Int} {w : World} (G : (env N x st n).geo) (h : Kn N x st n j w) (hc : (env N x st n).dn y w) (v : Int) : Kn N x st n j (w.setCell (env N x st n).dnA (.int .i64 v)) :=
  h.rely ((Env.RS.turn (E := env N x st n) (aside_setCell w (env N x st n).dnA _) (.inr (.inr rfl)) fun _ => live_dn G h.live hc v).toK _)
theorem events_equalIn_nil {P : Program} {w : World} (d : Nat) (t : TypeId) (p : Option Addr) (h : P.underlying t = some (.pointer (P.pointee t))) (es : Array Event) :
    (Op.equalIn (d + 1) t (.pointer p) (.pointer none)).events P w es = es := by
  cases p <;> simp [Op.equalIn, run_underlying h]
theorem events_eql_nil {P : Program} {w : World} (t : TypeId) (p : Option Addr) (h : P.underlying t = some (.pointer (P.pointee t))) (es : Array Event) : (binOp .eql t (.pointer p) (.pointer none)).events P w es = es := by
  have := events_equalIn_nil (w := w) 9999 t p h es
  simp [binOp, Op.equal]
  exact this
/-- A cell compared with nil lists nothing. -/
theorem ev_nil : ∀ (p : Option Addr) (w : World) (es : Array Event), (binOp .eql 24 (.pointer p) (.pointer none)).events Try.prog w es = es := fun p w es => events_eql_nil _ p (by kernel_rfl) es
theorem events_neq_iface {P : Program} {w : World} (t : TypeId) (ms : Array (String × TypeId)) (h : P.underlying t = some (.interface ms)) (es : Array Event) : (binOp .neq t .nilIface .nilIface).events P w es = es := by
  have key : ∀ d, (Op.equalIn (d + 1) t .nilIface .nilIface).events P w es = es := fun d => by simp [Op.equalIn, run_underlying h]
  have := key 9999
  simp [binOp, Op.equal]
  exact this
theorem ev_if : ∀ (w : World) (es : Array Event), (binOp .neq 20 .nilIface .nilIface).events Try.prog w es = es := fun w es => events_neq_iface _ _ Try.underlying20 es
theorem x_add64 : Extern.find Try.f21 = some (Extern.Atomic.update (Op.intArith .add) .i64 true) := by kernel_rfl
theorem x_ld64 : Extern.find Try.f35 = some (Extern.Atomic.loadT (.int .i64)) := by kernel_rfl
end Go.Proofs.Ytdemidfpoojkdaa.Co
