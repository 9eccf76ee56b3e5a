/- The wait group's Add, Wait and Done in the company of workers that swap a shared word. -/
import Derived.Test.YtdemidfpoojkdaaCoL
import Derived.Conc.WgGenN3
import Derived.Conc.WgWords
namespace Go.Proofs.Ytdemidfpoojkdaa.Co
open Go.Conc Go.ConcN Go.RowKit Go.Conc.Lib Go.ConcR.Gen Go.ConcN.Gen
open Go.ConcR (KK wgBlock WgAt stA smA rd wr mk DC0)
set_option linter.unusedVariables false
set_option linter.unusedSimpArgs false
variable {L : WgLink} {E : Env}

/-- A step that is known. -/
theorem goes_step {P : Program} {main : Bool} {g g' : Goroutine} {w w' : World} {es : Array Event} {K : Goroutine → World → Array Event → Prop} (h : stepG P main g w = .go g' w' es) (hK : K g' w' es) : (stepG P main g w).goes K := by rw [h]; exact hK
theorem ds0 {j : Nat} {w : World} : E.DS j w w #[] := ⟨fun _ _ => rfl, fun e he => by simp at he⟩
theorem dk0 {k : Nat} {w : World} : E.DK k w w #[] := ⟨rfl, fun e he => by simp at he⟩
theorem dc0 {w : World} : DC0 w w #[] := ⟨rfl, rfl⟩
theorem said_read {j : Nat} (a : Addr) (h : a.block = E.Wg) : E.ok0 j ⟨.mark (.read a), false, true⟩ := by
  refine ⟨fun fn pos => ⟨rfl, fun x hx => ?_⟩, by simp, by simp, by simp⟩
  simp only [MemAct.ofEvent, MemAct.touch?, Option.some.injEq] at hx
  subst hx
  exact .inl ⟨⟨a, rfl, .inl h⟩, by simp⟩
theorem said_write {j : Nat} (a : Addr) (h : a.block = E.Wg) : E.ok0 j ⟨.mark (.write a), false, true⟩ := by
  refine ⟨fun fn pos => ⟨rfl, fun x hx => ?_⟩, by simp, by simp, by simp⟩
  simp only [MemAct.ofEvent, MemAct.touch?, Option.some.injEq] at hx
  subst hx
  exact .inl ⟨⟨a, rfl, .inl h⟩, by simp⟩
theorem fe_rely {F : World → Prop} (hF2 : ∀ w w', E.RS w w' → F w → F w') {w w₁ : World} (h : F w ∧ E.live w) (r : E.RS w w₁) : F w₁ ∧ E.live w₁ := ⟨hF2 _ _ r h.1, r.live h.2⟩
theorem lk_rely {Low : Nat} {w w₁ : World} (h : E.live w) (r : E.RK Low w w₁) : E.live w₁ := r.live h
/-- The group's state turns. -/
theorem live_set (HG : E.geo) {w : World} (h : E.live w) {st sm : Int} (hw : WgAt E.ty E.Wg w st sm) (v : Int) : E.live (w.setCell (stA E.Wg) (.int .u64 v)) := by
  obtain ⟨_, ⟨x, hx⟩, d, hd⟩ := h
  have hA := aside_setCell w (stA E.Wg) (.int .u64 v)
  exact ⟨⟨_, _, hw.setSt v⟩, ⟨x, (hA.block _ HG.wc).trans hx⟩, d, (hA.block _ HG.wd).trans hd⟩
theorem live_setm (HG : E.geo) {w : World} (h : E.live w) {st sm : Int} (hw : WgAt E.ty E.Wg w st sm) (v : Int) : E.live (w.setCell (smA E.Wg) (.int .u32 v)) := by
  obtain ⟨_, ⟨x, hx⟩, d, hd⟩ := h
  have hA := aside_setCell w (smA E.Wg) (.int .u32 v)
  exact ⟨⟨_, _, hw.setSm v⟩, ⟨x, (hA.block _ HG.wc).trans hx⟩, d, (hA.block _ HG.wd).trans hd⟩
theorem rs_set (HG : E.geo) {w : World} (h : E.live w) {st sm : Int} (hw : WgAt E.ty E.Wg w st sm) (v : Int) : E.RS w (w.setCell (stA E.Wg) (.int .u64 v)) := .turn (aside_setCell w (stA E.Wg) _) (.inl rfl) fun _ => live_set HG h hw v
theorem rs_setm (HG : E.geo) {w : World} (h : E.live w) {st sm : Int} (hw : WgAt E.ty E.Wg w st sm) (v : Int) : E.RS w (w.setCell (smA E.Wg) (.int .u32 v)) := .turn (aside_setCell w (smA E.Wg) _) (.inl rfl) fun _ => live_setm HG h hw v
theorem live0 {w : World} (h : E.live w) : ∃ v, w.cell? ⟨E.Wg, 0, none⟩ = some v := WgLive.cell0 h.1
theorem live1 {w : World} (h : E.live w) : ∃ v, w.cell? ⟨E.Wg, 1, none⟩ = some v := WgLive.cell1 h.1

end Go.Proofs.Ytdemidfpoojkdaa.Co
